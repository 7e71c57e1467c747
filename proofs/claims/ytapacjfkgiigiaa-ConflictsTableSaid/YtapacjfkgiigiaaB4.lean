/- The walks of the functions of conflicts: what each of them computes, at any input. -/
import Derived.Test.YtapacjfkgiigiaaB3
set_option autoImplicit false
set_option linter.unusedVariables false
set_option linter.unusedSimpArgs false
namespace Go.Proofs
open Go.XL

theorem bf_41 : structF Try.prog 41 = some [(0, 1), (1, 1), (2, 1), (3, 1), (4, 1), (5, 1), (6, 1), (7, 1)] := by kernel_rfl
theorem bk_41 : structK Try.prog 41 = true := by kernel_rfl
theorem ty_41 : tyF Try.prog 41 8 true = true := by kernel_rfl
theorem ze_41 : zeroC Try.prog 41 = some [.int .i64 0, .int .i64 0, .int .i64 0, .int .i64 0, .int .i64 0, .int .i64 0, .int .i64 0, .int .i64 0] := by kernel_rfl

theorem rvalid_fn (f : Fa) (H : Hp) : FnC Try.prog 32 #[.agg ⟨faV f⟩] H [] (RetR (fun v _ _ => v = .bool (decide (validP f)))) := by
 refine FnC.intro (args := [.agg ⟨faV f⟩]) Try.func32 rfl rfl Try.ntmps32 rfl rfl rfl fun G rest => ?_
 refine XC.seq ?_; refine XC.region ?_; refine XO.box rfl rfl rfl (fun b1 => ?_); refine XO.assign rfl rfl ?_; refine XO.nil ?_; refine XC.seq2 ?_; refine XC.seq ?_; refine XC.seq ?_; refine XC.region ?_; refine XO.fieldAddr rfl fa_41_0 rfl ?_; refine XO.loadO 0 rfl rfl ty_3 rfl rfl rfl ?_; refine XO.callV rfl (rid_fn f.No _) rfl ?_; refine XO.not rfl rfl ?_; refine XO.move rfl rfl ?_; refine XO.guardC rfl rfl rfl rfl (fun g2 => ?_) (fun g2 => ?_)
 ·have g2p := of_decide_eq_false g2
  refine XO.fieldAddr rfl fa_41_2 rfl ?_; refine XO.guardT rfl rfl (g2) rfl ?_; refine XO.loadO 0 rfl rfl ty_3 rfl rfl rfl ?_; refine XO.guardT rfl rfl (g2) rfl ?_; refine XO.callV rfl (rid_fn f.A _) rfl ?_; refine XO.guardT rfl rfl (g2) rfl ?_; refine XO.not rfl rfl ?_; refine XO.pickF rfl (g2) rfl rfl ?_; refine XO.move rfl rfl ?_; refine XO.guardC rfl rfl rfl rfl (fun g4 => ?_) (fun g4 => ?_)
  ·have g4p := of_decide_eq_false g4
   refine XO.fieldAddr rfl fa_41_3 rfl ?_; refine XO.guardT rfl rfl (g4) rfl ?_; refine XO.loadO 0 rfl rfl ty_3 rfl rfl rfl ?_; refine XO.guardT rfl rfl (g4) rfl ?_; refine XO.callV rfl (rid_fn f.B _) rfl ?_; refine XO.guardT rfl rfl (g4) rfl ?_; refine XO.not rfl rfl ?_; refine XO.pickF rfl (g4) rfl rfl ?_; refine XO.move rfl rfl ?_; refine XO.guardC rfl rfl rfl rfl (fun g6 => ?_) (fun g6 => ?_)
   ·have g6p := of_decide_eq_false g6
    refine XO.fieldAddr rfl fa_41_4 rfl ?_; refine XO.guardT rfl rfl (g6) rfl ?_; refine XO.loadO 0 rfl rfl ty_3 rfl rfl rfl ?_; refine XO.guardT rfl rfl (g6) rfl ?_; refine XO.fieldAddr rfl fa_41_5 rfl ?_; refine XO.guardT rfl rfl (g6) rfl ?_; refine XO.loadO 0 rfl rfl ty_3 rfl rfl rfl ?_; refine XO.guardT rfl rfl (g6) rfl ?_; refine XO.callV rfl (rspan_fn f.Fr f.Un _) rfl ?_; refine XO.guardT rfl rfl (g6) rfl ?_; refine XO.not rfl rfl ?_; refine XO.pickF rfl (g6) rfl rfl ?_; refine XO.move rfl rfl ?_; refine XO.guardC rfl rfl rfl rfl (fun g8 => ?_) (fun g8 => ?_)
    ·have g8p := of_decide_eq_false g8
     refine XO.fieldAddr rfl fa_41_6 rfl ?_; refine XO.guardT rfl rfl (g8) rfl ?_; refine XO.loadO 0 rfl rfl ty_3 rfl rfl rfl ?_; refine XO.guardT rfl rfl (g8) rfl ?_; refine XO.fieldAddr rfl fa_41_7 rfl ?_; refine XO.guardT rfl rfl (g8) rfl ?_; refine XO.loadO 0 rfl rfl ty_3 rfl rfl rfl ?_; refine XO.guardT rfl rfl (g8) rfl ?_; refine XO.callV rfl (rspan_fn f.Kn f.Go _) rfl ?_; refine XO.guardT rfl rfl (g8) rfl ?_; refine XO.not rfl rfl ?_; refine XO.pickF rfl (g8) rfl rfl ?_; refine XO.nil ?_; refine XC.seq2 ?_; refine XC.cond rfl (fun c0_10 => ?_) (fun c0_10 => ?_)
     ·refine XC.seq ?_; refine XC.region ?_; refine XO.assign rfl rfl ?_; refine XO.nil ?_; refine XC.seq2 ?_; refine XC.ret ?_; refine seqX_ret ?_; refine ⟨rfl, _, [], rfl, (by repeat (first | exact List.Sublist.refl _ | apply List.Sublist.cons)), RetR.mk ?_⟩
      first | rfl | exact congrArg Value.bool (decide_eq_decide.2 (by omega)) | exact congrArg Value.bool (decide_eq_false (by omega)).symm | exact congrArg Value.bool (decide_eq_true (by omega)).symm
     ·refine XC.skip ?_; refine XC.seq2 ?_; refine XC.seq ?_; refine XC.region ?_; refine XO.fieldAddr rfl fa_41_1 rfl ?_; refine XO.loadO 0 rfl rfl ty_3 rfl rfl rfl ?_; refine XO.eql rfl rfl rfl ?_; refine XO.move rfl rfl ?_; refine XO.guardC rfl rfl rfl rfl (fun g11 => ?_) (fun g11 => ?_)
      ·have g11p := of_decide_eq_false g11
       refine XO.fieldAddr rfl fa_41_1 rfl ?_; refine XO.guardT rfl rfl (g11) rfl ?_; refine XO.loadO 0 rfl rfl ty_3 rfl rfl rfl ?_; refine XO.guardT rfl rfl (g11) rfl ?_; refine XO.gtr rfl rfl rfl ?_; refine XO.guardT rfl rfl (g11) rfl ?_; refine XO.move rfl rfl ?_; refine XO.guardC rfl rfl rfl rfl (fun g12 => ?_) (fun g12 => ?_)
       ·have g12p := of_decide_eq_true g12
        refine XO.fieldAddr rfl fa_41_1 rfl ?_; refine XO.guardT rfl rfl (g12) rfl ?_; refine XO.loadO 0 rfl rfl ty_3 rfl rfl rfl ?_; refine XO.guardT rfl rfl (g12) rfl ?_; refine XO.leq rfl rfl rfl ?_; refine XO.guardT rfl rfl (g11) rfl ?_; refine XO.pickT rfl (g12) rfl rfl ?_; refine XO.guardT rfl rfl (g11) rfl ?_; refine XO.move rfl rfl ?_; refine XO.guardC rfl rfl rfl rfl (fun g13 => ?_) (fun g13 => ?_)
        ·have g13p := of_decide_eq_true g13
         refine XO.fieldAddr rfl fa_41_2 rfl ?_; refine XO.guardT rfl rfl (g13) rfl ?_; refine XO.loadO 0 rfl rfl ty_3 rfl rfl rfl ?_; refine XO.guardT rfl rfl (g13) rfl ?_; refine XO.fieldAddr rfl fa_41_3 rfl ?_; refine XO.guardT rfl rfl (g13) rfl ?_; refine XO.loadO 0 rfl rfl ty_3 rfl rfl rfl ?_; refine XO.guardT rfl rfl (g13) rfl ?_; refine XO.neq rfl rfl rfl ?_; refine XO.guardT rfl rfl (g11) rfl ?_; refine XO.pickT rfl (g13) rfl rfl ?_; refine XO.pickF rfl (g11) rfl rfl ?_; refine XO.assign rfl rfl ?_; refine XO.nil ?_; refine XC.seq2 ?_; refine XC.ret ?_; refine ⟨rfl, _, [], rfl, (by repeat (first | exact List.Sublist.refl _ | apply List.Sublist.cons)), RetR.mk ?_⟩
         first | rfl | exact congrArg Value.bool (decide_eq_decide.2 (by omega)) | exact congrArg Value.bool (decide_eq_false (by omega)).symm | exact congrArg Value.bool (decide_eq_true (by omega)).symm
        ·have g13p := of_decide_eq_false g13
         refine XO.guardF rfl rfl (g13) rfl rfl ?_; refine XO.guardF rfl rfl (g13) rfl rfl ?_; refine XO.guardF rfl rfl (g13) rfl rfl ?_; refine XO.guardF rfl rfl (g13) rfl rfl ?_; refine XO.guardT rfl rfl (g11) rfl ?_; refine XO.pickF rfl (g13) rfl rfl ?_; refine XO.pickF rfl (g11) rfl rfl ?_; refine XO.assign rfl rfl ?_; refine XO.nil ?_; refine XC.seq2 ?_; refine XC.ret ?_; refine ⟨rfl, _, [], rfl, (by repeat (first | exact List.Sublist.refl _ | apply List.Sublist.cons)), RetR.mk ?_⟩
         first | rfl | exact congrArg Value.bool (decide_eq_decide.2 (by omega)) | exact congrArg Value.bool (decide_eq_false (by omega)).symm | exact congrArg Value.bool (decide_eq_true (by omega)).symm
       ·have g12p := of_decide_eq_false g12
        refine XO.guardF rfl rfl (g12) rfl rfl ?_; refine XO.guardF rfl rfl (g12) rfl rfl ?_; refine XO.guardT rfl rfl (g11) rfl ?_; refine XO.pickF rfl (g12) rfl rfl ?_; refine XO.guardT rfl rfl (g11) rfl ?_; refine XO.move rfl rfl ?_; refine XO.guardF rfl rfl (rfl) rfl rfl ?_; refine XO.guardF rfl rfl (rfl) rfl rfl ?_; refine XO.guardF rfl rfl (rfl) rfl rfl ?_; refine XO.guardF rfl rfl (rfl) rfl rfl ?_; refine XO.guardF rfl rfl (rfl) rfl rfl ?_; refine XO.guardT rfl rfl (g11) rfl ?_; refine XO.pickF rfl (rfl) rfl rfl ?_; refine XO.pickF rfl (g11) rfl rfl ?_; refine XO.assign rfl rfl ?_; refine XO.nil ?_; refine XC.seq2 ?_; refine XC.ret ?_; refine ⟨rfl, _, [], rfl, (by repeat (first | exact List.Sublist.refl _ | apply List.Sublist.cons)), RetR.mk ?_⟩
        first | rfl | exact congrArg Value.bool (decide_eq_decide.2 (by omega)) | exact congrArg Value.bool (decide_eq_false (by omega)).symm | exact congrArg Value.bool (decide_eq_true (by omega)).symm
      ·have g11p := of_decide_eq_true g11
       refine XO.guardF rfl rfl (g11) rfl rfl ?_; refine XO.guardF rfl rfl (g11) rfl rfl ?_; refine XO.guardF rfl rfl (g11) rfl rfl ?_; refine XO.guardU rfl rfl rfl rfl ?_; refine XO.guardU rfl rfl rfl rfl ?_; refine XO.guardU rfl rfl rfl rfl ?_; refine XO.guardF rfl rfl (g11) rfl rfl ?_; refine XO.guardF rfl rfl (g11) rfl rfl ?_; refine XO.guardU rfl rfl rfl rfl ?_; refine XO.guardU rfl rfl rfl rfl ?_; refine XO.guardU rfl rfl rfl rfl ?_; refine XO.guardU rfl rfl rfl rfl ?_; refine XO.guardU rfl rfl rfl rfl ?_; refine XO.guardF rfl rfl (g11) rfl rfl ?_; refine XO.pickT rfl (g11) rfl rfl ?_; refine XO.assign rfl rfl ?_; refine XO.nil ?_; refine XC.seq2 ?_; refine XC.ret ?_; refine ⟨rfl, _, [], rfl, (by repeat (first | exact List.Sublist.refl _ | apply List.Sublist.cons)), RetR.mk ?_⟩
       first | rfl | exact congrArg Value.bool (decide_eq_decide.2 (by omega)) | exact congrArg Value.bool (decide_eq_false (by omega)).symm | exact congrArg Value.bool (decide_eq_true (by omega)).symm
    ·have g8p := of_decide_eq_true g8
     refine XO.guardF rfl rfl (g8) rfl rfl ?_; refine XO.guardF rfl rfl (g8) rfl rfl ?_; refine XO.guardF rfl rfl (g8) rfl rfl ?_; refine XO.guardF rfl rfl (g8) rfl rfl ?_; refine XO.guardF rfl rfl (g8) rfl rfl ?_; refine XO.pickT rfl (g8) rfl rfl ?_; refine XO.nil ?_; refine XC.seq2 ?_; refine XC.condT rfl (rfl) ?_; refine XC.seq ?_; refine XC.region ?_; refine XO.assign rfl rfl ?_; refine XO.nil ?_; refine XC.seq2 ?_; refine XC.ret ?_; refine seqX_ret ?_; refine ⟨rfl, _, [], rfl, (by repeat (first | exact List.Sublist.refl _ | apply List.Sublist.cons)), RetR.mk ?_⟩
     first | rfl | exact congrArg Value.bool (decide_eq_decide.2 (by omega)) | exact congrArg Value.bool (decide_eq_false (by omega)).symm | exact congrArg Value.bool (decide_eq_true (by omega)).symm
   ·have g6p := of_decide_eq_true g6
    refine XO.guardF rfl rfl (g6) rfl rfl ?_; refine XO.guardF rfl rfl (g6) rfl rfl ?_; refine XO.guardF rfl rfl (g6) rfl rfl ?_; refine XO.guardF rfl rfl (g6) rfl rfl ?_; refine XO.guardF rfl rfl (g6) rfl rfl ?_; refine XO.pickT rfl (g6) rfl rfl ?_; refine XO.move rfl rfl ?_; refine XO.guardF rfl rfl (rfl) rfl rfl ?_; refine XO.guardF rfl rfl (rfl) rfl rfl ?_; refine XO.guardF rfl rfl (rfl) rfl rfl ?_; refine XO.guardF rfl rfl (rfl) rfl rfl ?_; refine XO.guardF rfl rfl (rfl) rfl rfl ?_; refine XO.guardF rfl rfl (rfl) rfl rfl ?_; refine XO.pickT rfl (rfl) rfl rfl ?_; refine XO.nil ?_; refine XC.seq2 ?_; refine XC.condT rfl (rfl) ?_; refine XC.seq ?_; refine XC.region ?_; refine XO.assign rfl rfl ?_; refine XO.nil ?_; refine XC.seq2 ?_; refine XC.ret ?_; refine seqX_ret ?_; refine ⟨rfl, _, [], rfl, (by repeat (first | exact List.Sublist.refl _ | apply List.Sublist.cons)), RetR.mk ?_⟩
    first | rfl | exact congrArg Value.bool (decide_eq_decide.2 (by omega)) | exact congrArg Value.bool (decide_eq_false (by omega)).symm | exact congrArg Value.bool (decide_eq_true (by omega)).symm
  ·have g4p := of_decide_eq_true g4
   refine XO.guardF rfl rfl (g4) rfl rfl ?_; refine XO.guardF rfl rfl (g4) rfl rfl ?_; refine XO.guardF rfl rfl (g4) rfl rfl ?_; refine XO.pickT rfl (g4) rfl rfl ?_; refine XO.move rfl rfl ?_; refine XO.guardF rfl rfl (rfl) rfl rfl ?_; refine XO.guardF rfl rfl (rfl) rfl rfl ?_; refine XO.guardF rfl rfl (rfl) rfl rfl ?_; refine XO.guardF rfl rfl (rfl) rfl rfl ?_; refine XO.guardF rfl rfl (rfl) rfl rfl ?_; refine XO.guardF rfl rfl (rfl) rfl rfl ?_; refine XO.pickT rfl (rfl) rfl rfl ?_; refine XO.move rfl rfl ?_; refine XO.guardF rfl rfl (rfl) rfl rfl ?_; refine XO.guardF rfl rfl (rfl) rfl rfl ?_; refine XO.guardF rfl rfl (rfl) rfl rfl ?_; refine XO.guardF rfl rfl (rfl) rfl rfl ?_; refine XO.guardF rfl rfl (rfl) rfl rfl ?_; refine XO.guardF rfl rfl (rfl) rfl rfl ?_; refine XO.pickT rfl (rfl) rfl rfl ?_; refine XO.nil ?_; refine XC.seq2 ?_; refine XC.condT rfl (rfl) ?_; refine XC.seq ?_; refine XC.region ?_; refine XO.assign rfl rfl ?_; refine XO.nil ?_; refine XC.seq2 ?_; refine XC.ret ?_; refine seqX_ret ?_; refine ⟨rfl, _, [], rfl, (by repeat (first | exact List.Sublist.refl _ | apply List.Sublist.cons)), RetR.mk ?_⟩
   first | rfl | exact congrArg Value.bool (decide_eq_decide.2 (by omega)) | exact congrArg Value.bool (decide_eq_false (by omega)).symm | exact congrArg Value.bool (decide_eq_true (by omega)).symm
 ·have g2p := of_decide_eq_true g2
  refine XO.guardF rfl rfl (g2) rfl rfl ?_; refine XO.guardF rfl rfl (g2) rfl rfl ?_; refine XO.guardF rfl rfl (g2) rfl rfl ?_; refine XO.pickT rfl (g2) rfl rfl ?_; refine XO.move rfl rfl ?_; refine XO.guardF rfl rfl (rfl) rfl rfl ?_; refine XO.guardF rfl rfl (rfl) rfl rfl ?_; refine XO.guardF rfl rfl (rfl) rfl rfl ?_; refine XO.guardF rfl rfl (rfl) rfl rfl ?_; refine XO.pickT rfl (rfl) rfl rfl ?_; refine XO.move rfl rfl ?_; refine XO.guardF rfl rfl (rfl) rfl rfl ?_; refine XO.guardF rfl rfl (rfl) rfl rfl ?_; refine XO.guardF rfl rfl (rfl) rfl rfl ?_; refine XO.guardF rfl rfl (rfl) rfl rfl ?_; refine XO.guardF rfl rfl (rfl) rfl rfl ?_; refine XO.guardF rfl rfl (rfl) rfl rfl ?_; refine XO.pickT rfl (rfl) rfl rfl ?_; refine XO.move rfl rfl ?_; refine XO.guardF rfl rfl (rfl) rfl rfl ?_; refine XO.guardF rfl rfl (rfl) rfl rfl ?_; refine XO.guardF rfl rfl (rfl) rfl rfl ?_; refine XO.guardF rfl rfl (rfl) rfl rfl ?_; refine XO.guardF rfl rfl (rfl) rfl rfl ?_; refine XO.guardF rfl rfl (rfl) rfl rfl ?_; refine XO.pickT rfl (rfl) rfl rfl ?_; refine XO.nil ?_; refine XC.seq2 ?_; refine XC.condT rfl (rfl) ?_; refine XC.seq ?_; refine XC.region ?_; refine XO.assign rfl rfl ?_; refine XO.nil ?_; refine XC.seq2 ?_; refine XC.ret ?_; refine seqX_ret ?_; refine ⟨rfl, _, [], rfl, (by repeat (first | exact List.Sublist.refl _ | apply List.Sublist.cons)), RetR.mk ?_⟩
  first | rfl | exact congrArg Value.bool (decide_eq_decide.2 (by omega)) | exact congrArg Value.bool (decide_eq_false (by omega)).symm | exact congrArg Value.bool (decide_eq_true (by omega)).symm

theorem before_fn (a b : Option Addr) (c d : Nat) (l m : List Int) (H : Hp) (hs : SlR (intR .i64) H a c l) (ht : SlR (intR .i64) H b d m) (hl : l.length < 9223372036854775808) (hm : m.length < 9223372036854775808) : FnC Try.prog 22 #[.slice a l.length c, .slice b m.length d] H [] (RetR (fun v _ _ => v = .bool (befL l m))) := by
 refine FnC.intro (args := [.slice a l.length c, .slice b m.length d]) Try.func22 rfl rfl Try.ntmps22 rfl rfl rfl fun G rest => ?_
 refine XC.seq ?_; refine XC.region ?_; refine XO.assign rfl rfl ?_; refine XO.nil ?_; refine XC.seq2 ?_; refine XC.seq ?_; refine XC.seq ?_; refine XC.region ?_; refine XO.move rfl rfl ?_; refine XO.lenS (ts := #[]) rfl Try.underlying25 rfl ?_; refine XO.move rfl rfl ?_; refine XO.lenS (ts := #[]) rfl Try.underlying25 rfl ?_; refine XO.neq rfl rfl rfl ?_; refine XO.nil ?_; refine XC.seq2 ?_; refine XC.cond rfl (fun c0_1 => ?_) (fun c0_1 => ?_)
 ·refine XC.seq ?_; refine XC.region ?_; refine XO.move rfl rfl ?_; refine XO.lenS (ts := #[]) rfl Try.underlying25 rfl ?_; refine XO.move rfl rfl ?_; refine XO.lenS (ts := #[]) rfl Try.underlying25 rfl ?_; refine XO.lss rfl rfl rfl ?_; refine XO.assign rfl rfl ?_; refine XO.nil ?_; refine XC.seq2 ?_; refine XC.ret ?_; refine seqX_ret ?_; refine ⟨rfl, _, [], rfl, (by repeat (first | exact List.Sublist.refl _ | apply List.Sublist.cons)), RetR.mk ?_⟩
  first | exact congrArg Value.bool ((decide_eq_decide.2 (by omega)).trans (befL_ne (by omega)).symm) | exact congrArg Value.bool ((bef_ne hc hxX hxY (by omega)).trans (befL_eq (by omega)).symm) | exact congrArg Value.bool ((bef_end hc (Nat.le_refl _)).symm.trans (befL_eq (by omega)).symm)
 ·refine XC.skip ?_; refine XC.seq2 ?_; refine XC.seq ?_; refine XC.seq ?_; refine XC.region ?_; refine XO.assign rfl rfl ?_; refine XO.nil ?_; refine XC.seq2 ?_; refine XC.block ?_; refine XC.keep [5, 0, 1] rfl ?_; refine XC.loop (base := [(0, _), (1, _)]) (fun ζ : Nat => [(5, .int .i64 (ζ : Nat))]) (fun ζ Hl own => ζ ≤ l.length ∧ rest = own ∧ (befR l m = befR (l.drop (ζ)) (m.drop (ζ)))) (fun ζ => l.length - ζ) 0 (prov_cons (rfl) (prov_cons (rfl) (prov_cons (rfl) prov_nil))) (by repeat (first | exact List.Sublist.refl _ | apply List.Sublist.cons_cons | apply List.Sublist.cons)) ⟨Nat.zero_le _, rfl, rfl⟩ ?_; rintro k Hl0 _ hle0 ⟨hkk, rfl, hc⟩; replace hs := hs.mono hle0; replace ht := ht.mono hle0
  try dsimp only at ⊢
  refine XC.seq ?_; refine XC.seq ?_; refine XC.region ?_; refine XO.move rfl rfl ?_; refine XO.move rfl rfl ?_; refine XO.lenS (ts := #[]) rfl Try.underlying25 rfl ?_; refine XO.lss rfl rfl rfl ?_; refine XO.nil ?_; refine XC.seq2 ?_; refine XC.cond rfl (fun c1_2 => ?_) (fun c1_2 => ?_)
  ·refine XC.skip ?_; refine XC.seq2 ?_; refine XC.seq ?_; refine XC.block ?_; refine XC.seq ?_; refine XC.keep [0, 1, 5] rfl ?_; obtain ⟨bEX, oEX, rfl⟩ := hs.addr (by omega); obtain ⟨_, xX, hxX, rfl, hpX⟩ := hs.elem (k) (by omega); obtain ⟨bEY, oEY, rfl⟩ := ht.addr (by omega); obtain ⟨_, xY, hxY, rfl, hpY⟩ := ht.elem (k) (by omega)
   apply XC.draw 8 [eqF _, eqF _, eqF _, eqF _, eqF _, eqF _, eqF _, eqF _] follows (by kernel_rfl) (by kernel_rfl) ⟨eqF_mono _, eqF_mono _, eqF_mono _, eqF_mono _, eqF_mono _, eqF_mono _, eqF_mono _, eqF_mono _, trivial⟩ ?steps3 ?tail3
   case steps3 =>
    refine stepsK_cons rfl ?_ ?_
    ·intro X
     refine withPreds_nil rfl ?_; refine XO.move rfl rfl ?_; refine XO.nil ?_
     exact stepQ_ok rfl (rfl)
    refine stepsK_cons rfl ?_ ?_
    ·intro X
     refine withPreds_nil rfl ?_; refine XO.move rfl rfl ?_; refine XO.nil ?_
     exact stepQ_ok rfl (rfl)
    refine stepsK_cons rfl ?_ ?_
    ·intro X
     refine withPreds_cons rfl rfl ?_; rintro _ rfl; refine withPreds_cons rfl rfl ?_; rintro _ rfl; refine withPreds_nil rfl ?_; refine XO.indexE rfl rfl Try.underlying25 ty_3 (by omega) (by omega) rfl ?_; refine XO.nil ?_
     exact stepQ_ok rfl (rfl)
    refine stepsK_cons rfl ?_ ?_
    ·intro X
     refine withPreds_cons rfl rfl ?_; rintro _ rfl; refine withPreds_nil rfl ?_; refine XO.loadH rfl (by assumption) ty_3 rfl rfl rfl ?_; refine XO.nil ?_
     exact stepQ_ok rfl (rfl)
    refine stepsK_cons rfl ?_ ?_
    ·intro X
     refine withPreds_nil rfl ?_; refine XO.move rfl rfl ?_; refine XO.nil ?_
     exact stepQ_ok rfl (rfl)
    refine stepsK_cons rfl ?_ ?_
    ·intro X
     refine withPreds_nil rfl ?_; refine XO.move rfl rfl ?_; refine XO.nil ?_
     exact stepQ_ok rfl (rfl)
    refine stepsK_cons rfl ?_ ?_
    ·intro X
     refine withPreds_cons rfl rfl ?_; rintro _ rfl; refine withPreds_cons rfl rfl ?_; rintro _ rfl; refine withPreds_nil rfl ?_; refine XO.indexE rfl rfl Try.underlying25 ty_3 (by omega) (by omega) rfl ?_; refine XO.nil ?_
     exact stepQ_ok rfl (rfl)
    refine stepsK_cons rfl ?_ ?_
    ·intro X
     refine withPreds_cons rfl rfl ?_; rintro _ rfl; refine withPreds_nil rfl ?_; refine XO.loadH rfl (by assumption) ty_3 rfl rfl rfl ?_; refine XO.nil ?_
     exact stepQ_ok rfl (rfl)
    exact stepsD_end rfl
   case tail3 =>
    refine withPreds_cons rfl rfl ?_; rintro _ rfl; refine withPreds_cons rfl rfl ?_; rintro _ rfl; refine withPreds_cons rfl rfl ?_; rintro _ rfl; refine withPreds_cons rfl rfl ?_; rintro _ rfl; refine withPreds_cons rfl rfl ?_; rintro _ rfl; refine withPreds_cons rfl rfl ?_; rintro _ rfl; refine withPreds_cons rfl rfl ?_; rintro _ rfl; refine withPreds_cons rfl rfl ?_; rintro _ rfl; refine withPreds_nil rfl ?_; refine XO.neq rfl rfl rfl ?_; refine XO.nil ?_; refine XC.seq2 ?_; refine XC.cond rfl (fun c2_6 => ?_) (fun c2_6 => ?_)
    ·refine XC.seq ?_; refine XC.keep [0, 1, 5] rfl ?_
     apply XC.draw 8 [eqF _, eqF _, eqF _, eqF _, eqF _, eqF _, eqF _, eqF _] follows (by kernel_rfl) (by kernel_rfl) ⟨eqF_mono _, eqF_mono _, eqF_mono _, eqF_mono _, eqF_mono _, eqF_mono _, eqF_mono _, eqF_mono _, trivial⟩ ?steps7 ?tail7
     case steps7 =>
      refine stepsK_cons rfl ?_ ?_
      ·intro X
       refine withPreds_nil rfl ?_; refine XO.move rfl rfl ?_; refine XO.nil ?_
       exact stepQ_ok rfl (rfl)
      refine stepsK_cons rfl ?_ ?_
      ·intro X
       refine withPreds_nil rfl ?_; refine XO.move rfl rfl ?_; refine XO.nil ?_
       exact stepQ_ok rfl (rfl)
      refine stepsK_cons rfl ?_ ?_
      ·intro X
       refine withPreds_cons rfl rfl ?_; rintro _ rfl; refine withPreds_cons rfl rfl ?_; rintro _ rfl; refine withPreds_nil rfl ?_; refine XO.indexE rfl rfl Try.underlying25 ty_3 (by omega) (by omega) rfl ?_; refine XO.nil ?_
       exact stepQ_ok rfl (rfl)
      refine stepsK_cons rfl ?_ ?_
      ·intro X
       refine withPreds_cons rfl rfl ?_; rintro _ rfl; refine withPreds_nil rfl ?_; refine XO.loadH rfl (by assumption) ty_3 rfl rfl rfl ?_; refine XO.nil ?_
       exact stepQ_ok rfl (rfl)
      refine stepsK_cons rfl ?_ ?_
      ·intro X
       refine withPreds_nil rfl ?_; refine XO.move rfl rfl ?_; refine XO.nil ?_
       exact stepQ_ok rfl (rfl)
      refine stepsK_cons rfl ?_ ?_
      ·intro X
       refine withPreds_nil rfl ?_; refine XO.move rfl rfl ?_; refine XO.nil ?_
       exact stepQ_ok rfl (rfl)
      refine stepsK_cons rfl ?_ ?_
      ·intro X
       refine withPreds_cons rfl rfl ?_; rintro _ rfl; refine withPreds_cons rfl rfl ?_; rintro _ rfl; refine withPreds_nil rfl ?_; refine XO.indexE rfl rfl Try.underlying25 ty_3 (by omega) (by omega) rfl ?_; refine XO.nil ?_
       exact stepQ_ok rfl (rfl)
      refine stepsK_cons rfl ?_ ?_
      ·intro X
       refine withPreds_cons rfl rfl ?_; rintro _ rfl; refine withPreds_nil rfl ?_; refine XO.loadH rfl (by assumption) ty_3 rfl rfl rfl ?_; refine XO.nil ?_
       exact stepQ_ok rfl (rfl)
      exact stepsD_end rfl
     case tail7 =>
      refine withPreds_cons rfl rfl ?_; rintro _ rfl; refine withPreds_cons rfl rfl ?_; rintro _ rfl; refine withPreds_cons rfl rfl ?_; rintro _ rfl; refine withPreds_cons rfl rfl ?_; rintro _ rfl; refine withPreds_cons rfl rfl ?_; rintro _ rfl; refine withPreds_cons rfl rfl ?_; rintro _ rfl; refine withPreds_cons rfl rfl ?_; rintro _ rfl; refine withPreds_cons rfl rfl ?_; rintro _ rfl; refine withPreds_nil rfl ?_; refine XO.lss rfl rfl rfl ?_; refine XO.assign rfl rfl ?_; refine XO.nil ?_; refine XC.seq2 ?_; refine XC.ret ?_; refine blockR ?_; refine seqX_ret ?_; refine loopX_ret ?_; refine blockR ?_; refine seqX_ret ?_; refine ⟨rfl, _, [], rfl, (by repeat (first | exact List.Sublist.refl _ | apply List.Sublist.cons)), RetR.mk ?_⟩
      first | exact congrArg Value.bool ((decide_eq_decide.2 (by omega)).trans (befL_ne (by omega)).symm) | exact congrArg Value.bool ((bef_ne hc hxX hxY (by omega)).trans (befL_eq (by omega)).symm) | exact congrArg Value.bool ((bef_end hc (Nat.le_refl _)).symm.trans (befL_eq (by omega)).symm)
    ·refine XC.skip ?_; refine blockN ?_; refine XC.seq2 ?_; refine XC.region ?_; refine XO.move rfl rfl ?_; refine XO.add rfl rfl (wrap_i64 (by omega) (by omega)) rfl ?_; refine XO.assign rfl rfl ?_; refine XO.nil ?_; refine loop_next (k + 1) (by show l.length - (k + 1) < l.length - k; omega) (prov_cons (rfl) (prov_cons (rfl) (prov_cons (rfl) prov_nil))) (⟨by show k + 1 ≤ l.length; omega, rfl, bef_eq hc hxX hxY (by omega)⟩) (by repeat (first | exact List.Sublist.refl _ | apply List.Sublist.cons_cons | apply List.Sublist.cons)) (hle0)
  ·obtain rfl : k = l.length := by omega
   refine XC.exit ?_; refine seqX_exit ?_; refine loopX_exit ?_; refine blockHit rfl ?_; refine XC.seq2 ?_; refine XC.seq ?_; refine XC.region ?_; refine XO.assign rfl rfl ?_; refine XO.nil ?_; refine XC.seq2 ?_; refine XC.ret ?_; refine ⟨rfl, _, [], rfl, (by repeat (first | exact List.Sublist.refl _ | apply List.Sublist.cons)), RetR.mk ?_⟩
   first | exact congrArg Value.bool ((decide_eq_decide.2 (by omega)).trans (befL_ne (by omega)).symm) | exact congrArg Value.bool ((bef_ne hc hxX hxY (by omega)).trans (befL_eq (by omega)).symm) | exact congrArg Value.bool ((bef_end hc (Nat.le_refl _)).symm.trans (befL_eq (by omega)).symm)

theorem same_fn (a b : Option Addr) (c d : Nat) (l m : List Int) (H : Hp) (hs : SlR (intR .i64) H a c l) (ht : SlR (intR .i64) H b d m) (hl : l.length < 9223372036854775808) (hm : m.length < 9223372036854775808) : FnC Try.prog 16 #[.slice a l.length c, .slice b m.length d] H [] (RetR (fun v _ _ => v = .bool (decide (l = m)))) := by
 refine FnC.intro (args := [.slice a l.length c, .slice b m.length d]) Try.func16 rfl rfl Try.ntmps16 rfl rfl rfl fun G rest => ?_
 refine XC.seq ?_; refine XC.region ?_; refine XO.assign rfl rfl ?_; refine XO.nil ?_; refine XC.seq2 ?_; refine XC.seq ?_; refine XC.region ?_; refine XO.move rfl rfl ?_; refine XO.lenS (ts := #[]) rfl Try.underlying25 rfl ?_; refine XO.move rfl rfl ?_; refine XO.lenS (ts := #[]) rfl Try.underlying25 rfl ?_; refine XO.eql rfl rfl rfl ?_; refine XO.move rfl rfl ?_; refine XO.guardC rfl rfl rfl rfl (fun g1 => ?_) (fun g1 => ?_)
 ·have g1p := of_decide_eq_true g1
  refine XO.move rfl rfl ?_; refine XO.guardT rfl rfl (g1) rfl ?_; refine XO.move rfl rfl ?_; refine XO.guardT rfl rfl (g1) rfl ?_; refine XO.callV rfl (before_fn _ _ _ _ l m _ hs ht hl hm) rfl ?_; refine XO.guardT rfl rfl (g1) rfl ?_; refine XO.notB rfl rfl ?_; refine XO.pickT rfl (g1) rfl rfl ?_; refine XO.move rfl rfl ?_; refine XO.guardC rfl rfl rfl rfl (fun g3 => ?_) (fun g3 => ?_)
  ·have g3p := g3
   refine XO.move rfl rfl ?_; refine XO.guardT rfl rfl (g3) rfl ?_; refine XO.move rfl rfl ?_; refine XO.guardT rfl rfl (g3) rfl ?_; refine XO.callV rfl (before_fn _ _ _ _ m l _ ht hs hm hl) rfl ?_; refine XO.guardT rfl rfl (g3) rfl ?_; refine XO.notB rfl rfl ?_; refine XO.pickT rfl (g3) rfl rfl ?_; refine XO.assign rfl rfl ?_; refine XO.nil ?_; refine XC.seq2 ?_; refine XC.ret ?_; refine ⟨rfl, _, [], rfl, (by repeat (first | exact List.Sublist.refl _ | apply List.Sublist.cons)), RetR.mk ?_⟩
   first | exact congrArg Value.bool (sb1 (by assumption)) | exact congrArg Value.bool (sb2 (by assumption)) | exact congrArg Value.bool (sb3 (by assumption) (by assumption))
  ·have g3p := g3
   refine XO.guardF rfl rfl (g3) rfl rfl ?_; refine XO.guardF rfl rfl (g3) rfl rfl ?_; refine XO.guardF rfl rfl (g3) rfl rfl ?_; refine XO.pickF rfl (g3) rfl rfl ?_; refine XO.assign rfl rfl ?_; refine XO.nil ?_; refine XC.seq2 ?_; refine XC.ret ?_; refine ⟨rfl, _, [], rfl, (by repeat (first | exact List.Sublist.refl _ | apply List.Sublist.cons)), RetR.mk ?_⟩
   first | exact congrArg Value.bool (sb1 (by assumption)) | exact congrArg Value.bool (sb2 (by assumption)) | exact congrArg Value.bool (sb3 (by assumption) (by assumption))
 ·have g1p := of_decide_eq_false g1
  refine XO.guardF rfl rfl (g1) rfl rfl ?_; refine XO.guardF rfl rfl (g1) rfl rfl ?_; refine XO.guardF rfl rfl (g1) rfl rfl ?_; refine XO.pickF rfl (g1) rfl rfl ?_; refine XO.move rfl rfl ?_; refine XO.guardF rfl rfl (rfl) rfl rfl ?_; refine XO.guardF rfl rfl (rfl) rfl rfl ?_; refine XO.guardF rfl rfl (rfl) rfl rfl ?_; refine XO.guardF rfl rfl (rfl) rfl rfl ?_; refine XO.pickF rfl (rfl) rfl rfl ?_; refine XO.assign rfl rfl ?_; refine XO.nil ?_; refine XC.seq2 ?_; refine XC.ret ?_; refine ⟨rfl, _, [], rfl, (by repeat (first | exact List.Sublist.refl _ | apply List.Sublist.cons)), RetR.mk ?_⟩
  first | exact congrArg Value.bool (sb1 (by assumption)) | exact congrArg Value.bool (sb2 (by assumption)) | exact congrArg Value.bool (sb3 (by assumption) (by assumption))

theorem or_fn (a : Option Addr) (c : Nat) (l : List Int) (H : Hp) (hs : SlR (intR .i64) H a c l) (hl : l.length < 9223372036854775808) : FnC Try.prog 56 #[.slice a l.length c] H [] (RetR (fun v _ _ => v = .int .i64 (orL l))) := by
 refine FnC.intro (args := [.slice a l.length c]) Try.func56 rfl rfl Try.ntmps56 rfl rfl rfl fun G rest => ?_
 refine XC.seq ?_; refine XC.region ?_; refine XO.assign rfl rfl ?_; refine XO.nil ?_; refine XC.seq2 ?_; refine XC.seq ?_; refine XC.region ?_; refine XO.assign rfl rfl ?_; refine XO.nil ?_; refine XC.seq2 ?_; refine XC.seq ?_; refine XC.seq ?_; refine XC.region ?_; refine XO.move rfl rfl ?_; refine XO.lenS (ts := #[]) rfl Try.underlying25 rfl ?_; refine XO.move rfl rfl ?_; refine XO.nil ?_; refine XC.seq2 ?_; refine XC.block ?_; refine XC.keep [8, 3, 6, 7] rfl ?_; refine XC.loop (base := [(3, _), (6, _), (7, _)]) (fun ζ : Nat => [(8, .int .i64 (ζ : Nat))]) (fun ζ Hl own => ζ ≤ l.length ∧ rest = own ∧ (∀ y ∈ l.take ζ, ¬ (y ≠ 0))) (fun ζ => l.length - ζ) 0 (prov_cons (rfl) (prov_cons (rfl) (prov_cons (rfl) (prov_cons (rfl) prov_nil)))) (by repeat (first | exact List.Sublist.refl _ | apply List.Sublist.cons_cons | apply List.Sublist.cons)) ⟨Nat.zero_le _, rfl, by simp⟩ ?_; rintro k Hl0 _ hle0 ⟨hkk, rfl, hno⟩; replace hs := hs.mono hle0
 try dsimp only at ⊢
 refine XC.seq ?_; refine XC.region ?_; refine XO.lss rfl rfl rfl ?_; refine XO.nil ?_; refine XC.seq2 ?_; refine XC.seq ?_; refine XC.cond rfl (fun c0_1 => ?_) (fun c0_1 => ?_)
 ·refine XC.skip ?_; refine XC.seq2 ?_; refine XC.seq ?_; refine XC.block ?_; refine XC.seq ?_; refine XC.region ?_; refine XO.indexN rfl hs rfl Try.underlying25 ty_3 (by omega) rfl ?_; rintro eb10 eo10 _ x10 hx10 rfl hp10; refine XO.loadH rfl (by assumption) ty_3 rfl rfl rfl ?_; refine XO.assign rfl rfl ?_; refine XO.nil ?_; refine XC.seq2 ?_; refine XC.seq ?_; refine XC.region ?_; refine XO.move rfl rfl ?_; refine XO.move rfl rfl ?_; refine XO.neq rfl rfl rfl ?_; refine XO.nil ?_; refine XC.seq2 ?_; refine XC.cond rfl (fun c1_3 => ?_) (fun c1_3 => ?_)
  ·refine XC.seq ?_; refine XC.region ?_; refine XO.move rfl rfl ?_; refine XO.assign rfl rfl ?_; refine XO.nil ?_; refine XC.seq2 ?_; refine XC.ret ?_; refine blockR ?_; refine seqX_ret ?_; refine loopX_ret ?_; refine blockR ?_; refine seqX_ret ?_; refine ⟨rfl, _, [], rfl, (by repeat (first | exact List.Sublist.refl _ | apply List.Sublist.cons)), RetR.mk ?_⟩
   first | exact congrArg (Value.int .i64) (or_at hno hx10 (by omega)) | exact congrArg (Value.int .i64) (or_no hno)
  ·refine XC.skip ?_; refine blockN ?_; refine XC.seq2 ?_; refine XC.region ?_; refine XO.add rfl rfl (wrap_i64 (by omega) (by omega)) rfl ?_; refine XO.move rfl rfl ?_; refine XO.nil ?_; refine loop_next (k + 1) (by show l.length - (k + 1) < l.length - k; omega) (prov_cons (rfl) (prov_cons (rfl) (prov_cons (rfl) (prov_cons (rfl) prov_nil)))) (⟨by show k + 1 ≤ l.length; omega, rfl, all_snoc hno hx10 (by omega)⟩) (by repeat (first | exact List.Sublist.refl _ | apply List.Sublist.cons_cons | apply List.Sublist.cons)) (hle0)
 ·obtain rfl : k = l.length := by omega
  rw [List.take_length] at hno
  refine XC.exit ?_; refine seqX_exit ?_; refine loopX_exit ?_; refine blockHit rfl ?_; refine XC.seq2 ?_; refine XC.seq ?_; refine XC.region ?_; refine XO.move rfl rfl ?_; refine XO.assign rfl rfl ?_; refine XO.nil ?_; refine XC.seq2 ?_; refine XC.ret ?_; refine ⟨rfl, _, [], rfl, (by repeat (first | exact List.Sublist.refl _ | apply List.Sublist.cons)), RetR.mk ?_⟩
  first | exact congrArg (Value.int .i64) (or_at hno hx10 (by omega)) | exact congrArg (Value.int .i64) (or_no hno)

theorem order_fn (a b : Option Addr) (c d : Nat) (l m : List Int) (H : Hp) (hs : SlR (intR .i64) H a c l) (ht : SlR (intR .i64) H b d m) (hl : l.length < 9223372036854775808) (hm : m.length < 9223372036854775808) : FnC Try.prog 45 #[.slice a l.length c, .slice b m.length d] H [] (RetR (fun v _ _ => v = .int .i64 (ordL l m))) := by
 refine FnC.intro (args := [.slice a l.length c, .slice b m.length d]) Try.func45 rfl rfl Try.ntmps45 rfl rfl rfl fun G rest => ?_
 refine XC.seq ?_; refine XC.region ?_; refine XO.assign rfl rfl ?_; refine XO.nil ?_; refine XC.seq2 ?_; refine XC.seq ?_; refine XC.region ?_; refine XO.move rfl rfl ?_; refine XO.lenS (ts := #[]) rfl Try.underlying25 rfl ?_; refine XO.move rfl rfl ?_; refine XO.lenS (ts := #[]) rfl Try.underlying25 rfl ?_; refine XO.callV rfl (cmp_fn _ _ _) rfl ?_; refine XO.move rfl rfl ?_; refine XO.move rfl rfl ?_; refine XO.callV rfl (compare_fn _ _ _ _ l m _ hs ht hl hm) rfl ?_; refine XO.buildSlice rfl Try.underlying25 ty_3 ze_3 rfl rfl rfl (fun b13 => ?_); refine XO.publish 0 rfl rfl rfl (fun HP13 oP13 hleP13 hbP13 hoP13 => ?_)
 have hsl13 := SlR.lit (ρ := (intR .i64)) (l := [sgn l.length m.length, cmpL l m]) hbP13 hoP13 (RowsR.cons1 (cs := [_]) rfl (RowsR.one1 rfl))
 replace hs := hs.mono hleP13; replace ht := ht.mono hleP13; refine XO.callV rfl (or_fn _ _ [sgn l.length m.length, cmpL l m] _ hsl13 (show (2 : Nat) < 9223372036854775808 by decide)) rfl ?_; refine XO.assign rfl rfl ?_; refine XO.nil ?_; refine XC.seq2 ?_; refine XC.ret ?_; refine ⟨rfl, _, [], rfl, (by repeat (first | exact List.Sublist.refl _ | apply List.Sublist.cons)), RetR.mk ?_⟩
 exact congrArg (Value.int .i64) (ord_or l m)

theorem find_fn (a : Option Addr) (c : Nat) (l : Fs) (H : Hp) (hs : SlR faR H a c l) (hl : l.length < 9223372036854775808) (n : Int) : FnC Try.prog 51 #[.slice a l.length c, .int .i64 n] H [] (RetR (fun v _ _ => v = fndV (findN l n))) := by
 refine FnC.introC (args := [.slice a l.length c, .int .i64 n]) Try.func51 rfl rfl Try.ntmps51 rfl rfl rfl fun G rest => ?_
 refine XC.seq ?_; refine XC.region ?_; refine XO.alloc ze_41 rfl (fun b4 => ?_); refine XO.assign rfl rfl ?_; refine XO.nil ?_; refine XC.seq2 ?_; refine XC.seq ?_; refine XC.seq ?_; refine XC.region ?_; refine XO.assign rfl rfl ?_; refine XO.nil ?_; refine XC.seq2 ?_; refine XC.block ?_; refine XC.keep [6, 0, 1, 4] rfl ?_; refine XC.loop (base := [(0, _), (1, _), (4, _)]) (fun ζ : Nat => [(6, .int .i64 (ζ : Nat))]) (fun ζ Hl own => ζ ≤ l.length ∧ (b4, .cells 41 (faV f0)) :: rest = own ∧ (∀ y ∈ l.take ζ, ¬ (y.No = n))) (fun ζ => l.length - ζ) 0 (prov_cons (rfl) (prov_cons (rfl) (prov_cons (rfl) (prov_cons (rfl) prov_nil)))) (by repeat (first | exact List.Sublist.refl _ | apply List.Sublist.cons_cons | apply List.Sublist.cons)) ⟨Nat.zero_le _, rfl, by simp⟩ ?_; rintro k Hl0 _ hle0 ⟨hkk, rfl, hno⟩; replace hs := hs.mono hle0
 try dsimp only at ⊢
 refine XC.seq ?_; refine XC.seq ?_; refine XC.region ?_; refine XO.move rfl rfl ?_; refine XO.move rfl rfl ?_; refine XO.lenS (ts := #[]) rfl Try.underlying22 rfl ?_; refine XO.lss rfl rfl rfl ?_; refine XO.nil ?_; refine XC.seq2 ?_; refine XC.cond rfl (fun c0_1 => ?_) (fun c0_1 => ?_)
 ·refine XC.skip ?_; refine XC.seq2 ?_; refine XC.seq ?_; refine XC.block ?_; refine XC.seq ?_; refine XC.region ?_; refine XO.move rfl rfl ?_; refine XO.move rfl rfl ?_; refine XO.indexN rfl hs rfl Try.underlying22 ty_41 (by omega) rfl ?_; rintro eb15 eo15 _ x15 hx15 rfl hp15; refine XO.fieldAddr rfl fa_41_0 rfl ?_; refine XO.loadHF rfl (by assumption) ty_3 rfl rfl rfl ?_; refine XO.move rfl rfl ?_; refine XO.eql rfl rfl rfl ?_; refine XO.nil ?_; refine XC.seq2 ?_; refine XC.cond rfl (fun c1_3 => ?_) (fun c1_3 => ?_)
  ·refine XC.seq ?_; refine XC.region ?_; refine XO.move rfl rfl ?_; refine XO.move rfl rfl ?_; refine XO.indexN rfl hs rfl Try.underlying22 ty_41 (by omega) rfl ?_; rintro eb22 eo22 _ x22 hx22 rfl hp22; obtain rfl := Option.some.inj (hx15.symm.trans hx22); refine XO.loadH rfl (by assumption) ty_41 rfl rfl rfl ?_; refine XO.storeO 0 rfl rfl rfl rfl ty_41 rfl rfl rfl rfl rfl ?_; refine XO.assign rfl rfl ?_; refine XO.nil ?_; refine XC.seq2 ?_; refine XC.ret ?_; refine blockR ?_; refine seqX_ret ?_; refine loopX_ret ?_; refine blockR ?_; refine seqX_ret ?_; refine ⟨rfl, _, [], (resC_cell 0 rfl rfl ty_41 rfl rfl (resC_tmp rfl resC_nil)), (by repeat (first | exact List.Sublist.refl _ | apply List.Sublist.cons)), RetR.mk ?_⟩
   first | (rw [find_at hno hx15 (by omega)]; rfl) | (rw [find_no hno]; rfl)
  ·refine XC.skip ?_; refine blockN ?_; refine XC.seq2 ?_; refine XC.region ?_; refine XO.move rfl rfl ?_; refine XO.add rfl rfl (wrap_i64 (by omega) (by omega)) rfl ?_; refine XO.assign rfl rfl ?_; refine XO.nil ?_; refine loop_next (k + 1) (by show l.length - (k + 1) < l.length - k; omega) (prov_cons (rfl) (prov_cons (rfl) (prov_cons (rfl) (prov_cons (rfl) prov_nil)))) (⟨by show k + 1 ≤ l.length; omega, rfl, all_snoc hno hx15 (by omega)⟩) (by repeat (first | exact List.Sublist.refl _ | apply List.Sublist.cons_cons | apply List.Sublist.cons)) (hle0)
 ·obtain rfl : k = l.length := by omega
  rw [List.take_length] at hno
  refine XC.exit ?_; refine seqX_exit ?_; refine loopX_exit ?_; refine blockHit rfl ?_; refine XC.seq2 ?_; refine XC.seq ?_; refine XC.region ?_; refine XO.build bk_41 bf_41 ze_41 rfl rfl rfl ?_; refine XO.storeO 0 rfl rfl rfl rfl ty_41 rfl rfl rfl rfl rfl ?_; refine XO.assign rfl rfl ?_; refine XO.nil ?_; refine XC.seq2 ?_; refine XC.ret ?_; refine ⟨rfl, _, [], (resC_cell 0 rfl rfl ty_41 rfl rfl (resC_tmp rfl resC_nil)), (by repeat (first | exact List.Sublist.refl _ | apply List.Sublist.cons)), RetR.mk ?_⟩
  first | (rw [find_at hno hx15 (by omega)]; rfl) | (rw [find_no hno]; rfl)

theorem index_fn (a : Option Addr) (c : Nat) (l : List Int) (g : Value) (q : Int → Prop) (H : Hp) (hs : SlR (intR .i64) H a c l) (hl : l.length < 9223372036854775808) (hg : ∀ x ∈ l, FnV Try.prog g [.int .i64 x] H [] (RetR fun u _ _ => ∃ b : Bool, u = .bool b ∧ (b = true ↔ q x))) : FnC Try.prog 54 #[.slice a l.length c, g] H [] (RetR (fun v _ _ => ∃ i : Int, v = .int .i64 i ∧ (0 ≤ i ↔ ∃ x ∈ l, q x))) := by
 refine FnC.intro (args := [.slice a l.length c, g]) Try.func54 rfl rfl Try.ntmps54 rfl rfl rfl fun G rest => ?_
 refine XC.seq ?_; refine XC.region ?_; refine XO.assign rfl rfl ?_; refine XO.nil ?_; refine XC.seq2 ?_; refine XC.seq ?_; refine XC.seq ?_; refine XC.region ?_; refine XO.move rfl rfl ?_; refine XO.lenS (ts := #[]) rfl Try.underlying25 rfl ?_; refine XO.move rfl rfl ?_; refine XO.nil ?_; refine XC.seq2 ?_; refine XC.block ?_; refine XC.keep [8, 0, 1, 7] rfl ?_; refine XC.loop (base := [(0, _), (1, _), (7, _)]) (fun ζ : Nat => [(8, .int .i64 (ζ : Nat))]) (fun ζ Hl own => ζ ≤ l.length ∧ rest = own ∧ (∀ x ∈ l.take ζ, ¬ q x) ∧ (H = Hl)) (fun ζ => l.length - ζ) 0 (prov_cons (rfl) (prov_cons (rfl) (prov_cons (rfl) (prov_cons (rfl) prov_nil)))) (by repeat (first | exact List.Sublist.refl _ | apply List.Sublist.cons_cons | apply List.Sublist.cons)) ⟨Nat.zero_le _, rfl, by simp, rfl⟩ ?_; rintro k Hl0 _ hle0 ⟨hkk, rfl, hno, hHl⟩; replace hs := hs.mono hle0
 try dsimp only at ⊢
 subst hHl
 refine XC.seq ?_; refine XC.region ?_; refine XO.lss rfl rfl rfl ?_; refine XO.nil ?_; refine XC.seq2 ?_; refine XC.seq ?_; refine XC.cond rfl (fun c0_1 => ?_) (fun c0_1 => ?_)
 ·refine XC.skip ?_; refine XC.seq2 ?_; refine XC.seq ?_; refine XC.block ?_; refine XC.seq ?_; refine XC.region ?_; refine XO.move rfl rfl ?_; refine XO.assign rfl rfl ?_; refine XO.nil ?_; refine XC.seq2 ?_; refine XC.seq ?_; refine XC.region ?_; refine XO.move rfl rfl ?_; refine XO.move rfl rfl ?_; refine XO.move rfl rfl ?_; refine XO.indexN rfl hs rfl Try.underlying25 ty_3 (by omega) rfl ?_; rintro eb14 eo14 _ x14 hx14 rfl hp14; refine XO.loadH rfl (by assumption) ty_3 rfl rfl rfl ?_; refine XO.callValK rfl trivial rfl (hg x14 (List.mem_of_getElem? hx14)) rfl ?_; rintro _ ⟨bq, rfl, hqq⟩; refine XO.nil ?_; refine XC.seq2 ?_; refine XC.condB rfl (fun c1_4 => ?_) (fun c1_4 => ?_)
  ·refine XC.seq ?_; refine XC.region ?_; refine XO.move rfl rfl ?_; refine XO.assign rfl rfl ?_; refine XO.nil ?_; refine XC.seq2 ?_; refine XC.ret ?_; refine blockR ?_; refine seqX_ret ?_; refine loopX_ret ?_; refine blockR ?_; refine seqX_ret ?_; refine ⟨rfl, _, [], rfl, (by repeat (first | exact List.Sublist.refl _ | apply List.Sublist.cons)), RetR.mk ?_⟩
   exact ⟨_, rfl, ⟨fun _ => ⟨x14, List.mem_of_getElem? hx14, hqq.1 (by assumption)⟩, fun _ => by omega⟩⟩
  ·refine XC.skip ?_; refine blockN ?_; refine XC.seq2 ?_; refine XC.region ?_; refine XO.add rfl rfl (wrap_i64 (by omega) (by omega)) rfl ?_; refine XO.move rfl rfl ?_; refine XO.nil ?_; refine loop_next (k + 1) (by show l.length - (k + 1) < l.length - k; omega) (prov_cons (rfl) (prov_cons (rfl) (prov_cons (rfl) (prov_cons (rfl) prov_nil)))) (⟨by show k + 1 ≤ l.length; omega, rfl, all_snoc hno hx14 (fun h => by simp_all), rfl⟩) (by repeat (first | exact List.Sublist.refl _ | apply List.Sublist.cons_cons | apply List.Sublist.cons)) (hle0)
 ·obtain rfl : k = l.length := by omega
  rw [List.take_length] at hno
  refine XC.exit ?_; refine seqX_exit ?_; refine loopX_exit ?_; refine blockHit rfl ?_; refine XC.seq2 ?_; refine XC.seq ?_; refine XC.region ?_; refine XO.assign rfl rfl ?_; refine XO.nil ?_; refine XC.seq2 ?_; refine XC.ret ?_; refine ⟨rfl, _, [], rfl, (by repeat (first | exact List.Sublist.refl _ | apply List.Sublist.cons)), RetR.mk ?_⟩
  exact ⟨-1, rfl, ⟨fun h => absurd h (by decide), fun ⟨x, hx, hq⟩ => absurd hq (hno x hx)⟩⟩

theorem containsF_fn (a : Option Addr) (c : Nat) (l : List Int) (g : Value) (q : Int → Prop) (H : Hp) (hs : SlR (intR .i64) H a c l) (hl : l.length < 9223372036854775808) (hg : ∀ x ∈ l, FnV Try.prog g [.int .i64 x] H [] (RetR fun u _ _ => ∃ b : Bool, u = .bool b ∧ (b = true ↔ q x))) : FnC Try.prog 40 #[.slice a l.length c, g] H [] (RetR (fun v _ _ => ∃ b : Bool, v = .bool b ∧ (b = true ↔ ∃ x ∈ l, q x))) := by
 refine FnC.intro (args := [.slice a l.length c, g]) Try.func40 rfl rfl Try.ntmps40 rfl rfl rfl fun G rest => ?_
 refine XC.seq ?_; refine XC.region ?_; refine XO.assign rfl rfl ?_; refine XO.nil ?_; refine XC.seq2 ?_; refine XC.seq ?_; refine XC.region ?_; refine XO.move rfl rfl ?_; refine XO.move rfl rfl ?_; refine XO.callK rfl (index_fn _ _ _ _ _ _ hs hl hg) rfl ?_; rintro _ ⟨iX, rfl, hX⟩; refine XO.geq rfl rfl rfl ?_; refine XO.assign rfl rfl ?_; refine XO.nil ?_; refine XC.seq2 ?_; refine XC.ret ?_; refine ⟨rfl, _, [], rfl, (by repeat (first | exact List.Sublist.refl _ | apply List.Sublist.cons)), RetR.mk ?_⟩
 exact ⟨_, rfl, by rw [decide_eq_true_iff]; exact hX⟩

theorem check_fn (a : Option Addr) (c : Nat) (l : Fs) (H : Hp) (hs : SlR faR H a c l) (hl : l.length < 9223372036854775808) : FnC Try.prog 14 #[.slice a l.length c] H [] (RetR (fun v _ _ => v = .int .i64 (chkF l))) := by
 refine FnC.intro (args := [.slice a l.length c]) Try.func14 rfl rfl Try.ntmps14 rfl rfl rfl fun G rest => ?_
 refine XC.seq ?_; refine XC.region ?_; refine XO.assign rfl rfl ?_; refine XO.nil ?_; refine XC.seq2 ?_; refine XC.seq ?_; refine XC.seq ?_; refine XC.region ?_; refine XO.move rfl rfl ?_; refine XO.lenS (ts := #[]) rfl Try.underlying22 rfl ?_; refine XO.gtr rfl rfl rfl ?_; refine XO.nil ?_; refine XC.seq2 ?_; refine XC.cond rfl (fun c0_1 => ?_) (fun c0_1 => ?_)
 ·refine XC.seq ?_; refine XC.region ?_; refine XO.assign rfl rfl ?_; refine XO.nil ?_; refine XC.seq2 ?_; refine XC.ret ?_; refine seqX_ret ?_; refine ⟨rfl, _, [], rfl, (by repeat (first | exact List.Sublist.refl _ | apply List.Sublist.cons)), RetR.mk ?_⟩
  first | exact congrArg (Value.int .i64) (chk_2 (by omega)).symm | exact congrArg (Value.int .i64) (chk_270 (by omega) (ok_n hF hx13 (fun h => by first | exact absurd h.1 (by assumption) | (have h4 := h.2; rw [last_at (by omega) hxP] at h4; omega)))).symm | exact congrArg (Value.int .i64) (chk_0 (by omega) (by rw [hF]; rfl)).symm
 ·refine XC.skip ?_; refine XC.seq2 ?_; refine XC.seq ?_; refine XC.seq ?_; refine XC.region ?_; refine XO.move rfl rfl ?_; refine XO.lenS (ts := #[]) rfl Try.underlying22 rfl ?_; refine XO.move rfl rfl ?_; refine XO.nil ?_; refine XC.seq2 ?_; refine XC.block ?_; refine XC.keep [10, 0, 8, 9] rfl ?_; refine XC.loop (base := [(0, _), (8, _), (9, _)]) (fun ζ : Nat => [(10, .int .i64 (ζ : Nat))]) (fun ζ Hl own => ζ ≤ l.length ∧ rest = own ∧ (okB (-1) l = okB (lastN l (ζ)) (l.drop (ζ)))) (fun ζ => l.length - ζ) 0 (prov_cons (rfl) (prov_cons (rfl) (prov_cons (rfl) (prov_cons (rfl) prov_nil)))) (by repeat (first | exact List.Sublist.refl _ | apply List.Sublist.cons_cons | apply List.Sublist.cons)) ⟨Nat.zero_le _, rfl, rfl⟩ ?_; rintro k Hl0 _ hle0 ⟨hkk, rfl, hF⟩; replace hs := hs.mono hle0
  try dsimp only at ⊢
  refine XC.seq ?_; refine XC.region ?_; refine XO.lss rfl rfl rfl ?_; refine XO.nil ?_; refine XC.seq2 ?_; refine XC.seq ?_; refine XC.cond rfl (fun c1_2 => ?_) (fun c1_2 => ?_)
  ·refine XC.skip ?_; refine XC.seq2 ?_; refine XC.seq ?_; refine XC.block ?_; refine XC.seq ?_; refine XC.region ?_; refine XO.move rfl rfl ?_; refine XO.indexN rfl hs rfl Try.underlying22 ty_41 (by omega) rfl ?_; rintro eb13 eo13 _ x13 hx13 rfl hp13; refine XO.loadH rfl (by assumption) ty_41 rfl rfl rfl ?_; refine XO.alloc ze_41 rfl (fun b4 => ?_); refine XO.assign rfl rfl ?_; refine XO.storeO 0 rfl rfl rfl rfl ty_41 rfl rfl rfl rfl rfl ?_; refine XO.nil ?_; refine XC.seq2 ?_; refine XC.seq ?_
   by_cases h5 : ¬ validP x13
   ·skip
    refine XC.keep [0, 3, 4, 8, 9, 10] rfl ?_
    skip
    apply XC.drawH (fun _ => True) trivial [] (by decide) (fun _ _ _ _ => True) (fun _ _ _ _ _ _ h => h) 15 [eqF _, eqF _, eqF _, eqF _, eqF _, eqF _, eqF _, eqF _, eqF _, eqF _, eqF _, eqF _, eqF _, eqF _, eqF _] follows (by kernel_rfl) ⟨eqF_mono _, eqF_mono _, eqF_mono _, eqF_mono _, eqF_mono _, eqF_mono _, eqF_mono _, eqF_mono _, eqF_mono _, eqF_mono _, eqF_mono _, eqF_mono _, eqF_mono _, eqF_mono _, eqF_mono _, trivial⟩ (by decide) ?steps4 ?tail4
    case steps4 =>
     refine stepsH_cons rfl ?_ ?_
     ·intro X ext HD hleD _
      replace hs := hs.mono hleD; replace hp13 := hp13.mono hleD; replace hle0 := hle0.trans hleD; refine withP_nil rfl ?_; refine XO.loadO 0 rfl rfl ty_41 rfl rfl rfl ?_; refine XO.nil ?_; exact stepQN_ok rfl trivial (rfl)
     refine stepsH_cons rfl ?_ ?_
     ·intro X ext HD hleD _
      replace hs := hs.mono hleD; replace hp13 := hp13.mono hleD; replace hle0 := hle0.trans hleD; refine withP_cons rfl rfl ?_; rintro _ rfl; refine withP_nil rfl ?_; refine XO.callV rfl (valid_fn x13 _) rfl ?_; refine XO.nil ?_; exact stepQN_ok rfl trivial (rfl)
     refine stepsH_cons rfl ?_ ?_
     ·intro X ext HD hleD _
      replace hs := hs.mono hleD; replace hp13 := hp13.mono hleD; replace hle0 := hle0.trans hleD; refine withP_cons rfl rfl ?_; rintro _ rfl; refine withP_nil rfl ?_; refine XO.not rfl rfl ?_; refine XO.nil ?_; exact stepQN_ok rfl trivial (rfl)
     refine stepsH_cons rfl ?_ ?_
     ·intro X ext HD hleD _
      replace hs := hs.mono hleD; replace hp13 := hp13.mono hleD; replace hle0 := hle0.trans hleD; refine withP_cons rfl rfl ?_; rintro _ rfl; refine withP_nil rfl ?_; refine XO.move rfl rfl ?_; refine XO.nil ?_; exact stepQN_ok rfl trivial (rfl)
     refine stepsH_cons rfl ?_ ?_
     ·intro X ext HD hleD _
      replace hs := hs.mono hleD; replace hp13 := hp13.mono hleD; replace hle0 := hle0.trans hleD; refine withP_cons rfl rfl ?_; rintro _ rfl; refine withP_nil rfl ?_; refine XO.guardF rfl rfl (decide_eq_true h5) rfl rfl ?_; refine XO.nil ?_; exact stepQN_ok rfl trivial (rfl)
     refine stepsH_cons rfl ?_ ?_
     ·intro X ext HD hleD _
      replace hs := hs.mono hleD; replace hp13 := hp13.mono hleD; replace hle0 := hle0.trans hleD; refine withP_cons rfl rfl ?_; rintro _ rfl; refine withP_cons rfl rfl ?_; rintro _ rfl; refine withP_nil rfl ?_; refine XO.guardF rfl rfl (decide_eq_true h5) rfl rfl ?_; refine XO.nil ?_; exact stepQN_ok rfl trivial (rfl)
     refine stepsH_cons rfl ?_ ?_
     ·intro X ext HD hleD _
      replace hs := hs.mono hleD; replace hp13 := hp13.mono hleD; replace hle0 := hle0.trans hleD; refine withP_cons rfl rfl ?_; rintro _ rfl; refine withP_cons rfl rfl ?_; rintro _ rfl; refine withP_nil rfl ?_; refine XO.guardF rfl rfl (decide_eq_true h5) rfl rfl ?_; refine XO.nil ?_; exact stepQN_ok rfl trivial (rfl)
     refine stepsH_cons rfl ?_ ?_
     ·intro X ext HD hleD _
      replace hs := hs.mono hleD; replace hp13 := hp13.mono hleD; replace hle0 := hle0.trans hleD; refine withP_cons rfl rfl ?_; rintro _ rfl; refine withP_nil rfl ?_; refine XO.guardU rfl rfl rfl rfl ?_; refine XO.nil ?_; exact stepQN_ok rfl trivial (rfl)
     refine stepsH_cons rfl ?_ ?_
     ·intro X ext HD hleD _
      replace hs := hs.mono hleD; replace hp13 := hp13.mono hleD; replace hle0 := hle0.trans hleD; refine withP_cons rfl rfl ?_; rintro _ rfl; refine withP_nil rfl ?_; refine XO.guardU rfl rfl rfl rfl ?_; refine XO.nil ?_; exact stepQN_ok rfl trivial (rfl)
     refine stepsH_cons rfl ?_ ?_
     ·intro X ext HD hleD _
      replace hs := hs.mono hleD; replace hp13 := hp13.mono hleD; replace hle0 := hle0.trans hleD; refine withP_cons rfl rfl ?_; rintro _ rfl; refine withP_cons rfl rfl ?_; rintro _ rfl; refine withP_nil rfl ?_; refine XO.guardU rfl rfl rfl rfl ?_; refine XO.nil ?_; exact stepQN_ok rfl trivial (rfl)
     refine stepsH_cons rfl ?_ ?_
     ·intro X ext HD hleD _
      replace hs := hs.mono hleD; replace hp13 := hp13.mono hleD; replace hle0 := hle0.trans hleD; refine withP_cons rfl rfl ?_; rintro _ rfl; refine withP_cons rfl rfl ?_; rintro _ rfl; refine withP_cons rfl rfl ?_; rintro _ rfl; refine withP_nil rfl ?_; refine XO.guardU rfl rfl rfl rfl ?_; refine XO.nil ?_; exact stepQN_ok rfl trivial (rfl)
     refine stepsH_cons rfl ?_ ?_
     ·intro X ext HD hleD _
      replace hs := hs.mono hleD; replace hp13 := hp13.mono hleD; replace hle0 := hle0.trans hleD; refine withP_cons rfl rfl ?_; rintro _ rfl; refine withP_cons rfl rfl ?_; rintro _ rfl; refine withP_nil rfl ?_; refine XO.guardU rfl rfl rfl rfl ?_; refine XO.nil ?_; exact stepQN_ok rfl trivial (rfl)
     refine stepsH_cons rfl ?_ ?_
     ·intro X ext HD hleD _
      replace hs := hs.mono hleD; replace hp13 := hp13.mono hleD; replace hle0 := hle0.trans hleD; refine withP_cons rfl rfl ?_; rintro _ rfl; refine withP_cons rfl rfl ?_; rintro _ rfl; refine withP_nil rfl ?_; refine XO.guardU rfl rfl rfl rfl ?_; refine XO.nil ?_; exact stepQN_ok rfl trivial (rfl)
     refine stepsH_cons rfl ?_ ?_
     ·intro X ext HD hleD _
      replace hs := hs.mono hleD; replace hp13 := hp13.mono hleD; replace hle0 := hle0.trans hleD; refine withP_cons rfl rfl ?_; rintro _ rfl; refine withP_nil rfl ?_; refine XO.guardU rfl rfl rfl rfl ?_; refine XO.nil ?_; exact stepQN_ok rfl trivial (rfl)
     refine stepsH_cons rfl ?_ ?_
     ·intro X ext HD hleD _
      replace hs := hs.mono hleD; replace hp13 := hp13.mono hleD; replace hle0 := hle0.trans hleD; refine withP_cons rfl rfl ?_; rintro _ rfl; refine withP_cons rfl rfl ?_; rintro _ rfl; refine withP_nil rfl ?_; refine XO.guardU rfl rfl rfl rfl ?_; refine XO.nil ?_; exact stepQN_ok rfl trivial (rfl)
     exact stepsH_end rfl
    case tail4 =>
     intro HD hleD _
     replace hs := hs.mono hleD; replace hp13 := hp13.mono hleD; replace hle0 := hle0.trans hleD; refine withP_cons rfl rfl ?_; rintro _ rfl; refine withP_cons rfl rfl ?_; rintro _ rfl; refine withP_cons rfl rfl ?_; rintro _ rfl; refine withP_cons rfl rfl ?_; rintro _ rfl; refine withP_cons rfl rfl ?_; rintro _ rfl; refine withP_cons rfl rfl ?_; rintro _ rfl; refine withP_cons rfl rfl ?_; rintro _ rfl; refine withP_cons rfl rfl ?_; rintro _ rfl; refine withP_cons rfl rfl ?_; rintro _ rfl; refine withP_cons rfl rfl ?_; rintro _ rfl; refine withP_cons rfl rfl ?_; rintro _ rfl; refine withP_cons rfl rfl ?_; rintro _ rfl; refine withP_cons rfl rfl ?_; rintro _ rfl; refine withP_cons rfl rfl ?_; rintro _ rfl; refine withP_cons rfl rfl ?_; rintro _ rfl; refine withP_nil rfl ?_; refine withEnts_nil ?_; refine XO.guardU rfl rfl rfl rfl ?_; refine XO.guardF rfl rfl (decide_eq_true h5) rfl rfl ?_; refine XO.pickT rfl (decide_eq_true h5) rfl rfl ?_; refine XO.nil ?_; refine XC.seq2 ?_; refine XC.condT rfl (rfl) ?_; refine XC.seq ?_; refine XC.region ?_; refine XO.assign rfl rfl ?_; refine XO.nil ?_; refine XC.seq2 ?_; refine XC.ret ?_; refine blockR ?_; refine seqX_ret ?_; refine loopX_ret ?_; refine blockR ?_; refine seqX_ret ?_; refine ⟨rfl, _, [], rfl, (by repeat (first | exact List.Sublist.refl _ | apply List.Sublist.cons)), RetR.mk ?_⟩
     first | exact congrArg (Value.int .i64) (chk_2 (by omega)).symm | exact congrArg (Value.int .i64) (chk_270 (by omega) (ok_n hF hx13 (fun h => by first | exact absurd h.1 (by assumption) | (have h4 := h.2; rw [last_at (by omega) hxP] at h4; omega)))).symm | exact congrArg (Value.int .i64) (chk_0 (by omega) (by rw [hF]; rfl)).symm
   ·skip
    by_cases h6 : ((k : Nat) : Int) > 0
    ·skip
     refine XC.keep [0, 3, 4, 8, 9, 10] rfl ?_
     skip
     obtain ⟨bEP, oEP, rfl⟩ := hs.addr (by omega); obtain ⟨_, xP, hxP, rfl, hpP⟩ := hs.elem (k - 1) (by omega)
     apply XC.drawH (fun _ => True) trivial [] (by decide) (fun _ _ _ _ => True) (fun _ _ _ _ _ _ h => h) 15 [eqF _, eqF _, eqF _, eqF _, eqF _, eqF _, eqF _, eqF _, eqF _, eqF _, eqF _, eqF _, eqF _, eqF _, eqF _] follows (by kernel_rfl) ⟨eqF_mono _, eqF_mono _, eqF_mono _, eqF_mono _, eqF_mono _, eqF_mono _, eqF_mono _, eqF_mono _, eqF_mono _, eqF_mono _, eqF_mono _, eqF_mono _, eqF_mono _, eqF_mono _, eqF_mono _, trivial⟩ (by decide) ?steps6 ?tail6
     case steps6 =>
      refine stepsH_cons rfl ?_ ?_
      ·intro X ext HD hleD _
       replace hs := hs.mono hleD; replace hp13 := hp13.mono hleD; replace hpP := hpP.mono hleD; replace hle0 := hle0.trans hleD; refine withP_nil rfl ?_; refine XO.loadO 0 rfl rfl ty_41 rfl rfl rfl ?_; refine XO.nil ?_; exact stepQN_ok rfl trivial (rfl)
      refine stepsH_cons rfl ?_ ?_
      ·intro X ext HD hleD _
       replace hs := hs.mono hleD; replace hp13 := hp13.mono hleD; replace hpP := hpP.mono hleD; replace hle0 := hle0.trans hleD; refine withP_cons rfl rfl ?_; rintro _ rfl; refine withP_nil rfl ?_; refine XO.callV rfl (valid_fn x13 _) rfl ?_; refine XO.nil ?_; exact stepQN_ok rfl trivial (rfl)
      refine stepsH_cons rfl ?_ ?_
      ·intro X ext HD hleD _
       replace hs := hs.mono hleD; replace hp13 := hp13.mono hleD; replace hpP := hpP.mono hleD; replace hle0 := hle0.trans hleD; refine withP_cons rfl rfl ?_; rintro _ rfl; refine withP_nil rfl ?_; refine XO.not rfl rfl ?_; refine XO.nil ?_; exact stepQN_ok rfl trivial (rfl)
      refine stepsH_cons rfl ?_ ?_
      ·intro X ext HD hleD _
       replace hs := hs.mono hleD; replace hp13 := hp13.mono hleD; replace hpP := hpP.mono hleD; replace hle0 := hle0.trans hleD; refine withP_cons rfl rfl ?_; rintro _ rfl; refine withP_nil rfl ?_; refine XO.move rfl rfl ?_; refine XO.nil ?_; exact stepQN_ok rfl trivial (rfl)
      refine stepsH_cons rfl ?_ ?_
      ·intro X ext HD hleD _
       replace hs := hs.mono hleD; replace hp13 := hp13.mono hleD; replace hpP := hpP.mono hleD; replace hle0 := hle0.trans hleD; refine withP_cons rfl rfl ?_; rintro _ rfl; refine withP_nil rfl ?_; refine XO.guardT rfl rfl (decide_eq_false h5) rfl ?_; refine XO.move rfl rfl ?_; refine XO.nil ?_; exact stepQN_ok rfl trivial (rfl)
      refine stepsH_cons rfl ?_ ?_
      ·intro X ext HD hleD _
       replace hs := hs.mono hleD; replace hp13 := hp13.mono hleD; replace hpP := hpP.mono hleD; replace hle0 := hle0.trans hleD; refine withP_cons rfl rfl ?_; rintro _ rfl; refine withP_cons rfl rfl ?_; rintro _ rfl; refine withP_nil rfl ?_; refine XO.guardT rfl rfl (decide_eq_false h5) rfl ?_; refine XO.gtr rfl rfl rfl ?_; refine XO.nil ?_; exact stepQN_ok rfl trivial (rfl)
      refine stepsH_cons rfl ?_ ?_
      ·intro X ext HD hleD _
       replace hs := hs.mono hleD; replace hp13 := hp13.mono hleD; replace hpP := hpP.mono hleD; replace hle0 := hle0.trans hleD; refine withP_cons rfl rfl ?_; rintro _ rfl; refine withP_cons rfl rfl ?_; rintro _ rfl; refine withP_nil rfl ?_; refine XO.guardT rfl rfl (decide_eq_false h5) rfl ?_; refine XO.move rfl rfl ?_; refine XO.nil ?_; exact stepQN_ok rfl trivial (rfl)
      refine stepsH_cons rfl ?_ ?_
      ·intro X ext HD hleD _
       replace hs := hs.mono hleD; replace hp13 := hp13.mono hleD; replace hpP := hpP.mono hleD; replace hle0 := hle0.trans hleD; refine withP_cons rfl rfl ?_; rintro _ rfl; refine withP_nil rfl ?_; refine XO.guardT rfl rfl (decide_eq_true h6) rfl ?_; refine XO.move rfl rfl ?_; refine XO.nil ?_; exact stepQN_ok rfl trivial (rfl)
      refine stepsH_cons rfl ?_ ?_
      ·intro X ext HD hleD _
       replace hs := hs.mono hleD; replace hp13 := hp13.mono hleD; replace hpP := hpP.mono hleD; replace hle0 := hle0.trans hleD; refine withP_cons rfl rfl ?_; rintro _ rfl; refine withP_nil rfl ?_; refine XO.guardT rfl rfl (decide_eq_true h6) rfl ?_; refine XO.move rfl rfl ?_; refine XO.nil ?_; exact stepQN_ok rfl trivial (rfl)
      refine stepsH_cons rfl ?_ ?_
      ·intro X ext HD hleD _
       replace hs := hs.mono hleD; replace hp13 := hp13.mono hleD; replace hpP := hpP.mono hleD; replace hle0 := hle0.trans hleD; refine withP_cons rfl rfl ?_; rintro _ rfl; refine withP_cons rfl rfl ?_; rintro _ rfl; refine withP_nil rfl ?_; refine XO.guardT rfl rfl (decide_eq_true h6) rfl ?_; refine XO.sub (c := ((k - 1 : Nat) : Int)) rfl rfl ((wrap_i64 (by omega) (by omega)).trans (by omega)) rfl ?_; refine XO.nil ?_; exact stepQN_ok rfl trivial (rfl)
      refine stepsH_cons rfl ?_ ?_
      ·intro X ext HD hleD _
       replace hs := hs.mono hleD; replace hp13 := hp13.mono hleD; replace hpP := hpP.mono hleD; replace hle0 := hle0.trans hleD; refine withP_cons rfl rfl ?_; rintro _ rfl; refine withP_cons rfl rfl ?_; rintro _ rfl; refine withP_cons rfl rfl ?_; rintro _ rfl; refine withP_nil rfl ?_; refine XO.guardT rfl rfl (decide_eq_true h6) rfl ?_; refine XO.indexE rfl rfl Try.underlying22 ty_41 (by omega) (by omega) rfl ?_; refine XO.nil ?_; exact stepQN_ok rfl trivial (rfl)
      refine stepsH_cons rfl ?_ ?_
      ·intro X ext HD hleD _
       replace hs := hs.mono hleD; replace hp13 := hp13.mono hleD; replace hpP := hpP.mono hleD; replace hle0 := hle0.trans hleD; refine withP_cons rfl rfl ?_; rintro _ rfl; refine withP_cons rfl rfl ?_; rintro _ rfl; refine withP_nil rfl ?_; refine XO.guardT rfl rfl (decide_eq_true h6) rfl ?_; refine XO.fieldAddr rfl fa_41_0 rfl ?_; refine XO.nil ?_; exact stepQN_ok rfl trivial (rfl)
      refine stepsH_cons rfl ?_ ?_
      ·intro X ext HD hleD _
       replace hs := hs.mono hleD; replace hp13 := hp13.mono hleD; replace hpP := hpP.mono hleD; replace hle0 := hle0.trans hleD; refine withP_cons rfl rfl ?_; rintro _ rfl; refine withP_cons rfl rfl ?_; rintro _ rfl; refine withP_nil rfl ?_; refine XO.guardT rfl rfl (decide_eq_true h6) rfl ?_; refine XO.loadHF rfl (by assumption) ty_3 rfl rfl rfl ?_; refine XO.nil ?_; exact stepQN_ok rfl trivial (rfl)
      refine stepsH_cons rfl ?_ ?_
      ·intro X ext HD hleD _
       replace hs := hs.mono hleD; replace hp13 := hp13.mono hleD; replace hpP := hpP.mono hleD; replace hle0 := hle0.trans hleD; refine withP_cons rfl rfl ?_; rintro _ rfl; refine withP_nil rfl ?_; refine XO.guardT rfl rfl (decide_eq_true h6) rfl ?_; refine XO.fieldAddr rfl fa_41_0 rfl ?_; refine XO.nil ?_; exact stepQN_ok rfl trivial (rfl)
      refine stepsH_cons rfl ?_ ?_
      ·intro X ext HD hleD _
       replace hs := hs.mono hleD; replace hp13 := hp13.mono hleD; replace hpP := hpP.mono hleD; replace hle0 := hle0.trans hleD; refine withP_cons rfl rfl ?_; rintro _ rfl; refine withP_cons rfl rfl ?_; rintro _ rfl; refine withP_nil rfl ?_; refine XO.guardT rfl rfl (decide_eq_true h6) rfl ?_; refine XO.loadO 0 rfl rfl ty_3 rfl rfl rfl ?_; refine XO.nil ?_; exact stepQN_ok rfl trivial (rfl)
      exact stepsH_end rfl
     case tail6 =>
      intro HD hleD _
      replace hs := hs.mono hleD; replace hp13 := hp13.mono hleD; replace hpP := hpP.mono hleD; replace hle0 := hle0.trans hleD; refine withP_cons rfl rfl ?_; rintro _ rfl; refine withP_cons rfl rfl ?_; rintro _ rfl; refine withP_cons rfl rfl ?_; rintro _ rfl; refine withP_cons rfl rfl ?_; rintro _ rfl; refine withP_cons rfl rfl ?_; rintro _ rfl; refine withP_cons rfl rfl ?_; rintro _ rfl; refine withP_cons rfl rfl ?_; rintro _ rfl; refine withP_cons rfl rfl ?_; rintro _ rfl; refine withP_cons rfl rfl ?_; rintro _ rfl; refine withP_cons rfl rfl ?_; rintro _ rfl; refine withP_cons rfl rfl ?_; rintro _ rfl; refine withP_cons rfl rfl ?_; rintro _ rfl; refine withP_cons rfl rfl ?_; rintro _ rfl; refine withP_cons rfl rfl ?_; rintro _ rfl; refine withP_cons rfl rfl ?_; rintro _ rfl; refine withP_nil rfl ?_; refine withEnts_nil ?_; refine XO.guardT rfl rfl (decide_eq_true h6) rfl ?_; refine XO.geq rfl rfl rfl ?_; refine XO.guardT rfl rfl (decide_eq_false h5) rfl ?_; refine XO.pickT rfl (decide_eq_true h6) rfl rfl ?_; refine XO.pickF rfl (decide_eq_false h5) rfl rfl ?_; refine XO.nil ?_; refine XC.seq2 ?_; refine XC.cond rfl (fun c2_10 => ?_) (fun c2_10 => ?_)
      ·refine XC.seq ?_; refine XC.region ?_; refine XO.assign rfl rfl ?_; refine XO.nil ?_; refine XC.seq2 ?_; refine XC.ret ?_; refine blockR ?_; refine seqX_ret ?_; refine loopX_ret ?_; refine blockR ?_; refine seqX_ret ?_; refine ⟨rfl, _, [], rfl, (by repeat (first | exact List.Sublist.refl _ | apply List.Sublist.cons)), RetR.mk ?_⟩
       first | exact congrArg (Value.int .i64) (chk_2 (by omega)).symm | exact congrArg (Value.int .i64) (chk_270 (by omega) (ok_n hF hx13 (fun h => by first | exact absurd h.1 (by assumption) | (have h4 := h.2; rw [last_at (by omega) hxP] at h4; omega)))).symm | exact congrArg (Value.int .i64) (chk_0 (by omega) (by rw [hF]; rfl)).symm
      ·refine XC.skip ?_; refine blockN ?_; refine XC.seq2 ?_; refine XC.region ?_; refine XO.add rfl rfl (wrap_i64 (by omega) (by omega)) rfl ?_; refine XO.move rfl rfl ?_; refine XO.nil ?_; refine loop_next (k + 1) (by show l.length - (k + 1) < l.length - k; omega) (prov_cons (rfl) (prov_cons (rfl) (prov_cons (rfl) (prov_cons (rfl) prov_nil)))) (⟨by show k + 1 ≤ l.length; omega, rfl, (by have h3 := ok_y hF hx13 (Decidable.not_not.1 h5) (by first | (rw [last_at (by omega) hxP]; omega) | (unfold lastN; rw [if_pos (by omega)]; omega)); rw [h3, last_s hx13])⟩) (by repeat (first | exact List.Sublist.refl _ | apply List.Sublist.cons_cons | apply List.Sublist.cons)) (hle0)
    ·skip
     refine XC.keep [0, 3, 4, 8, 9, 10] rfl ?_
     skip
     apply XC.drawH (fun _ => True) trivial [] (by decide) (fun _ _ _ _ => True) (fun _ _ _ _ _ _ h => h) 15 [eqF _, eqF _, eqF _, eqF _, eqF _, eqF _, eqF _, eqF _, eqF _, eqF _, eqF _, eqF _, eqF _, eqF _, eqF _] follows (by kernel_rfl) ⟨eqF_mono _, eqF_mono _, eqF_mono _, eqF_mono _, eqF_mono _, eqF_mono _, eqF_mono _, eqF_mono _, eqF_mono _, eqF_mono _, eqF_mono _, eqF_mono _, eqF_mono _, eqF_mono _, eqF_mono _, trivial⟩ (by decide) ?steps11 ?tail11
     case steps11 =>
      refine stepsH_cons rfl ?_ ?_
      ·intro X ext HD hleD _
       replace hs := hs.mono hleD; replace hp13 := hp13.mono hleD; replace hle0 := hle0.trans hleD; refine withP_nil rfl ?_; refine XO.loadO 0 rfl rfl ty_41 rfl rfl rfl ?_; refine XO.nil ?_; exact stepQN_ok rfl trivial (rfl)
      refine stepsH_cons rfl ?_ ?_
      ·intro X ext HD hleD _
       replace hs := hs.mono hleD; replace hp13 := hp13.mono hleD; replace hle0 := hle0.trans hleD; refine withP_cons rfl rfl ?_; rintro _ rfl; refine withP_nil rfl ?_; refine XO.callV rfl (valid_fn x13 _) rfl ?_; refine XO.nil ?_; exact stepQN_ok rfl trivial (rfl)
      refine stepsH_cons rfl ?_ ?_
      ·intro X ext HD hleD _
       replace hs := hs.mono hleD; replace hp13 := hp13.mono hleD; replace hle0 := hle0.trans hleD; refine withP_cons rfl rfl ?_; rintro _ rfl; refine withP_nil rfl ?_; refine XO.not rfl rfl ?_; refine XO.nil ?_; exact stepQN_ok rfl trivial (rfl)
      refine stepsH_cons rfl ?_ ?_
      ·intro X ext HD hleD _
       replace hs := hs.mono hleD; replace hp13 := hp13.mono hleD; replace hle0 := hle0.trans hleD; refine withP_cons rfl rfl ?_; rintro _ rfl; refine withP_nil rfl ?_; refine XO.move rfl rfl ?_; refine XO.nil ?_; exact stepQN_ok rfl trivial (rfl)
      refine stepsH_cons rfl ?_ ?_
      ·intro X ext HD hleD _
       replace hs := hs.mono hleD; replace hp13 := hp13.mono hleD; replace hle0 := hle0.trans hleD; refine withP_cons rfl rfl ?_; rintro _ rfl; refine withP_nil rfl ?_; refine XO.guardT rfl rfl (decide_eq_false h5) rfl ?_; refine XO.move rfl rfl ?_; refine XO.nil ?_; exact stepQN_ok rfl trivial (rfl)
      refine stepsH_cons rfl ?_ ?_
      ·intro X ext HD hleD _
       replace hs := hs.mono hleD; replace hp13 := hp13.mono hleD; replace hle0 := hle0.trans hleD; refine withP_cons rfl rfl ?_; rintro _ rfl; refine withP_cons rfl rfl ?_; rintro _ rfl; refine withP_nil rfl ?_; refine XO.guardT rfl rfl (decide_eq_false h5) rfl ?_; refine XO.gtr rfl rfl rfl ?_; refine XO.nil ?_; exact stepQN_ok rfl trivial (rfl)
      refine stepsH_cons rfl ?_ ?_
      ·intro X ext HD hleD _
       replace hs := hs.mono hleD; replace hp13 := hp13.mono hleD; replace hle0 := hle0.trans hleD; refine withP_cons rfl rfl ?_; rintro _ rfl; refine withP_cons rfl rfl ?_; rintro _ rfl; refine withP_nil rfl ?_; refine XO.guardT rfl rfl (decide_eq_false h5) rfl ?_; refine XO.move rfl rfl ?_; refine XO.nil ?_; exact stepQN_ok rfl trivial (rfl)
      refine stepsH_cons rfl ?_ ?_
      ·intro X ext HD hleD _
       replace hs := hs.mono hleD; replace hp13 := hp13.mono hleD; replace hle0 := hle0.trans hleD; refine withP_cons rfl rfl ?_; rintro _ rfl; refine withP_nil rfl ?_; refine XO.guardF rfl rfl (decide_eq_false h6) rfl rfl ?_; refine XO.nil ?_; exact stepQN_ok rfl trivial (rfl)
      refine stepsH_cons rfl ?_ ?_
      ·intro X ext HD hleD _
       replace hs := hs.mono hleD; replace hp13 := hp13.mono hleD; replace hle0 := hle0.trans hleD; refine withP_cons rfl rfl ?_; rintro _ rfl; refine withP_nil rfl ?_; refine XO.guardF rfl rfl (decide_eq_false h6) rfl rfl ?_; refine XO.nil ?_; exact stepQN_ok rfl trivial (rfl)
      refine stepsH_cons rfl ?_ ?_
      ·intro X ext HD hleD _
       replace hs := hs.mono hleD; replace hp13 := hp13.mono hleD; replace hle0 := hle0.trans hleD; refine withP_cons rfl rfl ?_; rintro _ rfl; refine withP_cons rfl rfl ?_; rintro _ rfl; refine withP_nil rfl ?_; refine XO.guardF rfl rfl (decide_eq_false h6) rfl rfl ?_; refine XO.nil ?_; exact stepQN_ok rfl trivial (rfl)
      refine stepsH_cons rfl ?_ ?_
      ·intro X ext HD hleD _
       replace hs := hs.mono hleD; replace hp13 := hp13.mono hleD; replace hle0 := hle0.trans hleD; refine withP_cons rfl rfl ?_; rintro _ rfl; refine withP_cons rfl rfl ?_; rintro _ rfl; refine withP_cons rfl rfl ?_; rintro _ rfl; refine withP_nil rfl ?_; refine XO.guardF rfl rfl (decide_eq_false h6) rfl rfl ?_; refine XO.nil ?_; exact stepQN_ok rfl trivial (rfl)
      refine stepsH_cons rfl ?_ ?_
      ·intro X ext HD hleD _
       replace hs := hs.mono hleD; replace hp13 := hp13.mono hleD; replace hle0 := hle0.trans hleD; refine withP_cons rfl rfl ?_; rintro _ rfl; refine withP_cons rfl rfl ?_; rintro _ rfl; refine withP_nil rfl ?_; refine XO.guardF rfl rfl (decide_eq_false h6) rfl rfl ?_; refine XO.nil ?_; exact stepQN_ok rfl trivial (rfl)
      refine stepsH_cons rfl ?_ ?_
      ·intro X ext HD hleD _
       replace hs := hs.mono hleD; replace hp13 := hp13.mono hleD; replace hle0 := hle0.trans hleD; refine withP_cons rfl rfl ?_; rintro _ rfl; refine withP_cons rfl rfl ?_; rintro _ rfl; refine withP_nil rfl ?_; refine XO.guardF rfl rfl (decide_eq_false h6) rfl rfl ?_; refine XO.nil ?_; exact stepQN_ok rfl trivial (rfl)
      refine stepsH_cons rfl ?_ ?_
      ·intro X ext HD hleD _
       replace hs := hs.mono hleD; replace hp13 := hp13.mono hleD; replace hle0 := hle0.trans hleD; refine withP_cons rfl rfl ?_; rintro _ rfl; refine withP_nil rfl ?_; refine XO.guardF rfl rfl (decide_eq_false h6) rfl rfl ?_; refine XO.nil ?_; exact stepQN_ok rfl trivial (rfl)
      refine stepsH_cons rfl ?_ ?_
      ·intro X ext HD hleD _
       replace hs := hs.mono hleD; replace hp13 := hp13.mono hleD; replace hle0 := hle0.trans hleD; refine withP_cons rfl rfl ?_; rintro _ rfl; refine withP_cons rfl rfl ?_; rintro _ rfl; refine withP_nil rfl ?_; refine XO.guardF rfl rfl (decide_eq_false h6) rfl rfl ?_; refine XO.nil ?_; exact stepQN_ok rfl trivial (rfl)
      exact stepsH_end rfl
     case tail11 =>
      intro HD hleD _
      replace hs := hs.mono hleD; replace hp13 := hp13.mono hleD; replace hle0 := hle0.trans hleD; refine withP_cons rfl rfl ?_; rintro _ rfl; refine withP_cons rfl rfl ?_; rintro _ rfl; refine withP_cons rfl rfl ?_; rintro _ rfl; refine withP_cons rfl rfl ?_; rintro _ rfl; refine withP_cons rfl rfl ?_; rintro _ rfl; refine withP_cons rfl rfl ?_; rintro _ rfl; refine withP_cons rfl rfl ?_; rintro _ rfl; refine withP_cons rfl rfl ?_; rintro _ rfl; refine withP_cons rfl rfl ?_; rintro _ rfl; refine withP_cons rfl rfl ?_; rintro _ rfl; refine withP_cons rfl rfl ?_; rintro _ rfl; refine withP_cons rfl rfl ?_; rintro _ rfl; refine withP_cons rfl rfl ?_; rintro _ rfl; refine withP_cons rfl rfl ?_; rintro _ rfl; refine withP_cons rfl rfl ?_; rintro _ rfl; refine withP_nil rfl ?_; refine withEnts_nil ?_; refine XO.guardF rfl rfl (decide_eq_false h6) rfl rfl ?_; refine XO.guardT rfl rfl (decide_eq_false h5) rfl ?_; refine XO.pickF rfl (decide_eq_false h6) rfl rfl ?_; refine XO.pickF rfl (decide_eq_false h5) rfl rfl ?_; refine XO.nil ?_; refine XC.seq2 ?_; refine XC.condF rfl (rfl) ?_; refine XC.skip ?_; refine blockN ?_; refine XC.seq2 ?_; refine XC.region ?_; refine XO.add rfl rfl (wrap_i64 (by omega) (by omega)) rfl ?_; refine XO.move rfl rfl ?_; refine XO.nil ?_; refine loop_next (k + 1) (by show l.length - (k + 1) < l.length - k; omega) (prov_cons (rfl) (prov_cons (rfl) (prov_cons (rfl) (prov_cons (rfl) prov_nil)))) (⟨by show k + 1 ≤ l.length; omega, rfl, (by have h3 := ok_y hF hx13 (Decidable.not_not.1 h5) (by first | (rw [last_at (by omega) hxP]; omega) | (unfold lastN; rw [if_pos (by omega)]; omega)); rw [h3, last_s hx13])⟩) (by repeat (first | exact List.Sublist.refl _ | apply List.Sublist.cons_cons | apply List.Sublist.cons)) (hle0)
  ·obtain rfl : k = l.length := by omega
   rw [List.drop_length] at hF
   refine XC.exit ?_; refine seqX_exit ?_; refine loopX_exit ?_; refine blockHit rfl ?_; refine XC.seq2 ?_; refine XC.seq ?_; refine XC.region ?_; refine XO.assign rfl rfl ?_; refine XO.nil ?_; refine XC.seq2 ?_; refine XC.ret ?_; refine ⟨rfl, _, [], rfl, (by repeat (first | exact List.Sublist.refl _ | apply List.Sublist.cons)), RetR.mk ?_⟩
   first | exact congrArg (Value.int .i64) (chk_2 (by omega)).symm | exact congrArg (Value.int .i64) (chk_270 (by omega) (ok_n hF hx13 (fun h => by first | exact absurd h.1 (by assumption) | (have h4 := h.2; rw [last_at (by omega) hxP] at h4; omega)))).symm | exact congrArg (Value.int .i64) (chk_0 (by omega) (by rw [hF]; rfl)).symm

theorem rcheck_fn (a : Option Addr) (c : Nat) (l : Fs) (H : Hp) (hs : SlR faR H a c l) (hl : l.length < 9223372036854775808) : FnC Try.prog 15 #[.slice a l.length c] H [] (RetR (fun v _ _ => v = .int .i64 (chkF l))) := by
 refine FnC.intro (args := [.slice a l.length c]) Try.func15 rfl rfl Try.ntmps15 rfl rfl rfl fun G rest => ?_
 refine XC.seq ?_; refine XC.region ?_; refine XO.assign rfl rfl ?_; refine XO.nil ?_; refine XC.seq2 ?_; refine XC.seq ?_; refine XC.seq ?_; refine XC.region ?_; refine XO.move rfl rfl ?_; refine XO.lenS (ts := #[]) rfl Try.underlying22 rfl ?_; refine XO.gtr rfl rfl rfl ?_; refine XO.nil ?_; refine XC.seq2 ?_; refine XC.cond rfl (fun c0_1 => ?_) (fun c0_1 => ?_)
 ·refine XC.seq ?_; refine XC.region ?_; refine XO.assign rfl rfl ?_; refine XO.nil ?_; refine XC.seq2 ?_; refine XC.ret ?_; refine seqX_ret ?_; refine ⟨rfl, _, [], rfl, (by repeat (first | exact List.Sublist.refl _ | apply List.Sublist.cons)), RetR.mk ?_⟩
  first | exact congrArg (Value.int .i64) (chk_2 (by omega)).symm | exact congrArg (Value.int .i64) (chk_270 (by omega) (ok_n hF hxX (fun h => by first | exact absurd h.1 (by assumption) | (have h4 := h.2; rw [last_at (by omega) hxP] at h4; omega)))).symm | exact congrArg (Value.int .i64) (chk_0 (by omega) (by rw [hF]; rfl)).symm
 ·refine XC.skip ?_; refine XC.seq2 ?_; refine XC.seq ?_; refine XC.seq ?_; refine XC.region ?_; refine XO.assign rfl rfl ?_; refine XO.nil ?_; refine XC.seq2 ?_; refine XC.block ?_; refine XC.keep [3, 0] rfl ?_; refine XC.loop (base := [(0, _)]) (fun ζ : Nat => [(3, .int .i64 (ζ : Nat))]) (fun ζ Hl own => ζ ≤ l.length ∧ rest = own ∧ (okB (-1) l = okB (lastN l (ζ)) (l.drop (ζ)))) (fun ζ => l.length - ζ) 0 (prov_cons (rfl) (prov_cons (rfl) prov_nil)) (by repeat (first | exact List.Sublist.refl _ | apply List.Sublist.cons_cons | apply List.Sublist.cons)) ⟨Nat.zero_le _, rfl, rfl⟩ ?_; rintro k Hl0 _ hle0 ⟨hkk, rfl, hF⟩; replace hs := hs.mono hle0
  try dsimp only at ⊢
  refine XC.seq ?_; refine XC.seq ?_; refine XC.region ?_; refine XO.move rfl rfl ?_; refine XO.move rfl rfl ?_; refine XO.lenS (ts := #[]) rfl Try.underlying22 rfl ?_; refine XO.lss rfl rfl rfl ?_; refine XO.nil ?_; refine XC.seq2 ?_; refine XC.cond rfl (fun c1_2 => ?_) (fun c1_2 => ?_)
  ·obtain ⟨xX, hxX⟩ : ∃ x, l[k]? = some x := ⟨_, List.getElem?_eq_getElem (by omega)⟩
   refine XC.skip ?_; refine XC.seq2 ?_; refine XC.seq ?_; refine XC.block ?_; refine XC.seq ?_
   by_cases h5 : ¬ validP xX
   ·skip
    refine XC.keep [0, 3] rfl ?_
    skip
    obtain ⟨bEY, oEY, rfl⟩ := hs.addr (by omega); obtain ⟨_, xY, hxY, rfl, hpY⟩ := hs.elem (k) (by omega); obtain rfl := Option.some.inj (hxX.symm.trans hxY)
    apply XC.drawH (fun _ => True) trivial [] (by decide) (fun _ _ _ _ => True) (fun _ _ _ _ _ _ h => h) 21 [eqF _, eqF _, eqF _, eqF _, eqF _, eqF _, eqF _, eqF _, eqF _, eqF _, eqF _, eqF _, eqF _, eqF _, eqF _, eqF _, eqF _, eqF _, eqF _, eqF _, eqF _] follows (by kernel_rfl) ⟨eqF_mono _, eqF_mono _, eqF_mono _, eqF_mono _, eqF_mono _, eqF_mono _, eqF_mono _, eqF_mono _, eqF_mono _, eqF_mono _, eqF_mono _, eqF_mono _, eqF_mono _, eqF_mono _, eqF_mono _, eqF_mono _, eqF_mono _, eqF_mono _, eqF_mono _, eqF_mono _, eqF_mono _, trivial⟩ (by decide) ?steps3 ?tail3
    case steps3 =>
     refine stepsH_cons rfl ?_ ?_
     ·intro X ext HD hleD _
      replace hs := hs.mono hleD; replace hpY := hpY.mono hleD; replace hle0 := hle0.trans hleD; refine withP_nil rfl ?_; refine XO.move rfl rfl ?_; refine XO.nil ?_; exact stepQN_ok rfl trivial (rfl)
     refine stepsH_cons rfl ?_ ?_
     ·intro X ext HD hleD _
      replace hs := hs.mono hleD; replace hpY := hpY.mono hleD; replace hle0 := hle0.trans hleD; refine withP_nil rfl ?_; refine XO.move rfl rfl ?_; refine XO.nil ?_; exact stepQN_ok rfl trivial (rfl)
     refine stepsH_cons rfl ?_ ?_
     ·intro X ext HD hleD _
      replace hs := hs.mono hleD; replace hpY := hpY.mono hleD; replace hle0 := hle0.trans hleD; refine withP_cons rfl rfl ?_; rintro _ rfl; refine withP_cons rfl rfl ?_; rintro _ rfl; refine withP_nil rfl ?_; refine XO.indexE rfl rfl Try.underlying22 ty_41 (by omega) (by omega) rfl ?_; refine XO.nil ?_; exact stepQN_ok rfl trivial (rfl)
     refine stepsH_cons rfl ?_ ?_
     ·intro X ext HD hleD _
      replace hs := hs.mono hleD; replace hpY := hpY.mono hleD; replace hle0 := hle0.trans hleD; refine withP_cons rfl rfl ?_; rintro _ rfl; refine withP_nil rfl ?_; refine XO.loadH rfl (by assumption) ty_41 rfl rfl rfl ?_; refine XO.nil ?_; exact stepQN_ok rfl trivial (rfl)
     refine stepsH_cons rfl ?_ ?_
     ·intro X ext HD hleD _
      replace hs := hs.mono hleD; replace hpY := hpY.mono hleD; replace hle0 := hle0.trans hleD; refine withP_cons rfl rfl ?_; rintro _ rfl; refine withP_nil rfl ?_; refine XO.callV rfl (rvalid_fn xX _) rfl ?_; refine XO.nil ?_; exact stepQN_ok rfl trivial (rfl)
     refine stepsH_cons rfl ?_ ?_
     ·intro X ext HD hleD _
      replace hs := hs.mono hleD; replace hpY := hpY.mono hleD; replace hle0 := hle0.trans hleD; refine withP_cons rfl rfl ?_; rintro _ rfl; refine withP_nil rfl ?_; refine XO.not rfl rfl ?_; refine XO.nil ?_; exact stepQN_ok rfl trivial (rfl)
     refine stepsH_cons rfl ?_ ?_
     ·intro X ext HD hleD _
      replace hs := hs.mono hleD; replace hpY := hpY.mono hleD; replace hle0 := hle0.trans hleD; refine withP_cons rfl rfl ?_; rintro _ rfl; refine withP_nil rfl ?_; refine XO.move rfl rfl ?_; refine XO.nil ?_; exact stepQN_ok rfl trivial (rfl)
     refine stepsH_cons rfl ?_ ?_
     ·intro X ext HD hleD _
      replace hs := hs.mono hleD; replace hpY := hpY.mono hleD; replace hle0 := hle0.trans hleD; refine withP_cons rfl rfl ?_; rintro _ rfl; refine withP_nil rfl ?_; refine XO.guardF rfl rfl (decide_eq_true h5) rfl rfl ?_; refine XO.nil ?_; exact stepQN_ok rfl trivial (rfl)
     refine stepsH_cons rfl ?_ ?_
     ·intro X ext HD hleD _
      replace hs := hs.mono hleD; replace hpY := hpY.mono hleD; replace hle0 := hle0.trans hleD; refine withP_cons rfl rfl ?_; rintro _ rfl; refine withP_cons rfl rfl ?_; rintro _ rfl; refine withP_nil rfl ?_; refine XO.guardF rfl rfl (decide_eq_true h5) rfl rfl ?_; refine XO.nil ?_; exact stepQN_ok rfl trivial (rfl)
     refine stepsH_cons rfl ?_ ?_
     ·intro X ext HD hleD _
      replace hs := hs.mono hleD; replace hpY := hpY.mono hleD; replace hle0 := hle0.trans hleD; refine withP_cons rfl rfl ?_; rintro _ rfl; refine withP_cons rfl rfl ?_; rintro _ rfl; refine withP_nil rfl ?_; refine XO.guardF rfl rfl (decide_eq_true h5) rfl rfl ?_; refine XO.nil ?_; exact stepQN_ok rfl trivial (rfl)
     refine stepsH_cons rfl ?_ ?_
     ·intro X ext HD hleD _
      replace hs := hs.mono hleD; replace hpY := hpY.mono hleD; replace hle0 := hle0.trans hleD; refine withP_cons rfl rfl ?_; rintro _ rfl; refine withP_nil rfl ?_; refine XO.guardU rfl rfl rfl rfl ?_; refine XO.nil ?_; exact stepQN_ok rfl trivial (rfl)
     refine stepsH_cons rfl ?_ ?_
     ·intro X ext HD hleD _
      replace hs := hs.mono hleD; replace hpY := hpY.mono hleD; replace hle0 := hle0.trans hleD; refine withP_cons rfl rfl ?_; rintro _ rfl; refine withP_nil rfl ?_; refine XO.guardU rfl rfl rfl rfl ?_; refine XO.nil ?_; exact stepQN_ok rfl trivial (rfl)
     refine stepsH_cons rfl ?_ ?_
     ·intro X ext HD hleD _
      replace hs := hs.mono hleD; replace hpY := hpY.mono hleD; replace hle0 := hle0.trans hleD; refine withP_cons rfl rfl ?_; rintro _ rfl; refine withP_cons rfl rfl ?_; rintro _ rfl; refine withP_nil rfl ?_; refine XO.guardU rfl rfl rfl rfl ?_; refine XO.nil ?_; exact stepQN_ok rfl trivial (rfl)
     refine stepsH_cons rfl ?_ ?_
     ·intro X ext HD hleD _
      replace hs := hs.mono hleD; replace hpY := hpY.mono hleD; replace hle0 := hle0.trans hleD; refine withP_cons rfl rfl ?_; rintro _ rfl; refine withP_cons rfl rfl ?_; rintro _ rfl; refine withP_cons rfl rfl ?_; rintro _ rfl; refine withP_nil rfl ?_; refine XO.guardU rfl rfl rfl rfl ?_; refine XO.nil ?_; exact stepQN_ok rfl trivial (rfl)
     refine stepsH_cons rfl ?_ ?_
     ·intro X ext HD hleD _
      replace hs := hs.mono hleD; replace hpY := hpY.mono hleD; replace hle0 := hle0.trans hleD; refine withP_cons rfl rfl ?_; rintro _ rfl; refine withP_cons rfl rfl ?_; rintro _ rfl; refine withP_nil rfl ?_; refine XO.guardU rfl rfl rfl rfl ?_; refine XO.nil ?_; exact stepQN_ok rfl trivial (rfl)
     refine stepsH_cons rfl ?_ ?_
     ·intro X ext HD hleD _
      replace hs := hs.mono hleD; replace hpY := hpY.mono hleD; replace hle0 := hle0.trans hleD; refine withP_cons rfl rfl ?_; rintro _ rfl; refine withP_cons rfl rfl ?_; rintro _ rfl; refine withP_nil rfl ?_; refine XO.guardU rfl rfl rfl rfl ?_; refine XO.nil ?_; exact stepQN_ok rfl trivial (rfl)
     refine stepsH_cons rfl ?_ ?_
     ·intro X ext HD hleD _
      replace hs := hs.mono hleD; replace hpY := hpY.mono hleD; replace hle0 := hle0.trans hleD; refine withP_cons rfl rfl ?_; rintro _ rfl; refine withP_nil rfl ?_; refine XO.guardU rfl rfl rfl rfl ?_; refine XO.nil ?_; exact stepQN_ok rfl trivial (rfl)
     refine stepsH_cons rfl ?_ ?_
     ·intro X ext HD hleD _
      replace hs := hs.mono hleD; replace hpY := hpY.mono hleD; replace hle0 := hle0.trans hleD; refine withP_cons rfl rfl ?_; rintro _ rfl; refine withP_nil rfl ?_; refine XO.guardU rfl rfl rfl rfl ?_; refine XO.nil ?_; exact stepQN_ok rfl trivial (rfl)
     refine stepsH_cons rfl ?_ ?_
     ·intro X ext HD hleD _
      replace hs := hs.mono hleD; replace hpY := hpY.mono hleD; replace hle0 := hle0.trans hleD; refine withP_cons rfl rfl ?_; rintro _ rfl; refine withP_cons rfl rfl ?_; rintro _ rfl; refine withP_cons rfl rfl ?_; rintro _ rfl; refine withP_nil rfl ?_; refine XO.guardU rfl rfl rfl rfl ?_; refine XO.nil ?_; exact stepQN_ok rfl trivial (rfl)
     refine stepsH_cons rfl ?_ ?_
     ·intro X ext HD hleD _
      replace hs := hs.mono hleD; replace hpY := hpY.mono hleD; replace hle0 := hle0.trans hleD; refine withP_cons rfl rfl ?_; rintro _ rfl; refine withP_cons rfl rfl ?_; rintro _ rfl; refine withP_nil rfl ?_; refine XO.guardU rfl rfl rfl rfl ?_; refine XO.nil ?_; exact stepQN_ok rfl trivial (rfl)
     refine stepsH_cons rfl ?_ ?_
     ·intro X ext HD hleD _
      replace hs := hs.mono hleD; replace hpY := hpY.mono hleD; replace hle0 := hle0.trans hleD; refine withP_cons rfl rfl ?_; rintro _ rfl; refine withP_cons rfl rfl ?_; rintro _ rfl; refine withP_nil rfl ?_; refine XO.guardU rfl rfl rfl rfl ?_; refine XO.nil ?_; exact stepQN_ok rfl trivial (rfl)
     exact stepsH_end rfl
    case tail3 =>
     intro HD hleD _
     replace hs := hs.mono hleD; replace hpY := hpY.mono hleD; replace hle0 := hle0.trans hleD; refine withP_cons rfl rfl ?_; rintro _ rfl; refine withP_cons rfl rfl ?_; rintro _ rfl; refine withP_cons rfl rfl ?_; rintro _ rfl; refine withP_cons rfl rfl ?_; rintro _ rfl; refine withP_cons rfl rfl ?_; rintro _ rfl; refine withP_cons rfl rfl ?_; rintro _ rfl; refine withP_cons rfl rfl ?_; rintro _ rfl; refine withP_cons rfl rfl ?_; rintro _ rfl; refine withP_cons rfl rfl ?_; rintro _ rfl; refine withP_cons rfl rfl ?_; rintro _ rfl; refine withP_cons rfl rfl ?_; rintro _ rfl; refine withP_cons rfl rfl ?_; rintro _ rfl; refine withP_cons rfl rfl ?_; rintro _ rfl; refine withP_cons rfl rfl ?_; rintro _ rfl; refine withP_cons rfl rfl ?_; rintro _ rfl; refine withP_cons rfl rfl ?_; rintro _ rfl; refine withP_cons rfl rfl ?_; rintro _ rfl; refine withP_cons rfl rfl ?_; rintro _ rfl; refine withP_cons rfl rfl ?_; rintro _ rfl; refine withP_cons rfl rfl ?_; rintro _ rfl; refine withP_cons rfl rfl ?_; rintro _ rfl; refine withP_nil rfl ?_; refine withEnts_nil ?_; refine XO.guardU rfl rfl rfl rfl ?_; refine XO.guardF rfl rfl (decide_eq_true h5) rfl rfl ?_; refine XO.pickT rfl (decide_eq_true h5) rfl rfl ?_; refine XO.nil ?_; refine XC.seq2 ?_; refine XC.condT rfl (rfl) ?_; refine XC.seq ?_; refine XC.region ?_; refine XO.assign rfl rfl ?_; refine XO.nil ?_; refine XC.seq2 ?_; refine XC.ret ?_; refine blockR ?_; refine seqX_ret ?_; refine loopX_ret ?_; refine blockR ?_; refine seqX_ret ?_; refine ⟨rfl, _, [], rfl, (by repeat (first | exact List.Sublist.refl _ | apply List.Sublist.cons)), RetR.mk ?_⟩
     first | exact congrArg (Value.int .i64) (chk_2 (by omega)).symm | exact congrArg (Value.int .i64) (chk_270 (by omega) (ok_n hF hxX (fun h => by first | exact absurd h.1 (by assumption) | (have h4 := h.2; rw [last_at (by omega) hxP] at h4; omega)))).symm | exact congrArg (Value.int .i64) (chk_0 (by omega) (by rw [hF]; rfl)).symm
   ·skip
    by_cases h6 : ((k : Nat) : Int) > 0
    ·skip
     refine XC.keep [0, 3] rfl ?_
     skip
     obtain ⟨bEY, oEY, rfl⟩ := hs.addr (by omega); obtain ⟨_, xY, hxY, rfl, hpY⟩ := hs.elem (k) (by omega); obtain ⟨_, xP, hxP, rfl, hpP⟩ := hs.elem (k - 1) (by omega); obtain rfl := Option.some.inj (hxX.symm.trans hxY)
     apply XC.drawH (fun _ => True) trivial [] (by decide) (fun _ _ _ _ => True) (fun _ _ _ _ _ _ h => h) 21 [eqF _, eqF _, eqF _, eqF _, eqF _, eqF _, eqF _, eqF _, eqF _, eqF _, eqF _, eqF _, eqF _, eqF _, eqF _, eqF _, eqF _, eqF _, eqF _, eqF _, eqF _] follows (by kernel_rfl) ⟨eqF_mono _, eqF_mono _, eqF_mono _, eqF_mono _, eqF_mono _, eqF_mono _, eqF_mono _, eqF_mono _, eqF_mono _, eqF_mono _, eqF_mono _, eqF_mono _, eqF_mono _, eqF_mono _, eqF_mono _, eqF_mono _, eqF_mono _, eqF_mono _, eqF_mono _, eqF_mono _, eqF_mono _, trivial⟩ (by decide) ?steps6 ?tail6
     case steps6 =>
      refine stepsH_cons rfl ?_ ?_
      ·intro X ext HD hleD _
       replace hs := hs.mono hleD; replace hpY := hpY.mono hleD; replace hpP := hpP.mono hleD; replace hle0 := hle0.trans hleD; refine withP_nil rfl ?_; refine XO.move rfl rfl ?_; refine XO.nil ?_; exact stepQN_ok rfl trivial (rfl)
      refine stepsH_cons rfl ?_ ?_
      ·intro X ext HD hleD _
       replace hs := hs.mono hleD; replace hpY := hpY.mono hleD; replace hpP := hpP.mono hleD; replace hle0 := hle0.trans hleD; refine withP_nil rfl ?_; refine XO.move rfl rfl ?_; refine XO.nil ?_; exact stepQN_ok rfl trivial (rfl)
      refine stepsH_cons rfl ?_ ?_
      ·intro X ext HD hleD _
       replace hs := hs.mono hleD; replace hpY := hpY.mono hleD; replace hpP := hpP.mono hleD; replace hle0 := hle0.trans hleD; refine withP_cons rfl rfl ?_; rintro _ rfl; refine withP_cons rfl rfl ?_; rintro _ rfl; refine withP_nil rfl ?_; refine XO.indexE rfl rfl Try.underlying22 ty_41 (by omega) (by omega) rfl ?_; refine XO.nil ?_; exact stepQN_ok rfl trivial (rfl)
      refine stepsH_cons rfl ?_ ?_
      ·intro X ext HD hleD _
       replace hs := hs.mono hleD; replace hpY := hpY.mono hleD; replace hpP := hpP.mono hleD; replace hle0 := hle0.trans hleD; refine withP_cons rfl rfl ?_; rintro _ rfl; refine withP_nil rfl ?_; refine XO.loadH rfl (by assumption) ty_41 rfl rfl rfl ?_; refine XO.nil ?_; exact stepQN_ok rfl trivial (rfl)
      refine stepsH_cons rfl ?_ ?_
      ·intro X ext HD hleD _
       replace hs := hs.mono hleD; replace hpY := hpY.mono hleD; replace hpP := hpP.mono hleD; replace hle0 := hle0.trans hleD; refine withP_cons rfl rfl ?_; rintro _ rfl; refine withP_nil rfl ?_; refine XO.callV rfl (rvalid_fn xX _) rfl ?_; refine XO.nil ?_; exact stepQN_ok rfl trivial (rfl)
      refine stepsH_cons rfl ?_ ?_
      ·intro X ext HD hleD _
       replace hs := hs.mono hleD; replace hpY := hpY.mono hleD; replace hpP := hpP.mono hleD; replace hle0 := hle0.trans hleD; refine withP_cons rfl rfl ?_; rintro _ rfl; refine withP_nil rfl ?_; refine XO.not rfl rfl ?_; refine XO.nil ?_; exact stepQN_ok rfl trivial (rfl)
      refine stepsH_cons rfl ?_ ?_
      ·intro X ext HD hleD _
       replace hs := hs.mono hleD; replace hpY := hpY.mono hleD; replace hpP := hpP.mono hleD; replace hle0 := hle0.trans hleD; refine withP_cons rfl rfl ?_; rintro _ rfl; refine withP_nil rfl ?_; refine XO.move rfl rfl ?_; refine XO.nil ?_; exact stepQN_ok rfl trivial (rfl)
      refine stepsH_cons rfl ?_ ?_
      ·intro X ext HD hleD _
       replace hs := hs.mono hleD; replace hpY := hpY.mono hleD; replace hpP := hpP.mono hleD; replace hle0 := hle0.trans hleD; refine withP_cons rfl rfl ?_; rintro _ rfl; refine withP_nil rfl ?_; refine XO.guardT rfl rfl (decide_eq_false h5) rfl ?_; refine XO.move rfl rfl ?_; refine XO.nil ?_; exact stepQN_ok rfl trivial (rfl)
      refine stepsH_cons rfl ?_ ?_
      ·intro X ext HD hleD _
       replace hs := hs.mono hleD; replace hpY := hpY.mono hleD; replace hpP := hpP.mono hleD; replace hle0 := hle0.trans hleD; refine withP_cons rfl rfl ?_; rintro _ rfl; refine withP_cons rfl rfl ?_; rintro _ rfl; refine withP_nil rfl ?_; refine XO.guardT rfl rfl (decide_eq_false h5) rfl ?_; refine XO.gtr rfl rfl rfl ?_; refine XO.nil ?_; exact stepQN_ok rfl trivial (rfl)
      refine stepsH_cons rfl ?_ ?_
      ·intro X ext HD hleD _
       replace hs := hs.mono hleD; replace hpY := hpY.mono hleD; replace hpP := hpP.mono hleD; replace hle0 := hle0.trans hleD; refine withP_cons rfl rfl ?_; rintro _ rfl; refine withP_cons rfl rfl ?_; rintro _ rfl; refine withP_nil rfl ?_; refine XO.guardT rfl rfl (decide_eq_false h5) rfl ?_; refine XO.move rfl rfl ?_; refine XO.nil ?_; exact stepQN_ok rfl trivial (rfl)
      refine stepsH_cons rfl ?_ ?_
      ·intro X ext HD hleD _
       replace hs := hs.mono hleD; replace hpY := hpY.mono hleD; replace hpP := hpP.mono hleD; replace hle0 := hle0.trans hleD; refine withP_cons rfl rfl ?_; rintro _ rfl; refine withP_nil rfl ?_; refine XO.guardT rfl rfl (decide_eq_true h6) rfl ?_; refine XO.move rfl rfl ?_; refine XO.nil ?_; exact stepQN_ok rfl trivial (rfl)
      refine stepsH_cons rfl ?_ ?_
      ·intro X ext HD hleD _
       replace hs := hs.mono hleD; replace hpY := hpY.mono hleD; replace hpP := hpP.mono hleD; replace hle0 := hle0.trans hleD; refine withP_cons rfl rfl ?_; rintro _ rfl; refine withP_nil rfl ?_; refine XO.guardT rfl rfl (decide_eq_true h6) rfl ?_; refine XO.move rfl rfl ?_; refine XO.nil ?_; exact stepQN_ok rfl trivial (rfl)
      refine stepsH_cons rfl ?_ ?_
      ·intro X ext HD hleD _
       replace hs := hs.mono hleD; replace hpY := hpY.mono hleD; replace hpP := hpP.mono hleD; replace hle0 := hle0.trans hleD; refine withP_cons rfl rfl ?_; rintro _ rfl; refine withP_cons rfl rfl ?_; rintro _ rfl; refine withP_nil rfl ?_; refine XO.guardT rfl rfl (decide_eq_true h6) rfl ?_; refine XO.sub (c := ((k - 1 : Nat) : Int)) rfl rfl ((wrap_i64 (by omega) (by omega)).trans (by omega)) rfl ?_; refine XO.nil ?_; exact stepQN_ok rfl trivial (rfl)
      refine stepsH_cons rfl ?_ ?_
      ·intro X ext HD hleD _
       replace hs := hs.mono hleD; replace hpY := hpY.mono hleD; replace hpP := hpP.mono hleD; replace hle0 := hle0.trans hleD; refine withP_cons rfl rfl ?_; rintro _ rfl; refine withP_cons rfl rfl ?_; rintro _ rfl; refine withP_cons rfl rfl ?_; rintro _ rfl; refine withP_nil rfl ?_; refine XO.guardT rfl rfl (decide_eq_true h6) rfl ?_; refine XO.indexE rfl rfl Try.underlying22 ty_41 (by omega) (by omega) rfl ?_; refine XO.nil ?_; exact stepQN_ok rfl trivial (rfl)
      refine stepsH_cons rfl ?_ ?_
      ·intro X ext HD hleD _
       replace hs := hs.mono hleD; replace hpY := hpY.mono hleD; replace hpP := hpP.mono hleD; replace hle0 := hle0.trans hleD; refine withP_cons rfl rfl ?_; rintro _ rfl; refine withP_cons rfl rfl ?_; rintro _ rfl; refine withP_nil rfl ?_; refine XO.guardT rfl rfl (decide_eq_true h6) rfl ?_; refine XO.fieldAddr rfl fa_41_0 rfl ?_; refine XO.nil ?_; exact stepQN_ok rfl trivial (rfl)
      refine stepsH_cons rfl ?_ ?_
      ·intro X ext HD hleD _
       replace hs := hs.mono hleD; replace hpY := hpY.mono hleD; replace hpP := hpP.mono hleD; replace hle0 := hle0.trans hleD; refine withP_cons rfl rfl ?_; rintro _ rfl; refine withP_cons rfl rfl ?_; rintro _ rfl; refine withP_nil rfl ?_; refine XO.guardT rfl rfl (decide_eq_true h6) rfl ?_; refine XO.loadHF rfl (by assumption) ty_3 rfl rfl rfl ?_; refine XO.nil ?_; exact stepQN_ok rfl trivial (rfl)
      refine stepsH_cons rfl ?_ ?_
      ·intro X ext HD hleD _
       replace hs := hs.mono hleD; replace hpY := hpY.mono hleD; replace hpP := hpP.mono hleD; replace hle0 := hle0.trans hleD; refine withP_cons rfl rfl ?_; rintro _ rfl; refine withP_nil rfl ?_; refine XO.guardT rfl rfl (decide_eq_true h6) rfl ?_; refine XO.move rfl rfl ?_; refine XO.nil ?_; exact stepQN_ok rfl trivial (rfl)
      refine stepsH_cons rfl ?_ ?_
      ·intro X ext HD hleD _
       replace hs := hs.mono hleD; replace hpY := hpY.mono hleD; replace hpP := hpP.mono hleD; replace hle0 := hle0.trans hleD; refine withP_cons rfl rfl ?_; rintro _ rfl; refine withP_nil rfl ?_; refine XO.guardT rfl rfl (decide_eq_true h6) rfl ?_; refine XO.move rfl rfl ?_; refine XO.nil ?_; exact stepQN_ok rfl trivial (rfl)
      refine stepsH_cons rfl ?_ ?_
      ·intro X ext HD hleD _
       replace hs := hs.mono hleD; replace hpY := hpY.mono hleD; replace hpP := hpP.mono hleD; replace hle0 := hle0.trans hleD; refine withP_cons rfl rfl ?_; rintro _ rfl; refine withP_cons rfl rfl ?_; rintro _ rfl; refine withP_cons rfl rfl ?_; rintro _ rfl; refine withP_nil rfl ?_; refine XO.guardT rfl rfl (decide_eq_true h6) rfl ?_; refine XO.indexE rfl rfl Try.underlying22 ty_41 (by omega) (by omega) rfl ?_; refine XO.nil ?_; exact stepQN_ok rfl trivial (rfl)
      refine stepsH_cons rfl ?_ ?_
      ·intro X ext HD hleD _
       replace hs := hs.mono hleD; replace hpY := hpY.mono hleD; replace hpP := hpP.mono hleD; replace hle0 := hle0.trans hleD; refine withP_cons rfl rfl ?_; rintro _ rfl; refine withP_cons rfl rfl ?_; rintro _ rfl; refine withP_nil rfl ?_; refine XO.guardT rfl rfl (decide_eq_true h6) rfl ?_; refine XO.fieldAddr rfl fa_41_0 rfl ?_; refine XO.nil ?_; exact stepQN_ok rfl trivial (rfl)
      refine stepsH_cons rfl ?_ ?_
      ·intro X ext HD hleD _
       replace hs := hs.mono hleD; replace hpY := hpY.mono hleD; replace hpP := hpP.mono hleD; replace hle0 := hle0.trans hleD; refine withP_cons rfl rfl ?_; rintro _ rfl; refine withP_cons rfl rfl ?_; rintro _ rfl; refine withP_nil rfl ?_; refine XO.guardT rfl rfl (decide_eq_true h6) rfl ?_; refine XO.loadHF rfl (by assumption) ty_3 rfl rfl rfl ?_; refine XO.nil ?_; exact stepQN_ok rfl trivial (rfl)
      exact stepsH_end rfl
     case tail6 =>
      intro HD hleD _
      replace hs := hs.mono hleD; replace hpY := hpY.mono hleD; replace hpP := hpP.mono hleD; replace hle0 := hle0.trans hleD; refine withP_cons rfl rfl ?_; rintro _ rfl; refine withP_cons rfl rfl ?_; rintro _ rfl; refine withP_cons rfl rfl ?_; rintro _ rfl; refine withP_cons rfl rfl ?_; rintro _ rfl; refine withP_cons rfl rfl ?_; rintro _ rfl; refine withP_cons rfl rfl ?_; rintro _ rfl; refine withP_cons rfl rfl ?_; rintro _ rfl; refine withP_cons rfl rfl ?_; rintro _ rfl; refine withP_cons rfl rfl ?_; rintro _ rfl; refine withP_cons rfl rfl ?_; rintro _ rfl; refine withP_cons rfl rfl ?_; rintro _ rfl; refine withP_cons rfl rfl ?_; rintro _ rfl; refine withP_cons rfl rfl ?_; rintro _ rfl; refine withP_cons rfl rfl ?_; rintro _ rfl; refine withP_cons rfl rfl ?_; rintro _ rfl; refine withP_cons rfl rfl ?_; rintro _ rfl; refine withP_cons rfl rfl ?_; rintro _ rfl; refine withP_cons rfl rfl ?_; rintro _ rfl; refine withP_cons rfl rfl ?_; rintro _ rfl; refine withP_cons rfl rfl ?_; rintro _ rfl; refine withP_cons rfl rfl ?_; rintro _ rfl; refine withP_nil rfl ?_; refine withEnts_nil ?_; refine XO.guardT rfl rfl (decide_eq_true h6) rfl ?_; refine XO.geq rfl rfl rfl ?_; refine XO.guardT rfl rfl (decide_eq_false h5) rfl ?_; refine XO.pickT rfl (decide_eq_true h6) rfl rfl ?_; refine XO.pickF rfl (decide_eq_false h5) rfl rfl ?_; refine XO.nil ?_; refine XC.seq2 ?_; refine XC.cond rfl (fun c2_12 => ?_) (fun c2_12 => ?_)
      ·refine XC.seq ?_; refine XC.region ?_; refine XO.assign rfl rfl ?_; refine XO.nil ?_; refine XC.seq2 ?_; refine XC.ret ?_; refine blockR ?_; refine seqX_ret ?_; refine loopX_ret ?_; refine blockR ?_; refine seqX_ret ?_; refine ⟨rfl, _, [], rfl, (by repeat (first | exact List.Sublist.refl _ | apply List.Sublist.cons)), RetR.mk ?_⟩
       first | exact congrArg (Value.int .i64) (chk_2 (by omega)).symm | exact congrArg (Value.int .i64) (chk_270 (by omega) (ok_n hF hxX (fun h => by first | exact absurd h.1 (by assumption) | (have h4 := h.2; rw [last_at (by omega) hxP] at h4; omega)))).symm | exact congrArg (Value.int .i64) (chk_0 (by omega) (by rw [hF]; rfl)).symm
      ·refine XC.skip ?_; refine blockN ?_; refine XC.seq2 ?_; refine XC.region ?_; refine XO.move rfl rfl ?_; refine XO.add rfl rfl (wrap_i64 (by omega) (by omega)) rfl ?_; refine XO.assign rfl rfl ?_; refine XO.nil ?_; refine loop_next (k + 1) (by show l.length - (k + 1) < l.length - k; omega) (prov_cons (rfl) (prov_cons (rfl) prov_nil)) (⟨by show k + 1 ≤ l.length; omega, rfl, (by have h3 := ok_y hF hxX (Decidable.not_not.1 h5) (by first | (rw [last_at (by omega) hxP]; omega) | (unfold lastN; rw [if_pos (by omega)]; omega)); rw [h3, last_s hxX])⟩) (by repeat (first | exact List.Sublist.refl _ | apply List.Sublist.cons_cons | apply List.Sublist.cons)) (hle0)
    ·skip
     refine XC.keep [0, 3] rfl ?_
     skip
     obtain ⟨bEY, oEY, rfl⟩ := hs.addr (by omega); obtain ⟨_, xY, hxY, rfl, hpY⟩ := hs.elem (k) (by omega); obtain rfl := Option.some.inj (hxX.symm.trans hxY)
     apply XC.drawH (fun _ => True) trivial [] (by decide) (fun _ _ _ _ => True) (fun _ _ _ _ _ _ h => h) 21 [eqF _, eqF _, eqF _, eqF _, eqF _, eqF _, eqF _, eqF _, eqF _, eqF _, eqF _, eqF _, eqF _, eqF _, eqF _, eqF _, eqF _, eqF _, eqF _, eqF _, eqF _] follows (by kernel_rfl) ⟨eqF_mono _, eqF_mono _, eqF_mono _, eqF_mono _, eqF_mono _, eqF_mono _, eqF_mono _, eqF_mono _, eqF_mono _, eqF_mono _, eqF_mono _, eqF_mono _, eqF_mono _, eqF_mono _, eqF_mono _, eqF_mono _, eqF_mono _, eqF_mono _, eqF_mono _, eqF_mono _, eqF_mono _, trivial⟩ (by decide) ?steps13 ?tail13
     case steps13 =>
      refine stepsH_cons rfl ?_ ?_
      ·intro X ext HD hleD _
       replace hs := hs.mono hleD; replace hpY := hpY.mono hleD; replace hle0 := hle0.trans hleD; refine withP_nil rfl ?_; refine XO.move rfl rfl ?_; refine XO.nil ?_; exact stepQN_ok rfl trivial (rfl)
      refine stepsH_cons rfl ?_ ?_
      ·intro X ext HD hleD _
       replace hs := hs.mono hleD; replace hpY := hpY.mono hleD; replace hle0 := hle0.trans hleD; refine withP_nil rfl ?_; refine XO.move rfl rfl ?_; refine XO.nil ?_; exact stepQN_ok rfl trivial (rfl)
      refine stepsH_cons rfl ?_ ?_
      ·intro X ext HD hleD _
       replace hs := hs.mono hleD; replace hpY := hpY.mono hleD; replace hle0 := hle0.trans hleD; refine withP_cons rfl rfl ?_; rintro _ rfl; refine withP_cons rfl rfl ?_; rintro _ rfl; refine withP_nil rfl ?_; refine XO.indexE rfl rfl Try.underlying22 ty_41 (by omega) (by omega) rfl ?_; refine XO.nil ?_; exact stepQN_ok rfl trivial (rfl)
      refine stepsH_cons rfl ?_ ?_
      ·intro X ext HD hleD _
       replace hs := hs.mono hleD; replace hpY := hpY.mono hleD; replace hle0 := hle0.trans hleD; refine withP_cons rfl rfl ?_; rintro _ rfl; refine withP_nil rfl ?_; refine XO.loadH rfl (by assumption) ty_41 rfl rfl rfl ?_; refine XO.nil ?_; exact stepQN_ok rfl trivial (rfl)
      refine stepsH_cons rfl ?_ ?_
      ·intro X ext HD hleD _
       replace hs := hs.mono hleD; replace hpY := hpY.mono hleD; replace hle0 := hle0.trans hleD; refine withP_cons rfl rfl ?_; rintro _ rfl; refine withP_nil rfl ?_; refine XO.callV rfl (rvalid_fn xX _) rfl ?_; refine XO.nil ?_; exact stepQN_ok rfl trivial (rfl)
      refine stepsH_cons rfl ?_ ?_
      ·intro X ext HD hleD _
       replace hs := hs.mono hleD; replace hpY := hpY.mono hleD; replace hle0 := hle0.trans hleD; refine withP_cons rfl rfl ?_; rintro _ rfl; refine withP_nil rfl ?_; refine XO.not rfl rfl ?_; refine XO.nil ?_; exact stepQN_ok rfl trivial (rfl)
      refine stepsH_cons rfl ?_ ?_
      ·intro X ext HD hleD _
       replace hs := hs.mono hleD; replace hpY := hpY.mono hleD; replace hle0 := hle0.trans hleD; refine withP_cons rfl rfl ?_; rintro _ rfl; refine withP_nil rfl ?_; refine XO.move rfl rfl ?_; refine XO.nil ?_; exact stepQN_ok rfl trivial (rfl)
      refine stepsH_cons rfl ?_ ?_
      ·intro X ext HD hleD _
       replace hs := hs.mono hleD; replace hpY := hpY.mono hleD; replace hle0 := hle0.trans hleD; refine withP_cons rfl rfl ?_; rintro _ rfl; refine withP_nil rfl ?_; refine XO.guardT rfl rfl (decide_eq_false h5) rfl ?_; refine XO.move rfl rfl ?_; refine XO.nil ?_; exact stepQN_ok rfl trivial (rfl)
      refine stepsH_cons rfl ?_ ?_
      ·intro X ext HD hleD _
       replace hs := hs.mono hleD; replace hpY := hpY.mono hleD; replace hle0 := hle0.trans hleD; refine withP_cons rfl rfl ?_; rintro _ rfl; refine withP_cons rfl rfl ?_; rintro _ rfl; refine withP_nil rfl ?_; refine XO.guardT rfl rfl (decide_eq_false h5) rfl ?_; refine XO.gtr rfl rfl rfl ?_; refine XO.nil ?_; exact stepQN_ok rfl trivial (rfl)
      refine stepsH_cons rfl ?_ ?_
      ·intro X ext HD hleD _
       replace hs := hs.mono hleD; replace hpY := hpY.mono hleD; replace hle0 := hle0.trans hleD; refine withP_cons rfl rfl ?_; rintro _ rfl; refine withP_cons rfl rfl ?_; rintro _ rfl; refine withP_nil rfl ?_; refine XO.guardT rfl rfl (decide_eq_false h5) rfl ?_; refine XO.move rfl rfl ?_; refine XO.nil ?_; exact stepQN_ok rfl trivial (rfl)
      refine stepsH_cons rfl ?_ ?_
      ·intro X ext HD hleD _
       replace hs := hs.mono hleD; replace hpY := hpY.mono hleD; replace hle0 := hle0.trans hleD; refine withP_cons rfl rfl ?_; rintro _ rfl; refine withP_nil rfl ?_; refine XO.guardF rfl rfl (decide_eq_false h6) rfl rfl ?_; refine XO.nil ?_; exact stepQN_ok rfl trivial (rfl)
      refine stepsH_cons rfl ?_ ?_
      ·intro X ext HD hleD _
       replace hs := hs.mono hleD; replace hpY := hpY.mono hleD; replace hle0 := hle0.trans hleD; refine withP_cons rfl rfl ?_; rintro _ rfl; refine withP_nil rfl ?_; refine XO.guardF rfl rfl (decide_eq_false h6) rfl rfl ?_; refine XO.nil ?_; exact stepQN_ok rfl trivial (rfl)
      refine stepsH_cons rfl ?_ ?_
      ·intro X ext HD hleD _
       replace hs := hs.mono hleD; replace hpY := hpY.mono hleD; replace hle0 := hle0.trans hleD; refine withP_cons rfl rfl ?_; rintro _ rfl; refine withP_cons rfl rfl ?_; rintro _ rfl; refine withP_nil rfl ?_; refine XO.guardF rfl rfl (decide_eq_false h6) rfl rfl ?_; refine XO.nil ?_; exact stepQN_ok rfl trivial (rfl)
      refine stepsH_cons rfl ?_ ?_
      ·intro X ext HD hleD _
       replace hs := hs.mono hleD; replace hpY := hpY.mono hleD; replace hle0 := hle0.trans hleD; refine withP_cons rfl rfl ?_; rintro _ rfl; refine withP_cons rfl rfl ?_; rintro _ rfl; refine withP_cons rfl rfl ?_; rintro _ rfl; refine withP_nil rfl ?_; refine XO.guardF rfl rfl (decide_eq_false h6) rfl rfl ?_; refine XO.nil ?_; exact stepQN_ok rfl trivial (rfl)
      refine stepsH_cons rfl ?_ ?_
      ·intro X ext HD hleD _
       replace hs := hs.mono hleD; replace hpY := hpY.mono hleD; replace hle0 := hle0.trans hleD; refine withP_cons rfl rfl ?_; rintro _ rfl; refine withP_cons rfl rfl ?_; rintro _ rfl; refine withP_nil rfl ?_; refine XO.guardF rfl rfl (decide_eq_false h6) rfl rfl ?_; refine XO.nil ?_; exact stepQN_ok rfl trivial (rfl)
      refine stepsH_cons rfl ?_ ?_
      ·intro X ext HD hleD _
       replace hs := hs.mono hleD; replace hpY := hpY.mono hleD; replace hle0 := hle0.trans hleD; refine withP_cons rfl rfl ?_; rintro _ rfl; refine withP_cons rfl rfl ?_; rintro _ rfl; refine withP_nil rfl ?_; refine XO.guardF rfl rfl (decide_eq_false h6) rfl rfl ?_; refine XO.nil ?_; exact stepQN_ok rfl trivial (rfl)
      refine stepsH_cons rfl ?_ ?_
      ·intro X ext HD hleD _
       replace hs := hs.mono hleD; replace hpY := hpY.mono hleD; replace hle0 := hle0.trans hleD; refine withP_cons rfl rfl ?_; rintro _ rfl; refine withP_nil rfl ?_; refine XO.guardF rfl rfl (decide_eq_false h6) rfl rfl ?_; refine XO.nil ?_; exact stepQN_ok rfl trivial (rfl)
      refine stepsH_cons rfl ?_ ?_
      ·intro X ext HD hleD _
       replace hs := hs.mono hleD; replace hpY := hpY.mono hleD; replace hle0 := hle0.trans hleD; refine withP_cons rfl rfl ?_; rintro _ rfl; refine withP_nil rfl ?_; refine XO.guardF rfl rfl (decide_eq_false h6) rfl rfl ?_; refine XO.nil ?_; exact stepQN_ok rfl trivial (rfl)
      refine stepsH_cons rfl ?_ ?_
      ·intro X ext HD hleD _
       replace hs := hs.mono hleD; replace hpY := hpY.mono hleD; replace hle0 := hle0.trans hleD; refine withP_cons rfl rfl ?_; rintro _ rfl; refine withP_cons rfl rfl ?_; rintro _ rfl; refine withP_cons rfl rfl ?_; rintro _ rfl; refine withP_nil rfl ?_; refine XO.guardF rfl rfl (decide_eq_false h6) rfl rfl ?_; refine XO.nil ?_; exact stepQN_ok rfl trivial (rfl)
      refine stepsH_cons rfl ?_ ?_
      ·intro X ext HD hleD _
       replace hs := hs.mono hleD; replace hpY := hpY.mono hleD; replace hle0 := hle0.trans hleD; refine withP_cons rfl rfl ?_; rintro _ rfl; refine withP_cons rfl rfl ?_; rintro _ rfl; refine withP_nil rfl ?_; refine XO.guardF rfl rfl (decide_eq_false h6) rfl rfl ?_; refine XO.nil ?_; exact stepQN_ok rfl trivial (rfl)
      refine stepsH_cons rfl ?_ ?_
      ·intro X ext HD hleD _
       replace hs := hs.mono hleD; replace hpY := hpY.mono hleD; replace hle0 := hle0.trans hleD; refine withP_cons rfl rfl ?_; rintro _ rfl; refine withP_cons rfl rfl ?_; rintro _ rfl; refine withP_nil rfl ?_; refine XO.guardF rfl rfl (decide_eq_false h6) rfl rfl ?_; refine XO.nil ?_; exact stepQN_ok rfl trivial (rfl)
      exact stepsH_end rfl
     case tail13 =>
      intro HD hleD _
      replace hs := hs.mono hleD; replace hpY := hpY.mono hleD; replace hle0 := hle0.trans hleD; refine withP_cons rfl rfl ?_; rintro _ rfl; refine withP_cons rfl rfl ?_; rintro _ rfl; refine withP_cons rfl rfl ?_; rintro _ rfl; refine withP_cons rfl rfl ?_; rintro _ rfl; refine withP_cons rfl rfl ?_; rintro _ rfl; refine withP_cons rfl rfl ?_; rintro _ rfl; refine withP_cons rfl rfl ?_; rintro _ rfl; refine withP_cons rfl rfl ?_; rintro _ rfl; refine withP_cons rfl rfl ?_; rintro _ rfl; refine withP_cons rfl rfl ?_; rintro _ rfl; refine withP_cons rfl rfl ?_; rintro _ rfl; refine withP_cons rfl rfl ?_; rintro _ rfl; refine withP_cons rfl rfl ?_; rintro _ rfl; refine withP_cons rfl rfl ?_; rintro _ rfl; refine withP_cons rfl rfl ?_; rintro _ rfl; refine withP_cons rfl rfl ?_; rintro _ rfl; refine withP_cons rfl rfl ?_; rintro _ rfl; refine withP_cons rfl rfl ?_; rintro _ rfl; refine withP_cons rfl rfl ?_; rintro _ rfl; refine withP_cons rfl rfl ?_; rintro _ rfl; refine withP_cons rfl rfl ?_; rintro _ rfl; refine withP_nil rfl ?_; refine withEnts_nil ?_; refine XO.guardF rfl rfl (decide_eq_false h6) rfl rfl ?_; refine XO.guardT rfl rfl (decide_eq_false h5) rfl ?_; refine XO.pickF rfl (decide_eq_false h6) rfl rfl ?_; refine XO.pickF rfl (decide_eq_false h5) rfl rfl ?_; refine XO.nil ?_; refine XC.seq2 ?_; refine XC.condF rfl (rfl) ?_; refine XC.skip ?_; refine blockN ?_; refine XC.seq2 ?_; refine XC.region ?_; refine XO.move rfl rfl ?_; refine XO.add rfl rfl (wrap_i64 (by omega) (by omega)) rfl ?_; refine XO.assign rfl rfl ?_; refine XO.nil ?_; refine loop_next (k + 1) (by show l.length - (k + 1) < l.length - k; omega) (prov_cons (rfl) (prov_cons (rfl) prov_nil)) (⟨by show k + 1 ≤ l.length; omega, rfl, (by have h3 := ok_y hF hxX (Decidable.not_not.1 h5) (by first | (rw [last_at (by omega) hxP]; omega) | (unfold lastN; rw [if_pos (by omega)]; omega)); rw [h3, last_s hxX])⟩) (by repeat (first | exact List.Sublist.refl _ | apply List.Sublist.cons_cons | apply List.Sublist.cons)) (hle0)
  ·obtain rfl : k = l.length := by omega
   rw [List.drop_length] at hF
   refine XC.exit ?_; refine seqX_exit ?_; refine loopX_exit ?_; refine blockHit rfl ?_; refine XC.seq2 ?_; refine XC.seq ?_; refine XC.region ?_; refine XO.assign rfl rfl ?_; refine XO.nil ?_; refine XC.seq2 ?_; refine XC.ret ?_; refine ⟨rfl, _, [], rfl, (by repeat (first | exact List.Sublist.refl _ | apply List.Sublist.cons)), RetR.mk ?_⟩
   first | exact congrArg (Value.int .i64) (chk_2 (by omega)).symm | exact congrArg (Value.int .i64) (chk_270 (by omega) (ok_n hF hxX (fun h => by first | exact absurd h.1 (by assumption) | (have h4 := h.2; rw [last_at (by omega) hxP] at h4; omega)))).symm | exact congrArg (Value.int .i64) (chk_0 (by omega) (by rw [hF]; rfl)).symm

theorem err_fn (a : Option Addr) (c : Nat) (l : Fs) (H : Hp) (hs : SlR faR H a c l) (hl : l.length < 9223372036854775808) (x y day time : Int) : FnC Try.prog 25 #[.slice a l.length c, .int .i64 x, .int .i64 y, .int .i64 day, .int .i64 time] H [] (RetR (fun v _ _ => v = .int .i64 (errC l x y day time))) := by
 refine FnC.intro (args := [.slice a l.length c, .int .i64 x, .int .i64 y, .int .i64 day, .int .i64 time]) Try.func25 rfl rfl Try.ntmps25 rfl rfl rfl fun G rest => ?_
 refine XC.seq ?_; refine XC.region ?_; refine XO.assign rfl rfl ?_; refine XO.nil ?_; refine XC.seq2 ?_; refine XC.seq ?_; refine XC.seq ?_; refine XC.region ?_; refine XO.move rfl rfl ?_; refine XO.callV rfl (check_fn _ _ l _ hs hl) rfl ?_; refine XO.assign rfl rfl ?_; refine XO.nil ?_; refine XC.seq2 ?_; refine XC.seq ?_; refine XC.region ?_; refine XO.move rfl rfl ?_; refine XO.neq rfl rfl rfl ?_; refine XO.nil ?_; refine XC.seq2 ?_; refine XC.cond rfl (fun c0_2 => ?_) (fun c0_2 => ?_)
 ·refine XC.seq ?_; refine XC.region ?_; refine XO.move rfl rfl ?_; refine XO.assign rfl rfl ?_; refine XO.nil ?_; refine XC.seq2 ?_; refine XC.ret ?_; refine seqX_ret ?_; refine ⟨rfl, _, [], rfl, (by repeat (first | exact List.Sublist.refl _ | apply List.Sublist.cons)), RetR.mk ?_⟩
  first | exact congrArg (Value.int .i64) (err_chk (by assumption)) | exact congrArg (Value.int .i64) (err_1 (by assumption) (by omega)) | exact congrArg (Value.int .i64) (err_0 (by assumption) (by omega))
 ·refine XC.skip ?_; refine XC.seq2 ?_; refine XC.seq ?_; refine XC.seq ?_; refine XC.region ?_; refine XO.move rfl rfl ?_; refine XO.callV rfl (id_fn x _) rfl ?_; refine XO.not rfl rfl ?_; refine XO.move rfl rfl ?_; refine XO.guardC rfl rfl rfl rfl (fun g4 => ?_) (fun g4 => ?_)
  ·have g4p := of_decide_eq_false g4
   refine XO.move rfl rfl ?_; refine XO.guardT rfl rfl (g4) rfl ?_; refine XO.callV rfl (id_fn y _) rfl ?_; refine XO.guardT rfl rfl (g4) rfl ?_; refine XO.not rfl rfl ?_; refine XO.pickF rfl (g4) rfl rfl ?_; refine XO.move rfl rfl ?_; refine XO.guardC rfl rfl rfl rfl (fun g6 => ?_) (fun g6 => ?_)
   ·have g6p := of_decide_eq_false g6
    refine XO.move rfl rfl ?_; refine XO.guardT rfl rfl (g6) rfl ?_; refine XO.lss rfl rfl rfl ?_; refine XO.pickF rfl (g6) rfl rfl ?_; refine XO.move rfl rfl ?_; refine XO.guardC rfl rfl rfl rfl (fun g7 => ?_) (fun g7 => ?_)
    ·have g7p := of_decide_eq_false g7
     refine XO.move rfl rfl ?_; refine XO.guardT rfl rfl (g7) rfl ?_; refine XO.geq rfl rfl rfl ?_; refine XO.pickF rfl (g7) rfl rfl ?_; refine XO.move rfl rfl ?_; refine XO.guardC rfl rfl rfl rfl (fun g8 => ?_) (fun g8 => ?_)
     ·have g8p := of_decide_eq_false g8
      refine XO.move rfl rfl ?_; refine XO.guardT rfl rfl (g8) rfl ?_; refine XO.lss rfl rfl rfl ?_; refine XO.pickF rfl (g8) rfl rfl ?_; refine XO.move rfl rfl ?_; refine XO.guardC rfl rfl rfl rfl (fun g9 => ?_) (fun g9 => ?_)
      ·have g9p := of_decide_eq_false g9
       refine XO.move rfl rfl ?_; refine XO.guardT rfl rfl (g9) rfl ?_; refine XO.geq rfl rfl rfl ?_; refine XO.pickF rfl (g9) rfl rfl ?_; refine XO.nil ?_; refine XC.seq2 ?_; refine XC.cond rfl (fun c1_10 => ?_) (fun c1_10 => ?_)
       ·refine XC.seq ?_; refine XC.region ?_; refine XO.assign rfl rfl ?_; refine XO.nil ?_; refine XC.seq2 ?_; refine XC.ret ?_; refine seqX_ret ?_; refine ⟨rfl, _, [], rfl, (by repeat (first | exact List.Sublist.refl _ | apply List.Sublist.cons)), RetR.mk ?_⟩
        first | exact congrArg (Value.int .i64) (err_chk (by assumption)) | exact congrArg (Value.int .i64) (err_1 (by assumption) (by omega)) | exact congrArg (Value.int .i64) (err_0 (by assumption) (by omega))
       ·refine XC.skip ?_; refine XC.seq2 ?_; refine XC.seq ?_; refine XC.region ?_; refine XO.assign rfl rfl ?_; refine XO.nil ?_; refine XC.seq2 ?_; refine XC.ret ?_; refine ⟨rfl, _, [], rfl, (by repeat (first | exact List.Sublist.refl _ | apply List.Sublist.cons)), RetR.mk ?_⟩
        first | exact congrArg (Value.int .i64) (err_chk (by assumption)) | exact congrArg (Value.int .i64) (err_1 (by assumption) (by omega)) | exact congrArg (Value.int .i64) (err_0 (by assumption) (by omega))
      ·have g9p := of_decide_eq_true g9
       refine XO.guardF rfl rfl (g9) rfl rfl ?_; refine XO.pickT rfl (g9) rfl rfl ?_; refine XO.nil ?_; refine XC.seq2 ?_; refine XC.condT rfl (rfl) ?_; refine XC.seq ?_; refine XC.region ?_; refine XO.assign rfl rfl ?_; refine XO.nil ?_; refine XC.seq2 ?_; refine XC.ret ?_; refine seqX_ret ?_; refine ⟨rfl, _, [], rfl, (by repeat (first | exact List.Sublist.refl _ | apply List.Sublist.cons)), RetR.mk ?_⟩
       first | exact congrArg (Value.int .i64) (err_chk (by assumption)) | exact congrArg (Value.int .i64) (err_1 (by assumption) (by omega)) | exact congrArg (Value.int .i64) (err_0 (by assumption) (by omega))
     ·have g8p := of_decide_eq_true g8
      refine XO.guardF rfl rfl (g8) rfl rfl ?_; refine XO.pickT rfl (g8) rfl rfl ?_; refine XO.move rfl rfl ?_; refine XO.guardF rfl rfl (rfl) rfl rfl ?_; refine XO.guardF rfl rfl (rfl) rfl rfl ?_; refine XO.pickT rfl (rfl) rfl rfl ?_; refine XO.nil ?_; refine XC.seq2 ?_; refine XC.condT rfl (rfl) ?_; refine XC.seq ?_; refine XC.region ?_; refine XO.assign rfl rfl ?_; refine XO.nil ?_; refine XC.seq2 ?_; refine XC.ret ?_; refine seqX_ret ?_; refine ⟨rfl, _, [], rfl, (by repeat (first | exact List.Sublist.refl _ | apply List.Sublist.cons)), RetR.mk ?_⟩
      first | exact congrArg (Value.int .i64) (err_chk (by assumption)) | exact congrArg (Value.int .i64) (err_1 (by assumption) (by omega)) | exact congrArg (Value.int .i64) (err_0 (by assumption) (by omega))
    ·have g7p := of_decide_eq_true g7
     refine XO.guardF rfl rfl (g7) rfl rfl ?_; refine XO.pickT rfl (g7) rfl rfl ?_; refine XO.move rfl rfl ?_; refine XO.guardF rfl rfl (rfl) rfl rfl ?_; refine XO.guardF rfl rfl (rfl) rfl rfl ?_; refine XO.pickT rfl (rfl) rfl rfl ?_; refine XO.move rfl rfl ?_; refine XO.guardF rfl rfl (rfl) rfl rfl ?_; refine XO.guardF rfl rfl (rfl) rfl rfl ?_; refine XO.pickT rfl (rfl) rfl rfl ?_; refine XO.nil ?_; refine XC.seq2 ?_; refine XC.condT rfl (rfl) ?_; refine XC.seq ?_; refine XC.region ?_; refine XO.assign rfl rfl ?_; refine XO.nil ?_; refine XC.seq2 ?_; refine XC.ret ?_; refine seqX_ret ?_; refine ⟨rfl, _, [], rfl, (by repeat (first | exact List.Sublist.refl _ | apply List.Sublist.cons)), RetR.mk ?_⟩
     first | exact congrArg (Value.int .i64) (err_chk (by assumption)) | exact congrArg (Value.int .i64) (err_1 (by assumption) (by omega)) | exact congrArg (Value.int .i64) (err_0 (by assumption) (by omega))
   ·have g6p := of_decide_eq_true g6
    refine XO.guardF rfl rfl (g6) rfl rfl ?_; refine XO.pickT rfl (g6) rfl rfl ?_; refine XO.move rfl rfl ?_; refine XO.guardF rfl rfl (rfl) rfl rfl ?_; refine XO.guardF rfl rfl (rfl) rfl rfl ?_; refine XO.pickT rfl (rfl) rfl rfl ?_; refine XO.move rfl rfl ?_; refine XO.guardF rfl rfl (rfl) rfl rfl ?_; refine XO.guardF rfl rfl (rfl) rfl rfl ?_; refine XO.pickT rfl (rfl) rfl rfl ?_; refine XO.move rfl rfl ?_; refine XO.guardF rfl rfl (rfl) rfl rfl ?_; refine XO.guardF rfl rfl (rfl) rfl rfl ?_; refine XO.pickT rfl (rfl) rfl rfl ?_; refine XO.nil ?_; refine XC.seq2 ?_; refine XC.condT rfl (rfl) ?_; refine XC.seq ?_; refine XC.region ?_; refine XO.assign rfl rfl ?_; refine XO.nil ?_; refine XC.seq2 ?_; refine XC.ret ?_; refine seqX_ret ?_; refine ⟨rfl, _, [], rfl, (by repeat (first | exact List.Sublist.refl _ | apply List.Sublist.cons)), RetR.mk ?_⟩
    first | exact congrArg (Value.int .i64) (err_chk (by assumption)) | exact congrArg (Value.int .i64) (err_1 (by assumption) (by omega)) | exact congrArg (Value.int .i64) (err_0 (by assumption) (by omega))
  ·have g4p := of_decide_eq_true g4
   refine XO.guardF rfl rfl (g4) rfl rfl ?_; refine XO.guardF rfl rfl (g4) rfl rfl ?_; refine XO.pickT rfl (g4) rfl rfl ?_; refine XO.move rfl rfl ?_; refine XO.guardF rfl rfl (rfl) rfl rfl ?_; refine XO.guardF rfl rfl (rfl) rfl rfl ?_; refine XO.pickT rfl (rfl) rfl rfl ?_; refine XO.move rfl rfl ?_; refine XO.guardF rfl rfl (rfl) rfl rfl ?_; refine XO.guardF rfl rfl (rfl) rfl rfl ?_; refine XO.pickT rfl (rfl) rfl rfl ?_; refine XO.move rfl rfl ?_; refine XO.guardF rfl rfl (rfl) rfl rfl ?_; refine XO.guardF rfl rfl (rfl) rfl rfl ?_; refine XO.pickT rfl (rfl) rfl rfl ?_; refine XO.move rfl rfl ?_; refine XO.guardF rfl rfl (rfl) rfl rfl ?_; refine XO.guardF rfl rfl (rfl) rfl rfl ?_; refine XO.pickT rfl (rfl) rfl rfl ?_; refine XO.nil ?_; refine XC.seq2 ?_; refine XC.condT rfl (rfl) ?_; refine XC.seq ?_; refine XC.region ?_; refine XO.assign rfl rfl ?_; refine XO.nil ?_; refine XC.seq2 ?_; refine XC.ret ?_; refine seqX_ret ?_; refine ⟨rfl, _, [], rfl, (by repeat (first | exact List.Sublist.refl _ | apply List.Sublist.cons)), RetR.mk ?_⟩
   first | exact congrArg (Value.int .i64) (err_chk (by assumption)) | exact congrArg (Value.int .i64) (err_1 (by assumption) (by omega)) | exact congrArg (Value.int .i64) (err_0 (by assumption) (by omega))

theorem rerr_fn (a : Option Addr) (c : Nat) (l : Fs) (H : Hp) (hs : SlR faR H a c l) (hl : l.length < 9223372036854775808) (x y day time : Int) : FnC Try.prog 28 #[.slice a l.length c, .int .i64 x, .int .i64 y, .int .i64 day, .int .i64 time] H [] (RetR (fun v _ _ => v = .int .i64 (errC l x y day time))) := by
 refine FnC.intro (args := [.slice a l.length c, .int .i64 x, .int .i64 y, .int .i64 day, .int .i64 time]) Try.func28 rfl rfl Try.ntmps28 rfl rfl rfl fun G rest => ?_
 refine XC.seq ?_; refine XC.region ?_; refine XO.assign rfl rfl ?_; refine XO.nil ?_; refine XC.seq2 ?_; refine XC.seq ?_; refine XC.region ?_; refine XO.move rfl rfl ?_; refine XO.callV rfl (rcheck_fn _ _ l _ hs hl) rfl ?_; refine XO.assign rfl rfl ?_; refine XO.nil ?_; refine XC.seq2 ?_; refine XC.seq ?_; refine XC.seq ?_; refine XC.region ?_; refine XO.move rfl rfl ?_; refine XO.neq rfl rfl rfl ?_; refine XO.nil ?_; refine XC.seq2 ?_; refine XC.cond rfl (fun c0_2 => ?_) (fun c0_2 => ?_)
 ·refine XC.seq ?_; refine XC.region ?_; refine XO.move rfl rfl ?_; refine XO.assign rfl rfl ?_; refine XO.nil ?_; refine XC.seq2 ?_; refine XC.ret ?_; refine seqX_ret ?_; refine ⟨rfl, _, [], rfl, (by repeat (first | exact List.Sublist.refl _ | apply List.Sublist.cons)), RetR.mk ?_⟩
  first | exact congrArg (Value.int .i64) (err_chk (by assumption)) | exact congrArg (Value.int .i64) (err_1 (by assumption) (by omega)) | exact congrArg (Value.int .i64) (err_0 (by assumption) (by omega))
 ·refine XC.skip ?_; refine XC.seq2 ?_; refine XC.seq ?_; refine XC.seq ?_; refine XC.region ?_; refine XO.move rfl rfl ?_; refine XO.callV rfl (rid_fn x _) rfl ?_; refine XO.not rfl rfl ?_; refine XO.move rfl rfl ?_; refine XO.guardC rfl rfl rfl rfl (fun g4 => ?_) (fun g4 => ?_)
  ·have g4p := of_decide_eq_false g4
   refine XO.move rfl rfl ?_; refine XO.guardT rfl rfl (g4) rfl ?_; refine XO.callV rfl (rid_fn y _) rfl ?_; refine XO.guardT rfl rfl (g4) rfl ?_; refine XO.not rfl rfl ?_; refine XO.pickF rfl (g4) rfl rfl ?_; refine XO.move rfl rfl ?_; refine XO.guardC rfl rfl rfl rfl (fun g6 => ?_) (fun g6 => ?_)
   ·have g6p := of_decide_eq_false g6
    refine XO.move rfl rfl ?_; refine XO.guardT rfl rfl (g6) rfl ?_; refine XO.lss rfl rfl rfl ?_; refine XO.pickF rfl (g6) rfl rfl ?_; refine XO.move rfl rfl ?_; refine XO.guardC rfl rfl rfl rfl (fun g7 => ?_) (fun g7 => ?_)
    ·have g7p := of_decide_eq_false g7
     refine XO.move rfl rfl ?_; refine XO.guardT rfl rfl (g7) rfl ?_; refine XO.geq rfl rfl rfl ?_; refine XO.pickF rfl (g7) rfl rfl ?_; refine XO.move rfl rfl ?_; refine XO.guardC rfl rfl rfl rfl (fun g8 => ?_) (fun g8 => ?_)
     ·have g8p := of_decide_eq_false g8
      refine XO.move rfl rfl ?_; refine XO.guardT rfl rfl (g8) rfl ?_; refine XO.lss rfl rfl rfl ?_; refine XO.pickF rfl (g8) rfl rfl ?_; refine XO.move rfl rfl ?_; refine XO.guardC rfl rfl rfl rfl (fun g9 => ?_) (fun g9 => ?_)
      ·have g9p := of_decide_eq_false g9
       refine XO.move rfl rfl ?_; refine XO.guardT rfl rfl (g9) rfl ?_; refine XO.geq rfl rfl rfl ?_; refine XO.pickF rfl (g9) rfl rfl ?_; refine XO.nil ?_; refine XC.seq2 ?_; refine XC.cond rfl (fun c1_10 => ?_) (fun c1_10 => ?_)
       ·refine XC.seq ?_; refine XC.region ?_; refine XO.assign rfl rfl ?_; refine XO.nil ?_; refine XC.seq2 ?_; refine XC.ret ?_; refine seqX_ret ?_; refine ⟨rfl, _, [], rfl, (by repeat (first | exact List.Sublist.refl _ | apply List.Sublist.cons)), RetR.mk ?_⟩
        first | exact congrArg (Value.int .i64) (err_chk (by assumption)) | exact congrArg (Value.int .i64) (err_1 (by assumption) (by omega)) | exact congrArg (Value.int .i64) (err_0 (by assumption) (by omega))
       ·refine XC.skip ?_; refine XC.seq2 ?_; refine XC.seq ?_; refine XC.region ?_; refine XO.assign rfl rfl ?_; refine XO.nil ?_; refine XC.seq2 ?_; refine XC.ret ?_; refine ⟨rfl, _, [], rfl, (by repeat (first | exact List.Sublist.refl _ | apply List.Sublist.cons)), RetR.mk ?_⟩
        first | exact congrArg (Value.int .i64) (err_chk (by assumption)) | exact congrArg (Value.int .i64) (err_1 (by assumption) (by omega)) | exact congrArg (Value.int .i64) (err_0 (by assumption) (by omega))
      ·have g9p := of_decide_eq_true g9
       refine XO.guardF rfl rfl (g9) rfl rfl ?_; refine XO.pickT rfl (g9) rfl rfl ?_; refine XO.nil ?_; refine XC.seq2 ?_; refine XC.condT rfl (rfl) ?_; refine XC.seq ?_; refine XC.region ?_; refine XO.assign rfl rfl ?_; refine XO.nil ?_; refine XC.seq2 ?_; refine XC.ret ?_; refine seqX_ret ?_; refine ⟨rfl, _, [], rfl, (by repeat (first | exact List.Sublist.refl _ | apply List.Sublist.cons)), RetR.mk ?_⟩
       first | exact congrArg (Value.int .i64) (err_chk (by assumption)) | exact congrArg (Value.int .i64) (err_1 (by assumption) (by omega)) | exact congrArg (Value.int .i64) (err_0 (by assumption) (by omega))
     ·have g8p := of_decide_eq_true g8
      refine XO.guardF rfl rfl (g8) rfl rfl ?_; refine XO.pickT rfl (g8) rfl rfl ?_; refine XO.move rfl rfl ?_; refine XO.guardF rfl rfl (rfl) rfl rfl ?_; refine XO.guardF rfl rfl (rfl) rfl rfl ?_; refine XO.pickT rfl (rfl) rfl rfl ?_; refine XO.nil ?_; refine XC.seq2 ?_; refine XC.condT rfl (rfl) ?_; refine XC.seq ?_; refine XC.region ?_; refine XO.assign rfl rfl ?_; refine XO.nil ?_; refine XC.seq2 ?_; refine XC.ret ?_; refine seqX_ret ?_; refine ⟨rfl, _, [], rfl, (by repeat (first | exact List.Sublist.refl _ | apply List.Sublist.cons)), RetR.mk ?_⟩
      first | exact congrArg (Value.int .i64) (err_chk (by assumption)) | exact congrArg (Value.int .i64) (err_1 (by assumption) (by omega)) | exact congrArg (Value.int .i64) (err_0 (by assumption) (by omega))
    ·have g7p := of_decide_eq_true g7
     refine XO.guardF rfl rfl (g7) rfl rfl ?_; refine XO.pickT rfl (g7) rfl rfl ?_; refine XO.move rfl rfl ?_; refine XO.guardF rfl rfl (rfl) rfl rfl ?_; refine XO.guardF rfl rfl (rfl) rfl rfl ?_; refine XO.pickT rfl (rfl) rfl rfl ?_; refine XO.move rfl rfl ?_; refine XO.guardF rfl rfl (rfl) rfl rfl ?_; refine XO.guardF rfl rfl (rfl) rfl rfl ?_; refine XO.pickT rfl (rfl) rfl rfl ?_; refine XO.nil ?_; refine XC.seq2 ?_; refine XC.condT rfl (rfl) ?_; refine XC.seq ?_; refine XC.region ?_; refine XO.assign rfl rfl ?_; refine XO.nil ?_; refine XC.seq2 ?_; refine XC.ret ?_; refine seqX_ret ?_; refine ⟨rfl, _, [], rfl, (by repeat (first | exact List.Sublist.refl _ | apply List.Sublist.cons)), RetR.mk ?_⟩
     first | exact congrArg (Value.int .i64) (err_chk (by assumption)) | exact congrArg (Value.int .i64) (err_1 (by assumption) (by omega)) | exact congrArg (Value.int .i64) (err_0 (by assumption) (by omega))
   ·have g6p := of_decide_eq_true g6
    refine XO.guardF rfl rfl (g6) rfl rfl ?_; refine XO.pickT rfl (g6) rfl rfl ?_; refine XO.move rfl rfl ?_; refine XO.guardF rfl rfl (rfl) rfl rfl ?_; refine XO.guardF rfl rfl (rfl) rfl rfl ?_; refine XO.pickT rfl (rfl) rfl rfl ?_; refine XO.move rfl rfl ?_; refine XO.guardF rfl rfl (rfl) rfl rfl ?_; refine XO.guardF rfl rfl (rfl) rfl rfl ?_; refine XO.pickT rfl (rfl) rfl rfl ?_; refine XO.move rfl rfl ?_; refine XO.guardF rfl rfl (rfl) rfl rfl ?_; refine XO.guardF rfl rfl (rfl) rfl rfl ?_; refine XO.pickT rfl (rfl) rfl rfl ?_; refine XO.nil ?_; refine XC.seq2 ?_; refine XC.condT rfl (rfl) ?_; refine XC.seq ?_; refine XC.region ?_; refine XO.assign rfl rfl ?_; refine XO.nil ?_; refine XC.seq2 ?_; refine XC.ret ?_; refine seqX_ret ?_; refine ⟨rfl, _, [], rfl, (by repeat (first | exact List.Sublist.refl _ | apply List.Sublist.cons)), RetR.mk ?_⟩
    first | exact congrArg (Value.int .i64) (err_chk (by assumption)) | exact congrArg (Value.int .i64) (err_1 (by assumption) (by omega)) | exact congrArg (Value.int .i64) (err_0 (by assumption) (by omega))
  ·have g4p := of_decide_eq_true g4
   refine XO.guardF rfl rfl (g4) rfl rfl ?_; refine XO.guardF rfl rfl (g4) rfl rfl ?_; refine XO.pickT rfl (g4) rfl rfl ?_; refine XO.move rfl rfl ?_; refine XO.guardF rfl rfl (rfl) rfl rfl ?_; refine XO.guardF rfl rfl (rfl) rfl rfl ?_; refine XO.pickT rfl (rfl) rfl rfl ?_; refine XO.move rfl rfl ?_; refine XO.guardF rfl rfl (rfl) rfl rfl ?_; refine XO.guardF rfl rfl (rfl) rfl rfl ?_; refine XO.pickT rfl (rfl) rfl rfl ?_; refine XO.move rfl rfl ?_; refine XO.guardF rfl rfl (rfl) rfl rfl ?_; refine XO.guardF rfl rfl (rfl) rfl rfl ?_; refine XO.pickT rfl (rfl) rfl rfl ?_; refine XO.move rfl rfl ?_; refine XO.guardF rfl rfl (rfl) rfl rfl ?_; refine XO.guardF rfl rfl (rfl) rfl rfl ?_; refine XO.pickT rfl (rfl) rfl rfl ?_; refine XO.nil ?_; refine XC.seq2 ?_; refine XC.condT rfl (rfl) ?_; refine XC.seq ?_; refine XC.region ?_; refine XO.assign rfl rfl ?_; refine XO.nil ?_; refine XC.seq2 ?_; refine XC.ret ?_; refine seqX_ret ?_; refine ⟨rfl, _, [], rfl, (by repeat (first | exact List.Sublist.refl _ | apply List.Sublist.cons)), RetR.mk ?_⟩
   first | exact congrArg (Value.int .i64) (err_chk (by assumption)) | exact congrArg (Value.int .i64) (err_1 (by assumption) (by omega)) | exact congrArg (Value.int .i64) (err_0 (by assumption) (by omega))

theorem byNo_fn (f : Fa) (n : Int) (H : Hp) : FnC Try.prog 34 #[.agg ⟨faV f⟩, .int .i64 n] H [] (RetR (fun v _ _ => v = .int .i64 (sgn f.No n))) := by
 refine FnC.intro (args := [.agg ⟨faV f⟩, .int .i64 n]) Try.func34 rfl rfl Try.ntmps34 rfl rfl rfl fun G rest => ?_
 refine XC.seq ?_; refine XC.region ?_; refine XO.box rfl rfl rfl (fun b2 => ?_); refine XO.assign rfl rfl ?_; refine XO.nil ?_; refine XC.seq2 ?_; refine XC.seq ?_; refine XC.region ?_; refine XO.fieldAddr rfl fa_41_0 rfl ?_; refine XO.loadO 0 rfl rfl ty_3 rfl rfl rfl ?_; refine XO.move rfl rfl ?_; refine XO.callV rfl (cmp_fn f.No n _) rfl ?_; refine XO.assign rfl rfl ?_; refine XO.nil ?_; refine XC.seq2 ?_; refine XC.ret ?_; refine ⟨rfl, _, [], rfl, (by repeat (first | exact List.Sublist.refl _ | apply List.Sublist.cons)), RetR.mk ?_⟩
 rfl

theorem fact_fn (no kd x y : Int) (H : Hp) : FnC Try.prog 24 #[.int .i64 no, .int .i64 kd, .int .i64 x, .int .i64 y] H [] (RetR (fun v _ _ => v = .agg ⟨faV (Fa.mk no kd x y 0 2097152 0 2097152)⟩)) := by
 refine FnC.introC (args := [.int .i64 no, .int .i64 kd, .int .i64 x, .int .i64 y]) Try.func24 rfl rfl Try.ntmps24 rfl rfl rfl fun G rest => ?_
 refine XC.seq ?_; refine XC.region ?_; refine XO.alloc ze_41 rfl (fun b8 => ?_); refine XO.nil ?_; refine XC.seq2 ?_; refine XC.seq ?_; refine XC.region ?_; refine XO.move rfl rfl ?_; refine XO.move rfl rfl ?_; refine XO.move rfl rfl ?_; refine XO.move rfl rfl ?_; refine XO.build bk_41 bf_41 ze_41 rfl rfl rfl ?_; refine XO.storeO 0 rfl rfl rfl rfl ty_41 rfl rfl rfl rfl rfl ?_; refine XO.nil ?_; refine XC.seq2 ?_; refine XC.ret ?_; refine ⟨rfl, _, [], (resC_cell 0 rfl rfl ty_41 rfl rfl resC_nil), (by repeat (first | exact List.Sublist.refl _ | apply List.Sublist.cons)), RetR.mk ?_⟩
 rfl

end Go.Proofs

/- Conflicts: what proves a conflict, and the search, in plain Lean. -/
set_option autoImplicit false
set_option linter.unusedVariables false
set_option linter.unusedSimpArgs false
namespace Go.Proofs
open Go.XL
def nxt (f : Fa) (z : Int) : Int := if f.A = z then f.B else f.A
theorem nxt_y {f : Fa} {z : Int} (h : f.A = z) : f.B = nxt f z := (if_pos h).symm
theorem nxt_n {f : Fa} {z : Int} (h : ¬ f.A = z) : f.A = nxt f z := (if_neg h).symm
/-- the facts lead on from z to b, and nobody is met twice -/
def relF (b : Int) : Fs → List Int → Int → Bool
 | [], _, z => decide (z = b)
 | f :: t, met, z => if f.K ≠ 3 ∨ (f.A ≠ z ∧ f.B ≠ z) ∨ nxt f z ∈ met then false else relF b t (met ++ [nxt f z]) (nxt f z)
theorem rel_no {b z : Int} {f : Fa} {t : Fs} {met : List Int} (h : f.K ≠ 3 ∨ (f.A ≠ z ∧ f.B ≠ z) ∨ nxt f z ∈ met) : false = relF b (f :: t) met z := by rw [relF, if_pos h]
theorem rel_yes {b z : Int} {f : Fa} {t : Fs} {met : List Int} (h : f.K = 3) (h2 : ¬ (f.A ≠ z ∧ f.B ≠ z)) (h3 : ¬ nxt f z ∈ met) : relF b t (met ++ [nxt f z]) (nxt f z) = relF b (f :: t) met z := by
 rw [relF, if_neg]; rintro (h4 | h4 | h4)
 ·exact h4 h
 ·exact h2 h4
 ·exact h3 h4
def allS {α β : Type} (f : α → Option β) : List α → Option (List β)
  | [] => some []
  | x :: r => match f x with
    | none => none
    | some y => match allS f r with
      | none => none
      | some z => some (y :: z)
theorem allS_snoc {α β : Type} {f : α → Option β} : ∀ {l : List α} {m : List β} {x : α} {y : β}, allS f l = some m → f x = some y → allS f (l ++ [x]) = some (m ++ [y])
  | [], m, x, y, h, hx => by simp [allS] at h; subst h; simp [allS, hx]
  | z :: r, m, x, y, h, hx => by
    rw [allS] at h
    rw [List.cons_append, allS]
    cases hz : f z with
    | none => rw [hz] at h; cases h
    | some u =>
      rw [hz] at h; simp only at h ⊢
      cases hr : allS f r with
      | none => rw [hr] at h; cases h
      | some v =>
        rw [hr] at h; simp only [Option.some.injEq] at h; subst h
        rw [allS_snoc hr hx]; rfl
theorem allS_none {α β : Type} {f : α → Option β} : ∀ {l : List α} {x : α}, x ∈ l → f x = none → allS f l = none
  | z :: r, x, hx, h => by
    rw [allS]
    rcases List.mem_cons.1 hx with rfl | hx
    · rw [h]
    · rw [allS_none hx h]; cases f z <;> rfl
theorem allS_len {α β : Type} {f : α → Option β} : ∀ {l : List α} {m : List β}, allS f l = some m → m.length = l.length
  | [], m, h => by simp [allS] at h; subst h; rfl
  | z :: r, m, h => by
    rw [allS] at h
    cases hz : f z with
    | none => rw [hz] at h; cases h
    | some u =>
      rw [hz] at h; simp only at h
      cases hr : allS f r with
      | none => rw [hr] at h; cases h
      | some v => rw [hr] at h; simp only [Option.some.injEq] at h; subst h; simp [allS_len hr]
/-- a slice without room -/
def slCap {α : Type} (ρ : Rep α) (l : List α) : Value → Hp → Prop := fun v H => ∃ a c, v = .slice a l.length c ∧ SlR ρ H a c l ∧ c ≤ l.length
theorem slCap_mono {α : Type} (ρ : Rep α) (l : List α) : ∀ v H H', Le H H' → slCap ρ l v H → slCap ρ l v H' := fun _ _ _ hle ⟨a, c, h1, h2, h3⟩ => ⟨a, c, h1, h2.mono hle, h3⟩
/-- some facts prove a conflict -/
def prvB (fs : Fs) (a b : Int) : Bool :=
 if fs.length = 0 ∨ a = b then decide (fs.length = 0 ∧ a = b) else
 if fs.length = 1 then (match fs[0]? with | some f => decide (f.K ≠ 1 ∧ joinP f a b) | none => false) else
 if fs.length = 2 ∧ ((fs[0]?.map Fa.K) = some 1 ∧ (fs[1]?.map Fa.K) = some 1) then decide ((fs[0]?.map Fa.A) = some a ∧ (fs[1]?.map Fa.A) = some b ∧ (fs[0]?.map Fa.B) = (fs[1]?.map Fa.B)) else
 relF b fs [a] a
def prvF (l : Fs) (a b : Int) (p : List Int) : Bool := match allS (findN l) p with
 | none => false
 | some fs => prvB fs a b
end Go.Proofs
