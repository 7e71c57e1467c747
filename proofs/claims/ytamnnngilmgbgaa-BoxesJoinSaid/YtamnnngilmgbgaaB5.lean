/- The walks of the functions of boxes: what each of them computes, at any input. -/
import Derived.Test.YtamnnngilmgbgaaB4
set_option maxRecDepth 100000
set_option autoImplicit false
set_option linter.unusedVariables false
set_option linter.unusedSimpArgs false
namespace Go.Proofs
open Go.XL

theorem eg_25 : Try.prog.eqGuardType Try.prog.depth 25 = false := by kernel_rfl
theorem fa_27_0 : fieldF Try.prog 27 0 = some 0 := by kernel_rfl
theorem fa_27_1 : fieldF Try.prog 27 1 = some 1 := by kernel_rfl
theorem fa_27_2 : fieldF Try.prog 27 2 = some 2 := by kernel_rfl
theorem fa_27_3 : fieldF Try.prog 27 3 = some 3 := by kernel_rfl
theorem fa_27_4 : fieldF Try.prog 27 4 = some 4 := by kernel_rfl
theorem ty_23 : tyF Try.prog 23 1 false = true := by kernel_rfl
theorem ty_25 : tyF Try.prog 25 32 true = true := by kernel_rfl
theorem ty_27 : tyF Try.prog 27 36 true = true := by kernel_rfl
theorem ty_32 : tyF Try.prog 32 1 false = true := by kernel_rfl
theorem ty_55 : tyF Try.prog 55 3 true = true := by kernel_rfl
theorem ze_32 : zeroC Try.prog 32 = some [.int .i64 0] := by kernel_rfl
theorem ze_55 : zeroC Try.prog 55 = some [.int .i64 0, .int .i64 0, .int .i64 0] := by kernel_rfl

theorem within_fn (n m : Int) (H : Hp) : FnC Try.prog 51 #[.int .i64 n, .int .i64 m] H [] (RetR (fun v _ _ => v = .bool (decide (0 ≤ n ∧ n ≤ m)))) := by
 refine FnC.intro (args := [.int .i64 n, .int .i64 m]) Try.func51 rfl rfl Try.ntmps51 rfl rfl rfl fun G rest => ?_
 refine XC.seq ?_; refine XC.region ?_; refine XO.assign rfl rfl ?_; refine XO.nil ?_; refine XC.seq2 ?_; refine XC.seq ?_; refine XC.region ?_; refine XO.move rfl rfl ?_; refine XO.geq rfl rfl rfl ?_; refine XO.move rfl rfl ?_; refine XO.guardC rfl rfl rfl rfl (fun g1 => ?_) (fun g1 => ?_)
 ·have g1p := of_decide_eq_true g1
  refine XO.move rfl rfl ?_; refine XO.guardT rfl rfl (g1) rfl ?_; refine XO.move rfl rfl ?_; refine XO.guardT rfl rfl (g1) rfl ?_; refine XO.leq rfl rfl rfl ?_; refine XO.pickT rfl (g1) rfl rfl ?_; refine XO.assign rfl rfl ?_; refine XO.nil ?_; refine XC.seq2 ?_; refine XC.ret ?_; refine ⟨rfl, _, [], rfl, (by repeat (first | exact List.Sublist.refl _ | apply List.Sublist.cons)), RetR.mk ?_⟩
  first | rfl | exact congrArg Value.bool (decide_eq_decide.2 (by omega)) | exact congrArg Value.bool (decide_eq_false (by omega)).symm | exact congrArg Value.bool (decide_eq_true (by omega)).symm
 ·have g1p := of_decide_eq_false g1
  refine XO.guardF rfl rfl (g1) rfl rfl ?_; refine XO.guardF rfl rfl (g1) rfl rfl ?_; refine XO.pickF rfl (g1) rfl rfl ?_; refine XO.assign rfl rfl ?_; refine XO.nil ?_; refine XC.seq2 ?_; refine XC.ret ?_; refine ⟨rfl, _, [], rfl, (by repeat (first | exact List.Sublist.refl _ | apply List.Sublist.cons)), RetR.mk ?_⟩
  first | rfl | exact congrArg Value.bool (decide_eq_decide.2 (by omega)) | exact congrArg Value.bool (decide_eq_false (by omega)).symm | exact congrArg Value.bool (decide_eq_true (by omega)).symm

theorem out_fn (n m : Int) (b : Nat) (H : Hp) (hp : PtH H b 0 [.int .i64 m]) : FnC Try.prog 52 #[.int .i64 n, .pointer (some ⟨b, 0, none⟩)] H [] (RetR (fun v _ _ => v = .bool (decide (¬ (0 ≤ n ∧ n ≤ m))))) := by
 refine FnC.intro (args := [.int .i64 n, .pointer (some ⟨b, 0, none⟩)]) Try.func52 rfl rfl Try.ntmps52 rfl rfl rfl fun G rest => ?_
 refine XC.seq ?_; refine XC.region ?_; refine XO.assign rfl rfl ?_; refine XO.nil ?_; refine XC.seq2 ?_; refine XC.seq ?_; refine XC.region ?_; refine XO.move rfl rfl ?_; refine XO.loadH rfl (by assumption) ty_3 rfl rfl rfl ?_; refine XO.callV rfl (within_fn n m _) rfl ?_; refine XO.not rfl rfl ?_; refine XO.assign rfl rfl ?_; refine XO.nil ?_; refine XC.seq2 ?_; refine XC.ret ?_; refine ⟨rfl, _, [], rfl, (by repeat (first | exact List.Sublist.refl _ | apply List.Sublist.cons)), RetR.mk ?_⟩
 rfl
theorem out_v (n m : Int) (b : Nat) (H : Hp) (hp : PtH H b 0 [.int .i64 m]) : FnV Try.prog (.func (.func 52) #[] #[.pointer (some ⟨b, 0, none⟩)]) [.int .i64 n] H [] (RetR fun u _ _ => ∃ q : Bool, u = .bool q ∧ (q = true ↔ ¬ (0 ≤ n ∧ n ≤ m))) := by
 refine (FnV.of_fn (cap := [_]) (args := [_]) (out_fn n m b H hp)).mono ?_
 intro e H' o' hle h
 cases e with
 | returned u => exact ⟨_, h, decide_eq_true_iff⟩
 | panicked _ => exact h
 | outgrown => exact h

theorem all_fn (a : Option Addr) (c : Nat) (l : List Int) (H : Hp) (hs : SlR (intR .i64) H a c l) (hl : l.length < 9223372036854775808) (m : Int) : FnC Try.prog 41 #[.slice a l.length c, .int .i64 m] H [] (RetR (fun v _ _ => v = .bool (decide (keysP l m)))) := by
 refine FnC.intro (args := [.slice a l.length c, .int .i64 m]) Try.func41 rfl rfl Try.ntmps41 rfl rfl rfl fun G rest => ?_
 refine XC.seq ?_; refine XC.region ?_; refine XO.box rfl rfl rfl (fun b3 => ?_); refine XO.assign rfl rfl ?_; refine XO.nil ?_; refine XC.seq2 ?_; refine XC.seq ?_; refine XC.region ?_; refine XO.publish 0 rfl rfl rfl (fun HK3 oK3 hleK3 hbK3 hoK3 => ?_)
 have hpK3 := PtH.of_is hbK3 hoK3
 replace hs := hs.mono hleK3; refine XO.makeFunc rfl rfl ?_; refine XO.assign rfl rfl ?_; refine XO.nil ?_; refine XC.seq2 ?_; refine XC.seq ?_; refine XC.region ?_; refine XO.move rfl rfl ?_; refine XO.lenS (ts := #[]) rfl Try.underlying23 rfl ?_; refine XO.sub rfl rfl (wrap_i64 (by omega) (by omega)) rfl ?_; refine XO.callV rfl (within_fn ((l.length : Int) - 1) 63 _) rfl ?_; refine XO.move rfl rfl ?_; refine XO.guardC rfl rfl rfl rfl (fun g2 => ?_) (fun g2 => ?_)
 ·have g2p := of_decide_eq_true g2
  refine XO.move rfl rfl ?_; refine XO.guardT rfl rfl (g2) rfl ?_; refine XO.move rfl rfl ?_; refine XO.guardT rfl rfl (g2) rfl ?_; refine XO.callK rfl (containsF_fn _ _ l _ (fun x => ¬ (0 ≤ x ∧ x ≤ m)) _ hs hl (fun x _ => out_v x m b3 _ hpK3)) rfl ?_; rintro _ ⟨bq, rfl, hbq⟩; refine XO.guardT rfl rfl (g2) rfl ?_; refine XO.notB rfl rfl ?_; refine XO.pickT rfl (g2) rfl rfl ?_; refine XO.assign rfl rfl ?_; refine XO.nil ?_; refine XC.seq2 ?_; refine XC.ret ?_; refine ⟨rfl, _, [], rfl, (by repeat (first | exact List.Sublist.refl _ | apply List.Sublist.cons)), RetR.mk ?_⟩
  first | exact congrArg Value.bool (all_y (by omega) hbq) | exact congrArg Value.bool (all_n (by omega))
 ·have g2p := of_decide_eq_false g2
  refine XO.guardF rfl rfl (g2) rfl rfl ?_; refine XO.guardF rfl rfl (g2) rfl rfl ?_; refine XO.guardF rfl rfl (g2) rfl rfl ?_; refine XO.pickF rfl (g2) rfl rfl ?_; refine XO.assign rfl rfl ?_; refine XO.nil ?_; refine XC.seq2 ?_; refine XC.ret ?_; refine ⟨rfl, _, [], rfl, (by repeat (first | exact List.Sublist.refl _ | apply List.Sublist.cons)), RetR.mk ?_⟩
  first | exact congrArg Value.bool (all_y (by omega) hbq) | exact congrArg Value.bool (all_n (by omega))

theorem need_ok (b : Bool) (hb : b = true) (H : Hp) : FnC Try.prog 40 #[.bool b] H [] (RetR (fun v _ _ => v = .tuple #[])) := by
 refine FnC.intro (args := [.bool b]) Try.func40 rfl rfl Try.ntmps40 rfl rfl rfl fun G rest => ?_
 refine XC.seq ?_; refine XC.region ?_; refine XO.move rfl rfl ?_; refine XO.notB rfl rfl ?_; refine XO.nil ?_; refine XC.seq2 ?_; refine XC.condF rfl (by rw [hb]; rfl) ?_; refine XC.skip ?_; refine ⟨rfl, _, [], rfl, (by repeat (first | exact List.Sublist.refl _ | apply List.Sublist.cons)), RetR.mk ?_⟩
 rfl

theorem need_bad (b : Bool) (hb : b = false) (H : Hp) : FnC Try.prog 40 #[.bool b] H [] (PanR PN) := by
 refine FnC.intro (args := [.bool b]) Try.func40 rfl rfl Try.ntmps40 rfl rfl rfl fun G rest => ?_
 refine XC.seq ?_; refine XC.region ?_; refine XO.move rfl rfl ?_; refine XO.notB rfl rfl ?_; refine XO.nil ?_; refine XC.seq2 ?_; refine XC.condT rfl (by rw [hb]; rfl) ?_; refine XC.region ?_; refine XO.makeInterface rfl Try.underlying32 (by intro _ h; cases h) rfl ?_; refine XO.panic rfl ?_; refine ⟨rfl, [], (by repeat (first | exact List.Sublist.refl _ | apply List.Sublist.cons)), PanR.mk⟩

theorem placed_ok (s : Card) (a : Option Addr) (c : Nat) (H : Hp) (hs : SlR (intR .i64) H a c s.C) (hD : s.D.length = 32) (hp : plcP s) : FnC Try.prog 39 #[.agg ⟨cardV s.R s.E s.J s.C.length s.D a c⟩] H [] (RetR (fun v _ _ => v = .tuple #[])) := by
 refine FnC.intro (args := [.agg ⟨cardV s.R s.E s.J s.C.length s.D a c⟩]) Try.func39 rfl rfl Try.ntmps39 rfl rfl rfl fun G rest => ?_
 refine XC.seq ?_; refine XC.region ?_; refine XO.box rfl rfl rfl (fun b1 => ?_); refine XO.nil ?_; refine XC.seq2 ?_; refine XC.region ?_; refine XO.fieldAddr rfl fa_27_0 rfl ?_; refine XO.loadO 0 rfl rfl ty_3 rfl rfl rfl ?_; refine XO.callV rfl (within_fn s.R 7 _) rfl ?_; refine XO.move rfl rfl ?_; refine XO.guardT rfl rfl (decide_eq_true hp.1.1) rfl ?_; refine XO.fieldAddr rfl fa_27_1 rfl ?_; refine XO.guardT rfl rfl (decide_eq_true hp.1.1) rfl ?_; refine XO.loadO 0 rfl rfl ty_3 rfl rfl rfl ?_; refine XO.guardT rfl rfl (decide_eq_true hp.1.1) rfl ?_; refine XO.callV rfl (within_fn s.E 4095 _) rfl ?_; refine XO.pickT rfl (decide_eq_true hp.1.1) rfl rfl ?_; refine XO.move rfl rfl ?_; refine XO.guardT rfl rfl (decide_eq_true hp.1.2) rfl ?_; refine XO.fieldAddr rfl fa_27_2 rfl ?_; refine XO.guardT rfl rfl (decide_eq_true hp.1.2) rfl ?_; refine XO.loadO 0 rfl rfl ty_3 rfl rfl rfl ?_; refine XO.guardT rfl rfl (decide_eq_true hp.1.2) rfl ?_; refine XO.callV rfl (within_fn s.J 255 _) rfl ?_; refine XO.pickT rfl (decide_eq_true hp.1.2) rfl rfl ?_; refine XO.callV rfl (need_ok _ (decide_eq_true hp.2) _) rfl ?_; refine XO.nil ?_; refine ⟨rfl, _, [], rfl, (by repeat (first | exact List.Sublist.refl _ | apply List.Sublist.cons)), RetR.mk ?_⟩
 rfl

theorem placed_bad (s : Card) (a : Option Addr) (c : Nat) (H : Hp) (hs : SlR (intR .i64) H a c s.C) (hD : s.D.length = 32) (hp : ¬ plcP s) : FnC Try.prog 39 #[.agg ⟨cardV s.R s.E s.J s.C.length s.D a c⟩] H [] (PanR PN) := by
 refine FnC.intro (args := [.agg ⟨cardV s.R s.E s.J s.C.length s.D a c⟩]) Try.func39 rfl rfl Try.ntmps39 rfl rfl rfl fun G rest => ?_
 refine XC.seq ?_; refine XC.region ?_; refine XO.box rfl rfl rfl (fun b1 => ?_); refine XO.nil ?_; refine XC.seq2 ?_; refine XC.region ?_; refine XO.fieldAddr rfl fa_27_0 rfl ?_; refine XO.loadO 0 rfl rfl ty_3 rfl rfl rfl ?_; refine XO.callV rfl (within_fn s.R 7 _) rfl ?_; refine XO.move rfl rfl ?_; refine XO.guardC rfl rfl rfl rfl (fun g2 => ?_) (fun g2 => ?_)
 ·have g2p := of_decide_eq_true g2
  refine XO.fieldAddr rfl fa_27_1 rfl ?_; refine XO.guardT rfl rfl (g2) rfl ?_; refine XO.loadO 0 rfl rfl ty_3 rfl rfl rfl ?_; refine XO.guardT rfl rfl (g2) rfl ?_; refine XO.callV rfl (within_fn s.E 4095 _) rfl ?_; refine XO.pickT rfl (g2) rfl rfl ?_; refine XO.move rfl rfl ?_; refine XO.guardC rfl rfl rfl rfl (fun g4 => ?_) (fun g4 => ?_)
  ·have g4p := of_decide_eq_true g4
   refine XO.fieldAddr rfl fa_27_2 rfl ?_; refine XO.guardT rfl rfl (g4) rfl ?_; refine XO.loadO 0 rfl rfl ty_3 rfl rfl rfl ?_; refine XO.guardT rfl rfl (g4) rfl ?_; refine XO.callV rfl (within_fn s.J 255 _) rfl ?_; refine XO.pickT rfl (g4) rfl rfl ?_; refine XO.callP rfl (need_bad _ (by first | rfl | exact decide_eq_false (fun h => hp ⟨⟨by assumption, by assumption⟩, h⟩)) _) rfl (fun HB hleB => ?_); refine ⟨rfl, [], (by repeat (first | exact List.Sublist.refl _ | apply List.Sublist.cons)), PanR.mk⟩
  ·have g4p := of_decide_eq_false g4
   refine XO.guardF rfl rfl (g4) rfl rfl ?_; refine XO.guardF rfl rfl (g4) rfl rfl ?_; refine XO.pickF rfl (g4) rfl rfl ?_; refine XO.callP rfl (need_bad _ (by first | rfl | exact decide_eq_false (fun h => hp ⟨⟨by assumption, by assumption⟩, h⟩)) _) rfl (fun HB hleB => ?_); refine ⟨rfl, [], (by repeat (first | exact List.Sublist.refl _ | apply List.Sublist.cons)), PanR.mk⟩
 ·have g2p := of_decide_eq_false g2
  refine XO.guardF rfl rfl (g2) rfl rfl ?_; refine XO.guardF rfl rfl (g2) rfl rfl ?_; refine XO.pickF rfl (g2) rfl rfl ?_; refine XO.move rfl rfl ?_; refine XO.guardF rfl rfl (rfl) rfl rfl ?_; refine XO.guardF rfl rfl (rfl) rfl rfl ?_; refine XO.guardF rfl rfl (rfl) rfl rfl ?_; refine XO.pickF rfl (rfl) rfl rfl ?_; refine XO.callP rfl (need_bad _ (by first | rfl | exact decide_eq_false (fun h => hp ⟨⟨by assumption, by assumption⟩, h⟩)) _) rfl (fun HB hleB => ?_); refine ⟨rfl, [], (by repeat (first | exact List.Sublist.refl _ | apply List.Sublist.cons)), PanR.mk⟩

theorem caught_ret (be : Nat) (x : Int) (H : Hp) : FnD Try.prog 38 #[.pointer (some ⟨be, 0, none⟩)] (.returning) H [(be, .cells 32 [.int .i64 x])] (fun u _ own => u = .returning ∧ own = [(be, .cells 32 [.int .i64 x])]) := by
 refine FnD.intro (args := [.pointer (some ⟨be, 0, none⟩)]) Try.func38 rfl rfl Try.ntmps38 rfl rfl rfl fun G rest => ?_
 refine XS.seq ?_; refine XS.recover rfl rfl ?_; refine XO.nil ?_; refine XS.of rfl ?_; refine XC.block ?_; refine XC.seq ?_; refine XC.region ?_; refine XO.eqlNilI rfl (Or.inl ⟨rfl, rfl⟩) Try.underlying20 rfl ?_; refine XO.nil ?_; refine XC.seq2 ?_; refine XC.condT rfl (rfl) ?_; refine XC.region ?_; refine XO.assign rfl rfl ?_; refine XO.nil ?_; refine blockN ?_; refine ⟨rfl, _, [(be, .cells 32 [.int .i64 x])], rfl, (by repeat (first | exact List.Sublist.refl _ | apply List.Sublist.cons)), ?_⟩
 exact ⟨rfl, rfl⟩

theorem caught_pan (be : Nat) (x y : Int) (H : Hp) : FnD Try.prog 38 #[.pointer (some ⟨be, 0, none⟩)] (.panicking [{ v := .iface 32 (.int .i64 y), recovered := false }]) H [(be, .cells 32 [.int .i64 x])] (fun u _ own => settle u = .returning ∧ own = [(be, .cells 32 [.int .i64 y])]) := by
 refine FnD.intro (args := [.pointer (some ⟨be, 0, none⟩)]) Try.func38 rfl rfl Try.ntmps38 rfl rfl rfl fun G rest => ?_
 refine XS.seq ?_; refine XS.recover rfl rfl ?_; refine XO.nil ?_; refine XS.of rfl ?_; refine XC.block ?_; refine XC.seq ?_; refine XC.region ?_; refine XO.eqlNilI rfl (Or.inr ⟨_, _, rfl, rfl⟩) Try.underlying20 rfl ?_; refine XO.nil ?_; refine XC.seq2 ?_; refine XC.condF rfl (rfl) ?_; refine XC.seq ?_; refine XC.region ?_; refine XO.assertOk rfl Try.underlying32 rfl ?_; refine XO.extract rfl rfl rfl ?_; refine XO.extract rfl rfl rfl ?_; refine XO.nil ?_; refine XC.seq2 ?_; refine XC.condT rfl (rfl) ?_; refine XC.seq ?_; refine XC.region ?_; refine XO.assign rfl rfl ?_; refine XO.nil ?_; refine XC.seq2 ?_; refine XC.region ?_; refine XO.move rfl rfl ?_; refine XO.move rfl rfl ?_; refine XO.nilCheckP rfl rfl ?_; refine XO.storeO 0 rfl rfl rfl rfl ty_32 rfl rfl rfl rfl rfl ?_; refine XO.nil ?_; refine blockN ?_; refine ⟨rfl, _, [(be, .cells 32 [.int .i64 y])], rfl, (by repeat (first | exact List.Sublist.refl _ | apply List.Sublist.cons)), ?_⟩
 exact ⟨rfl, rfl⟩

theorem selcheck0_fn (s : Card) (a : Option Addr) (c : Nat) (H : Hp) (hs : SlR (intR .i64) H a c s.C) (hD : s.D.length = 32) (hl : s.C.length < 9223372036854775808) : FnC Try.prog 21 #[.agg ⟨cardV s.R s.E s.J s.C.length s.D a c⟩] H [] (RetR (fun v H2 own => own = [] ∧ v = .int .i64 (selC s))) := by
 refine FnC.introD (args := [.agg ⟨cardV s.R s.E s.J s.C.length s.D a c⟩]) Try.func21 rfl rfl Try.ntmps21 rfl rfl rfl fun G rest => ?_
 refine XC.seq ?_; refine XC.region ?_; refine XO.box rfl rfl rfl (fun b1 => ?_); refine XO.alloc ze_32 rfl (fun b2 => ?_); refine XO.nil ?_; refine XC.seq2 ?_; refine XC.seq ?_; refine XC.region ?_; refine XO.defer0 (L := [_, _]) rfl rfl rfl rfl rfl (fun msD rest hrest => ?_)
 simp only [List.cons_append, List.nil_append]
 refine XO.nil ?_; refine XC.seq2 ?_; refine XC.seq ?_; refine XC.region ?_; refine XO.loadO 1 rfl rfl ty_27 rfl rfl rfl ?_
 by_cases hwb2 : plcP s
 ·skip
  refine XO.callV rfl (placed_ok s a c _ hs hD hwb2) rfl ?_; refine XO.nil ?_; refine XC.seq2 ?_; refine XC.seq ?_; refine XC.region ?_; refine XO.fieldAddr rfl fa_27_3 rfl ?_; refine XO.loadO 1 rfl rfl ty_23 rfl rfl rfl ?_; refine XO.callV rfl (all_fn a c s.C _ hs hl 1073741788) rfl ?_
  by_cases hwb3 : keysP s.C 1073741788
  ·skip
   refine XO.callV rfl (need_ok _ (decide_eq_true hwb3) _) rfl ?_; refine XO.nil ?_; refine XC.seq2 ?_; refine XC.seq ?_; refine XC.region ?_; refine XO.storeO 0 rfl rfl rfl rfl ty_32 rfl rfl rfl rfl rfl ?_; refine XO.nil ?_; refine XC.seq2 ?_; refine XC.ret ?_; refine leaveD_one 0 (L := [_, _]) rfl hrest rfl ((caught_ret _ _ _).mono (fun u2 HE own2 hleE hD => ?_)); obtain ⟨h1, h2⟩ := hD
   subst h2
   replace hs := hs.mono hleE; refine ⟨by subst h1; rfl, _, _, rfl, (resC_cell 0 rfl rfl ty_32 rfl rfl resC_nil), RetR.mk ?_⟩
   exact ⟨rfl, congrArg (Value.int .i64) (sel_ok ⟨hwb2, hwb3⟩)⟩
  ·skip
   refine XO.callP rfl (need_bad _ (decide_eq_false hwb3) _) rfl (fun HB hleB => ?_); replace hs := hs.mono hleB; refine seqX_panic ?_; refine leaveD_one 0 (L := [_, _]) rfl hrest rfl ((caught_pan _ _ _ _).mono (fun u2 HE own2 hleE hD => ?_)); obtain ⟨h1, h2⟩ := hD
   subst h2
   replace hs := hs.mono hleE; refine ⟨h1, _, _, rfl, (resC_cell 0 rfl rfl ty_32 rfl rfl resC_nil), RetR.mk ?_⟩
   exact ⟨rfl, congrArg (Value.int .i64) (sel_no (fun h => hwb3 h.2))⟩
 ·skip
  refine XO.callP rfl (placed_bad s a c _ hs hD hwb2) rfl (fun HB hleB => ?_); replace hs := hs.mono hleB; refine seqX_panic ?_; refine leaveD_one 0 (L := [_, _]) rfl hrest rfl ((caught_pan _ _ _ _).mono (fun u2 HE own2 hleE hD => ?_)); obtain ⟨h1, h2⟩ := hD
  subst h2
  replace hs := hs.mono hleE; refine ⟨h1, _, _, rfl, (resC_cell 0 rfl rfl ty_32 rfl rfl resC_nil), RetR.mk ?_⟩
  exact ⟨rfl, congrArg (Value.int .i64) (sel_no (fun h => hwb2 h.1))⟩
theorem selcheck_fn (s : Card) (a : Option Addr) (c : Nat) (H : Hp) (hs : SlR (intR .i64) H a c s.C) (hD : s.D.length = 32) (hl : s.C.length < 9223372036854775808) : FnC Try.prog 21 #[.agg ⟨cardV s.R s.E s.J s.C.length s.D a c⟩] H [] (RetR (fun v _ _ => v = .int .i64 (selC s))) := by
 refine (selcheck0_fn s a c H hs hD hl).mono ?_
 intro e _ _ _ h
 cases e with
 | returned v => exact h.2
 | panicked _ => exact h.elim
 | outgrown => exact h.elim

theorem rplace_fn (r e j : Int) (H : Hp) : FnC Try.prog 43 #[.int .i64 r, .int .i64 e, .int .i64 j] H [] (RetR (fun v _ _ => v = .bool (decide (((0 ≤ r ∧ r ≤ 7) ∧ (0 ≤ e ∧ e ≤ 4095)) ∧ (0 ≤ j ∧ j ≤ 255))))) := by
 refine FnC.intro (args := [.int .i64 r, .int .i64 e, .int .i64 j]) Try.func43 rfl rfl Try.ntmps43 rfl rfl rfl fun G rest => ?_
 refine XC.seq ?_; refine XC.region ?_; refine XO.assign rfl rfl ?_; refine XO.nil ?_; refine XC.seq2 ?_; refine XC.seq ?_; refine XC.region ?_; refine XO.move rfl rfl ?_; refine XO.geq rfl rfl rfl ?_; refine XO.move rfl rfl ?_; refine XO.guardC rfl rfl rfl rfl (fun g1 => ?_) (fun g1 => ?_)
 ·have g1p := of_decide_eq_true g1
  refine XO.move rfl rfl ?_; refine XO.guardT rfl rfl (g1) rfl ?_; refine XO.lss rfl rfl rfl ?_; refine XO.pickT rfl (g1) rfl rfl ?_; refine XO.move rfl rfl ?_; refine XO.guardC rfl rfl rfl rfl (fun g2 => ?_) (fun g2 => ?_)
  ·have g2p := of_decide_eq_true g2
   refine XO.move rfl rfl ?_; refine XO.guardT rfl rfl (g2) rfl ?_; refine XO.geq rfl rfl rfl ?_; refine XO.pickT rfl (g2) rfl rfl ?_; refine XO.move rfl rfl ?_; refine XO.guardC rfl rfl rfl rfl (fun g3 => ?_) (fun g3 => ?_)
   ·have g3p := of_decide_eq_true g3
    refine XO.move rfl rfl ?_; refine XO.guardT rfl rfl (g3) rfl ?_; refine XO.lss rfl rfl rfl ?_; refine XO.pickT rfl (g3) rfl rfl ?_; refine XO.move rfl rfl ?_; refine XO.guardC rfl rfl rfl rfl (fun g4 => ?_) (fun g4 => ?_)
    ·have g4p := of_decide_eq_true g4
     refine XO.move rfl rfl ?_; refine XO.guardT rfl rfl (g4) rfl ?_; refine XO.geq rfl rfl rfl ?_; refine XO.pickT rfl (g4) rfl rfl ?_; refine XO.move rfl rfl ?_; refine XO.guardC rfl rfl rfl rfl (fun g5 => ?_) (fun g5 => ?_)
     ·have g5p := of_decide_eq_true g5
      refine XO.move rfl rfl ?_; refine XO.guardT rfl rfl (g5) rfl ?_; refine XO.lss rfl rfl rfl ?_; refine XO.pickT rfl (g5) rfl rfl ?_; refine XO.assign rfl rfl ?_; refine XO.nil ?_; refine XC.seq2 ?_; refine XC.ret ?_; refine ⟨rfl, _, [], rfl, (by repeat (first | exact List.Sublist.refl _ | apply List.Sublist.cons)), RetR.mk ?_⟩
      first | rfl | exact congrArg Value.bool (decide_eq_decide.2 (by omega)) | exact congrArg Value.bool (decide_eq_false (by omega)).symm | exact congrArg Value.bool (decide_eq_true (by omega)).symm
     ·have g5p := of_decide_eq_false g5
      refine XO.guardF rfl rfl (g5) rfl rfl ?_; refine XO.pickF rfl (g5) rfl rfl ?_; refine XO.assign rfl rfl ?_; refine XO.nil ?_; refine XC.seq2 ?_; refine XC.ret ?_; refine ⟨rfl, _, [], rfl, (by repeat (first | exact List.Sublist.refl _ | apply List.Sublist.cons)), RetR.mk ?_⟩
      first | rfl | exact congrArg Value.bool (decide_eq_decide.2 (by omega)) | exact congrArg Value.bool (decide_eq_false (by omega)).symm | exact congrArg Value.bool (decide_eq_true (by omega)).symm
    ·have g4p := of_decide_eq_false g4
     refine XO.guardF rfl rfl (g4) rfl rfl ?_; refine XO.pickF rfl (g4) rfl rfl ?_; refine XO.move rfl rfl ?_; refine XO.guardF rfl rfl (rfl) rfl rfl ?_; refine XO.guardF rfl rfl (rfl) rfl rfl ?_; refine XO.pickF rfl (rfl) rfl rfl ?_; refine XO.assign rfl rfl ?_; refine XO.nil ?_; refine XC.seq2 ?_; refine XC.ret ?_; refine ⟨rfl, _, [], rfl, (by repeat (first | exact List.Sublist.refl _ | apply List.Sublist.cons)), RetR.mk ?_⟩
     first | rfl | exact congrArg Value.bool (decide_eq_decide.2 (by omega)) | exact congrArg Value.bool (decide_eq_false (by omega)).symm | exact congrArg Value.bool (decide_eq_true (by omega)).symm
   ·have g3p := of_decide_eq_false g3
    refine XO.guardF rfl rfl (g3) rfl rfl ?_; refine XO.pickF rfl (g3) rfl rfl ?_; refine XO.move rfl rfl ?_; refine XO.guardF rfl rfl (rfl) rfl rfl ?_; refine XO.guardF rfl rfl (rfl) rfl rfl ?_; refine XO.pickF rfl (rfl) rfl rfl ?_; refine XO.move rfl rfl ?_; refine XO.guardF rfl rfl (rfl) rfl rfl ?_; refine XO.guardF rfl rfl (rfl) rfl rfl ?_; refine XO.pickF rfl (rfl) rfl rfl ?_; refine XO.assign rfl rfl ?_; refine XO.nil ?_; refine XC.seq2 ?_; refine XC.ret ?_; refine ⟨rfl, _, [], rfl, (by repeat (first | exact List.Sublist.refl _ | apply List.Sublist.cons)), RetR.mk ?_⟩
    first | rfl | exact congrArg Value.bool (decide_eq_decide.2 (by omega)) | exact congrArg Value.bool (decide_eq_false (by omega)).symm | exact congrArg Value.bool (decide_eq_true (by omega)).symm
  ·have g2p := of_decide_eq_false g2
   refine XO.guardF rfl rfl (g2) rfl rfl ?_; refine XO.pickF rfl (g2) rfl rfl ?_; refine XO.move rfl rfl ?_; refine XO.guardF rfl rfl (rfl) rfl rfl ?_; refine XO.guardF rfl rfl (rfl) rfl rfl ?_; refine XO.pickF rfl (rfl) rfl rfl ?_; refine XO.move rfl rfl ?_; refine XO.guardF rfl rfl (rfl) rfl rfl ?_; refine XO.guardF rfl rfl (rfl) rfl rfl ?_; refine XO.pickF rfl (rfl) rfl rfl ?_; refine XO.move rfl rfl ?_; refine XO.guardF rfl rfl (rfl) rfl rfl ?_; refine XO.guardF rfl rfl (rfl) rfl rfl ?_; refine XO.pickF rfl (rfl) rfl rfl ?_; refine XO.assign rfl rfl ?_; refine XO.nil ?_; refine XC.seq2 ?_; refine XC.ret ?_; refine ⟨rfl, _, [], rfl, (by repeat (first | exact List.Sublist.refl _ | apply List.Sublist.cons)), RetR.mk ?_⟩
   first | rfl | exact congrArg Value.bool (decide_eq_decide.2 (by omega)) | exact congrArg Value.bool (decide_eq_false (by omega)).symm | exact congrArg Value.bool (decide_eq_true (by omega)).symm
 ·have g1p := of_decide_eq_false g1
  refine XO.guardF rfl rfl (g1) rfl rfl ?_; refine XO.pickF rfl (g1) rfl rfl ?_; refine XO.move rfl rfl ?_; refine XO.guardF rfl rfl (rfl) rfl rfl ?_; refine XO.guardF rfl rfl (rfl) rfl rfl ?_; refine XO.pickF rfl (rfl) rfl rfl ?_; refine XO.move rfl rfl ?_; refine XO.guardF rfl rfl (rfl) rfl rfl ?_; refine XO.guardF rfl rfl (rfl) rfl rfl ?_; refine XO.pickF rfl (rfl) rfl rfl ?_; refine XO.move rfl rfl ?_; refine XO.guardF rfl rfl (rfl) rfl rfl ?_; refine XO.guardF rfl rfl (rfl) rfl rfl ?_; refine XO.pickF rfl (rfl) rfl rfl ?_; refine XO.move rfl rfl ?_; refine XO.guardF rfl rfl (rfl) rfl rfl ?_; refine XO.guardF rfl rfl (rfl) rfl rfl ?_; refine XO.pickF rfl (rfl) rfl rfl ?_; refine XO.assign rfl rfl ?_; refine XO.nil ?_; refine XC.seq2 ?_; refine XC.ret ?_; refine ⟨rfl, _, [], rfl, (by repeat (first | exact List.Sublist.refl _ | apply List.Sublist.cons)), RetR.mk ?_⟩
  first | rfl | exact congrArg Value.bool (decide_eq_decide.2 (by omega)) | exact congrArg Value.bool (decide_eq_false (by omega)).symm | exact congrArg Value.bool (decide_eq_true (by omega)).symm

theorem rwithin_fn (a : Option Addr) (c : Nat) (l : List Int) (H : Hp) (hs : SlR (intR .i64) H a c l) (hl : l.length < 9223372036854775808) (m : Int) : FnC Try.prog 55 #[.slice a l.length c, .int .i64 m] H [] (RetR (fun v _ _ => v = .bool (decide (keysP l m)))) := by
 refine FnC.intro (args := [.slice a l.length c, .int .i64 m]) Try.func55 rfl rfl Try.ntmps55 rfl rfl rfl fun G rest => ?_
 refine XC.seq ?_; refine XC.region ?_; refine XO.assign rfl rfl ?_; refine XO.nil ?_; refine XC.seq2 ?_; refine XC.seq ?_; refine XC.seq ?_; refine XC.region ?_; refine XO.assign rfl rfl ?_; refine XO.nil ?_; refine XC.seq2 ?_; refine XC.block ?_; refine XC.keep [5, 0, 1] rfl ?_; refine XC.loop (base := [(0, _), (1, _)]) (fun ζ : Nat => [(5, .int .i64 (ζ : Nat))]) (fun ζ Hl own => ζ ≤ l.length ∧ rest = own ∧ (∀ y ∈ l.take (ζ), 0 ≤ y ∧ y ≤ m)) (fun ζ => l.length - ζ) 0 (prov_cons (rfl) (prov_cons (rfl) (prov_cons (rfl) prov_nil))) (by repeat (first | exact List.Sublist.refl _ | apply List.Sublist.cons_cons | apply List.Sublist.cons)) ⟨Nat.zero_le _, rfl, by simp⟩ ?_; rintro k Hl0 _ hle0 ⟨hkk, rfl, hno⟩; replace hs := hs.mono hle0
 try dsimp only at ⊢
 refine XC.seq ?_; refine XC.seq ?_; refine XC.region ?_; refine XO.move rfl rfl ?_; refine XO.move rfl rfl ?_; refine XO.lenS (ts := #[]) rfl Try.underlying23 rfl ?_; refine XO.lss rfl rfl rfl ?_; refine XO.nil ?_; refine XC.seq2 ?_; refine XC.cond rfl (fun c0_1 => ?_) (fun c0_1 => ?_)
 ·refine XC.skip ?_; refine XC.seq2 ?_; refine XC.seq ?_; refine XC.block ?_; refine XC.seq ?_; refine XC.region ?_; refine XO.move rfl rfl ?_; refine XO.move rfl rfl ?_; refine XO.indexN rfl hs rfl Try.underlying23 ty_3 (by omega) rfl ?_; rintro eb14 eo14 _ x14 hx14 rfl hp14; refine XO.loadH rfl (by assumption) ty_3 rfl rfl rfl ?_; refine XO.lss rfl rfl rfl ?_; refine XO.move rfl rfl ?_; refine XO.guardC rfl rfl rfl rfl (fun g3 => ?_) (fun g3 => ?_)
  ·have g3p := of_decide_eq_false g3
   refine XO.move rfl rfl ?_; refine XO.guardT rfl rfl (g3) rfl ?_; refine XO.move rfl rfl ?_; refine XO.guardT rfl rfl (g3) rfl ?_; refine XO.indexN rfl hs rfl Try.underlying23 ty_3 (by omega) rfl ?_; rintro eb20 eo20 _ x20 hx20 rfl hp20; obtain rfl := Option.some.inj (hx14.symm.trans hx20); refine XO.guardT rfl rfl (g3) rfl ?_; refine XO.loadH rfl (by assumption) ty_3 rfl rfl rfl ?_; refine XO.guardT rfl rfl (g3) rfl ?_; refine XO.move rfl rfl ?_; refine XO.guardT rfl rfl (g3) rfl ?_; refine XO.gtr rfl rfl rfl ?_; refine XO.pickF rfl (g3) rfl rfl ?_; refine XO.nil ?_; refine XC.seq2 ?_; refine XC.cond rfl (fun c1_5 => ?_) (fun c1_5 => ?_)
   ·refine XC.seq ?_; refine XC.region ?_; refine XO.assign rfl rfl ?_; refine XO.nil ?_; refine XC.seq2 ?_; refine XC.ret ?_; refine blockR ?_; refine seqX_ret ?_; refine loopX_ret ?_; refine blockR ?_; refine seqX_ret ?_; refine ⟨rfl, _, [], rfl, (by repeat (first | exact List.Sublist.refl _ | apply List.Sublist.cons)), RetR.mk ?_⟩
    first | exact congrArg Value.bool (decide_eq_false (fun h => by have := h.2 x14 (List.mem_of_getElem? hx14); omega)).symm | exact congrArg Value.bool (decide_eq_decide.2 ⟨fun h => ⟨⟨by omega, by omega⟩, hno⟩, fun h => by have := h.1; omega⟩) | exact congrArg Value.bool (decide_eq_false (fun h => by have := h.1; omega)).symm
   ·refine XC.skip ?_; refine blockN ?_; refine XC.seq2 ?_; refine XC.region ?_; refine XO.move rfl rfl ?_; refine XO.add rfl rfl (wrap_i64 (by omega) (by omega)) rfl ?_; refine XO.assign rfl rfl ?_; refine XO.nil ?_; refine loop_next (k + 1) (by show l.length - (k + 1) < l.length - k; omega) (prov_cons (rfl) (prov_cons (rfl) (prov_cons (rfl) prov_nil))) (⟨by show k + 1 ≤ l.length; omega, rfl, all_snocP (p := fun y => 0 ≤ y ∧ y ≤ m) hno hx14 (by omega)⟩) (by repeat (first | exact List.Sublist.refl _ | apply List.Sublist.cons_cons | apply List.Sublist.cons)) (hle0)
  ·have g3p := of_decide_eq_true g3
   refine XO.guardF rfl rfl (g3) rfl rfl ?_; refine XO.guardF rfl rfl (g3) rfl rfl ?_; refine XO.guardF rfl rfl (g3) rfl rfl ?_; refine XO.guardF rfl rfl (g3) rfl rfl ?_; refine XO.guardF rfl rfl (g3) rfl rfl ?_; refine XO.pickT rfl (g3) rfl rfl ?_; refine XO.nil ?_; refine XC.seq2 ?_; refine XC.condT rfl (rfl) ?_; refine XC.seq ?_; refine XC.region ?_; refine XO.assign rfl rfl ?_; refine XO.nil ?_; refine XC.seq2 ?_; refine XC.ret ?_; refine blockR ?_; refine seqX_ret ?_; refine loopX_ret ?_; refine blockR ?_; refine seqX_ret ?_; refine ⟨rfl, _, [], rfl, (by repeat (first | exact List.Sublist.refl _ | apply List.Sublist.cons)), RetR.mk ?_⟩
   first | exact congrArg Value.bool (decide_eq_false (fun h => by have := h.2 x14 (List.mem_of_getElem? hx14); omega)).symm | exact congrArg Value.bool (decide_eq_decide.2 ⟨fun h => ⟨⟨by omega, by omega⟩, hno⟩, fun h => by have := h.1; omega⟩) | exact congrArg Value.bool (decide_eq_false (fun h => by have := h.1; omega)).symm
 ·obtain rfl : k = l.length := by omega
  rw [List.take_length] at hno
  refine XC.exit ?_; refine seqX_exit ?_; refine loopX_exit ?_; refine blockHit rfl ?_; refine XC.seq2 ?_; refine XC.seq ?_; refine XC.region ?_; refine XO.move rfl rfl ?_; refine XO.lenS (ts := #[]) rfl Try.underlying23 rfl ?_; refine XO.geq rfl rfl rfl ?_; refine XO.move rfl rfl ?_; refine XO.guardC rfl rfl rfl rfl (fun g6 => ?_) (fun g6 => ?_)
  ·have g6p := of_decide_eq_true g6
   refine XO.move rfl rfl ?_; refine XO.guardT rfl rfl (g6) rfl ?_; refine XO.lenS (ts := #[]) rfl Try.underlying23 rfl ?_; refine XO.guardT rfl rfl (g6) rfl ?_; refine XO.leq rfl rfl rfl ?_; refine XO.pickT rfl (g6) rfl rfl ?_; refine XO.assign rfl rfl ?_; refine XO.nil ?_; refine XC.seq2 ?_; refine XC.ret ?_; refine ⟨rfl, _, [], rfl, (by repeat (first | exact List.Sublist.refl _ | apply List.Sublist.cons)), RetR.mk ?_⟩
   first | exact congrArg Value.bool (decide_eq_false (fun h => by have := h.2 x14 (List.mem_of_getElem? hx14); omega)).symm | exact congrArg Value.bool (decide_eq_decide.2 ⟨fun h => ⟨⟨by omega, by omega⟩, hno⟩, fun h => by have := h.1; omega⟩) | exact congrArg Value.bool (decide_eq_false (fun h => by have := h.1; omega)).symm
  ·have g6p := of_decide_eq_false g6
   refine XO.guardF rfl rfl (g6) rfl rfl ?_; refine XO.guardF rfl rfl (g6) rfl rfl ?_; refine XO.pickF rfl (g6) rfl rfl ?_; refine XO.assign rfl rfl ?_; refine XO.nil ?_; refine XC.seq2 ?_; refine XC.ret ?_; refine ⟨rfl, _, [], rfl, (by repeat (first | exact List.Sublist.refl _ | apply List.Sublist.cons)), RetR.mk ?_⟩
   first | exact congrArg Value.bool (decide_eq_false (fun h => by have := h.2 x14 (List.mem_of_getElem? hx14); omega)).symm | exact congrArg Value.bool (decide_eq_decide.2 ⟨fun h => ⟨⟨by omega, by omega⟩, hno⟩, fun h => by have := h.1; omega⟩) | exact congrArg Value.bool (decide_eq_false (fun h => by have := h.1; omega)).symm

theorem keys_fn (a : Option Addr) (c : Nat) (l : List Int) (H : Hp) (hs : SlR (intR .i64) H a c l) (hl : l.length < 9223372036854775808) : FnC Try.prog 44 #[.slice a l.length c] H [] (RetR (fun v _ _ => v = .bool (decide (keysP l 1073741788)))) := by
 refine FnC.intro (args := [.slice a l.length c]) Try.func44 rfl rfl Try.ntmps44 rfl rfl rfl fun G rest => ?_
 refine XC.seq ?_; refine XC.region ?_; refine XO.assign rfl rfl ?_; refine XO.nil ?_; refine XC.seq2 ?_; refine XC.seq ?_; refine XC.region ?_; refine XO.move rfl rfl ?_; refine XO.callV rfl (rwithin_fn _ _ l _ hs hl 1073741788) rfl ?_; refine XO.assign rfl rfl ?_; refine XO.nil ?_; refine XC.seq2 ?_; refine XC.ret ?_; refine ⟨rfl, _, [], rfl, (by repeat (first | exact List.Sublist.refl _ | apply List.Sublist.cons)), RetR.mk ?_⟩
 rfl

theorem rselcheck_fn (s : Card) (a : Option Addr) (c : Nat) (H : Hp) (hs : SlR (intR .i64) H a c s.C) (hD : s.D.length = 32) (hl : s.C.length < 9223372036854775808) : FnC Try.prog 27 #[.agg ⟨cardV s.R s.E s.J s.C.length s.D a c⟩] H [] (RetR (fun v _ _ => v = .int .i64 (selC s))) := by
 refine FnC.intro (args := [.agg ⟨cardV s.R s.E s.J s.C.length s.D a c⟩]) Try.func27 rfl rfl Try.ntmps27 rfl rfl rfl fun G rest => ?_
 refine XC.seq ?_; refine XC.region ?_; refine XO.box rfl rfl rfl (fun b1 => ?_); refine XO.assign rfl rfl ?_; refine XO.nil ?_; refine XC.seq2 ?_; refine XC.seq ?_; refine XC.seq ?_; refine XC.region ?_; refine XO.fieldAddr rfl fa_27_0 rfl ?_; refine XO.loadO 0 rfl rfl ty_3 rfl rfl rfl ?_; refine XO.fieldAddr rfl fa_27_1 rfl ?_; refine XO.loadO 0 rfl rfl ty_3 rfl rfl rfl ?_; refine XO.fieldAddr rfl fa_27_2 rfl ?_; refine XO.loadO 0 rfl rfl ty_3 rfl rfl rfl ?_; refine XO.callV rfl (rplace_fn s.R s.E s.J _) rfl ?_; refine XO.not rfl rfl ?_; refine XO.move rfl rfl ?_; refine XO.guardC rfl rfl rfl rfl (fun g2 => ?_) (fun g2 => ?_)
 ·have g2p := of_decide_eq_false g2
  refine XO.fieldAddr rfl fa_27_3 rfl ?_; refine XO.guardT rfl rfl (g2) rfl ?_; refine XO.loadO 0 rfl rfl ty_23 rfl rfl rfl ?_; refine XO.guardT rfl rfl (g2) rfl ?_; refine XO.callV rfl (keys_fn _ _ s.C _ hs hl) rfl ?_; refine XO.guardT rfl rfl (g2) rfl ?_; refine XO.not rfl rfl ?_; refine XO.pickF rfl (g2) rfl rfl ?_; refine XO.nil ?_; refine XC.seq2 ?_; refine XC.cond rfl (fun c0_4 => ?_) (fun c0_4 => ?_)
  ·refine XC.seq ?_; refine XC.region ?_; refine XO.assign rfl rfl ?_; refine XO.nil ?_; refine XC.seq2 ?_; refine XC.ret ?_; refine seqX_ret ?_; refine ⟨rfl, _, [], rfl, (by repeat (first | exact List.Sublist.refl _ | apply List.Sublist.cons)), RetR.mk ?_⟩
   first | exact congrArg (Value.int .i64) (sel_no (fun h => absurd h.1 (by assumption))) | exact congrArg (Value.int .i64) (sel_no (fun h => absurd h.2 (by assumption))) | exact congrArg (Value.int .i64) (sel_ok ⟨Decidable.not_not.1 (by assumption), Decidable.not_not.1 (by assumption)⟩)
  ·refine XC.skip ?_; refine XC.seq2 ?_; refine XC.seq ?_; refine XC.region ?_; refine XO.assign rfl rfl ?_; refine XO.nil ?_; refine XC.seq2 ?_; refine XC.ret ?_; refine ⟨rfl, _, [], rfl, (by repeat (first | exact List.Sublist.refl _ | apply List.Sublist.cons)), RetR.mk ?_⟩
   first | exact congrArg (Value.int .i64) (sel_no (fun h => absurd h.1 (by assumption))) | exact congrArg (Value.int .i64) (sel_no (fun h => absurd h.2 (by assumption))) | exact congrArg (Value.int .i64) (sel_ok ⟨Decidable.not_not.1 (by assumption), Decidable.not_not.1 (by assumption)⟩)
 ·have g2p := of_decide_eq_true g2
  refine XO.guardF rfl rfl (g2) rfl rfl ?_; refine XO.guardF rfl rfl (g2) rfl rfl ?_; refine XO.guardF rfl rfl (g2) rfl rfl ?_; refine XO.pickT rfl (g2) rfl rfl ?_; refine XO.nil ?_; refine XC.seq2 ?_; refine XC.condT rfl (rfl) ?_; refine XC.seq ?_; refine XC.region ?_; refine XO.assign rfl rfl ?_; refine XO.nil ?_; refine XC.seq2 ?_; refine XC.ret ?_; refine seqX_ret ?_; refine ⟨rfl, _, [], rfl, (by repeat (first | exact List.Sublist.refl _ | apply List.Sublist.cons)), RetR.mk ?_⟩
  first | exact congrArg (Value.int .i64) (sel_no (fun h => absurd h.1 (by assumption))) | exact congrArg (Value.int .i64) (sel_no (fun h => absurd h.2 (by assumption))) | exact congrArg (Value.int .i64) (sel_ok ⟨Decidable.not_not.1 (by assumption), Decidable.not_not.1 (by assumption)⟩)

theorem sameI_fn (a b : Option Addr) (c d : Nat) (l m : List Int) (H : Hp) (hs : SlR (intR .i64) H a c l) (ht : SlR (intR .i64) H b d m) (hl : l.length < 9223372036854775808) (hm : m.length < 9223372036854775808) : FnC Try.prog 37 #[.slice a l.length c, .slice b m.length d] H [] (RetR (fun v _ _ => v = .bool (decide (l = m)))) := by
 refine FnC.intro (args := [.slice a l.length c, .slice b m.length d]) Try.func37 rfl rfl Try.ntmps37 rfl rfl rfl fun G rest => ?_
 refine XC.seq ?_; refine XC.region ?_; refine XO.assign rfl rfl ?_; refine XO.nil ?_; refine XC.seq2 ?_; refine XC.seq ?_; refine XC.seq ?_; refine XC.region ?_; refine XO.move rfl rfl ?_; refine XO.lenS (ts := #[]) rfl Try.underlying23 rfl ?_; refine XO.move rfl rfl ?_; refine XO.lenS (ts := #[]) rfl Try.underlying23 rfl ?_; refine XO.neq rfl rfl rfl ?_; refine XO.nil ?_; refine XC.seq2 ?_; refine XC.cond rfl (fun c0_1 => ?_) (fun c0_1 => ?_)
 ·refine XC.seq ?_; refine XC.region ?_; refine XO.assign rfl rfl ?_; refine XO.nil ?_; refine XC.seq2 ?_; refine XC.ret ?_; refine seqX_ret ?_; refine ⟨rfl, _, [], rfl, (by repeat (first | exact List.Sublist.refl _ | apply List.Sublist.cons)), RetR.mk ?_⟩
  first | exact congrArg Value.bool (decide_eq_false (fun h => by have := congrArg List.length h; omega)).symm | exact congrArg Value.bool (decide_eq_false (fun h => by subst h; have h2 := Option.some.inj (hxX.symm.trans hxY); omega)).symm | exact congrArg Value.bool (decide_eq_true (heq.trans (List.take_of_length_le (by omega)))).symm
 ·refine XC.skip ?_; refine XC.seq2 ?_; refine XC.seq ?_; refine XC.seq ?_; refine XC.region ?_; refine XO.assign rfl rfl ?_; refine XO.nil ?_; refine XC.seq2 ?_; refine XC.block ?_; refine XC.keep [5, 0, 1] rfl ?_; refine XC.loop (base := [(0, _), (1, _)]) (fun ζ : Nat => [(5, .int .i64 (ζ : Nat))]) (fun ζ Hl own => ζ ≤ l.length ∧ rest = own ∧ (l.take (ζ) = m.take (ζ))) (fun ζ => l.length - ζ) 0 (prov_cons (rfl) (prov_cons (rfl) (prov_cons (rfl) prov_nil))) (by repeat (first | exact List.Sublist.refl _ | apply List.Sublist.cons_cons | apply List.Sublist.cons)) ⟨Nat.zero_le _, rfl, by simp⟩ ?_; rintro k Hl0 _ hle0 ⟨hkk, rfl, heq⟩; replace hs := hs.mono hle0; replace ht := ht.mono hle0
  try dsimp only at ⊢
  refine XC.seq ?_; refine XC.seq ?_; refine XC.region ?_; refine XO.move rfl rfl ?_; refine XO.move rfl rfl ?_; refine XO.lenS (ts := #[]) rfl Try.underlying23 rfl ?_; refine XO.lss rfl rfl rfl ?_; refine XO.nil ?_; refine XC.seq2 ?_; refine XC.cond rfl (fun c1_2 => ?_) (fun c1_2 => ?_)
  ·refine XC.skip ?_; refine XC.seq2 ?_; refine XC.seq ?_; refine XC.block ?_; refine XC.seq ?_; refine XC.keep [0, 1, 5] rfl ?_; obtain ⟨bEX, oEX, rfl⟩ := hs.addr (by omega); obtain ⟨_, xX, hxX, rfl, hpX⟩ := hs.elem (k) (by omega); obtain ⟨bEY, oEY, rfl⟩ := ht.addr (by omega); obtain ⟨_, xY, hxY, rfl, hpY⟩ := ht.elem (k) (by omega)
   apply XC.draw 8 [eqF _, eqF _, eqF _, eqF _, eqF _, eqF _, eqF _, eqF _] follows (by kernel_rfl) (by kernel_rfl) ⟨eqF_mono _, eqF_mono _, eqF_mono _, eqF_mono _, eqF_mono _, eqF_mono _, eqF_mono _, eqF_mono _, trivial⟩ ?steps3 ?tail3
   case steps3 =>
    refine stepsK_cons rfl ?_ ?_
    ·intro X
     refine withPreds_nil rfl ?_; refine XO.move rfl rfl ?_; refine XO.nil ?_
     exact stepQ_ok rfl (rfl)
    refine stepsK_cons rfl ?_ ?_
    ·intro X
     refine withPreds_nil rfl ?_; refine XO.move rfl rfl ?_; refine XO.nil ?_
     exact stepQ_ok rfl (rfl)
    refine stepsK_cons rfl ?_ ?_
    ·intro X
     refine withPreds_cons rfl rfl ?_; rintro _ rfl; refine withPreds_cons rfl rfl ?_; rintro _ rfl; refine withPreds_nil rfl ?_; refine XO.indexE rfl rfl Try.underlying23 ty_3 (by omega) (by omega) rfl ?_; refine XO.nil ?_
     exact stepQ_ok rfl (rfl)
    refine stepsK_cons rfl ?_ ?_
    ·intro X
     refine withPreds_cons rfl rfl ?_; rintro _ rfl; refine withPreds_nil rfl ?_; refine XO.loadH rfl (by assumption) ty_3 rfl rfl rfl ?_; refine XO.nil ?_
     exact stepQ_ok rfl (rfl)
    refine stepsK_cons rfl ?_ ?_
    ·intro X
     refine withPreds_nil rfl ?_; refine XO.move rfl rfl ?_; refine XO.nil ?_
     exact stepQ_ok rfl (rfl)
    refine stepsK_cons rfl ?_ ?_
    ·intro X
     refine withPreds_nil rfl ?_; refine XO.move rfl rfl ?_; refine XO.nil ?_
     exact stepQ_ok rfl (rfl)
    refine stepsK_cons rfl ?_ ?_
    ·intro X
     refine withPreds_cons rfl rfl ?_; rintro _ rfl; refine withPreds_cons rfl rfl ?_; rintro _ rfl; refine withPreds_nil rfl ?_; refine XO.indexE rfl rfl Try.underlying23 ty_3 (by omega) (by omega) rfl ?_; refine XO.nil ?_
     exact stepQ_ok rfl (rfl)
    refine stepsK_cons rfl ?_ ?_
    ·intro X
     refine withPreds_cons rfl rfl ?_; rintro _ rfl; refine withPreds_nil rfl ?_; refine XO.loadH rfl (by assumption) ty_3 rfl rfl rfl ?_; refine XO.nil ?_
     exact stepQ_ok rfl (rfl)
    exact stepsD_end rfl
   case tail3 =>
    refine withPreds_cons rfl rfl ?_; rintro _ rfl; refine withPreds_cons rfl rfl ?_; rintro _ rfl; refine withPreds_cons rfl rfl ?_; rintro _ rfl; refine withPreds_cons rfl rfl ?_; rintro _ rfl; refine withPreds_cons rfl rfl ?_; rintro _ rfl; refine withPreds_cons rfl rfl ?_; rintro _ rfl; refine withPreds_cons rfl rfl ?_; rintro _ rfl; refine withPreds_cons rfl rfl ?_; rintro _ rfl; refine withPreds_nil rfl ?_; refine XO.neq rfl rfl rfl ?_; refine XO.nil ?_; refine XC.seq2 ?_; refine XC.cond rfl (fun c2_6 => ?_) (fun c2_6 => ?_)
    ·refine XC.seq ?_; refine XC.region ?_; refine XO.assign rfl rfl ?_; refine XO.nil ?_; refine XC.seq2 ?_; refine XC.ret ?_; refine blockR ?_; refine seqX_ret ?_; refine loopX_ret ?_; refine blockR ?_; refine seqX_ret ?_; refine ⟨rfl, _, [], rfl, (by repeat (first | exact List.Sublist.refl _ | apply List.Sublist.cons)), RetR.mk ?_⟩
     first | exact congrArg Value.bool (decide_eq_false (fun h => by have := congrArg List.length h; omega)).symm | exact congrArg Value.bool (decide_eq_false (fun h => by subst h; have h2 := Option.some.inj (hxX.symm.trans hxY); omega)).symm | exact congrArg Value.bool (decide_eq_true (heq.trans (List.take_of_length_le (by omega)))).symm
    ·refine XC.skip ?_; refine blockN ?_; refine XC.seq2 ?_; refine XC.region ?_; refine XO.move rfl rfl ?_; refine XO.add rfl rfl (wrap_i64 (by omega) (by omega)) rfl ?_; refine XO.assign rfl rfl ?_; refine XO.nil ?_; refine loop_next (k + 1) (by show l.length - (k + 1) < l.length - k; omega) (prov_cons (rfl) (prov_cons (rfl) (prov_cons (rfl) prov_nil))) (⟨by show k + 1 ≤ l.length; omega, rfl, by rw [take_snoc hxX, take_snoc hxY, heq, show xX = xY by omega]⟩) (by repeat (first | exact List.Sublist.refl _ | apply List.Sublist.cons_cons | apply List.Sublist.cons)) (hle0)
  ·obtain rfl : k = l.length := by omega
   rw [List.take_length] at heq
   refine XC.exit ?_; refine seqX_exit ?_; refine loopX_exit ?_; refine blockHit rfl ?_; refine XC.seq2 ?_; refine XC.seq ?_; refine XC.region ?_; refine XO.assign rfl rfl ?_; refine XO.nil ?_; refine XC.seq2 ?_; refine XC.ret ?_; refine ⟨rfl, _, [], rfl, (by repeat (first | exact List.Sublist.refl _ | apply List.Sublist.cons)), RetR.mk ?_⟩
   first | exact congrArg Value.bool (decide_eq_false (fun h => by have := congrArg List.length h; omega)).symm | exact congrArg Value.bool (decide_eq_false (fun h => by subst h; have h2 := Option.some.inj (hxX.symm.trans hxY); omega)).symm | exact congrArg Value.bool (decide_eq_true (heq.trans (List.take_of_length_le (by omega)))).symm

theorem sameC_fn (s t : Card) (a b : Option Addr) (c d : Nat) (H : Hp) (hs : SlR (intR .i64) H a c s.C) (ht : SlR (intR .i64) H b d t.C) (hD : s.D.length = 32) (hE : t.D.length = 32) (hl : s.C.length < 9223372036854775808) (hm : t.C.length < 9223372036854775808) : FnC Try.prog 20 #[.agg ⟨cardV s.R s.E s.J s.C.length s.D a c⟩, .agg ⟨cardV t.R t.E t.J t.C.length t.D b d⟩] H [] (RetR (fun v _ _ => v = .bool (decide (s = t)))) := by
 refine FnC.intro (args := [.agg ⟨cardV s.R s.E s.J s.C.length s.D a c⟩, .agg ⟨cardV t.R t.E t.J t.C.length t.D b d⟩]) Try.func20 rfl rfl Try.ntmps20 rfl rfl rfl fun G rest => ?_
 refine XC.seq ?_; refine XC.region ?_; refine XO.box rfl rfl rfl (fun b2 => ?_); refine XO.box rfl rfl rfl (fun b3 => ?_); refine XO.assign rfl rfl ?_; refine XO.nil ?_; refine XC.seq2 ?_; refine XC.seq ?_; refine XC.region ?_; refine XO.fieldAddr rfl fa_27_0 rfl ?_; refine XO.loadO 1 rfl rfl ty_3 rfl rfl rfl ?_; refine XO.fieldAddr rfl fa_27_0 rfl ?_; refine XO.loadO 0 rfl rfl ty_3 rfl rfl rfl ?_; refine XO.eql rfl rfl rfl ?_; refine XO.move rfl rfl ?_; refine XO.guardC rfl rfl rfl rfl (fun g1 => ?_) (fun g1 => ?_)
 ·have g1p := of_decide_eq_true g1
  refine XO.fieldAddr rfl fa_27_1 rfl ?_; refine XO.guardT rfl rfl (g1) rfl ?_; refine XO.loadO 1 rfl rfl ty_3 rfl rfl rfl ?_; refine XO.guardT rfl rfl (g1) rfl ?_; refine XO.fieldAddr rfl fa_27_1 rfl ?_; refine XO.guardT rfl rfl (g1) rfl ?_; refine XO.loadO 0 rfl rfl ty_3 rfl rfl rfl ?_; refine XO.guardT rfl rfl (g1) rfl ?_; refine XO.eql rfl rfl rfl ?_; refine XO.pickT rfl (g1) rfl rfl ?_; refine XO.move rfl rfl ?_; refine XO.guardC rfl rfl rfl rfl (fun g2 => ?_) (fun g2 => ?_)
  ·have g2p := of_decide_eq_true g2
   refine XO.fieldAddr rfl fa_27_2 rfl ?_; refine XO.guardT rfl rfl (g2) rfl ?_; refine XO.loadO 1 rfl rfl ty_3 rfl rfl rfl ?_; refine XO.guardT rfl rfl (g2) rfl ?_; refine XO.fieldAddr rfl fa_27_2 rfl ?_; refine XO.guardT rfl rfl (g2) rfl ?_; refine XO.loadO 0 rfl rfl ty_3 rfl rfl rfl ?_; refine XO.guardT rfl rfl (g2) rfl ?_; refine XO.eql rfl rfl rfl ?_; refine XO.pickT rfl (g2) rfl rfl ?_; refine XO.move rfl rfl ?_; refine XO.guardC rfl rfl rfl rfl (fun g3 => ?_) (fun g3 => ?_)
   ·have g3p := of_decide_eq_true g3
    refine XO.fieldAddr rfl fa_27_3 rfl ?_; refine XO.guardT rfl rfl (g3) rfl ?_; refine XO.loadO 1 rfl rfl ty_23 rfl rfl rfl ?_; refine XO.guardT rfl rfl (g3) rfl ?_; refine XO.fieldAddr rfl fa_27_3 rfl ?_; refine XO.guardT rfl rfl (g3) rfl ?_; refine XO.loadO 0 rfl rfl ty_23 rfl rfl rfl ?_; refine XO.guardT rfl rfl (g3) rfl ?_; refine XO.callV rfl (sameI_fn _ _ _ _ s.C t.C _ hs ht hl hm) rfl ?_; refine XO.pickT rfl (g3) rfl rfl ?_; refine XO.move rfl rfl ?_; refine XO.guardC rfl rfl rfl rfl (fun g5 => ?_) (fun g5 => ?_)
    ·have g5p := of_decide_eq_true g5
     refine XO.fieldAddr rfl fa_27_4 rfl ?_; refine XO.guardT rfl rfl (g5) rfl ?_; refine XO.loadO 1 rfl rfl ty_25 rfl rfl rfl ?_; refine XO.guardT rfl rfl (g5) rfl ?_; refine XO.fieldAddr rfl fa_27_4 rfl ?_; refine XO.guardT rfl rfl (g5) rfl ?_; refine XO.loadO 0 rfl rfl ty_25 rfl rfl rfl ?_; refine XO.guardT rfl rfl (g5) rfl ?_; refine XO.eqlAr (l := n32 s.D) (m := n32 t.D) rfl rfl rfl rfl rfl rfl Try.underlying25 eg_25 Try.underlying5 ty_5 rfl ?_; refine XO.pickT rfl (g5) rfl rfl ?_; refine XO.assign rfl rfl ?_; refine XO.nil ?_; refine XC.seq2 ?_; refine XC.ret ?_; refine ⟨rfl, _, [], rfl, (by repeat (first | exact List.Sublist.refl _ | apply List.Sublist.cons)), RetR.mk ?_⟩
     first | exact congrArg Value.bool (card_y hD hE (by assumption) (by assumption) (by assumption) (by assumption)) | exact congrArg Value.bool (decide_eq_false (fun h => by subst h; exact absurd rfl (by assumption))).symm
    ·have g5p := of_decide_eq_false g5
     refine XO.guardF rfl rfl (g5) rfl rfl ?_; refine XO.guardF rfl rfl (g5) rfl rfl ?_; refine XO.guardF rfl rfl (g5) rfl rfl ?_; refine XO.guardF rfl rfl (g5) rfl rfl ?_; refine XO.pickF rfl (g5) rfl rfl ?_; refine XO.assign rfl rfl ?_; refine XO.nil ?_; refine XC.seq2 ?_; refine XC.ret ?_; refine ⟨rfl, _, [], rfl, (by repeat (first | exact List.Sublist.refl _ | apply List.Sublist.cons)), RetR.mk ?_⟩
     first | exact congrArg Value.bool (card_y hD hE (by assumption) (by assumption) (by assumption) (by assumption)) | exact congrArg Value.bool (decide_eq_false (fun h => by subst h; exact absurd rfl (by assumption))).symm
   ·have g3p := of_decide_eq_false g3
    refine XO.guardF rfl rfl (g3) rfl rfl ?_; refine XO.guardF rfl rfl (g3) rfl rfl ?_; refine XO.guardF rfl rfl (g3) rfl rfl ?_; refine XO.guardF rfl rfl (g3) rfl rfl ?_; refine XO.pickF rfl (g3) rfl rfl ?_; refine XO.move rfl rfl ?_; refine XO.guardF rfl rfl (rfl) rfl rfl ?_; refine XO.guardF rfl rfl (rfl) rfl rfl ?_; refine XO.guardF rfl rfl (rfl) rfl rfl ?_; refine XO.guardF rfl rfl (rfl) rfl rfl ?_; refine XO.guardF rfl rfl (rfl) rfl rfl ?_; refine XO.pickF rfl (rfl) rfl rfl ?_; refine XO.assign rfl rfl ?_; refine XO.nil ?_; refine XC.seq2 ?_; refine XC.ret ?_; refine ⟨rfl, _, [], rfl, (by repeat (first | exact List.Sublist.refl _ | apply List.Sublist.cons)), RetR.mk ?_⟩
    first | exact congrArg Value.bool (card_y hD hE (by assumption) (by assumption) (by assumption) (by assumption)) | exact congrArg Value.bool (decide_eq_false (fun h => by subst h; exact absurd rfl (by assumption))).symm
  ·have g2p := of_decide_eq_false g2
   refine XO.guardF rfl rfl (g2) rfl rfl ?_; refine XO.guardF rfl rfl (g2) rfl rfl ?_; refine XO.guardF rfl rfl (g2) rfl rfl ?_; refine XO.guardF rfl rfl (g2) rfl rfl ?_; refine XO.pickF rfl (g2) rfl rfl ?_; refine XO.move rfl rfl ?_; refine XO.guardF rfl rfl (rfl) rfl rfl ?_; refine XO.guardF rfl rfl (rfl) rfl rfl ?_; refine XO.guardF rfl rfl (rfl) rfl rfl ?_; refine XO.guardF rfl rfl (rfl) rfl rfl ?_; refine XO.guardF rfl rfl (rfl) rfl rfl ?_; refine XO.pickF rfl (rfl) rfl rfl ?_; refine XO.move rfl rfl ?_; refine XO.guardF rfl rfl (rfl) rfl rfl ?_; refine XO.guardF rfl rfl (rfl) rfl rfl ?_; refine XO.guardF rfl rfl (rfl) rfl rfl ?_; refine XO.guardF rfl rfl (rfl) rfl rfl ?_; refine XO.guardF rfl rfl (rfl) rfl rfl ?_; refine XO.pickF rfl (rfl) rfl rfl ?_; refine XO.assign rfl rfl ?_; refine XO.nil ?_; refine XC.seq2 ?_; refine XC.ret ?_; refine ⟨rfl, _, [], rfl, (by repeat (first | exact List.Sublist.refl _ | apply List.Sublist.cons)), RetR.mk ?_⟩
   first | exact congrArg Value.bool (card_y hD hE (by assumption) (by assumption) (by assumption) (by assumption)) | exact congrArg Value.bool (decide_eq_false (fun h => by subst h; exact absurd rfl (by assumption))).symm
 ·have g1p := of_decide_eq_false g1
  refine XO.guardF rfl rfl (g1) rfl rfl ?_; refine XO.guardF rfl rfl (g1) rfl rfl ?_; refine XO.guardF rfl rfl (g1) rfl rfl ?_; refine XO.guardF rfl rfl (g1) rfl rfl ?_; refine XO.pickF rfl (g1) rfl rfl ?_; refine XO.move rfl rfl ?_; refine XO.guardF rfl rfl (rfl) rfl rfl ?_; refine XO.guardF rfl rfl (rfl) rfl rfl ?_; refine XO.guardF rfl rfl (rfl) rfl rfl ?_; refine XO.guardF rfl rfl (rfl) rfl rfl ?_; refine XO.guardF rfl rfl (rfl) rfl rfl ?_; refine XO.pickF rfl (rfl) rfl rfl ?_; refine XO.move rfl rfl ?_; refine XO.guardF rfl rfl (rfl) rfl rfl ?_; refine XO.guardF rfl rfl (rfl) rfl rfl ?_; refine XO.guardF rfl rfl (rfl) rfl rfl ?_; refine XO.guardF rfl rfl (rfl) rfl rfl ?_; refine XO.guardF rfl rfl (rfl) rfl rfl ?_; refine XO.pickF rfl (rfl) rfl rfl ?_; refine XO.move rfl rfl ?_; refine XO.guardF rfl rfl (rfl) rfl rfl ?_; refine XO.guardF rfl rfl (rfl) rfl rfl ?_; refine XO.guardF rfl rfl (rfl) rfl rfl ?_; refine XO.guardF rfl rfl (rfl) rfl rfl ?_; refine XO.guardF rfl rfl (rfl) rfl rfl ?_; refine XO.pickF rfl (rfl) rfl rfl ?_; refine XO.assign rfl rfl ?_; refine XO.nil ?_; refine XC.seq2 ?_; refine XC.ret ?_; refine ⟨rfl, _, [], rfl, (by repeat (first | exact List.Sublist.refl _ | apply List.Sublist.cons)), RetR.mk ?_⟩
  first | exact congrArg Value.bool (card_y hD hE (by assumption) (by assumption) (by assumption) (by assumption)) | exact congrArg Value.bool (decide_eq_false (fun h => by subst h; exact absurd rfl (by assumption))).symm

theorem before_fn (s t : Card) (a b : Option Addr) (c d : Nat) (H : Hp) (hs : SlR (intR .i64) H a c s.C) (ht : SlR (intR .i64) H b d t.C) (hD : s.D.length = 32) (hE : t.D.length = 32) : FnC Try.prog 36 #[.agg ⟨cardV s.R s.E s.J s.C.length s.D a c⟩, .agg ⟨cardV t.R t.E t.J t.C.length t.D b d⟩] H [] (RetR (fun v _ _ => v = .bool (decide (cmpL (plcL s) (plcL t) < 0)))) := by
 refine FnC.intro (args := [.agg ⟨cardV s.R s.E s.J s.C.length s.D a c⟩, .agg ⟨cardV t.R t.E t.J t.C.length t.D b d⟩]) Try.func36 rfl rfl Try.ntmps36 rfl rfl rfl fun G rest => ?_
 refine XC.seq ?_; refine XC.region ?_; refine XO.box rfl rfl rfl (fun b2 => ?_); refine XO.box rfl rfl rfl (fun b3 => ?_); refine XO.assign rfl rfl ?_; refine XO.nil ?_; refine XC.seq2 ?_; refine XC.seq ?_; refine XC.seq ?_; refine XC.region ?_; refine XO.fieldAddr rfl fa_27_0 rfl ?_; refine XO.loadO 1 rfl rfl ty_3 rfl rfl rfl ?_; refine XO.fieldAddr rfl fa_27_0 rfl ?_; refine XO.loadO 0 rfl rfl ty_3 rfl rfl rfl ?_; refine XO.neq rfl rfl rfl ?_; refine XO.nil ?_; refine XC.seq2 ?_; refine XC.cond rfl (fun c0_1 => ?_) (fun c0_1 => ?_)
 ·refine XC.seq ?_; refine XC.region ?_; refine XO.fieldAddr rfl fa_27_0 rfl ?_; refine XO.loadO 1 rfl rfl ty_3 rfl rfl rfl ?_; refine XO.fieldAddr rfl fa_27_0 rfl ?_; refine XO.loadO 0 rfl rfl ty_3 rfl rfl rfl ?_; refine XO.lss rfl rfl rfl ?_; refine XO.assign rfl rfl ?_; refine XO.nil ?_; refine XC.seq2 ?_; refine XC.ret ?_; refine seqX_ret ?_; refine ⟨rfl, _, [], rfl, (by repeat (first | exact List.Sublist.refl _ | apply List.Sublist.cons)), RetR.mk ?_⟩
  first | exact congrArg Value.bool (plc_R (by assumption)) | exact congrArg Value.bool (plc_E (by assumption) (by assumption)) | exact congrArg Value.bool (plc_J (by assumption) (by assumption))
 ·refine XC.skip ?_; refine XC.seq2 ?_; refine XC.seq ?_; refine XC.seq ?_; refine XC.region ?_; refine XO.fieldAddr rfl fa_27_1 rfl ?_; refine XO.loadO 1 rfl rfl ty_3 rfl rfl rfl ?_; refine XO.fieldAddr rfl fa_27_1 rfl ?_; refine XO.loadO 0 rfl rfl ty_3 rfl rfl rfl ?_; refine XO.neq rfl rfl rfl ?_; refine XO.nil ?_; refine XC.seq2 ?_; refine XC.cond rfl (fun c1_2 => ?_) (fun c1_2 => ?_)
  ·refine XC.seq ?_; refine XC.region ?_; refine XO.fieldAddr rfl fa_27_1 rfl ?_; refine XO.loadO 1 rfl rfl ty_3 rfl rfl rfl ?_; refine XO.fieldAddr rfl fa_27_1 rfl ?_; refine XO.loadO 0 rfl rfl ty_3 rfl rfl rfl ?_; refine XO.lss rfl rfl rfl ?_; refine XO.assign rfl rfl ?_; refine XO.nil ?_; refine XC.seq2 ?_; refine XC.ret ?_; refine seqX_ret ?_; refine ⟨rfl, _, [], rfl, (by repeat (first | exact List.Sublist.refl _ | apply List.Sublist.cons)), RetR.mk ?_⟩
   first | exact congrArg Value.bool (plc_R (by assumption)) | exact congrArg Value.bool (plc_E (by assumption) (by assumption)) | exact congrArg Value.bool (plc_J (by assumption) (by assumption))
  ·refine XC.skip ?_; refine XC.seq2 ?_; refine XC.seq ?_; refine XC.region ?_; refine XO.fieldAddr rfl fa_27_2 rfl ?_; refine XO.loadO 1 rfl rfl ty_3 rfl rfl rfl ?_; refine XO.fieldAddr rfl fa_27_2 rfl ?_; refine XO.loadO 0 rfl rfl ty_3 rfl rfl rfl ?_; refine XO.lss rfl rfl rfl ?_; refine XO.assign rfl rfl ?_; refine XO.nil ?_; refine XC.seq2 ?_; refine XC.ret ?_; refine ⟨rfl, _, [], rfl, (by repeat (first | exact List.Sublist.refl _ | apply List.Sublist.cons)), RetR.mk ?_⟩
   first | exact congrArg Value.bool (plc_R (by assumption)) | exact congrArg Value.bool (plc_E (by assumption) (by assumption)) | exact congrArg Value.bool (plc_J (by assumption) (by assumption))

theorem place_fn (s t : Card) (a b : Option Addr) (c d : Nat) (H : Hp) (hs : SlR (intR .i64) H a c s.C) (ht : SlR (intR .i64) H b d t.C) (hD : s.D.length = 32) (hE : t.D.length = 32) : FnC Try.prog 23 #[.agg ⟨cardV s.R s.E s.J s.C.length s.D a c⟩, .agg ⟨cardV t.R t.E t.J t.C.length t.D b d⟩] H [] (RetR (fun v _ _ => v = .bool (decide (plcL s = plcL t)))) := by
 refine FnC.intro (args := [.agg ⟨cardV s.R s.E s.J s.C.length s.D a c⟩, .agg ⟨cardV t.R t.E t.J t.C.length t.D b d⟩]) Try.func23 rfl rfl Try.ntmps23 rfl rfl rfl fun G rest => ?_
 refine XC.seq ?_; refine XC.region ?_; refine XO.box rfl rfl rfl (fun b2 => ?_); refine XO.box rfl rfl rfl (fun b3 => ?_); refine XO.assign rfl rfl ?_; refine XO.nil ?_; refine XC.seq2 ?_; refine XC.seq ?_; refine XC.region ?_; refine XO.loadO 1 rfl rfl ty_27 rfl rfl rfl ?_; refine XO.loadO 0 rfl rfl ty_27 rfl rfl rfl ?_; refine XO.callV rfl (before_fn s t _ _ _ _ _ hs ht hD hE) rfl ?_; refine XO.not rfl rfl ?_; refine XO.move rfl rfl ?_; refine XO.guardC rfl rfl rfl rfl (fun g2 => ?_) (fun g2 => ?_)
 ·have g2p := of_decide_eq_true g2
  refine XO.loadO 0 rfl rfl ty_27 rfl rfl rfl ?_; refine XO.guardT rfl rfl (g2) rfl ?_; refine XO.loadO 1 rfl rfl ty_27 rfl rfl rfl ?_; refine XO.guardT rfl rfl (g2) rfl ?_; refine XO.callV rfl (before_fn t s _ _ _ _ _ ht hs hE hD) rfl ?_; refine XO.guardT rfl rfl (g2) rfl ?_; refine XO.not rfl rfl ?_; refine XO.pickT rfl (g2) rfl rfl ?_; refine XO.assign rfl rfl ?_; refine XO.nil ?_; refine XC.seq2 ?_; refine XC.ret ?_; refine ⟨rfl, _, [], rfl, (by repeat (first | exact List.Sublist.refl _ | apply List.Sublist.cons)), RetR.mk ?_⟩
  first | exact congrArg Value.bool (place_2 (by assumption)) | exact congrArg Value.bool (place_1 (by assumption))
 ·have g2p := of_decide_eq_false g2
  refine XO.guardF rfl rfl (g2) rfl rfl ?_; refine XO.guardF rfl rfl (g2) rfl rfl ?_; refine XO.guardF rfl rfl (g2) rfl rfl ?_; refine XO.pickF rfl (g2) rfl rfl ?_; refine XO.assign rfl rfl ?_; refine XO.nil ?_; refine XC.seq2 ?_; refine XC.ret ?_; refine ⟨rfl, _, [], rfl, (by repeat (first | exact List.Sublist.refl _ | apply List.Sublist.cons)), RetR.mk ?_⟩
  first | exact congrArg Value.bool (place_2 (by assumption)) | exact congrArg Value.bool (place_1 (by assumption))

theorem at_fn (s : Card) (a : Option Addr) (c : Nat) (H : Hp) (hs : SlR (intR .i64) H a c s.C) (hD : s.D.length = 32) : FnC Try.prog 29 #[.agg ⟨cardV s.R s.E s.J s.C.length s.D a c⟩] H [] (RetR (fun v _ _ => v = .agg ⟨[.int .i64 s.R, .int .i64 s.E, .int .i64 s.J]⟩)) := by
 refine FnC.introC (args := [.agg ⟨cardV s.R s.E s.J s.C.length s.D a c⟩]) Try.func29 rfl rfl Try.ntmps29 rfl rfl rfl fun G rest => ?_
 refine XC.seq ?_; refine XC.region ?_; refine XO.box rfl rfl rfl (fun b1 => ?_); refine XO.alloc ze_55 rfl (fun b2 => ?_); refine XO.nil ?_; refine XC.seq2 ?_; refine XC.seq ?_; refine XC.region ?_; refine XO.fieldAddr rfl fa_27_0 rfl ?_; refine XO.loadO 1 rfl rfl ty_3 rfl rfl rfl ?_; refine XO.fieldAddr rfl fa_27_1 rfl ?_; refine XO.loadO 1 rfl rfl ty_3 rfl rfl rfl ?_; refine XO.fieldAddr rfl fa_27_2 rfl ?_; refine XO.loadO 1 rfl rfl ty_3 rfl rfl rfl ?_; refine XO.buildArr Try.underlying55 ty_3 ze_55 rfl rfl rfl ?_; refine XO.storeO 0 rfl rfl rfl rfl ty_55 rfl rfl rfl rfl rfl ?_; refine XO.nil ?_; refine XC.seq2 ?_; refine XC.ret ?_; refine ⟨rfl, _, [], (resC_cell 0 rfl rfl ty_55 rfl rfl resC_nil), (by repeat (first | exact List.Sublist.refl _ | apply List.Sublist.cons)), RetR.mk ?_⟩
 rfl

end Go.Proofs

/- Boxes: what lies in memory while a text is written, in plain Lean. -/
set_option maxRecDepth 100000
set_option autoImplicit false
set_option linter.unusedVariables false
set_option linter.unusedSimpArgs false
namespace Go.Proofs
open Go.XL
theorem fn56 : Try.prog.funcs[56]? = some Try.f56 := by kernel_rfl
theorem ext56 : Extern.find Try.f56 = some Extern.BytealgCompare.compare := by kernel_rfl
def LstV (l : List Val) (H : Hp) (v : Value) : Prop := ∃ a c, v = .agg ⟨[.int .i64 3, .int .i64 0, .string (bsOf []), .slice a l.length c]⟩ ∧ SlR valR H a c l
theorem LstV_mono (l : List Val) : ∀ v H H', Le H H' → LstV l H v → LstV l H' v := fun _ _ _ hle ⟨a, c, h1, h2⟩ => ⟨a, c, h1, h2.mono hle⟩
theorem EncR_mono (u : Val) : ∀ v H H', Le H H' → EncR u H v → EncR u H' v := fun _ _ _ hle ⟨a, c, h1, h2⟩ => ⟨a, c, h1.mono hle, h2⟩
theorem TxtU_mono (s : Card) : ∀ v H H', Le H H' → TxtU s H v → TxtU s H' v := fun _ _ _ hle ⟨a, c, h1, h2⟩ => ⟨a, c, h1, h2.mono hle⟩
theorem sl_commit {H : Hp} {b : Nat} {r e j0 : Int} {n : Nat} {D : List UInt8} {a : Option Addr} {c : Nat} (h : PtH H b 0 (cardV r e j0 n D a c)) (hD : D.length = 32) : SlR u8R H (some ⟨b, 4, none⟩) 32 D := by
  refine ⟨by omega, by simp, fun i x hx => ⟨b, 4, [.int .u8 ((x.toNat : Nat) : Int)], rfl, ?_, rfl⟩⟩
  obtain ⟨cc, T, fz, hb, hc⟩ := h
  refine ⟨cc, T, fz, hb, fun j u hj => ?_⟩
  have hi : i < 32 := by have := (List.getElem?_eq_some_iff.1 hx).1; omega
  cases j with
  | succ j => simp at hj
  | zero =>
    simp at hj; subst hj
    have hg : D.getD i 0 = x := by rw [List.getD_eq_getElem?_getD, hx]; rfl
    have key : ∀ i, i < 32 → (cardV r e j0 n D a c)[4 + i]? = some (u8c D i) := by
      intro i hi
      have : ∀ k : Fin 32, (cardV r e j0 n D a c)[4 + k.val]? = some (u8c D k.val) := by
        intro ⟨k, hk⟩
        rcases k with _ | _ | _ | _ | _ | _ | _ | _ | _ | _ | _ | _ | _ | _ | _ | _ | _ | _ | _ | _ | _ | _ | _ | _ | _ | _ | _ | _ | _ | _ | _ | _ | k
        all_goals first | rfl | omega
      exact this ⟨i, hi⟩
    have := hc (4 + i) (u8c D i) (key i hi)
    simp only [u8R, Nat.mul_one, Nat.add_zero, Nat.zero_add] at this ⊢
    rw [this]
    simp only [u8c, u8n, hg]
end Go.Proofs

/- The walks of the functions of boxes: what each of them computes, at any input. -/
set_option maxRecDepth 100000
set_option autoImplicit false
set_option linter.unusedVariables false
set_option linter.unusedSimpArgs false
namespace Go.Proofs
open Go.XL

theorem by_87 : Nat.ble (Try.prog.bytesOf 87) 4096 = true := by kernel_rfl
theorem ze_3 : zeroC Try.prog 3 = some [.int .i64 0] := by kernel_rfl

theorem list_own (a : Option Addr) (c : Nat) (l : List Int) (H : Hp) (hs : SlR (intR .i64) H a c l) (hl : l.length ≤ 100000) : FnC Try.prog 57 #[.slice a l.length c] H [] (RetR (fun v H2 own => ∃ p a2 c2, own = [p] ∧ v = .slice a2 (l.map intV).length c2 ∧ XL.Acc valR 87 H2 p a2 c2 (l.map intV))) := by
 refine FnC.intro (args := [.slice a l.length c]) Try.func57 rfl rfl Try.ntmps57 rfl rfl rfl fun G rest => ?_
 refine XC.seq ?_; refine XC.region ?_; refine XO.assign rfl rfl ?_; refine XO.nil ?_; refine XC.seq2 ?_; refine XC.seq ?_; refine XC.seq ?_; refine XC.region ?_; refine XO.move rfl rfl ?_; refine XO.lenS (ts := #[]) rfl Try.underlying23 rfl ?_; refine XO.move rfl rfl ?_; refine XO.nil ?_; refine XC.seq2 ?_; refine XC.block ?_; refine XC.keep [2, 7, 5, 6] rfl ?_; refine XC.open0 0 ?_; refine XC.loop (base := [(5, _), (6, _)]) (fun ζ : Nat × ((Nat × SObj) × Option Addr × Nat) => [(2, .slice ζ.2.2.1 ((l.take (ζ.1)).map intV).length ζ.2.2.2), (7, .int .i64 (ζ.1 : Nat))]) (fun ζ Hl own => ζ.1 ≤ l.length ∧ ζ.2.1 :: rest = own ∧ Acc valR 87 Hl ζ.2.1 ζ.2.2.1 ζ.2.2.2 ((l.take (ζ.1)).map intV)) (fun ζ => l.length - ζ.1) (0, ((0, .nothing), none, 0)) (prov_cons (rfl) (prov_cons (rfl) (prov_cons (rfl) (prov_cons (rfl) prov_nil)))) (by repeat (first | exact List.Sublist.refl _ | apply List.Sublist.cons_cons | apply List.Sublist.cons)) ⟨Nat.zero_le _, rfl, Acc.nil _ _ _ _⟩ ?_; rintro ⟨k, ⟨pw, aw, cw⟩⟩ Hl0 _ hle0 ⟨hkk, rfl, haccw⟩; replace hs := hs.mono hle0
 try dsimp only at hkk haccw ⊢
 refine XC.seq ?_; refine XC.region ?_; refine XO.lss rfl rfl rfl ?_; refine XO.nil ?_; refine XC.seq2 ?_; refine XC.seq ?_; refine XC.cond rfl (fun c0_1 => ?_) (fun c0_1 => ?_)
 ·refine XC.skip ?_; refine XC.seq2 ?_; refine XC.seq ?_; refine XC.block ?_; refine XC.seq ?_; refine XC.region ?_; refine XO.indexN rfl hs rfl Try.underlying23 ty_3 (by omega) rfl ?_; rintro eb9 eo9 _ x9 hx9 rfl hp9; refine XO.loadH rfl (by assumption) ty_3 rfl rfl rfl ?_; refine XO.assign rfl rfl ?_; refine XO.nil ?_; refine XC.seq2 ?_; refine XC.region ?_; refine XO.move rfl rfl ?_; refine XO.move rfl rfl ?_; refine XO.build bk_87 bf_87 ze_87 rfl rfl rfl ?_; refine XO.buildSlice rfl Try.underlying85 ty_87 ze_87 rfl rfl rfl (fun b14 => ?_); refine XO.publish 0 rfl rfl rfl (fun HP14 oP14 hleP14 hbP14 hoP14 => ?_); replace hs := hs.mono hleP14; replace haccw := haccw.mono hleP14; replace hp9 := hp9.mono hleP14; replace hle0 := hle0.trans hleP14
  have hsl14 := SlR.lit (ρ := valR) (l := [intV x9]) hbP14 hoP14 (RowsR.one1 (valR_iff.2 ⟨none, 0, rfl, SlR.nil0 _ _⟩))
  refine XO.appendA 0 rfl rfl haccw rfl rfl hsl14 rfl Try.underlying85 ty_87 ze_87 rfl by_87 (by simp; omega) rfl (fun p15 a15 c15 hacc15 => ?_); refine XO.assign rfl rfl ?_; refine XO.nil ?_; refine blockN ?_; refine XC.seq2 ?_; refine XC.region ?_; refine XO.add rfl rfl (wrap_i64 (by omega) (by omega)) rfl ?_; refine XO.move rfl rfl ?_; refine XO.nil ?_; refine loop_next ((k + 1, (p15, a15, c15))) (by show l.length - (k + 1) < l.length - k; omega) (prov_cons (by first | rfl | (rw [map_take_snoc hx9]; rfl)) (prov_cons (rfl) (prov_cons (rfl) (prov_cons (rfl) prov_nil)))) (⟨by show k + 1 ≤ l.length; omega, rfl, by first | (exact hacc15) | (rw [map_take_snoc hx9]; exact hacc15)⟩) (by repeat (first | exact List.Sublist.refl _ | apply List.Sublist.cons_cons | apply List.Sublist.cons)) (hle0)
 ·obtain rfl : k = l.length := by omega
  rw [List.take_length] at haccw ⊢
  refine XC.exit ?_; refine seqX_exit ?_; refine loopX_exit ?_; refine blockHit rfl ?_; refine XC.seq2 ?_; refine XC.seq ?_; refine XC.region ?_; refine XO.move rfl rfl ?_; refine XO.assign rfl rfl ?_; refine XO.nil ?_; refine XC.seq2 ?_; refine XC.ret ?_; refine ⟨rfl, _, [pw], rfl, (by repeat (first | exact List.Sublist.refl _ | apply List.Sublist.cons_cons | apply List.Sublist.cons)), RetR.mk ?_⟩
  exact ⟨_, _, _, rfl, rfl, haccw⟩

theorem list_pub (a : Option Addr) (c : Nat) (l : List Int) (H : Hp) (hs : SlR (intR .i64) H a c l) (hl : l.length ≤ 100000) : FnC Try.prog 57 #[.slice a l.length c] H [] (RetR (fun v H2 _ => ∃ a2 c2, v = .slice a2 (l.map intV).length c2 ∧ SlR valR H2 a2 c2 (l.map intV))) := by
 refine FnC.intro (args := [.slice a l.length c]) Try.func57 rfl rfl Try.ntmps57 rfl rfl rfl fun G rest => ?_
 refine XC.seq ?_; refine XC.region ?_; refine XO.assign rfl rfl ?_; refine XO.nil ?_; refine XC.seq2 ?_; refine XC.seq ?_; refine XC.seq ?_; refine XC.region ?_; refine XO.move rfl rfl ?_; refine XO.lenS (ts := #[]) rfl Try.underlying23 rfl ?_; refine XO.move rfl rfl ?_; refine XO.nil ?_; refine XC.seq2 ?_; refine XC.block ?_; refine XC.keep [2, 7, 5, 6] rfl ?_; refine XC.open0 0 ?_; refine XC.loop (base := [(5, _), (6, _)]) (fun ζ : Nat × ((Nat × SObj) × Option Addr × Nat) => [(2, .slice ζ.2.2.1 ((l.take (ζ.1)).map intV).length ζ.2.2.2), (7, .int .i64 (ζ.1 : Nat))]) (fun ζ Hl own => ζ.1 ≤ l.length ∧ ζ.2.1 :: rest = own ∧ Acc valR 87 Hl ζ.2.1 ζ.2.2.1 ζ.2.2.2 ((l.take (ζ.1)).map intV)) (fun ζ => l.length - ζ.1) (0, ((0, .nothing), none, 0)) (prov_cons (rfl) (prov_cons (rfl) (prov_cons (rfl) (prov_cons (rfl) prov_nil)))) (by repeat (first | exact List.Sublist.refl _ | apply List.Sublist.cons_cons | apply List.Sublist.cons)) ⟨Nat.zero_le _, rfl, Acc.nil _ _ _ _⟩ ?_; rintro ⟨k, ⟨pw, aw, cw⟩⟩ Hl0 _ hle0 ⟨hkk, rfl, haccw⟩; replace hs := hs.mono hle0
 try dsimp only at hkk haccw ⊢
 refine XC.seq ?_; refine XC.region ?_; refine XO.lss rfl rfl rfl ?_; refine XO.nil ?_; refine XC.seq2 ?_; refine XC.seq ?_; refine XC.cond rfl (fun c0_1 => ?_) (fun c0_1 => ?_)
 ·refine XC.skip ?_; refine XC.seq2 ?_; refine XC.seq ?_; refine XC.block ?_; refine XC.seq ?_; refine XC.region ?_; refine XO.indexN rfl hs rfl Try.underlying23 ty_3 (by omega) rfl ?_; rintro eb9 eo9 _ x9 hx9 rfl hp9; refine XO.loadH rfl (by assumption) ty_3 rfl rfl rfl ?_; refine XO.assign rfl rfl ?_; refine XO.nil ?_; refine XC.seq2 ?_; refine XC.region ?_; refine XO.move rfl rfl ?_; refine XO.move rfl rfl ?_; refine XO.build bk_87 bf_87 ze_87 rfl rfl rfl ?_; refine XO.buildSlice rfl Try.underlying85 ty_87 ze_87 rfl rfl rfl (fun b14 => ?_); refine XO.publish 0 rfl rfl rfl (fun HP14 oP14 hleP14 hbP14 hoP14 => ?_); replace hs := hs.mono hleP14; replace haccw := haccw.mono hleP14; replace hp9 := hp9.mono hleP14; replace hle0 := hle0.trans hleP14
  have hsl14 := SlR.lit (ρ := valR) (l := [intV x9]) hbP14 hoP14 (RowsR.one1 (valR_iff.2 ⟨none, 0, rfl, SlR.nil0 _ _⟩))
  refine XO.appendA 0 rfl rfl haccw rfl rfl hsl14 rfl Try.underlying85 ty_87 ze_87 rfl by_87 (by simp; omega) rfl (fun p15 a15 c15 hacc15 => ?_); refine XO.assign rfl rfl ?_; refine XO.nil ?_; refine blockN ?_; refine XC.seq2 ?_; refine XC.region ?_; refine XO.add rfl rfl (wrap_i64 (by omega) (by omega)) rfl ?_; refine XO.move rfl rfl ?_; refine XO.nil ?_; refine loop_next ((k + 1, (p15, a15, c15))) (by show l.length - (k + 1) < l.length - k; omega) (prov_cons (by first | rfl | (rw [map_take_snoc hx9]; rfl)) (prov_cons (rfl) (prov_cons (rfl) (prov_cons (rfl) prov_nil)))) (⟨by show k + 1 ≤ l.length; omega, rfl, by first | (exact hacc15) | (rw [map_take_snoc hx9]; exact hacc15)⟩) (by repeat (first | exact List.Sublist.refl _ | apply List.Sublist.cons_cons | apply List.Sublist.cons)) (hle0)
 ·obtain rfl : k = l.length := by omega
  rw [List.take_length] at haccw ⊢
  refine XC.exit ?_; refine seqX_exit ?_; refine loopX_exit ?_; refine blockHit rfl ?_; refine XC.seq2 ?_; refine XC.seq ?_; refine XC.region ?_; refine XO.move rfl rfl ?_; refine XO.assign rfl rfl ?_; refine XO.nil ?_; refine XC.seq2 ?_; refine XC.publishA 0 rfl haccw rfl (fun HQ4 hleQ4 hsQ4 => ?_); replace hs := hs.mono hleQ4; replace hle0 := hle0.trans hleQ4; refine XC.ret ?_; refine ⟨rfl, _, [], rfl, (by repeat (first | exact List.Sublist.refl _ | apply List.Sublist.cons)), RetR.mk ?_⟩
  exact ⟨_, _, rfl, by assumption⟩

theorem ints_fn (a : Option Addr) (c : Nat) (l : List Int) (H : Hp) (hs : SlR (intR .i64) H a c l) (hl : l.length ≤ 100000) : FnC Try.prog 63 #[.slice a l.length c] H [] (RetR (fun v H2 _ => LstV (l.map intV) H2 v)) := by
 refine FnC.introC (args := [.slice a l.length c]) Try.func63 rfl rfl Try.ntmps63 rfl rfl rfl fun G rest => ?_
 refine XC.seq ?_; refine XC.region ?_; refine XO.alloc ze_87 rfl (fun b2 => ?_); refine XO.nil ?_; refine XC.seq2 ?_; refine XC.seq ?_; refine XC.region ?_; refine XO.build bk_87 bf_87 ze_87 rfl rfl rfl ?_; refine XO.alloc ze_87 rfl (fun b3 => ?_); refine XO.storeO 0 rfl rfl rfl rfl ty_87 rfl rfl rfl rfl rfl ?_; refine XO.nil ?_; refine XC.seq2 ?_; refine XC.seq ?_; refine XC.seq ?_; refine XC.region ?_; refine XO.open0 (σ := []) (fun b0 => ?_); refine XO.assign rfl rfl ?_; refine XO.nil ?_; refine XC.seq2 ?_; refine XC.block ?_; refine XC.keep [4, 0, 2, 3] rfl ?_; refine XC.loop (base := [(0, _), (2, _), (3, _)]) (fun ζ : Nat × (Nat × SObj) × (Option Addr) × (Nat) × (Nat) => [(4, .int .i64 (ζ.1 : Nat))]) (fun ζ Hl own => ζ.1 ≤ l.length ∧ ζ.2.1 :: (b3, .cells 87 [.int .i64 3, .int .i64 0, .string (bsOf []), .slice ζ.2.2.1 ζ.2.2.2.2 ζ.2.2.2.1]) :: (b2, .cells 87 [.int .i64 0, .int .i64 0, .string (bsOf []), .slice none 0 0]) :: rest = own ∧ (XL.Acc valR 87 Hl ζ.2.1 ζ.2.2.1 ζ.2.2.2.1 ((l.take (ζ.1)).map intV)) ∧ (ζ.2.2.2.2 = ((l.take (ζ.1)).map intV).length)) (fun ζ => l.length - ζ.1) (0, (b0, .nothing), none, 0, 0) (prov_cons (rfl) (prov_cons (rfl) (prov_cons (rfl) (prov_cons (rfl) prov_nil)))) (by repeat (first | exact List.Sublist.refl _ | apply List.Sublist.cons_cons | apply List.Sublist.cons)) ⟨Nat.zero_le _, rfl, Acc.nil _ _ _ _, rfl⟩ ?_; rintro ⟨k, po, ao, co, nl⟩ Hl0 _ hle0 ⟨hkk, rfl, hacc, hnl⟩; replace hs := hs.mono hle0
 try dsimp only at hkk hacc hnl ⊢
 subst hnl
 refine XC.seq ?_; refine XC.seq ?_; refine XC.region ?_; refine XO.move rfl rfl ?_; refine XO.move rfl rfl ?_; refine XO.lenS (ts := #[]) rfl Try.underlying23 rfl ?_; refine XO.lss rfl rfl rfl ?_; refine XO.nil ?_; refine XC.seq2 ?_; refine XC.cond rfl (fun c0_1 => ?_) (fun c0_1 => ?_)
 ·refine XC.skip ?_; refine XC.seq2 ?_; refine XC.seq ?_; refine XC.block ?_; refine XC.keep [0, 2, 3, 4] rfl ?_; obtain ⟨bEX, oEX, rfl⟩ := hs.addr (by omega); obtain ⟨_, xX, hxX, rfl, hpX⟩ := hs.elem (k) (by omega)
  apply XC.drawV (fun _ => True) trivial 8 (fun p H => XL.Acc valR 87 H p ao co ((l.take k).map intV)) (fun v p H => ∃ a2 c2, v = .slice a2 (((l.take k).map intV) ++ [intV xX]).length c2 ∧ XL.Acc valR 87 H p a2 c2 (((l.take k).map intV) ++ [intV xX])) (fun _ _ _ hle h => h.mono hle) (fun _ _ _ _ hle ⟨a2, c2, h1, h2⟩ => ⟨a2, c2, h1, h2.mono hle⟩) 9 [eqF _, eqF _, eqF _, eqF _, eqF _, eqF _, eqF _, slF valR [intV xX], anyF] follows (by kernel_rfl) ⟨eqF_mono _, eqF_mono _, eqF_mono _, eqF_mono _, eqF_mono _, eqF_mono _, eqF_mono _, slF_mono _ _, anyF_mono, trivial⟩ rfl rfl (hacc) ?steps2 ?tail2
  case steps2 =>
   refine stepsV_cons rfl ?_ ?_
   ·intro X e HD hleD _ hfa
    replace hs := hs.mono hleD; replace hacc := hacc.mono hleD; replace hpX := hpX.mono hleD; replace hle0 := hle0.trans hleD; refine withP_nil rfl ?_; refine XO.fieldAddr rfl fa_87_3 rfl ?_; refine XO.nil ?_
    exact stepQV_ok trivial (rfl) (by unfold foV; rw [if_neg (by decide)])
   refine stepsV_cons rfl ?_ ?_
   ·intro X e HD hleD _ hfa
    replace hs := hs.mono hleD; replace hacc := hacc.mono hleD; replace hpX := hpX.mono hleD; replace hle0 := hle0.trans hleD; refine withP_cons rfl rfl ?_; rintro _ rfl; refine withP_nil rfl ?_; refine XO.loadO 1 rfl rfl ty_85 rfl rfl rfl ?_; refine XO.nil ?_
    exact stepQV_ok trivial (rfl) (by unfold foV; rw [if_neg (by decide)])
   refine stepsV_cons rfl ?_ ?_
   ·intro X e HD hleD _ hfa
    replace hs := hs.mono hleD; replace hacc := hacc.mono hleD; replace hpX := hpX.mono hleD; replace hle0 := hle0.trans hleD; refine withP_nil rfl ?_; refine XO.move rfl rfl ?_; refine XO.nil ?_
    exact stepQV_ok trivial (rfl) (by unfold foV; rw [if_neg (by decide)])
   refine stepsV_cons rfl ?_ ?_
   ·intro X e HD hleD _ hfa
    replace hs := hs.mono hleD; replace hacc := hacc.mono hleD; replace hpX := hpX.mono hleD; replace hle0 := hle0.trans hleD; refine withP_nil rfl ?_; refine XO.move rfl rfl ?_; refine XO.nil ?_
    exact stepQV_ok trivial (rfl) (by unfold foV; rw [if_neg (by decide)])
   refine stepsV_cons rfl ?_ ?_
   ·intro X e HD hleD _ hfa
    replace hs := hs.mono hleD; replace hacc := hacc.mono hleD; replace hpX := hpX.mono hleD; replace hle0 := hle0.trans hleD; refine withP_cons rfl rfl ?_; rintro _ rfl; refine withP_cons rfl rfl ?_; rintro _ rfl; refine withP_nil rfl ?_; refine XO.indexE rfl rfl Try.underlying23 ty_3 (by omega) (by omega) rfl ?_; refine XO.nil ?_
    exact stepQV_ok trivial (rfl) (by unfold foV; rw [if_neg (by decide)])
   refine stepsV_cons rfl ?_ ?_
   ·intro X e HD hleD _ hfa
    replace hs := hs.mono hleD; replace hacc := hacc.mono hleD; replace hpX := hpX.mono hleD; replace hle0 := hle0.trans hleD; refine withP_cons rfl rfl ?_; rintro _ rfl; refine withP_nil rfl ?_; refine XO.loadH rfl (by assumption) ty_3 rfl rfl rfl ?_; refine XO.nil ?_
    exact stepQV_ok trivial (rfl) (by unfold foV; rw [if_neg (by decide)])
   refine stepsV_cons rfl ?_ ?_
   ·intro X e HD hleD _ hfa
    replace hs := hs.mono hleD; replace hacc := hacc.mono hleD; replace hpX := hpX.mono hleD; replace hle0 := hle0.trans hleD; refine withP_cons rfl rfl ?_; rintro _ rfl; refine withP_nil rfl ?_; refine XO.callV rfl (int_fn xX _) rfl ?_; refine XO.nil ?_
    exact stepQV_ok trivial (rfl) (by unfold foV; rw [if_neg (by decide)])
   refine stepsV_cons rfl ?_ ?_
   ·intro X e HD hleD _ hfa
    replace hs := hs.mono hleD; replace hacc := hacc.mono hleD; replace hpX := hpX.mono hleD; replace hle0 := hle0.trans hleD; refine withP_cons rfl rfl ?_; rintro _ rfl; refine withP_nil rfl ?_; refine XO.buildSlice rfl Try.underlying85 ty_87 ze_87 rfl rfl rfl (fun b19 => ?_); refine XO.publish 0 rfl rfl rfl (fun HP19 oP19 hleP19 hbP19 hoP19 => ?_); replace hs := hs.mono hleP19; replace hacc := hacc.mono hleP19; replace hpX := hpX.mono hleP19; replace hle0 := hle0.trans hleP19
    have hsl19 := SlR.lit (ρ := valR) (l := [intV xX]) hbP19 hoP19 (RowsR.one1 (valR_iff.2 ⟨none, 0, rfl, SlR.nil0 _ _⟩))
    refine XO.nil ?_
    exact stepQV_ok trivial (⟨_, rfl, hsl19⟩) (by unfold foV; rw [if_neg (by decide)])
   refine stepsV_cons rfl ?_ ?_
   ·intro X e HD hleD _ hfa
    replace hs := hs.mono hleD; replace hacc := hacc.mono hleD; replace hpX := hpX.mono hleD; replace hle0 := hle0.trans hleD; refine withP_cons rfl rfl ?_; rintro _ rfl; refine withP_cons rfl rfl ?_; rintro _ ⟨bs19, rfl, hsl19⟩; refine withP_nil rfl ?_
    have hfa := hfa rfl
    skip
    refine XO.appendA 0 rfl rfl hfa rfl rfl hsl19 rfl Try.underlying85 ty_87 ze_87 rfl by_87 (by simp; omega) rfl (fun p20 a20 c20 hacc20 => ?_); refine XO.nil ?_
    exact stepQV_ok trivial (trivial) (by unfold foV; rw [if_pos rfl]; exact ⟨_, _, rfl, hacc20⟩)
   exact stepsV_end rfl
  case tail2 =>
   intro HD hleD _
   replace hs := hs.mono hleD; replace hacc := hacc.mono hleD; replace hpX := hpX.mono hleD; replace hle0 := hle0.trans hleD; refine withP_cons rfl rfl ?_; rintro _ rfl; refine withP_cons rfl rfl ?_; rintro _ rfl; refine withP_cons rfl rfl ?_; rintro _ rfl; refine withP_cons rfl rfl ?_; rintro _ rfl; refine withP_cons rfl rfl ?_; rintro _ rfl; refine withP_cons rfl rfl ?_; rintro _ rfl; refine withP_cons rfl rfl ?_; rintro _ rfl; refine withP_cons rfl rfl ?_; rintro _ ⟨bs19, rfl, hsl19⟩; refine withP_cons rfl rfl ?_; rintro _ _; refine withP_nil rfl ?_
   intro e he
   obtain ⟨a2, c2, hv2, hacc2⟩ := he _ rfl
   subst hv2
   refine XO.fieldAddr rfl fa_87_3 rfl ?_; refine XO.storeO 1 rfl rfl rfl rfl ty_85 rfl rfl rfl rfl rfl ?_; refine XO.nil ?_; refine blockN ?_; refine XC.seq2 ?_; refine XC.region ?_; refine XO.move rfl rfl ?_; refine XO.add rfl rfl (wrap_i64 (by omega) (by omega)) rfl ?_; refine XO.assign rfl rfl ?_; refine XO.nil ?_; refine loop_next ((k + 1, e, a2, c2, (((l.take k).map intV) ++ [intV xX]).length)) (by show l.length - (k + 1) < l.length - k; omega) (prov_cons (rfl) (prov_cons (rfl) (prov_cons (rfl) (prov_cons (rfl) prov_nil)))) (⟨by show k + 1 ≤ l.length; omega, rfl, by rw [map_take_snoc hxX]; exact hacc2, by rw [map_take_snoc hxX]⟩) (by repeat (first | exact List.Sublist.refl _ | apply List.Sublist.cons_cons | apply List.Sublist.cons)) (hle0)
 ·obtain rfl : k = l.length := by omega
  rw [List.take_length] at hacc ⊢
  refine XC.exit ?_; refine seqX_exit ?_; refine loopX_exit ?_; refine blockHit rfl ?_; refine XC.seq2 ?_; refine XC.seq ?_; refine XC.region ?_; refine XO.publishA 0 rfl hacc rfl (fun HQ hleQ hsQ => ?_); replace hs := hs.mono hleQ; replace hle0 := hle0.trans hleQ; refine XO.loadO 0 rfl rfl ty_87 rfl rfl rfl ?_; refine XO.storeO 1 rfl rfl rfl rfl ty_87 rfl rfl rfl rfl rfl ?_; refine XO.nil ?_; refine XC.seq2 ?_; refine XC.ret ?_; refine ⟨rfl, _, [], (resC_cell 1 rfl rfl ty_87 rfl rfl resC_nil), (by repeat (first | exact List.Sublist.refl _ | apply List.Sublist.cons)), RetR.mk ?_⟩
  exact ⟨_, _, rfl, hsQ⟩

theorem text_own (s : Card) (a : Option Addr) (c : Nat) (H : Hp) (hs : SlR (intR .i64) H a c s.C) (hD : s.D.length = 32) (hok : okC s) : FnC Try.prog 48 #[.agg ⟨cardV s.R s.E s.J s.C.length s.D a c⟩] H [] (RetR (fun v H2 _ => TxtU s H2 v)) := by
 refine FnC.intro (args := [.agg ⟨cardV s.R s.E s.J s.C.length s.D a c⟩]) Try.func48 rfl rfl Try.ntmps48 rfl rfl rfl fun G rest => ?_
 have hcl := (okC_rng hok).2.2.2.1.2
 have hrg := okC_rng hok
 refine XC.seq ?_; refine XC.region ?_; refine XO.box rfl rfl rfl (fun b1 => ?_); refine XO.assign rfl rfl ?_; refine XO.nil ?_; refine XC.seq2 ?_; refine XC.seq ?_; refine XC.region ?_; refine XO.publish 0 rfl rfl rfl (fun HK1 oK1 hleK1 hbK1 hoK1 => ?_)
 have hpK1 := PtH.of_is hbK1 hoK1
 replace hs := hs.mono hleK1
 have hsD := sl_commit hpK1 hD
 refine XO.assign rfl rfl ?_; refine XO.nil ?_; refine XC.seq2 ?_; refine XC.seq ?_; refine XC.keep [1, 3] rfl ?_
 apply XC.drawM (fun _ => True) trivial [8] (by decide) [(19, 8)] (ownF valR 87 [intV s.R, intV s.E, intV s.J]) (fun _ _ p _ => p.2 = .nothing) (ownF_mono _ _ _) (fun _ _ _ _ _ _ h => h) 20 [eqF _, eqF _, eqF _, eqF _, eqF _, eqF _, eqF _, slF (intR .i64) [s.R, s.E, s.J], anyF, eqF _, eqF _, eqF _, slG valR (s.C.map intV), fun v H => LstV (s.C.map intV) H v, eqF _, eqF _, eqF _, eqF _, slF valR [Val.mk 3 0 [] (s.C.map intV), Val.mk 2 0 s.D []], slG valR ([intV s.R, intV s.E, intV s.J] ++ [Val.mk 3 0 [] (s.C.map intV), Val.mk 2 0 s.D []])] follows (by kernel_rfl) ⟨eqF_mono _, eqF_mono _, eqF_mono _, eqF_mono _, eqF_mono _, eqF_mono _, eqF_mono _, slF_mono _ _, anyF_mono, eqF_mono _, eqF_mono _, eqF_mono _, slG_mono _ _, LstV_mono _, eqF_mono _, eqF_mono _, eqF_mono _, eqF_mono _, slF_mono _ _, slG_mono _ _, trivial⟩ (by decide) (by kernel_rfl) ?steps1 ?tail1
 case steps1 =>
  refine stepsM_cons rfl rfl ?_ ?_
  ·intro X ext HD hleD _
   replace hs := hs.mono hleD; replace hpK1 := hpK1.mono hleD; replace hsD := hsD.mono hleD; refine withP_nil rfl ?_; refine XO.move rfl rfl ?_; refine XO.nil ?_; exact stepQN_ok rfl trivial (rfl)
  refine stepsM_cons rfl rfl ?_ ?_
  ·intro X ext HD hleD _
   replace hs := hs.mono hleD; replace hpK1 := hpK1.mono hleD; replace hsD := hsD.mono hleD; refine withP_nil rfl ?_; refine XO.fieldAddr rfl fa_27_0 rfl ?_; refine XO.nil ?_; exact stepQN_ok rfl trivial (rfl)
  refine stepsM_cons rfl rfl ?_ ?_
  ·intro X ext HD hleD _
   replace hs := hs.mono hleD; replace hpK1 := hpK1.mono hleD; replace hsD := hsD.mono hleD; refine withP_cons rfl rfl ?_; rintro _ rfl; refine withP_nil rfl ?_; refine XO.loadHF rfl (by assumption) ty_3 rfl rfl rfl ?_; refine XO.nil ?_; exact stepQN_ok rfl trivial (rfl)
  refine stepsM_cons rfl rfl ?_ ?_
  ·intro X ext HD hleD _
   replace hs := hs.mono hleD; replace hpK1 := hpK1.mono hleD; replace hsD := hsD.mono hleD; refine withP_nil rfl ?_; refine XO.fieldAddr rfl fa_27_1 rfl ?_; refine XO.nil ?_; exact stepQN_ok rfl trivial (rfl)
  refine stepsM_cons rfl rfl ?_ ?_
  ·intro X ext HD hleD _
   replace hs := hs.mono hleD; replace hpK1 := hpK1.mono hleD; replace hsD := hsD.mono hleD; refine withP_cons rfl rfl ?_; rintro _ rfl; refine withP_nil rfl ?_; refine XO.loadHF rfl (by assumption) ty_3 rfl rfl rfl ?_; refine XO.nil ?_; exact stepQN_ok rfl trivial (rfl)
  refine stepsM_cons rfl rfl ?_ ?_
  ·intro X ext HD hleD _
   replace hs := hs.mono hleD; replace hpK1 := hpK1.mono hleD; replace hsD := hsD.mono hleD; refine withP_nil rfl ?_; refine XO.fieldAddr rfl fa_27_2 rfl ?_; refine XO.nil ?_; exact stepQN_ok rfl trivial (rfl)
  refine stepsM_cons rfl rfl ?_ ?_
  ·intro X ext HD hleD _
   replace hs := hs.mono hleD; replace hpK1 := hpK1.mono hleD; replace hsD := hsD.mono hleD; refine withP_cons rfl rfl ?_; rintro _ rfl; refine withP_nil rfl ?_; refine XO.loadHF rfl (by assumption) ty_3 rfl rfl rfl ?_; refine XO.nil ?_; exact stepQN_ok rfl trivial (rfl)
  refine stepsM_cons rfl rfl ?_ ?_
  ·intro X ext HD hleD _
   replace hs := hs.mono hleD; replace hpK1 := hpK1.mono hleD; replace hsD := hsD.mono hleD; refine withP_cons rfl rfl ?_; rintro _ rfl; refine withP_cons rfl rfl ?_; rintro _ rfl; refine withP_cons rfl rfl ?_; rintro _ rfl; refine withP_nil rfl ?_; refine XO.buildSlice rfl Try.underlying23 ty_3 ze_3 rfl rfl rfl (fun b14 => ?_); refine XO.publish 0 rfl rfl rfl (fun HP14 oP14 hleP14 hbP14 hoP14 => ?_)
   have hsl14 := SlR.lit (ρ := (intR .i64)) (l := [s.R, s.E, s.J]) hbP14 hoP14 (RowsR.cons1 (cs := [_]) rfl (RowsR.cons1 (cs := [_]) rfl (RowsR.one1 rfl)))
   replace hs := hs.mono hleP14; replace hpK1 := hpK1.mono hleP14; replace hsD := hsD.mono hleP14; refine XO.nil ?_
   exact stepQN_ok rfl trivial (⟨_, rfl, hsl14⟩)
  refine stepsM_cons rfl rfl ?_ ?_
  ·intro X ext HD hleD _
   replace hs := hs.mono hleD; replace hpK1 := hpK1.mono hleD; replace hsD := hsD.mono hleD; refine withP_cons rfl rfl ?_; rintro _ rfl; refine withP_cons rfl rfl ?_; rintro _ ⟨bs14, rfl, hsl14⟩; refine withP_nil rfl ?_; refine XO.callVal [] (ownF := []) rfl trivial rfl (FnV.of_fn (cap := []) (args := [_]) (list_own _ _ [s.R, s.E, s.J] _ hsl14 (show (3 : Nat) ≤ 100000 by decide))) rfl rfl ?_; rintro _ HN oN hleN ⟨pe, ae, ce, rfl, rfl, hacc⟩; replace hs := hs.mono hleN; replace hpK1 := hpK1.mono hleN; replace hsD := hsD.mono hleN; replace hsl14 := hsl14.mono hleN; refine XO.nil ?_
   exact stepQN_new rfl trivial trivial (⟨_, _, rfl, hacc⟩)
  refine stepsM_cons rfl rfl ?_ ?_
  ·intro X ext HD hleD _
   replace hs := hs.mono hleD; replace hpK1 := hpK1.mono hleD; replace hsD := hsD.mono hleD; refine withP_nil rfl ?_; refine XO.move rfl rfl ?_; refine XO.nil ?_; exact stepQN_ok rfl trivial (rfl)
  refine stepsM_cons rfl rfl ?_ ?_
  ·intro X ext HD hleD _
   replace hs := hs.mono hleD; replace hpK1 := hpK1.mono hleD; replace hsD := hsD.mono hleD; refine withP_nil rfl ?_; refine XO.fieldAddr rfl fa_27_3 rfl ?_; refine XO.nil ?_; exact stepQN_ok rfl trivial (rfl)
  refine stepsM_cons rfl rfl ?_ ?_
  ·intro X ext HD hleD _
   replace hs := hs.mono hleD; replace hpK1 := hpK1.mono hleD; replace hsD := hsD.mono hleD; refine withP_cons rfl rfl ?_; rintro _ rfl; refine withP_nil rfl ?_; refine XO.loadHF rfl (by assumption) ty_23 rfl rfl rfl ?_; refine XO.nil ?_; exact stepQN_ok rfl trivial (rfl)
  refine stepsM_cons rfl rfl ?_ ?_
  ·intro X ext HD hleD _
   replace hs := hs.mono hleD; replace hpK1 := hpK1.mono hleD; replace hsD := hsD.mono hleD; refine withP_cons rfl rfl ?_; rintro _ rfl; refine withP_cons rfl rfl ?_; rintro _ rfl; refine withP_nil rfl ?_; refine XO.callVH rfl trivial rfl (FnV.of_fn (cap := []) (args := [_]) (list_pub _ _ s.C _ hs (by omega))) rfl ?_; rintro _ HN oN hleN ⟨aN, cN, rfl, hN⟩; replace hs := hs.mono hleN; replace hpK1 := hpK1.mono hleN; replace hsD := hsD.mono hleN; refine XO.nil ?_
   exact stepQN_ok rfl trivial (⟨_, _, rfl, hN⟩)
  refine stepsM_cons rfl rfl ?_ ?_
  ·intro X ext HD hleD _
   replace hs := hs.mono hleD; replace hpK1 := hpK1.mono hleD; replace hsD := hsD.mono hleD; refine withP_cons rfl rfl ?_; rintro _ ⟨a19, c19, rfl, hsl19⟩; refine withP_nil rfl ?_; refine XO.build bk_87 bf_87 ze_87 rfl rfl rfl ?_; refine XO.nil ?_
   exact stepQN_ok rfl trivial (⟨_, _, rfl, hsl19⟩)
  refine stepsM_cons rfl rfl ?_ ?_
  ·intro X ext HD hleD _
   replace hs := hs.mono hleD; replace hpK1 := hpK1.mono hleD; replace hsD := hsD.mono hleD; refine withP_nil rfl ?_; refine XO.fieldAddr rfl fa_27_4 rfl ?_; refine XO.nil ?_; exact stepQN_ok rfl trivial (rfl)
  refine stepsM_cons rfl rfl ?_ ?_
  ·intro X ext HD hleD _
   replace hs := hs.mono hleD; replace hpK1 := hpK1.mono hleD; replace hsD := hsD.mono hleD; refine withP_cons rfl rfl ?_; rintro _ rfl; refine withP_nil rfl ?_; refine XO.sliceArr rfl Try.underlying25 ty_5 rfl ?_; refine XO.nil ?_; exact stepQN_ok rfl trivial (rfl)
  refine stepsM_cons rfl rfl ?_ ?_
  ·intro X ext HD hleD _
   replace hs := hs.mono hleD; replace hpK1 := hpK1.mono hleD; replace hsD := hsD.mono hleD; refine withP_cons rfl rfl ?_; rintro _ rfl; refine withP_nil rfl ?_; refine XO.b2s (l := s.D) (by rw [hD]; rfl) hsD Try.underlying44 Try.underlying5 Try.underlying9 rfl ?_; refine XO.nil ?_; exact stepQN_ok rfl trivial (rfl)
  refine stepsM_cons rfl rfl ?_ ?_
  ·intro X ext HD hleD _
   replace hs := hs.mono hleD; replace hpK1 := hpK1.mono hleD; replace hsD := hsD.mono hleD; refine withP_cons rfl rfl ?_; rintro _ rfl; refine withP_nil rfl ?_; refine XO.build bk_87 bf_87 ze_87 rfl rfl rfl ?_; refine XO.nil ?_; exact stepQN_ok rfl trivial (rfl)
  refine stepsM_cons rfl rfl ?_ ?_
  ·intro X ext HD hleD _
   replace hs := hs.mono hleD; replace hpK1 := hpK1.mono hleD; replace hsD := hsD.mono hleD; refine withP_cons rfl rfl ?_; rintro _ ⟨a20, c20, rfl, h20⟩; refine withP_cons rfl rfl ?_; rintro _ rfl; refine withP_nil rfl ?_; refine XO.buildSlice rfl Try.underlying85 ty_87 ze_87 rfl rfl rfl (fun b25 => ?_); refine XO.publish 0 rfl rfl rfl (fun HP25 oP25 hleP25 hbP25 hoP25 => ?_); replace hs := hs.mono hleP25; replace hpK1 := hpK1.mono hleP25; replace hsD := hsD.mono hleP25
   have hsl25 := SlR.lit (ρ := valR) (l := [Val.mk 3 0 [] (s.C.map intV), Val.mk 2 0 s.D []]) hbP25 hoP25 (RowsR.cons1 (cs := [_, _, _, _]) (valR_iff.2 ⟨_, _, rfl, h20.mono hleP25⟩) (RowsR.one1 (valR_iff.2 ⟨none, 0, rfl, SlR.nil0 _ _⟩)))
   refine XO.nil ?_
   exact stepQN_ok rfl trivial (⟨_, rfl, hsl25⟩)
  refine stepsM_mod rfl rfl ?_ ?_
  ·intro X ext p HD hleD _
   replace hs := hs.mono hleD; replace hpK1 := hpK1.mono hleD; replace hsD := hsD.mono hleD; refine withP_cons rfl rfl ?_; rintro _ _; refine withP_cons rfl rfl ?_; rintro _ ⟨bs25, rfl, hsl25⟩; refine withP_nil rfl ?_
   intro hfo
   obtain ⟨ab, cb, rfl, haccb⟩ := hfo _ _ rfl rfl; refine XO.appendA 0 rfl rfl haccb rfl rfl hsl25 rfl Try.underlying85 ty_87 ze_87 rfl by_87 (show (5 : Nat) ≤ 1073741824 by decide) rfl (fun pc ac cc haccc => ?_); refine XO.publishA 0 rfl haccc rfl (fun HQ hleQ hsQ => ?_); refine XO.open0 (σ := []) (fun b0 => ?_); refine XO.nil ?_
   exact stepQM_ok trivial (⟨_, _, rfl, hsQ⟩) (fun u t h1 h2 => rfl)
  exact stepsM_end rfl
 case tail1 =>
  intro HD hleD _
  replace hs := hs.mono hleD; replace hpK1 := hpK1.mono hleD; replace hsD := hsD.mono hleD; refine withP_cons rfl rfl ?_; rintro _ rfl; refine withP_cons rfl rfl ?_; rintro _ rfl; refine withP_cons rfl rfl ?_; rintro _ rfl; refine withP_cons rfl rfl ?_; rintro _ rfl; refine withP_cons rfl rfl ?_; rintro _ rfl; refine withP_cons rfl rfl ?_; rintro _ rfl; refine withP_cons rfl rfl ?_; rintro _ rfl; refine withP_cons rfl rfl ?_; rintro _ ⟨bs14, rfl, hsl14⟩; refine withP_cons rfl rfl ?_; rintro _ _; refine withP_cons rfl rfl ?_; rintro _ rfl; refine withP_cons rfl rfl ?_; rintro _ rfl; refine withP_cons rfl rfl ?_; rintro _ rfl; refine withP_cons rfl rfl ?_; rintro _ ⟨a19, c19, rfl, hsl19⟩; refine withP_cons rfl rfl ?_; rintro _ ⟨a20, c20, rfl, h20⟩; refine withP_cons rfl rfl ?_; rintro _ rfl; refine withP_cons rfl rfl ?_; rintro _ rfl; refine withP_cons rfl rfl ?_; rintro _ rfl; refine withP_cons rfl rfl ?_; rintro _ rfl; refine withP_cons rfl rfl ?_; rintro _ ⟨bs25, rfl, hsl25⟩; refine withP_cons rfl rfl ?_; rintro _ ⟨a26, c26, rfl, hsl26⟩; refine withP_nil rfl ?_; refine withEnts_cons ?_
  intro pe hpe
  refine withEnts_nil ?_; refine XO.assign rfl rfl ?_; refine XO.nil ?_; refine XC.seq2 ?_; refine XC.seq ?_; refine XC.region ?_; refine XO.move rfl rfl ?_; refine XO.build bk_87 bf_87 ze_87 rfl rfl rfl ?_
  have hcall := enc_fn 3 0 [] ([intV s.R, intV s.E, intV s.J] ++ [Val.mk 3 0 [] (s.C.map intV), Val.mk 2 0 s.D []]) _ _ _ (val_wsz hcl hD) (val_fit hok hD) hsl26
  refine XO.callH rfl hcall rfl ?_; rintro _ HN30 hleN30 ⟨aN30, cN30, hN30, rfl⟩; replace hs := hs.mono hleN30; replace hpK1 := hpK1.mono hleN30; replace hsD := hsD.mono hleN30; replace hsl14 := hsl14.mono hleN30; replace hsl19 := hsl19.mono hleN30; replace hsl25 := hsl25.mono hleN30; replace hsl26 := hsl26.mono hleN30; refine XO.move rfl rfl ?_; refine XO.extract rfl rfl rfl ?_; refine XO.extract rfl rfl rfl ?_; refine XO.assign rfl rfl ?_; refine XO.assign rfl rfl ?_; refine XO.nil ?_; refine XC.seq2 ?_; refine XC.seq ?_; refine XC.region ?_; refine XO.move rfl rfl ?_; refine XO.assign rfl rfl ?_; refine XO.nil ?_; refine XC.seq2 ?_; refine XC.ret ?_; refine ⟨rfl, _, [], rfl, (by repeat (first | exact List.Sublist.refl _ | apply List.Sublist.cons)), RetR.mk ?_⟩
  exact ⟨_, _, rfl, hN30⟩

theorem rtext_fn (s : Card) (a : Option Addr) (c : Nat) (H : Hp) (hs : SlR (intR .i64) H a c s.C) (hD : s.D.length = 32) (hok : okC s) : FnC Try.prog 50 #[.agg ⟨cardV s.R s.E s.J s.C.length s.D a c⟩] H [] (RetR (fun v _ _ => v = .string (bsOf (textC s)))) := by
 refine FnC.intro (args := [.agg ⟨cardV s.R s.E s.J s.C.length s.D a c⟩]) Try.func50 rfl rfl Try.ntmps50 rfl rfl rfl fun G rest => ?_
 have hcl := (okC_rng hok).2.2.2.1.2
 have hrg := okC_rng hok
 refine XC.seq ?_; refine XC.region ?_; refine XO.box rfl rfl rfl (fun b1 => ?_); refine XO.assign rfl rfl ?_; refine XO.nil ?_; refine XC.seq2 ?_; refine XC.seq ?_; refine XC.keep [1] rfl ?_; refine XC.publish 0 rfl rfl rfl (fun HK1 oK1 hleK1 hbK1 hoK1 => ?_)
 have hpK1 := PtH.of_is hbK1 hoK1
 replace hs := hs.mono hleK1
 have hsD := sl_commit hpK1 hD
 apply XC.drawG (fun _ => True) trivial 23 [eqF _, eqF _, eqF _, eqF _, eqF _, eqF _, eqF _, eqF _, eqF _, eqF _, eqF _, fun v H => LstV (s.C.map intV) H v, eqF _, eqF _, eqF _, eqF _, slF valR [intV s.R, intV s.E, intV s.J, Val.mk 3 0 [] (s.C.map intV), Val.mk 2 0 s.D []], fun v H => LstV [intV s.R, intV s.E, intV s.J, Val.mk 3 0 [] (s.C.map intV), Val.mk 2 0 s.D []] H v, fun v H => EncR (valC s) H v, fun v H => EncR (valC s) H v, slG u8R (textC s), eqF _, slG u8R (textC s)] follows (by kernel_rfl) (by kernel_rfl) ⟨eqF_mono _, eqF_mono _, eqF_mono _, eqF_mono _, eqF_mono _, eqF_mono _, eqF_mono _, eqF_mono _, eqF_mono _, eqF_mono _, eqF_mono _, LstV_mono _, eqF_mono _, eqF_mono _, eqF_mono _, eqF_mono _, slF_mono _ _, LstV_mono _, EncR_mono _, EncR_mono _, slG_mono _ _, eqF_mono _, slG_mono _ _, trivial⟩ ?steps1 ?tail1
 case steps1 =>
  refine stepsD_cons rfl ?_ ?_
  ·intro X HD hleD _
   replace hs := hs.mono hleD; replace hpK1 := hpK1.mono hleD; replace hsD := hsD.mono hleD; refine withPreds_nil rfl ?_; refine XO.fieldAddr rfl fa_27_0 rfl ?_; refine XO.nil ?_
   exact stepQ_ok trivial (rfl)
  refine stepsD_cons rfl ?_ ?_
  ·intro X HD hleD _
   replace hs := hs.mono hleD; replace hpK1 := hpK1.mono hleD; replace hsD := hsD.mono hleD; refine withPreds_cons rfl rfl ?_; rintro _ rfl; refine withPreds_nil rfl ?_; refine XO.loadHF rfl (by assumption) ty_3 rfl rfl rfl ?_; refine XO.nil ?_
   exact stepQ_ok trivial (rfl)
  refine stepsD_cons rfl ?_ ?_
  ·intro X HD hleD _
   replace hs := hs.mono hleD; replace hpK1 := hpK1.mono hleD; replace hsD := hsD.mono hleD; refine withPreds_cons rfl rfl ?_; rintro _ rfl; refine withPreds_nil rfl ?_; refine XO.callV rfl (int_fn s.R _) rfl ?_; refine XO.nil ?_
   exact stepQ_ok trivial (rfl)
  refine stepsD_cons rfl ?_ ?_
  ·intro X HD hleD _
   replace hs := hs.mono hleD; replace hpK1 := hpK1.mono hleD; replace hsD := hsD.mono hleD; refine withPreds_nil rfl ?_; refine XO.fieldAddr rfl fa_27_1 rfl ?_; refine XO.nil ?_
   exact stepQ_ok trivial (rfl)
  refine stepsD_cons rfl ?_ ?_
  ·intro X HD hleD _
   replace hs := hs.mono hleD; replace hpK1 := hpK1.mono hleD; replace hsD := hsD.mono hleD; refine withPreds_cons rfl rfl ?_; rintro _ rfl; refine withPreds_nil rfl ?_; refine XO.loadHF rfl (by assumption) ty_3 rfl rfl rfl ?_; refine XO.nil ?_
   exact stepQ_ok trivial (rfl)
  refine stepsD_cons rfl ?_ ?_
  ·intro X HD hleD _
   replace hs := hs.mono hleD; replace hpK1 := hpK1.mono hleD; replace hsD := hsD.mono hleD; refine withPreds_cons rfl rfl ?_; rintro _ rfl; refine withPreds_nil rfl ?_; refine XO.callV rfl (int_fn s.E _) rfl ?_; refine XO.nil ?_
   exact stepQ_ok trivial (rfl)
  refine stepsD_cons rfl ?_ ?_
  ·intro X HD hleD _
   replace hs := hs.mono hleD; replace hpK1 := hpK1.mono hleD; replace hsD := hsD.mono hleD; refine withPreds_nil rfl ?_; refine XO.fieldAddr rfl fa_27_2 rfl ?_; refine XO.nil ?_
   exact stepQ_ok trivial (rfl)
  refine stepsD_cons rfl ?_ ?_
  ·intro X HD hleD _
   replace hs := hs.mono hleD; replace hpK1 := hpK1.mono hleD; replace hsD := hsD.mono hleD; refine withPreds_cons rfl rfl ?_; rintro _ rfl; refine withPreds_nil rfl ?_; refine XO.loadHF rfl (by assumption) ty_3 rfl rfl rfl ?_; refine XO.nil ?_
   exact stepQ_ok trivial (rfl)
  refine stepsD_cons rfl ?_ ?_
  ·intro X HD hleD _
   replace hs := hs.mono hleD; replace hpK1 := hpK1.mono hleD; replace hsD := hsD.mono hleD; refine withPreds_cons rfl rfl ?_; rintro _ rfl; refine withPreds_nil rfl ?_; refine XO.callV rfl (int_fn s.J _) rfl ?_; refine XO.nil ?_
   exact stepQ_ok trivial (rfl)
  refine stepsD_cons rfl ?_ ?_
  ·intro X HD hleD _
   replace hs := hs.mono hleD; replace hpK1 := hpK1.mono hleD; replace hsD := hsD.mono hleD; refine withPreds_nil rfl ?_; refine XO.fieldAddr rfl fa_27_3 rfl ?_; refine XO.nil ?_
   exact stepQ_ok trivial (rfl)
  refine stepsD_cons rfl ?_ ?_
  ·intro X HD hleD _
   replace hs := hs.mono hleD; replace hpK1 := hpK1.mono hleD; replace hsD := hsD.mono hleD; refine withPreds_cons rfl rfl ?_; rintro _ rfl; refine withPreds_nil rfl ?_; refine XO.loadHF rfl (by assumption) ty_23 rfl rfl rfl ?_; refine XO.nil ?_
   exact stepQ_ok trivial (rfl)
  refine stepsD_cons rfl ?_ ?_
  ·intro X HD hleD _
   replace hs := hs.mono hleD; replace hpK1 := hpK1.mono hleD; replace hsD := hsD.mono hleD; refine withPreds_cons rfl rfl ?_; rintro _ rfl; refine withPreds_nil rfl ?_; refine XO.callH rfl (ints_fn _ _ s.C _ hs (by omega)) rfl ?_; rintro _ HN17 hleN17 ⟨aN17, cN17, rfl, hN17⟩; replace hs := hs.mono hleN17; replace hpK1 := hpK1.mono hleN17; replace hsD := hsD.mono hleN17; refine XO.nil ?_
   exact stepQ_ok trivial (⟨_, _, rfl, hN17⟩)
  refine stepsD_cons rfl ?_ ?_
  ·intro X HD hleD _
   replace hs := hs.mono hleD; replace hpK1 := hpK1.mono hleD; replace hsD := hsD.mono hleD; refine withPreds_nil rfl ?_; refine XO.fieldAddr rfl fa_27_4 rfl ?_; refine XO.nil ?_
   exact stepQ_ok trivial (rfl)
  refine stepsD_cons rfl ?_ ?_
  ·intro X HD hleD _
   replace hs := hs.mono hleD; replace hpK1 := hpK1.mono hleD; replace hsD := hsD.mono hleD; refine withPreds_cons rfl rfl ?_; rintro _ rfl; refine withPreds_nil rfl ?_; refine XO.sliceArr rfl Try.underlying25 ty_5 rfl ?_; refine XO.nil ?_
   exact stepQ_ok trivial (rfl)
  refine stepsD_cons rfl ?_ ?_
  ·intro X HD hleD _
   replace hs := hs.mono hleD; replace hpK1 := hpK1.mono hleD; replace hsD := hsD.mono hleD; refine withPreds_cons rfl rfl ?_; rintro _ rfl; refine withPreds_nil rfl ?_; refine XO.b2s (l := s.D) (by rw [hD]; rfl) hsD Try.underlying44 Try.underlying5 Try.underlying9 rfl ?_; refine XO.nil ?_
   exact stepQ_ok trivial (rfl)
  refine stepsD_cons rfl ?_ ?_
  ·intro X HD hleD _
   replace hs := hs.mono hleD; replace hpK1 := hpK1.mono hleD; replace hsD := hsD.mono hleD; refine withPreds_cons rfl rfl ?_; rintro _ rfl; refine withPreds_nil rfl ?_; refine XO.callV rfl (text_fn s.D _) rfl ?_; refine XO.nil ?_
   exact stepQ_ok trivial (rfl)
  refine stepsD_cons rfl ?_ ?_
  ·intro X HD hleD _
   replace hs := hs.mono hleD; replace hpK1 := hpK1.mono hleD; replace hsD := hsD.mono hleD; refine withPreds_cons rfl rfl ?_; rintro _ rfl; refine withPreds_cons rfl rfl ?_; rintro _ rfl; refine withPreds_cons rfl rfl ?_; rintro _ rfl; refine withPreds_cons rfl rfl ?_; rintro _ ⟨a17, c17, rfl, h17⟩; refine withPreds_cons rfl rfl ?_; rintro _ rfl; refine withPreds_nil rfl ?_; refine XO.buildSlice rfl Try.underlying85 ty_87 ze_87 rfl rfl rfl (fun b22 => ?_); refine XO.publish 0 rfl rfl rfl (fun HP22 oP22 hleP22 hbP22 hoP22 => ?_); replace hs := hs.mono hleP22; replace hpK1 := hpK1.mono hleP22; replace hsD := hsD.mono hleP22
   have hsl22 := SlR.lit (ρ := valR) (l := [intV s.R, intV s.E, intV s.J, Val.mk 3 0 [] (s.C.map intV), Val.mk 2 0 s.D []]) hbP22 hoP22 (RowsR.cons1 (cs := [_, _, _, _]) (valR_iff.2 ⟨none, 0, rfl, SlR.nil0 _ _⟩) (RowsR.cons1 (cs := [_, _, _, _]) (valR_iff.2 ⟨none, 0, rfl, SlR.nil0 _ _⟩) (RowsR.cons1 (cs := [_, _, _, _]) (valR_iff.2 ⟨none, 0, rfl, SlR.nil0 _ _⟩) (RowsR.cons1 (cs := [_, _, _, _]) (valR_iff.2 ⟨_, _, rfl, h17.mono hleP22⟩) (RowsR.one1 (valR_iff.2 ⟨none, 0, rfl, SlR.nil0 _ _⟩))))))
   refine XO.nil ?_
   exact stepQ_ok trivial (⟨_, rfl, hsl22⟩)
  refine stepsD_cons rfl ?_ ?_
  ·intro X HD hleD _
   replace hs := hs.mono hleD; replace hpK1 := hpK1.mono hleD; replace hsD := hsD.mono hleD; refine withPreds_cons rfl rfl ?_; rintro _ ⟨bs22, rfl, hsl22⟩; refine withPreds_nil rfl ?_; refine XO.callV rfl (list_fn _ _ [intV s.R, intV s.E, intV s.J, Val.mk 3 0 [] (s.C.map intV), Val.mk 2 0 s.D []] _) rfl ?_; refine XO.nil ?_
   exact stepQ_ok trivial (⟨_, _, rfl, hsl22⟩)
  refine stepsD_cons rfl ?_ ?_
  ·intro X HD hleD _
   replace hs := hs.mono hleD; replace hpK1 := hpK1.mono hleD; replace hsD := hsD.mono hleD; refine withPreds_cons rfl rfl ?_; rintro _ ⟨a23, c23, rfl, h23⟩; refine withPreds_nil rfl ?_
   have hcall := renc_fn 3 0 [] [intV s.R, intV s.E, intV s.J, Val.mk 3 0 [] (s.C.map intV), Val.mk 2 0 s.D []] _ _ _ (val_wsz hcl hD) (val_fit hok hD) h23
   refine XO.callH rfl hcall rfl ?_; rintro _ HN24 hleN24 ⟨aN24, cN24, hN24, rfl⟩; replace hs := hs.mono hleN24; replace hpK1 := hpK1.mono hleN24; replace hsD := hsD.mono hleN24; refine XO.nil ?_
   exact stepQ_ok trivial (⟨_, _, hN24, rfl⟩)
  refine stepsD_cons rfl ?_ ?_
  ·intro X HD hleD _
   replace hs := hs.mono hleD; replace hpK1 := hpK1.mono hleD; replace hsD := hsD.mono hleD; refine withPreds_cons rfl rfl ?_; rintro _ ⟨aF, cF, hF, rfl⟩; refine withPreds_nil rfl ?_; refine XO.move rfl rfl ?_; refine XO.nil ?_
   exact stepQ_ok trivial (⟨_, _, hF, rfl⟩)
  refine stepsD_cons rfl ?_ ?_
  ·intro X HD hleD _
   replace hs := hs.mono hleD; replace hpK1 := hpK1.mono hleD; replace hsD := hsD.mono hleD; refine withPreds_cons rfl rfl ?_; rintro _ ⟨aG, cG, hG, rfl⟩; refine withPreds_nil rfl ?_; refine XO.extract rfl rfl rfl ?_; refine XO.nil ?_
   exact stepQ_ok trivial (⟨_, _, rfl, hG⟩)
  refine stepsD_cons rfl ?_ ?_
  ·intro X HD hleD _
   replace hs := hs.mono hleD; replace hpK1 := hpK1.mono hleD; replace hsD := hsD.mono hleD; refine withPreds_cons rfl rfl ?_; rintro _ ⟨aG, cG, hG, rfl⟩; refine withPreds_nil rfl ?_; refine XO.extract rfl rfl rfl ?_; refine XO.nil ?_
   exact stepQ_ok trivial (rfl)
  refine stepsD_cons rfl ?_ ?_
  ·intro X HD hleD _
   replace hs := hs.mono hleD; replace hpK1 := hpK1.mono hleD; replace hsD := hsD.mono hleD; refine withPreds_cons rfl rfl ?_; rintro _ ⟨a25, c25, rfl, hsl25⟩; refine withPreds_nil rfl ?_; refine XO.assign rfl rfl ?_; refine XO.nil ?_
   exact stepQ_ok trivial (⟨_, _, rfl, hsl25⟩)
  exact stepsD_end rfl
 case tail1 =>
  intro HD hleD _
  replace hs := hs.mono hleD; replace hpK1 := hpK1.mono hleD; replace hsD := hsD.mono hleD; refine withPreds_cons rfl rfl ?_; rintro _ rfl; refine withPreds_cons rfl rfl ?_; rintro _ rfl; refine withPreds_cons rfl rfl ?_; rintro _ rfl; refine withPreds_cons rfl rfl ?_; rintro _ rfl; refine withPreds_cons rfl rfl ?_; rintro _ rfl; refine withPreds_cons rfl rfl ?_; rintro _ rfl; refine withPreds_cons rfl rfl ?_; rintro _ rfl; refine withPreds_cons rfl rfl ?_; rintro _ rfl; refine withPreds_cons rfl rfl ?_; rintro _ rfl; refine withPreds_cons rfl rfl ?_; rintro _ rfl; refine withPreds_cons rfl rfl ?_; rintro _ rfl; refine withPreds_cons rfl rfl ?_; rintro _ ⟨a17, c17, rfl, h17⟩; refine withPreds_cons rfl rfl ?_; rintro _ rfl; refine withPreds_cons rfl rfl ?_; rintro _ rfl; refine withPreds_cons rfl rfl ?_; rintro _ rfl; refine withPreds_cons rfl rfl ?_; rintro _ rfl; refine withPreds_cons rfl rfl ?_; rintro _ ⟨bs22, rfl, hsl22⟩; refine withPreds_cons rfl rfl ?_; rintro _ ⟨a23, c23, rfl, h23⟩; refine withPreds_cons rfl rfl ?_; rintro _ ⟨aF, cF, hF, rfl⟩; refine withPreds_cons rfl rfl ?_; rintro _ ⟨aG, cG, hG, rfl⟩; refine withPreds_cons rfl rfl ?_; rintro _ ⟨a25, c25, rfl, hsl25⟩; refine withPreds_cons rfl rfl ?_; rintro _ rfl; refine withPreds_cons rfl rfl ?_; rintro _ ⟨a3, c3, rfl, hsl3⟩; refine withPreds_nil rfl ?_; refine XO.assign rfl rfl ?_; refine XO.nil ?_; refine XC.seq2 ?_; refine XC.seq ?_; refine XC.region ?_; refine XO.move rfl rfl ?_; refine XO.b2s rfl hsl3 Try.underlying44 Try.underlying5 Try.underlying9 rfl ?_; refine XO.assign rfl rfl ?_; refine XO.nil ?_; refine XC.seq2 ?_; refine XC.ret ?_; refine ⟨rfl, _, [], rfl, (by repeat (first | exact List.Sublist.refl _ | apply List.Sublist.cons)), RetR.mk ?_⟩
  rfl

theorem bcmp_fn (a b : Option Addr) (c d : Nat) (l m : List UInt8) (H : Hp) (hs : SlR u8R H a c l) (ht : SlR u8R H b d m) : FnC Try.prog 47 #[.slice a l.length c, .slice b m.length d] H [] (RetR (fun v _ _ => v = .int .i64 (cmpB l m))) := by
 refine FnC.intro (args := [.slice a l.length c, .slice b m.length d]) Try.func47 rfl rfl Try.ntmps47 rfl rfl rfl fun G rest => ?_
 refine XC.seq ?_; refine XC.region ?_; refine XO.assign rfl rfl ?_; refine XO.nil ?_; refine XC.seq2 ?_; refine XC.seq ?_; refine XC.region ?_; refine XO.move rfl rfl ?_; refine XO.move rfl rfl ?_; refine XO.cmpBytes rfl hs rfl ht fn56 (by kernel_rfl) (by kernel_rfl) (by kernel_rfl) ext56 rfl ?_; refine XO.assign rfl rfl ?_; refine XO.nil ?_; refine XC.seq2 ?_; refine XC.ret ?_; refine ⟨rfl, _, [], rfl, (by repeat (first | exact List.Sublist.refl _ | apply List.Sublist.cons)), RetR.mk ?_⟩
 rfl

theorem order_fn (s t : Card) (a b : Option Addr) (c d : Nat) (H : Hp) (hs : SlR (intR .i64) H a c s.C) (ht : SlR (intR .i64) H b d t.C) (hD : s.D.length = 32) (hE : t.D.length = 32) (hok : okC s) (hok2 : okC t) : FnC Try.prog 31 #[.agg ⟨cardV s.R s.E s.J s.C.length s.D a c⟩, .agg ⟨cardV t.R t.E t.J t.C.length t.D b d⟩] H [] (RetR (fun v _ _ => v = .int .i64 (ordC s t))) := by
 refine FnC.intro (args := [.agg ⟨cardV s.R s.E s.J s.C.length s.D a c⟩, .agg ⟨cardV t.R t.E t.J t.C.length t.D b d⟩]) Try.func31 rfl rfl Try.ntmps31 rfl rfl rfl fun G rest => ?_
 refine XC.seq ?_; refine XC.region ?_; refine XO.box rfl rfl rfl (fun b2 => ?_); refine XO.box rfl rfl rfl (fun b3 => ?_); refine XO.assign rfl rfl ?_; refine XO.nil ?_; refine XC.seq2 ?_; refine XC.seq ?_; refine XC.keep [2, 3] rfl ?_
 apply XC.drawM (fun _ => True) trivial [4, 5] (by decide) [(6, 4)] (fun _ v p _ => v = .pointer (some ⟨p.1, 0, none⟩) ∧ p.2 = .cells 55 [.int .i64 0, .int .i64 0, .int .i64 0]) (fun _ v p _ => v = .pointer (some ⟨p.1, 0, none⟩) ∧ p.2 = .cells 55 [.int .i64 s.R, .int .i64 s.E, .int .i64 s.J]) (fun _ _ _ _ _ _ h => h) (fun _ _ _ _ _ _ h => h) 7 [eqF _, eqF _, eqF _, eqF _, anyF, anyF, anyF] follows (by kernel_rfl) ⟨eqF_mono _, eqF_mono _, eqF_mono _, eqF_mono _, anyF_mono, anyF_mono, anyF_mono, trivial⟩ (by decide) (by kernel_rfl) ?steps1 ?tail1
 case steps1 =>
  refine stepsM_cons rfl rfl ?_ ?_
  ·intro X ext HD hleD _
   replace hs := hs.mono hleD; replace ht := ht.mono hleD; refine withP_nil rfl ?_; refine XO.loadO 1 rfl rfl ty_27 rfl rfl rfl ?_; refine XO.nil ?_; exact stepQN_ok rfl trivial (rfl)
  refine stepsM_cons rfl rfl ?_ ?_
  ·intro X ext HD hleD _
   replace hs := hs.mono hleD; replace ht := ht.mono hleD; refine withP_cons rfl rfl ?_; rintro _ rfl; refine withP_nil rfl ?_; refine XO.callV rfl (at_fn s _ _ _ hs hD) rfl ?_; refine XO.nil ?_; exact stepQN_ok rfl trivial (rfl)
  refine stepsM_cons rfl rfl ?_ ?_
  ·intro X ext HD hleD _
   replace hs := hs.mono hleD; replace ht := ht.mono hleD; refine withP_nil rfl ?_; refine XO.loadO 0 rfl rfl ty_27 rfl rfl rfl ?_; refine XO.nil ?_; exact stepQN_ok rfl trivial (rfl)
  refine stepsM_cons rfl rfl ?_ ?_
  ·intro X ext HD hleD _
   replace hs := hs.mono hleD; replace ht := ht.mono hleD; refine withP_cons rfl rfl ?_; rintro _ rfl; refine withP_nil rfl ?_; refine XO.callV rfl (at_fn t _ _ _ ht hE) rfl ?_; refine XO.nil ?_; exact stepQN_ok rfl trivial (rfl)
  refine stepsM_cons rfl rfl ?_ ?_
  ·intro X ext HD hleD _
   replace hs := hs.mono hleD; replace ht := ht.mono hleD; refine withP_nil rfl ?_; refine XO.alloc ze_55 rfl (fun b5 => ?_); refine XO.nil ?_
   exact stepQN_new rfl trivial trivial (⟨rfl, rfl⟩)
  refine stepsM_cons rfl rfl ?_ ?_
  ·intro X ext HD hleD _
   replace hs := hs.mono hleD; replace ht := ht.mono hleD; refine withP_nil rfl ?_; refine XO.alloc ze_55 rfl (fun b6 => ?_); refine XO.nil ?_
   exact stepQN_new rfl trivial trivial (⟨rfl, rfl⟩)
  refine stepsM_mod rfl rfl ?_ ?_
  ·intro X ext p HD hleD _
   replace hs := hs.mono hleD; replace ht := ht.mono hleD; refine withP_cons rfl rfl ?_; rintro _ _; refine withP_cons rfl rfl ?_; rintro _ rfl; refine withP_nil rfl ?_
   intro hfo
   obtain ⟨be4, se4⟩ := p; obtain ⟨rfl, hse4⟩ := hfo _ _ rfl rfl
   simp only at hse4
   subst hse4
   refine XO.storeO 0 rfl rfl rfl rfl ty_55 rfl rfl rfl rfl rfl ?_; refine XO.nil ?_
   exact stepQM_ok trivial (trivial) (fun u t h1 h2 => by cases (show some _ = some t from h1); cases (show some (Value.pointer _) = some u from h2); exact ⟨rfl, rfl⟩)
  exact stepsM_end rfl
 case tail1 =>
  intro HD hleD _
  replace hs := hs.mono hleD; replace ht := ht.mono hleD; refine withP_cons rfl rfl ?_; rintro _ rfl; refine withP_cons rfl rfl ?_; rintro _ rfl; refine withP_cons rfl rfl ?_; rintro _ rfl; refine withP_cons rfl rfl ?_; rintro _ rfl; refine withP_cons rfl rfl ?_; rintro _ _; refine withP_cons rfl rfl ?_; rintro _ _; refine withP_skip rfl rfl ?_; refine withP_nil rfl ?_; refine withEnts_cons ?_
  intro pk4 hpk4
  obtain ⟨rfl, hpk4b⟩ := hpk4 _ ⟨_, rfl, rfl⟩; obtain ⟨be4, se4⟩ := pk4
  simp only at hpk4b
  subst hpk4b
  refine withEnts_cons ?_
  intro pk5 hpk5
  obtain ⟨rfl, hpk5b⟩ := hpk5 _ ⟨_, rfl, rfl⟩; obtain ⟨be5, se5⟩ := pk5
  simp only at hpk5b
  subst hpk5b
  refine withEnts_nil ?_; refine XO.storeO 1 rfl rfl rfl rfl ty_55 rfl rfl rfl rfl rfl ?_; refine XO.nil ?_; refine XC.seq2 ?_; refine XC.seq ?_; refine XC.keep [2, 3, 5, 6] rfl ?_; refine XC.publish 0 rfl rfl rfl (fun HK5 oK5 hleK5 hbK5 hoK5 => ?_)
  have hpK5 := PtH.of_is hbK5 hoK5
  replace hs := hs.mono hleK5; replace ht := ht.mono hleK5; refine XC.publish 0 rfl rfl rfl (fun HK6 oK6 hleK6 hbK6 hoK6 => ?_)
  have hpK6 := PtH.of_is hbK6 hoK6
  replace hs := hs.mono hleK6; replace ht := ht.mono hleK6; replace hpK5 := hpK5.mono hleK6
  have hP5 := SlR.of_pt (k := .i64) (l := plcL s) hpK5
  have hP6 := SlR.of_pt (k := .i64) (l := plcL t) hpK6
  apply XC.drawG (fun _ => True) trivial 10 [eqF _, eqF _, eqF _, eqF _, fun v H => TxtU s H v, eqF _, fun v H => TxtU t H v, eqF _, slF (intR .i64) [cmpL (plcL s) (plcL t), cmpB (textC s) (textC t)], eqF _] follows (by kernel_rfl) (by kernel_rfl) ⟨eqF_mono _, eqF_mono _, eqF_mono _, eqF_mono _, TxtU_mono _, eqF_mono _, TxtU_mono _, eqF_mono _, slF_mono _ _, eqF_mono _, trivial⟩ ?steps4 ?tail4
  case steps4 =>
   refine stepsD_cons rfl ?_ ?_
   ·intro X HD hleD _
    replace hs := hs.mono hleD; replace ht := ht.mono hleD; replace hpK5 := hpK5.mono hleD; replace hpK6 := hpK6.mono hleD; replace hP5 := hP5.mono hleD; replace hP6 := hP6.mono hleD; refine withPreds_nil rfl ?_; refine XO.sliceArr rfl Try.underlying55 ty_3 rfl ?_; refine XO.nil ?_
    exact stepQ_ok trivial (rfl)
   refine stepsD_cons rfl ?_ ?_
   ·intro X HD hleD _
    replace hs := hs.mono hleD; replace ht := ht.mono hleD; replace hpK5 := hpK5.mono hleD; replace hpK6 := hpK6.mono hleD; replace hP5 := hP5.mono hleD; replace hP6 := hP6.mono hleD; refine withPreds_nil rfl ?_; refine XO.sliceArr rfl Try.underlying55 ty_3 rfl ?_; refine XO.nil ?_
    exact stepQ_ok trivial (rfl)
   refine stepsD_cons rfl ?_ ?_
   ·intro X HD hleD _
    replace hs := hs.mono hleD; replace ht := ht.mono hleD; replace hpK5 := hpK5.mono hleD; replace hpK6 := hpK6.mono hleD; replace hP5 := hP5.mono hleD; replace hP6 := hP6.mono hleD; refine withPreds_cons rfl rfl ?_; rintro _ rfl; refine withPreds_cons rfl rfl ?_; rintro _ rfl; refine withPreds_nil rfl ?_; refine XO.callV rfl (compare_fn _ _ _ _ (plcL s) (plcL t) _ hP5 hP6 (show (3 : Nat) < 9223372036854775808 by decide) (show (3 : Nat) < 9223372036854775808 by decide)) rfl ?_; refine XO.nil ?_
    exact stepQ_ok trivial (rfl)
   refine stepsD_cons rfl ?_ ?_
   ·intro X HD hleD _
    replace hs := hs.mono hleD; replace ht := ht.mono hleD; replace hpK5 := hpK5.mono hleD; replace hpK6 := hpK6.mono hleD; replace hP5 := hP5.mono hleD; replace hP6 := hP6.mono hleD; refine withPreds_nil rfl ?_; refine XO.loadO 1 rfl rfl ty_27 rfl rfl rfl ?_; refine XO.nil ?_
    exact stepQ_ok trivial (rfl)
   refine stepsD_cons rfl ?_ ?_
   ·intro X HD hleD _
    replace hs := hs.mono hleD; replace ht := ht.mono hleD; replace hpK5 := hpK5.mono hleD; replace hpK6 := hpK6.mono hleD; replace hP5 := hP5.mono hleD; replace hP6 := hP6.mono hleD; refine withPreds_cons rfl rfl ?_; rintro _ rfl; refine withPreds_nil rfl ?_; refine XO.callH rfl (text_own s _ _ _ hs hD hok) rfl ?_; rintro _ HN15 hleN15 ⟨aN15, cN15, rfl, hN15⟩; replace hs := hs.mono hleN15; replace ht := ht.mono hleN15; replace hpK5 := hpK5.mono hleN15; replace hpK6 := hpK6.mono hleN15; replace hP5 := hP5.mono hleN15; replace hP6 := hP6.mono hleN15; refine XO.nil ?_
    exact stepQ_ok trivial (⟨_, _, rfl, hN15⟩)
   refine stepsD_cons rfl ?_ ?_
   ·intro X HD hleD _
    replace hs := hs.mono hleD; replace ht := ht.mono hleD; replace hpK5 := hpK5.mono hleD; replace hpK6 := hpK6.mono hleD; replace hP5 := hP5.mono hleD; replace hP6 := hP6.mono hleD; refine withPreds_nil rfl ?_; refine XO.loadO 0 rfl rfl ty_27 rfl rfl rfl ?_; refine XO.nil ?_
    exact stepQ_ok trivial (rfl)
   refine stepsD_cons rfl ?_ ?_
   ·intro X HD hleD _
    replace hs := hs.mono hleD; replace ht := ht.mono hleD; replace hpK5 := hpK5.mono hleD; replace hpK6 := hpK6.mono hleD; replace hP5 := hP5.mono hleD; replace hP6 := hP6.mono hleD; refine withPreds_cons rfl rfl ?_; rintro _ rfl; refine withPreds_nil rfl ?_; refine XO.callH rfl (text_own t _ _ _ ht hE hok2) rfl ?_; rintro _ HN17 hleN17 ⟨aN17, cN17, rfl, hN17⟩; replace hs := hs.mono hleN17; replace ht := ht.mono hleN17; replace hpK5 := hpK5.mono hleN17; replace hpK6 := hpK6.mono hleN17; replace hP5 := hP5.mono hleN17; replace hP6 := hP6.mono hleN17; refine XO.nil ?_
    exact stepQ_ok trivial (⟨_, _, rfl, hN17⟩)
   refine stepsD_cons rfl ?_ ?_
   ·intro X HD hleD _
    replace hs := hs.mono hleD; replace ht := ht.mono hleD; replace hpK5 := hpK5.mono hleD; replace hpK6 := hpK6.mono hleD; replace hP5 := hP5.mono hleD; replace hP6 := hP6.mono hleD; refine withPreds_cons rfl rfl ?_; rintro _ ⟨a15, c15, rfl, hT15⟩; refine withPreds_cons rfl rfl ?_; rintro _ ⟨a17, c17, rfl, hT17⟩; refine withPreds_nil rfl ?_; refine XO.callV rfl (bcmp_fn _ _ _ _ (textC s) (textC t) _ hT15 hT17) rfl ?_; refine XO.nil ?_
    exact stepQ_ok trivial (rfl)
   refine stepsD_cons rfl ?_ ?_
   ·intro X HD hleD _
    replace hs := hs.mono hleD; replace ht := ht.mono hleD; replace hpK5 := hpK5.mono hleD; replace hpK6 := hpK6.mono hleD; replace hP5 := hP5.mono hleD; replace hP6 := hP6.mono hleD; refine withPreds_cons rfl rfl ?_; rintro _ rfl; refine withPreds_cons rfl rfl ?_; rintro _ rfl; refine withPreds_nil rfl ?_; refine XO.buildSlice rfl Try.underlying23 ty_3 ze_3 rfl rfl rfl (fun b19 => ?_); refine XO.publish 0 rfl rfl rfl (fun HP19 oP19 hleP19 hbP19 hoP19 => ?_)
    have hsl19 := SlR.lit (ρ := (intR .i64)) (l := [cmpL (plcL s) (plcL t), cmpB (textC s) (textC t)]) hbP19 hoP19 (RowsR.cons1 (cs := [_]) rfl (RowsR.one1 rfl))
    replace hs := hs.mono hleP19; replace ht := ht.mono hleP19; replace hpK5 := hpK5.mono hleP19; replace hpK6 := hpK6.mono hleP19; replace hP5 := hP5.mono hleP19; replace hP6 := hP6.mono hleP19; refine XO.nil ?_
    exact stepQ_ok trivial (⟨_, rfl, hsl19⟩)
   refine stepsD_cons rfl ?_ ?_
   ·intro X HD hleD _
    replace hs := hs.mono hleD; replace ht := ht.mono hleD; replace hpK5 := hpK5.mono hleD; replace hpK6 := hpK6.mono hleD; replace hP5 := hP5.mono hleD; replace hP6 := hP6.mono hleD; refine withPreds_cons rfl rfl ?_; rintro _ ⟨bs19, rfl, hsl19⟩; refine withPreds_nil rfl ?_; refine XO.callV rfl (or_fn _ _ [cmpL (plcL s) (plcL t), cmpB (textC s) (textC t)] _ hsl19 (show (2 : Nat) < 9223372036854775808 by decide)) rfl ?_; refine XO.nil ?_
    exact stepQ_ok trivial (rfl)
   exact stepsD_end rfl
  case tail4 =>
   intro HD hleD _
   replace hs := hs.mono hleD; replace ht := ht.mono hleD; replace hpK5 := hpK5.mono hleD; replace hpK6 := hpK6.mono hleD; replace hP5 := hP5.mono hleD; replace hP6 := hP6.mono hleD; refine withPreds_cons rfl rfl ?_; rintro _ rfl; refine withPreds_cons rfl rfl ?_; rintro _ rfl; refine withPreds_cons rfl rfl ?_; rintro _ rfl; refine withPreds_cons rfl rfl ?_; rintro _ rfl; refine withPreds_cons rfl rfl ?_; rintro _ ⟨a15, c15, rfl, hT15⟩; refine withPreds_cons rfl rfl ?_; rintro _ rfl; refine withPreds_cons rfl rfl ?_; rintro _ ⟨a17, c17, rfl, hT17⟩; refine withPreds_cons rfl rfl ?_; rintro _ rfl; refine withPreds_cons rfl rfl ?_; rintro _ ⟨bs19, rfl, hsl19⟩; refine withPreds_cons rfl rfl ?_; rintro _ rfl; refine withPreds_nil rfl ?_; refine XO.assign rfl rfl ?_; refine XO.nil ?_; refine XC.seq2 ?_; refine XC.ret ?_; refine ⟨rfl, _, [], rfl, (by repeat (first | exact List.Sublist.refl _ | apply List.Sublist.cons)), RetR.mk ?_⟩
   rfl

end Go.Proofs

/- Boxes: slots and boxes checked, in plain Lean. -/
set_option maxRecDepth 100000
set_option autoImplicit false
set_option linter.unusedVariables false
set_option linter.unusedSimpArgs false
namespace Go.Proofs
open Go.XL
def c0 : Card := ⟨0, 0, 0, [], List.replicate 32 0⟩
/-- the first card of a slot -/
def hd (x : List Card) : Card := x.headD c0
theorem hd_at {x : List Card} {s : Card} (h : x[0]? = some s) : s = hd x := by
 cases x with
 | nil => cases h
 | cons y r => simp at h; rw [← h]; rfl
/-- strictly rising by an order -/
def riseG {α : Type} (q : α → α → Int) : List α → Bool
 | x :: y :: r => decide (q x y < 0) && riseG q (y :: r)
 | _ => true
section
variable {α : Type} {q : α → α → Int} {l : List α} {k : Nat} {x y : α} {c : Bool}
theorem rise_y (h : c = riseG q (l.drop k)) (hx : l[k]? = some x) (hy : l[k + 1]? = some y) (hq : q x y < 0) : c = riseG q (l.drop (k + 1)) := by
 rw [h, drop_cons hx, drop_cons hy, riseG, decide_eq_true hq, Bool.true_and]
theorem rise_n (h : c = riseG q (l.drop k)) (hx : l[k]? = some x) (hy : l[k + 1]? = some y) (hq : ¬ q x y < 0) : false = c := by
 rw [h, drop_cons hx, drop_cons hy, riseG, decide_eq_false hq, Bool.false_and]
theorem rise_e (h : c = riseG q (l.drop k)) (hk : l.length ≤ k + 1) : true = c := by
 rw [h]
 rcases Nat.lt_or_ge k l.length with h1 | h1
 ·rw [List.drop_eq_getElem_cons h1, List.drop_of_length_le hk]; rfl
 ·rw [List.drop_of_length_le h1]; rfl
theorem riseG_at : ∀ {l : List α}, riseG q l = true ↔ ∀ i x y, l[i]? = some x → l[i + 1]? = some y → q x y < 0
  | [] => by simp [riseG]
  | [a] => by simp [riseG]
  | a :: b :: r => by
    rw [riseG, Bool.and_eq_true, decide_eq_true_iff, riseG_at (l := b :: r)]
    constructor
    · rintro ⟨h1, h2⟩ i x y hx hy
      cases i with
      | zero => simp at hx hy; subst hx; subst hy; exact h1
      | succ i => exact h2 i x y (by simpa using hx) (by simpa using hy)
    · intro h
      exact ⟨h 0 a b rfl rfl, fun i x y hx hy => h (i + 1) x y (by simpa using hx) (by simpa using hy)⟩
end
def slotB : List Card → Bool
 | [s] => decide (okC s)
 | [s, t] => decide (((okC s ∧ okC t) ∧ plcL s = plcL t) ∧ cmpB (textC s) (textC t) < 0)
 | _ => false
def plq (x y : List Card) : Int := cmpL (plcL (hd x)) (plcL (hd y))
def boxB (b : Box) : Bool := b.all slotB && riseG plq b
def chkB (b : Box) : Int := if 4096 < b.length then 2 else if boxB b = true then 0 else 350
theorem slot_len {x : List Card} (h : slotB x = true) : 1 ≤ x.length ∧ x.length ≤ 2 := by
 match x, h with
 | [s], _ => simp
 | [s, t], _ => simp
theorem slot_ok {x : List Card} (h : slotB x = true) : ∀ s ∈ x, okC s := by
  match x, h with
  | [s], h => intro t ht; simp only [List.mem_singleton] at ht; subst ht; exact of_decide_eq_true h
  | [s, t], h =>
    have := of_decide_eq_true h
    intro u hu
    simp only [List.mem_cons, List.not_mem_nil, or_false] at hu
    rcases hu with rfl | rfl
    · exact this.1.1.1
    · exact this.1.1.2
theorem ordC_same {s t : Card} (h : plcL s = plcL t) : ordC s t = cmpB (textC s) (textC t) := by
 unfold ordC; rw [or_two, if_pos (cmp_0.2 h)]
theorem ordC_diff {s t : Card} (h : plcL s ≠ plcL t) : ordC s t = cmpL (plcL s) (plcL t) := by
 unfold ordC; rw [or_two, if_neg (fun e => h (cmp_0.1 e))]
theorem slot_y {x : List Card} (h : 1 ≤ x.length ∧ x.length ≤ 2) (h1 : ∀ s ∈ x, okC s ∧ plcL s = plcL (hd x)) (h2 : riseG ordC x = true) : slotB x = true := by
  match x, h with
  | [s], _ => exact decide_eq_true (h1 s (by simp)).1
  | [s, t], _ =>
    have e := (h1 t (by simp)).2
    have e2 : plcL s = plcL t := e.symm
    refine decide_eq_true ⟨⟨⟨(h1 s (by simp)).1, (h1 t (by simp)).1⟩, e2⟩, ?_⟩
    have := (riseG_at.1 h2) 0 s t rfl rfl
    rwa [ordC_same e2] at this
  | s :: t :: u :: r, h => simp at h
theorem slot_nl {x : List Card} (h : ¬ (1 ≤ x.length ∧ x.length ≤ 2)) : slotB x = false := by
 cases hb : slotB x with
 | false => rfl
 | true => exact absurd (slot_len hb) h
theorem slot_nc {x : List Card} {s : Card} (hs : s ∈ x) (h : ¬ okC s) : slotB x = false := by
 cases hb : slotB x with
 | false => rfl
 | true => exact absurd (slot_ok hb s hs) h
theorem slot_plc {x : List Card} (h : slotB x = true) {s : Card} (hs : s ∈ x) : plcL s = plcL (hd x) := by
  match x, h with
  | [t], h => simp only [List.mem_singleton] at hs; subst hs; rfl
  | [t, u], h =>
    have := of_decide_eq_true h
    simp only [List.mem_cons, List.not_mem_nil, or_false] at hs
    rcases hs with rfl | rfl
    · rfl
    · exact this.1.2.symm
theorem slot_np {x : List Card} {s : Card} (hs : s ∈ x) (h : plcL s ≠ plcL (hd x)) : slotB x = false := by
 cases hb : slotB x with
 | false => rfl
 | true => exact absurd (slot_plc hb hs) h
theorem slot_rise {x : List Card} (h : slotB x = true) : riseG ordC x = true := by
  match x, h with
  | [t], h => rfl
  | [t, u], h =>
    have := of_decide_eq_true h
    rw [riseG, decide_eq_true (by rw [ordC_same this.1.2]; exact this.2)]; rfl
theorem slot_nr {x : List Card} (h : riseG ordC x = false) : slotB x = false := by
 cases hb : slotB x with
 | false => rfl
 | true => rw [slot_rise hb] at h; cases h
theorem bchk_2 {b : Box} (h : 4096 < b.length) : chkB b = 2 := if_pos h
theorem bchk_0 {b : Box} (h : ¬ 4096 < b.length) (h1 : b.all slotB = true) (h2 : riseG plq b = true) : chkB b = 0 := by unfold chkB boxB; rw [if_neg h, h1, h2]; rfl
theorem bchk_s {b : Box} {x : List Card} (h : ¬ 4096 < b.length) (hx : x ∈ b) (h1 : slotB x = false) : chkB b = 350 := by
 have : b.all slotB = false := by
  cases hb : b.all slotB with
  | false => rfl
  | true => have := List.all_eq_true.1 hb x hx; rw [h1] at this; cases this
 unfold chkB boxB; rw [if_neg h, this]; rfl
theorem bchk_r {b : Box} (h : ¬ 4096 < b.length) (h1 : riseG plq b = false) : chkB b = 350 := by
 unfold chkB boxB; rw [if_neg h, h1, Bool.and_false]; rfl
theorem chkB_0 {b : Box} (h : chkB b = 0) : b.length ≤ 4096 ∧ b.all slotB = true ∧ riseG plq b = true := by
 unfold chkB at h
 split at h
 ·cases h
 ·split at h
  ·rename_i h1 h2
   unfold boxB at h2
   rw [Bool.and_eq_true] at h2
   exact ⟨by omega, h2⟩
  ·cases h
theorem all_take {b : Box} {k : Nat} {x : List Card} (hx : b[k]? = some x) (h : (b.take k).all slotB = true) (h1 : slotB x = true) : (b.take (k + 1)).all slotB = true := by
 rw [take_snoc hx, List.all_append, h]; simp [h1]
theorem pos_of {x : List Card} (h : slotB x = true) : 0 < x.length := (slot_len h).1
theorem take_all_mem {b : Box} {k : Nat} {x : List Card} (h : (b.take k).all slotB = true) {i : Nat} (hi : i < k) (hx : b[i]? = some x) : slotB x = true :=
 List.all_eq_true.1 h x (by
  have : (b.take k)[i]? = some x := by rw [List.getElem?_take, if_pos hi]; exact hx
  exact List.mem_of_getElem? this)
/-- valid as the reference asks -/
theorem slot_two {s t : Card} (h1 : okC s) (h2 : okC t) (h3 : plcL s = plcL t) : decide (cmpB (textC s) (textC t) < 0) = slotB [s, t] := decide_eq_decide.2 ⟨fun h => ⟨⟨⟨h1, h2⟩, h3⟩, h⟩, fun h => h.2⟩
theorem slot_two_n {s t : Card} (h3 : ¬ plcL s = plcL t) : false = slotB [s, t] := (decide_eq_false fun h => h3 h.1.2).symm
theorem slot_one {s : Card} (h1 : okC s) : true = slotB [s] := (decide_eq_true h1).symm
theorem sel_iff {s : Card} : selC s = 0 ↔ okC s := by
 unfold selC; split
 ·rename_i h; exact ⟨fun _ => h, fun _ => rfl⟩
 ·rename_i h; exact ⟨fun e => (by cases e), fun e => absurd e h⟩
theorem len_one {x : List Card} (h : x.length = 1) : x = [hd x] := by
 match x, h with
 | [s], _ => rfl
theorem len_two {x : List Card} {s t : Card} (h : x.length = 2) (hs : x[0]? = some s) (ht : x[1]? = some t) : x = [s, t] := by
 match x, h with
 | [a, b], _ => simp at hs ht; rw [hs, ht]
end Go.Proofs

/- Boxes: the heap grows. -/
set_option autoImplicit false
namespace Go.Proofs
open Go.XL
def LeW (H H' : Hp) : Prop := Le H H'
theorem LeW.mono {H H' H'' : Hp} (h : LeW H H') (hle : Le H' H'') : LeW H H'' := Le.trans h hle
theorem slot_one1 {x : List Card} (h : x.length = 1) (hno : ∀ s ∈ x, okC s) : true = slotB x := by
 match x, h with
 | [s], _ => exact slot_one (hno s (by simp))
theorem rise_s {α : Type} {q : α → α → Int} {l : List α} {k : Nat} {x y : α} {c : Bool} (h : c = riseG q (l.drop (k - 1))) (h0 : 0 < k) (hx : l[k - 1]? = some x) (hy : l[k]? = some y) (hq : q x y < 0) : c = riseG q (l.drop (k + 1 - 1)) := by
 have h1 := rise_y h hx (by rw [show k - 1 + 1 = k by omega]; exact hy) hq
 rwa [show k - 1 + 1 = k + 1 - 1 by omega] at h1
theorem rise_0 {α : Type} {q : α → α → Int} {l : List α} {k : Nat} {c : Bool} (h : c = riseG q (l.drop (k - 1))) (h0 : ¬ 0 < k) : c = riseG q (l.drop (k + 1 - 1)) := by
 obtain rfl : k = 0 := by omega
 exact h
end Go.Proofs
