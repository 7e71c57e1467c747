/- The walks of the functions of repairs: what each of them computes, at any input. -/
import Derived.Test.YtnckfcgnmhplnaaB6
set_option autoImplicit false
set_option linter.unusedVariables false
set_option linter.unusedSimpArgs false
namespace Go.Proofs
open Go.XL

theorem fa_34_1 : fieldF Try.prog 34 1 = some 1 := by kernel_rfl

theorem indexR_fn (a : Option Addr) (c : Nat) (l : List (Int × Nat × Nat)) (g : Value) (q : Int × Nat × Nat → Prop) (H : Hp) (hs : SlR reR H a c l) (hl : l.length < 9223372036854775808) (hg : ∀ x ∈ l, FnV Try.prog g [.agg ⟨[.int .i64 x.1, .func (.func x.2.1) #[.pointer (some ⟨x.2.2, 0, none⟩)] #[]]⟩] H [] (RetR fun u _ _ => ∃ b : Bool, u = .bool b ∧ (b = true ↔ q x))) : FnC Try.prog 61 #[.slice a l.length c, g] H [] (RetR (fun v _ _ => ∃ i : Int, v = .int .i64 i ∧ (0 ≤ i ↔ ∃ x ∈ l, q x))) := by
 refine FnC.intro (args := [.slice a l.length c, g]) Try.func61 rfl rfl Try.ntmps61 rfl rfl rfl fun G rest => ?_
 refine XC.seq ?_; refine XC.region ?_; refine XO.assign rfl rfl ?_; refine XO.nil ?_; refine XC.seq2 ?_; refine XC.seq ?_; refine XC.seq ?_; refine XC.region ?_; refine XO.move rfl rfl ?_; refine XO.lenS (ts := #[]) rfl Try.underlying83 rfl ?_; refine XO.move rfl rfl ?_; refine XO.nil ?_; refine XC.seq2 ?_; refine XC.block ?_; refine XC.keep [8, 0, 1, 7] rfl ?_; refine XC.loop (base := [(0, _), (1, _), (7, _)]) (fun ζ : Nat => [(8, .int .i64 (ζ : Nat))]) (fun ζ Hl own => ζ ≤ l.length ∧ rest = own ∧ (∀ x ∈ l.take ζ, ¬ q x) ∧ (H = Hl)) (fun ζ => l.length - ζ) 0 (prov_cons (rfl) (prov_cons (rfl) (prov_cons (rfl) (prov_cons (rfl) prov_nil)))) (by repeat (first | exact List.Sublist.refl _ | apply List.Sublist.cons_cons | apply List.Sublist.cons)) ⟨Nat.zero_le _, rfl, by simp, rfl⟩ ?_; rintro k Hl0 _ hle0 ⟨hkk, rfl, hno, hHl⟩; replace hs := hs.mono hle0
 try dsimp only at ⊢
 subst hHl
 refine XC.seq ?_; refine XC.region ?_; refine XO.lss rfl rfl rfl ?_; refine XO.nil ?_; refine XC.seq2 ?_; refine XC.seq ?_; refine XC.cond rfl (fun c0_1 => ?_) (fun c0_1 => ?_)
 ·refine XC.skip ?_; refine XC.seq2 ?_; refine XC.seq ?_; refine XC.block ?_; refine XC.seq ?_; refine XC.region ?_; refine XO.move rfl rfl ?_; refine XO.assign rfl rfl ?_; refine XO.nil ?_; refine XC.seq2 ?_; refine XC.seq ?_; refine XC.region ?_; refine XO.move rfl rfl ?_; refine XO.move rfl rfl ?_; refine XO.move rfl rfl ?_; refine XO.indexN rfl hs rfl Try.underlying83 ty_80 (by omega) rfl ?_; rintro eb14 eo14 _ x14 hx14 rfl hp14; refine XO.loadH rfl (by assumption) ty_80 rfl rfl rfl ?_; refine XO.callValK rfl trivial rfl (hg x14 (List.mem_of_getElem? hx14)) rfl ?_; rintro _ ⟨bq, rfl, hqq⟩; refine XO.nil ?_; refine XC.seq2 ?_; refine XC.condB rfl (fun c1_4 => ?_) (fun c1_4 => ?_)
  ·refine XC.seq ?_; refine XC.region ?_; refine XO.move rfl rfl ?_; refine XO.assign rfl rfl ?_; refine XO.nil ?_; refine XC.seq2 ?_; refine XC.ret ?_; refine blockR ?_; refine seqX_ret ?_; refine loopX_ret ?_; refine blockR ?_; refine seqX_ret ?_; refine ⟨rfl, _, [], rfl, (by repeat (first | exact List.Sublist.refl _ | apply List.Sublist.cons)), RetR.mk ?_⟩
   exact ⟨_, rfl, ⟨fun _ => ⟨x14, List.mem_of_getElem? hx14, hqq.1 (by assumption)⟩, fun _ => by omega⟩⟩
  ·refine XC.skip ?_; refine blockN ?_; refine XC.seq2 ?_; refine XC.region ?_; refine XO.add rfl rfl (wrap_i64 (by omega) (by omega)) rfl ?_; refine XO.move rfl rfl ?_; refine XO.nil ?_; refine loop_next (k + 1) (by show l.length - (k + 1) < l.length - k; omega) (prov_cons (rfl) (prov_cons (rfl) (prov_cons (rfl) (prov_cons (rfl) prov_nil)))) (⟨by show k + 1 ≤ l.length; omega, rfl, all_snoc hno hx14 (fun h => by simp_all), rfl⟩) (by repeat (first | exact List.Sublist.refl _ | apply List.Sublist.cons_cons | apply List.Sublist.cons)) (hle0)
 ·obtain rfl : k = l.length := by omega
  rw [List.take_length] at hno
  refine XC.exit ?_; refine seqX_exit ?_; refine loopX_exit ?_; refine blockHit rfl ?_; refine XC.seq2 ?_; refine XC.seq ?_; refine XC.region ?_; refine XO.assign rfl rfl ?_; refine XO.nil ?_; refine XC.seq2 ?_; refine XC.ret ?_; refine ⟨rfl, _, [], rfl, (by repeat (first | exact List.Sublist.refl _ | apply List.Sublist.cons)), RetR.mk ?_⟩
  exact ⟨-1, rfl, ⟨fun h => absurd h (by decide), fun ⟨x, hx, hq⟩ => absurd hq (hno x hx)⟩⟩

theorem containsR_fn (a : Option Addr) (c : Nat) (l : List (Int × Nat × Nat)) (g : Value) (q : Int × Nat × Nat → Prop) (H : Hp) (hs : SlR reR H a c l) (hl : l.length < 9223372036854775808) (hg : ∀ x ∈ l, FnV Try.prog g [.agg ⟨[.int .i64 x.1, .func (.func x.2.1) #[.pointer (some ⟨x.2.2, 0, none⟩)] #[]]⟩] H [] (RetR fun u _ _ => ∃ b : Bool, u = .bool b ∧ (b = true ↔ q x))) : FnC Try.prog 50 #[.slice a l.length c, g] H [] (RetR (fun v _ _ => ∃ b : Bool, v = .bool b ∧ (b = true ↔ ∃ x ∈ l, q x))) := by
 refine FnC.intro (args := [.slice a l.length c, g]) Try.func50 rfl rfl Try.ntmps50 rfl rfl rfl fun G rest => ?_
 refine XC.seq ?_; refine XC.region ?_; refine XO.assign rfl rfl ?_; refine XO.nil ?_; refine XC.seq2 ?_; refine XC.seq ?_; refine XC.region ?_; refine XO.move rfl rfl ?_; refine XO.move rfl rfl ?_; refine XO.callK rfl (indexR_fn _ _ _ _ _ _ hs hl hg) rfl ?_; rintro _ ⟨iX, rfl, hX⟩; refine XO.geq rfl rfl rfl ?_; refine XO.assign rfl rfl ?_; refine XO.nil ?_; refine XC.seq2 ?_; refine XC.ret ?_; refine ⟨rfl, _, [], rfl, (by repeat (first | exact List.Sublist.refl _ | apply List.Sublist.cons)), RetR.mk ?_⟩
 exact ⟨_, rfl, by rw [decide_eq_true_iff]; exact hX⟩

theorem fits1_fn (bj : Nat) (w : Wi) (old : Ls) (pr : List Int) (a : Option Addr) (c : Nat) (l : Ls) (H : Hp) (hJ : JobH H bj w old pr) (hs : SlR ilR H a c l) (hlen : l.length ≤ old.length) (hwo : ∀ x ∈ old, x.length < 9223372036854775808) (hw : ∀ x ∈ l, x.length ≤ 1000) (hl : l.length ≤ 1000) (hz : (w.B.length ≤ 4096 ∧ pr.length ≤ 1000) ∧ (0 ≤ w.S ∧ w.S ≤ 256)) (lim : Int) (e y : Int) (kv : Value) (bd bl bm : Nat) (hbd : PtH H bd 0 [.int .i64 e, .int .i64 y, kv]) (hbl : PtH H bl 0 [.slice a l.length c]) (hbm : PtH H bm 0 [.int .i64 lim]) (x : Int × Nat × Nat) (hx : x ∈ rsL bj) : FnC Try.prog 49 #[.agg ⟨[.int .i64 x.1, .func (.func x.2.1) #[.pointer (some ⟨x.2.2, 0, none⟩)] #[]]⟩, .pointer (some ⟨bd, 0, none⟩), .pointer (some ⟨bl, 0, none⟩), .pointer (some ⟨bm, 0, none⟩)] H [] (RetR (fun v _ _ => ∃ b : Bool, v = .bool b ∧ (b = true ↔ x.1 = y ∧ isY w old pr l lim x.1 = true))) := by
 refine FnC.intro (args := [.agg ⟨[.int .i64 x.1, .func (.func x.2.1) #[.pointer (some ⟨x.2.2, 0, none⟩)] #[]]⟩, .pointer (some ⟨bd, 0, none⟩), .pointer (some ⟨bl, 0, none⟩), .pointer (some ⟨bm, 0, none⟩)]) Try.func49 rfl rfl Try.ntmps49 rfl rfl rfl fun G rest => ?_
 refine XC.seq ?_; refine XC.region ?_; refine XO.box rfl rfl rfl (fun b4 => ?_); refine XO.assign rfl rfl ?_; refine XO.nil ?_; refine XC.seq2 ?_; refine XC.seq ?_; refine XC.region ?_; refine XO.fieldAddr rfl fa_80_0 rfl ?_; refine XO.loadO 0 rfl rfl ty_3 rfl rfl rfl ?_; refine XO.fieldAddr rfl fa_34_1 rfl ?_; refine XO.loadHF rfl (by assumption) ty_3 rfl rfl rfl ?_; refine XO.eql rfl rfl rfl ?_; refine XO.move rfl rfl ?_; refine XO.guardC rfl rfl rfl rfl (fun g1 => ?_) (fun g1 => ?_)
 ·have g1p := of_decide_eq_true g1
  refine XO.fieldAddr rfl fa_80_1 rfl ?_; refine XO.guardT rfl rfl (g1) rfl ?_; refine XO.loadO 0 rfl rfl ty_78 rfl rfl rfl ?_; refine XO.guardT rfl rfl (g1) rfl ?_; refine XO.loadH rfl (by assumption) ty_25 rfl rfl rfl ?_; refine XO.guardT rfl rfl (g1) rfl ?_; refine XO.loadH rfl (by assumption) ty_3 rfl rfl rfl ?_; refine XO.guardT rfl rfl (g1) rfl ?_; refine XO.callValK rfl trivial rfl (reason_v bj w old pr a c l _ hJ hs hlen hwo hw hl hz lim x hx) rfl ?_; rintro _ rfl; refine XO.pickT rfl (g1) rfl rfl ?_; refine XO.assign rfl rfl ?_; refine XO.nil ?_; refine XC.seq2 ?_; refine XC.ret ?_; refine ⟨rfl, _, [], rfl, (by repeat (first | exact List.Sublist.refl _ | apply List.Sublist.cons)), RetR.mk ?_⟩
  exact ⟨_, rfl, ⟨fun h => ⟨by omega, h⟩, fun h => h.2⟩⟩
 ·have g1p := of_decide_eq_false g1
  refine XO.guardF rfl rfl (g1) rfl rfl ?_; refine XO.guardF rfl rfl (g1) rfl rfl ?_; refine XO.guardF rfl rfl (g1) rfl rfl ?_; refine XO.guardF rfl rfl (g1) rfl rfl ?_; refine XO.pickF rfl (g1) rfl rfl ?_; refine XO.assign rfl rfl ?_; refine XO.nil ?_; refine XC.seq2 ?_; refine XC.ret ?_; refine ⟨rfl, _, [], rfl, (by repeat (first | exact List.Sublist.refl _ | apply List.Sublist.cons)), RetR.mk ?_⟩
  exact ⟨false, rfl, ⟨fun h => (by cases h), fun h => absurd h.1 (by omega)⟩⟩
theorem fits1_v (bj : Nat) (w : Wi) (old : Ls) (pr : List Int) (a : Option Addr) (c : Nat) (l : Ls) (H : Hp) (hJ : JobH H bj w old pr) (hs : SlR ilR H a c l) (hlen : l.length ≤ old.length) (hwo : ∀ x ∈ old, x.length < 9223372036854775808) (hw : ∀ x ∈ l, x.length ≤ 1000) (hl : l.length ≤ 1000) (hz : (w.B.length ≤ 4096 ∧ pr.length ≤ 1000) ∧ (0 ≤ w.S ∧ w.S ≤ 256)) (lim : Int) (e y : Int) (kv : Value) (bd bl bm : Nat) (hbd : PtH H bd 0 [.int .i64 e, .int .i64 y, kv]) (hbl : PtH H bl 0 [.slice a l.length c]) (hbm : PtH H bm 0 [.int .i64 lim]) (x : Int × Nat × Nat) (hx : x ∈ rsL bj) : FnV Try.prog (.func (.func 49) #[] #[.pointer (some ⟨bd, 0, none⟩), .pointer (some ⟨bl, 0, none⟩), .pointer (some ⟨bm, 0, none⟩)]) [.agg ⟨[.int .i64 x.1, .func (.func x.2.1) #[.pointer (some ⟨x.2.2, 0, none⟩)] #[]]⟩] H [] (RetR fun u _ _ => ∃ b : Bool, u = .bool b ∧ (b = true ↔ x.1 = y ∧ isY w old pr l lim x.1 = true)) := by
 refine (FnV.of_fn (cap := [.pointer (some ⟨bd, 0, none⟩), .pointer (some ⟨bl, 0, none⟩), .pointer (some ⟨bm, 0, none⟩)]) (args := [.agg ⟨[.int .i64 x.1, .func (.func x.2.1) #[.pointer (some ⟨x.2.2, 0, none⟩)] #[]]⟩]) (fits1_fn bj w old pr a c l _ hJ hs hlen hwo hw hl hz lim e y kv bd bl bm hbd hbl hbm x hx)).mono ?_
 intro e _ _ _ h
 cases e with
 | returned v => exact h
 | panicked _ => exact h.elim
 | outgrown => exact h.elim

set_option maxRecDepth 100000 in
set_option maxHeartbeats 1600000 in
theorem refutes_all (bj : Nat) (w : Wi) (old : Ls) (pr : List Int) (n : Nat) (hok : JobOk w old pr n) (lim : Int) :
 ∀ (d : Nat) (l : Ls) (a : Option Addr) (c : Nat) (e y : Int) (ks : List Den) (ad : Option Addr) (cd : Nat) (H : Hp), l.length + d = w.B.length → (∀ x ∈ l, x.length ≤ 1000) → JobH H bj w old pr → SlR ilR H a c l → SlR denR H ad cd ks →
 FnC Try.prog 35 #[.pointer (some ⟨bj, 0, none⟩), .slice a l.length c, .int .i64 lim, .agg ⟨[.int .i64 e, .int .i64 y, .slice ad ks.length cd]⟩] H [] (RetR fun v _ _ => v = .bool (refF w old pr lim d l (.mk e y ks))) := by
 intro d
 refine Nat.strongRecOn d ?_
 clear d
 intro d ih l a c e y ks ad cd H hd hw hJ hs hks
 have hB12 := hok.B
 have hO0 := hok.O
 have hn := hok.S
 have hn1 := hok.n1
 have hprl := hok.prl
 have hwo : ∀ x ∈ old, x.length < 9223372036854775808 := fun x hx => by have := hok.wo x hx; omega
 have hz : (w.B.length ≤ 4096 ∧ pr.length ≤ 1000) ∧ (0 ≤ w.S ∧ w.S ≤ 256) := by omega
 have hJ9 := hJ
 obtain ⟨aB, cB, aO, cO, aP, cP, aA, nA, cA, hj, hB, hO, hP⟩ := hJ9
 refine FnC.introC (args := [.pointer (some ⟨bj, 0, none⟩), .slice a l.length c, .int .i64 lim, .agg ⟨[.int .i64 e, .int .i64 y, .slice ad ks.length cd]⟩]) Try.func35 rfl rfl Try.ntmps35 rfl rfl rfl fun G rest => ?_
 refine XC.seq ?_; refine XC.region ?_; refine XO.box rfl rfl rfl (fun b4 => ?_); refine XO.box rfl rfl rfl (fun b5 => ?_); refine XO.box rfl rfl rfl (fun b6 => ?_); refine XO.box rfl rfl rfl (fun b7 => ?_); refine XO.alloc ze_4 rfl (fun b8 => ?_); refine XO.nil ?_; refine XC.seq2 ?_; refine XC.seq ?_; refine XC.seq ?_; refine XC.region ?_; refine XO.fieldAddr rfl fa_34_0 rfl ?_; refine XO.loadO 1 rfl rfl ty_3 rfl rfl rfl ?_; refine XO.eql rfl rfl rfl ?_; refine XO.nil ?_; refine XC.seq2 ?_; refine XC.cond rfl (fun c0_1 => ?_) (fun c0_1 => ?_)
 ·refine XC.seq ?_; refine XC.region ?_; refine XO.publish 1 rfl rfl rfl (fun HK7 oK7 hleK7 hbK7 hoK7 => ?_)
  have hpK7 := PtH.of_is hbK7 hoK7
  replace hJ := hJ.mono hleK7; replace hs := hs.mono hleK7; replace hks := hks.mono hleK7; replace hj := hj.mono hleK7; replace hB := hB.mono hleK7; replace hO := hO.mono hleK7; replace hP := hP.mono hleK7; refine XO.publish 2 rfl rfl rfl (fun HK5 oK5 hleK5 hbK5 hoK5 => ?_)
  have hpK5 := PtH.of_is hbK5 hoK5
  replace hJ := hJ.mono hleK5; replace hs := hs.mono hleK5; replace hks := hks.mono hleK5; replace hj := hj.mono hleK5; replace hB := hB.mono hleK5; replace hO := hO.mono hleK5; replace hP := hP.mono hleK5; replace hpK7 := hpK7.mono hleK5; refine XO.publish 1 rfl rfl rfl (fun HK6 oK6 hleK6 hbK6 hoK6 => ?_)
  have hpK6 := PtH.of_is hbK6 hoK6
  replace hJ := hJ.mono hleK6; replace hs := hs.mono hleK6; replace hks := hks.mono hleK6; replace hj := hj.mono hleK6; replace hB := hB.mono hleK6; replace hO := hO.mono hleK6; replace hP := hP.mono hleK6; replace hpK7 := hpK7.mono hleK6; replace hpK5 := hpK5.mono hleK6; refine XO.makeFunc rfl rfl ?_; refine XO.assign rfl rfl ?_; refine XO.nil ?_; refine XC.seq2 ?_; refine XC.seq ?_; refine XC.region ?_; refine XO.fieldAddr rfl fa_34_2 rfl ?_; refine XO.loadHF rfl (by assumption) ty_32 rfl rfl rfl ?_; refine XO.lenS (ts := #[]) rfl Try.underlying32 rfl ?_; refine XO.eql rfl rfl rfl ?_; refine XO.move rfl rfl ?_; refine XO.guardC rfl rfl rfl rfl (fun g2 => ?_) (fun g2 => ?_)
  ·have g2p := of_decide_eq_true g2
   refine XO.loadO 1 rfl rfl ty_52 rfl rfl rfl ?_; refine XO.guardT rfl rfl (g2) rfl ?_; refine XO.callH rfl (reasons_fn bj _) rfl ?_; rintro _ HR22 hleR22 ⟨aR22, cR22, rfl, hR22⟩; replace hJ := hJ.mono hleR22; replace hs := hs.mono hleR22; replace hks := hks.mono hleR22; replace hj := hj.mono hleR22; replace hB := hB.mono hleR22; replace hO := hO.mono hleR22; replace hP := hP.mono hleR22; replace hpK7 := hpK7.mono hleR22; replace hpK5 := hpK5.mono hleR22; replace hpK6 := hpK6.mono hleR22; refine XO.guardT rfl rfl (g2) rfl ?_; refine XO.move rfl rfl ?_; refine XO.guardT rfl rfl (g2) rfl ?_; refine XO.callK rfl (containsR_fn _ _ (rsL bj) _ (fun x => x.1 = y ∧ isY w old pr l lim x.1 = true) _ hR22 (show (rsL bj).length < 9223372036854775808 from by simp [rsL]) (fun x hx => fits1_v bj w old pr _ _ l _ hJ hs (by omega) hwo hw (by omega) hz lim e y _ _ _ _ hpK7 hpK5 hpK6 x hx)) rfl ?_; rintro _ ⟨bC, rfl, hC⟩; refine XO.pickT rfl (g2) rfl rfl ?_; refine XO.storeO 0 rfl rfl rfl rfl ty_4 rfl rfl rfl rfl rfl ?_; refine XO.nil ?_; refine XC.seq2 ?_; refine XC.ret ?_; refine seqX_ret ?_; refine ⟨rfl, _, [], (resC_cell 0 rfl rfl ty_4 rfl rfl resC_nil), (by repeat (first | exact List.Sublist.refl _ | apply List.Sublist.cons_cons | apply List.Sublist.cons)), RetR.mk ?_⟩
   exact congrArg Value.bool (by rw [ref_leaf (by omega), Bool.eq_iff_iff, hC, leaf_iff (bj := bj)]; exact ⟨fun h => ⟨by omega, h⟩, fun h => h.2⟩)
  ·have g2p := of_decide_eq_false g2
   refine XO.guardF rfl rfl (g2) rfl rfl ?_; refine XO.guardF rfl rfl (g2) rfl rfl ?_; refine XO.guardF rfl rfl (g2) rfl rfl ?_; refine XO.pickF rfl (g2) rfl rfl ?_; refine XO.storeO 0 rfl rfl rfl rfl ty_4 rfl rfl rfl rfl rfl ?_; refine XO.nil ?_; refine XC.seq2 ?_; refine XC.ret ?_; refine seqX_ret ?_; refine ⟨rfl, _, [], (resC_cell 0 rfl rfl ty_4 rfl rfl resC_nil), (by repeat (first | exact List.Sublist.refl _ | apply List.Sublist.cons_cons | apply List.Sublist.cons)), RetR.mk ?_⟩
   exact congrArg Value.bool (by rw [ref_leaf (by omega), leaf_no (by omega)])
 ·refine XC.skip ?_; refine XC.seq2 ?_; refine XC.seq ?_; refine XC.seq ?_
  by_cases h5 : e ≠ (l.length : Int)
  ·skip
   refine XC.keep [4, 5, 6, 7, 8] rfl ?_
   apply XC.drawH (fun _ => True) trivial [] (by decide) (fun _ _ _ _ => True) (fun _ _ _ _ _ _ h => h) 14 [eqF _, eqF _, eqF _, eqF _, eqF _, eqF _, eqF _, eqF _, eqF _, eqF _, eqF _, eqF _, eqF _, eqF _] follows (by kernel_rfl) ⟨eqF_mono _, eqF_mono _, eqF_mono _, eqF_mono _, eqF_mono _, eqF_mono _, eqF_mono _, eqF_mono _, eqF_mono _, eqF_mono _, eqF_mono _, eqF_mono _, eqF_mono _, eqF_mono _, trivial⟩ (by decide) ?steps5 ?tail5
   case steps5 =>
    refine stepsH_cons rfl ?_ ?_
    ·intro X ext HD hleD _
     replace hJ := hJ.mono hleD; replace hs := hs.mono hleD; replace hks := hks.mono hleD; replace hj := hj.mono hleD; replace hB := hB.mono hleD; replace hO := hO.mono hleD; replace hP := hP.mono hleD; refine withP_nil rfl ?_; refine XO.fieldAddr rfl fa_34_0 rfl ?_; refine XO.nil ?_; exact stepQN_ok rfl trivial (rfl)
    refine stepsH_cons rfl ?_ ?_
    ·intro X ext HD hleD _
     replace hJ := hJ.mono hleD; replace hs := hs.mono hleD; replace hks := hks.mono hleD; replace hj := hj.mono hleD; replace hB := hB.mono hleD; replace hO := hO.mono hleD; replace hP := hP.mono hleD; refine withP_cons rfl rfl ?_; rintro _ rfl; refine withP_nil rfl ?_; refine XO.loadO 1 rfl rfl ty_3 rfl rfl rfl ?_; refine XO.nil ?_; exact stepQN_ok rfl trivial (rfl)
    refine stepsH_cons rfl ?_ ?_
    ·intro X ext HD hleD _
     replace hJ := hJ.mono hleD; replace hs := hs.mono hleD; replace hks := hks.mono hleD; replace hj := hj.mono hleD; replace hB := hB.mono hleD; replace hO := hO.mono hleD; replace hP := hP.mono hleD; refine withP_nil rfl ?_; refine XO.loadO 3 rfl rfl ty_25 rfl rfl rfl ?_; refine XO.nil ?_; exact stepQN_ok rfl trivial (rfl)
    refine stepsH_cons rfl ?_ ?_
    ·intro X ext HD hleD _
     replace hJ := hJ.mono hleD; replace hs := hs.mono hleD; replace hks := hks.mono hleD; replace hj := hj.mono hleD; replace hB := hB.mono hleD; replace hO := hO.mono hleD; replace hP := hP.mono hleD; refine withP_cons rfl rfl ?_; rintro _ rfl; refine withP_nil rfl ?_; refine XO.lenS (ts := #[]) rfl Try.underlying25 rfl ?_; refine XO.nil ?_; exact stepQN_ok rfl trivial (rfl)
    refine stepsH_cons rfl ?_ ?_
    ·intro X ext HD hleD _
     replace hJ := hJ.mono hleD; replace hs := hs.mono hleD; replace hks := hks.mono hleD; replace hj := hj.mono hleD; replace hB := hB.mono hleD; replace hO := hO.mono hleD; replace hP := hP.mono hleD; refine withP_cons rfl rfl ?_; rintro _ rfl; refine withP_cons rfl rfl ?_; rintro _ rfl; refine withP_nil rfl ?_; refine XO.neq rfl rfl rfl ?_; refine XO.nil ?_; exact stepQN_ok rfl trivial (rfl)
    refine stepsH_cons rfl ?_ ?_
    ·intro X ext HD hleD _
     replace hJ := hJ.mono hleD; replace hs := hs.mono hleD; replace hks := hks.mono hleD; replace hj := hj.mono hleD; replace hB := hB.mono hleD; replace hO := hO.mono hleD; replace hP := hP.mono hleD; refine withP_cons rfl rfl ?_; rintro _ rfl; refine withP_nil rfl ?_; refine XO.move rfl rfl ?_; refine XO.nil ?_; exact stepQN_ok rfl trivial (rfl)
    refine stepsH_cons rfl ?_ ?_
    ·intro X ext HD hleD _
     replace hJ := hJ.mono hleD; replace hs := hs.mono hleD; replace hks := hks.mono hleD; replace hj := hj.mono hleD; replace hB := hB.mono hleD; replace hO := hO.mono hleD; replace hP := hP.mono hleD; refine withP_cons rfl rfl ?_; rintro _ rfl; refine withP_nil rfl ?_; refine XO.guardF rfl rfl (decide_eq_true h5) rfl rfl ?_; refine XO.nil ?_; exact stepQN_ok rfl trivial (rfl)
    refine stepsH_cons rfl ?_ ?_
    ·intro X ext HD hleD _
     replace hJ := hJ.mono hleD; replace hs := hs.mono hleD; replace hks := hks.mono hleD; replace hj := hj.mono hleD; replace hB := hB.mono hleD; replace hO := hO.mono hleD; replace hP := hP.mono hleD; refine withP_cons rfl rfl ?_; rintro _ rfl; refine withP_cons rfl rfl ?_; rintro _ rfl; refine withP_nil rfl ?_; refine XO.guardF rfl rfl (decide_eq_true h5) rfl rfl ?_; refine XO.nil ?_; exact stepQN_ok rfl trivial (rfl)
    refine stepsH_cons rfl ?_ ?_
    ·intro X ext HD hleD _
     replace hJ := hJ.mono hleD; replace hs := hs.mono hleD; replace hks := hks.mono hleD; replace hj := hj.mono hleD; replace hB := hB.mono hleD; replace hO := hO.mono hleD; replace hP := hP.mono hleD; refine withP_cons rfl rfl ?_; rintro _ rfl; refine withP_nil rfl ?_; refine XO.guardF rfl rfl (decide_eq_true h5) rfl rfl ?_; refine XO.nil ?_; exact stepQN_ok rfl trivial (rfl)
    refine stepsH_cons rfl ?_ ?_
    ·intro X ext HD hleD _
     replace hJ := hJ.mono hleD; replace hs := hs.mono hleD; replace hks := hks.mono hleD; replace hj := hj.mono hleD; replace hB := hB.mono hleD; replace hO := hO.mono hleD; replace hP := hP.mono hleD; refine withP_cons rfl rfl ?_; rintro _ rfl; refine withP_cons rfl rfl ?_; rintro _ rfl; refine withP_nil rfl ?_; refine XO.guardF rfl rfl (decide_eq_true h5) rfl rfl ?_; refine XO.nil ?_; exact stepQN_ok rfl trivial (rfl)
    refine stepsH_cons rfl ?_ ?_
    ·intro X ext HD hleD _
     replace hJ := hJ.mono hleD; replace hs := hs.mono hleD; replace hks := hks.mono hleD; replace hj := hj.mono hleD; replace hB := hB.mono hleD; replace hO := hO.mono hleD; replace hP := hP.mono hleD; refine withP_cons rfl rfl ?_; rintro _ rfl; refine withP_cons rfl rfl ?_; rintro _ rfl; refine withP_nil rfl ?_; refine XO.guardF rfl rfl (decide_eq_true h5) rfl rfl ?_; refine XO.nil ?_; exact stepQN_ok rfl trivial (rfl)
    refine stepsH_cons rfl ?_ ?_
    ·intro X ext HD hleD _
     replace hJ := hJ.mono hleD; replace hs := hs.mono hleD; replace hks := hks.mono hleD; replace hj := hj.mono hleD; replace hB := hB.mono hleD; replace hO := hO.mono hleD; replace hP := hP.mono hleD; refine withP_cons rfl rfl ?_; rintro _ rfl; refine withP_cons rfl rfl ?_; rintro _ rfl; refine withP_nil rfl ?_; refine XO.guardF rfl rfl (decide_eq_true h5) rfl rfl ?_; refine XO.nil ?_; exact stepQN_ok rfl trivial (rfl)
    refine stepsH_cons rfl ?_ ?_
    ·intro X ext HD hleD _
     replace hJ := hJ.mono hleD; replace hs := hs.mono hleD; replace hks := hks.mono hleD; replace hj := hj.mono hleD; replace hB := hB.mono hleD; replace hO := hO.mono hleD; replace hP := hP.mono hleD; refine withP_cons rfl rfl ?_; rintro _ rfl; refine withP_cons rfl rfl ?_; rintro _ rfl; refine withP_nil rfl ?_; refine XO.guardF rfl rfl (decide_eq_true h5) rfl rfl ?_; refine XO.nil ?_; exact stepQN_ok rfl trivial (rfl)
    refine stepsH_cons rfl ?_ ?_
    ·intro X ext HD hleD _
     replace hJ := hJ.mono hleD; replace hs := hs.mono hleD; replace hks := hks.mono hleD; replace hj := hj.mono hleD; replace hB := hB.mono hleD; replace hO := hO.mono hleD; replace hP := hP.mono hleD; refine withP_cons rfl rfl ?_; rintro _ rfl; refine withP_cons rfl rfl ?_; rintro _ rfl; refine withP_nil rfl ?_; refine XO.guardF rfl rfl (decide_eq_true h5) rfl rfl ?_; refine XO.nil ?_; exact stepQN_ok rfl trivial (rfl)
    exact stepsH_end rfl
   case tail5 =>
    intro HD hleD _
    replace hJ := hJ.mono hleD; replace hs := hs.mono hleD; replace hks := hks.mono hleD; replace hj := hj.mono hleD; replace hB := hB.mono hleD; replace hO := hO.mono hleD; replace hP := hP.mono hleD; refine withP_cons rfl rfl ?_; rintro _ rfl; refine withP_cons rfl rfl ?_; rintro _ rfl; refine withP_cons rfl rfl ?_; rintro _ rfl; refine withP_cons rfl rfl ?_; rintro _ rfl; refine withP_cons rfl rfl ?_; rintro _ rfl; refine withP_cons rfl rfl ?_; rintro _ rfl; refine withP_cons rfl rfl ?_; rintro _ rfl; refine withP_cons rfl rfl ?_; rintro _ rfl; refine withP_cons rfl rfl ?_; rintro _ rfl; refine withP_cons rfl rfl ?_; rintro _ rfl; refine withP_cons rfl rfl ?_; rintro _ rfl; refine withP_cons rfl rfl ?_; rintro _ rfl; refine withP_cons rfl rfl ?_; rintro _ rfl; refine withP_cons rfl rfl ?_; rintro _ rfl; refine withP_nil rfl ?_; refine withEnts_nil ?_; refine XO.guardF rfl rfl (decide_eq_true h5) rfl rfl ?_; refine XO.pickT rfl (decide_eq_true h5) rfl rfl ?_; refine XO.move rfl rfl ?_; refine XO.guardF rfl rfl (rfl) rfl rfl ?_; refine XO.guardF rfl rfl (rfl) rfl rfl ?_; refine XO.guardF rfl rfl (rfl) rfl rfl ?_; refine XO.pickT rfl (rfl) rfl rfl ?_; refine XO.nil ?_; refine XC.seq2 ?_; refine XC.condT rfl (rfl) ?_; refine XC.seq ?_; refine XC.region ?_; refine XO.storeO 0 rfl rfl rfl rfl ty_4 rfl rfl rfl rfl rfl ?_; refine XO.nil ?_; refine XC.seq2 ?_; refine XC.ret ?_; refine seqX_ret ?_; refine ⟨rfl, _, [], (resC_cell 0 rfl rfl ty_4 rfl rfl resC_nil), (by repeat (first | exact List.Sublist.refl _ | apply List.Sublist.cons_cons | apply List.Sublist.cons)), RetR.mk ?_⟩
    exact congrArg Value.bool (ref_bad (by omega) (by omega)).symm
  ·skip
   by_cases h16 : e ≥ (w.B.length : Int)
   ·skip
    refine XC.keep [4, 5, 6, 7, 8] rfl ?_
    apply XC.drawH (fun _ => True) trivial [] (by decide) (fun _ _ _ _ => True) (fun _ _ _ _ _ _ h => h) 14 [eqF _, eqF _, eqF _, eqF _, eqF _, eqF _, eqF _, eqF _, eqF _, eqF _, eqF _, eqF _, eqF _, eqF _] follows (by kernel_rfl) ⟨eqF_mono _, eqF_mono _, eqF_mono _, eqF_mono _, eqF_mono _, eqF_mono _, eqF_mono _, eqF_mono _, eqF_mono _, eqF_mono _, eqF_mono _, eqF_mono _, eqF_mono _, eqF_mono _, trivial⟩ (by decide) ?steps6 ?tail6
    case steps6 =>
     refine stepsH_cons rfl ?_ ?_
     ·intro X ext HD hleD _
      replace hJ := hJ.mono hleD; replace hs := hs.mono hleD; replace hks := hks.mono hleD; replace hj := hj.mono hleD; replace hB := hB.mono hleD; replace hO := hO.mono hleD; replace hP := hP.mono hleD; refine withP_nil rfl ?_; refine XO.fieldAddr rfl fa_34_0 rfl ?_; refine XO.nil ?_; exact stepQN_ok rfl trivial (rfl)
     refine stepsH_cons rfl ?_ ?_
     ·intro X ext HD hleD _
      replace hJ := hJ.mono hleD; replace hs := hs.mono hleD; replace hks := hks.mono hleD; replace hj := hj.mono hleD; replace hB := hB.mono hleD; replace hO := hO.mono hleD; replace hP := hP.mono hleD; refine withP_cons rfl rfl ?_; rintro _ rfl; refine withP_nil rfl ?_; refine XO.loadO 1 rfl rfl ty_3 rfl rfl rfl ?_; refine XO.nil ?_; exact stepQN_ok rfl trivial (rfl)
     refine stepsH_cons rfl ?_ ?_
     ·intro X ext HD hleD _
      replace hJ := hJ.mono hleD; replace hs := hs.mono hleD; replace hks := hks.mono hleD; replace hj := hj.mono hleD; replace hB := hB.mono hleD; replace hO := hO.mono hleD; replace hP := hP.mono hleD; refine withP_nil rfl ?_; refine XO.loadO 3 rfl rfl ty_25 rfl rfl rfl ?_; refine XO.nil ?_; exact stepQN_ok rfl trivial (rfl)
     refine stepsH_cons rfl ?_ ?_
     ·intro X ext HD hleD _
      replace hJ := hJ.mono hleD; replace hs := hs.mono hleD; replace hks := hks.mono hleD; replace hj := hj.mono hleD; replace hB := hB.mono hleD; replace hO := hO.mono hleD; replace hP := hP.mono hleD; refine withP_cons rfl rfl ?_; rintro _ rfl; refine withP_nil rfl ?_; refine XO.lenS (ts := #[]) rfl Try.underlying25 rfl ?_; refine XO.nil ?_; exact stepQN_ok rfl trivial (rfl)
     refine stepsH_cons rfl ?_ ?_
     ·intro X ext HD hleD _
      replace hJ := hJ.mono hleD; replace hs := hs.mono hleD; replace hks := hks.mono hleD; replace hj := hj.mono hleD; replace hB := hB.mono hleD; replace hO := hO.mono hleD; replace hP := hP.mono hleD; refine withP_cons rfl rfl ?_; rintro _ rfl; refine withP_cons rfl rfl ?_; rintro _ rfl; refine withP_nil rfl ?_; refine XO.neq rfl rfl rfl ?_; refine XO.nil ?_; exact stepQN_ok rfl trivial (rfl)
     refine stepsH_cons rfl ?_ ?_
     ·intro X ext HD hleD _
      replace hJ := hJ.mono hleD; replace hs := hs.mono hleD; replace hks := hks.mono hleD; replace hj := hj.mono hleD; replace hB := hB.mono hleD; replace hO := hO.mono hleD; replace hP := hP.mono hleD; refine withP_cons rfl rfl ?_; rintro _ rfl; refine withP_nil rfl ?_; refine XO.move rfl rfl ?_; refine XO.nil ?_; exact stepQN_ok rfl trivial (rfl)
     refine stepsH_cons rfl ?_ ?_
     ·intro X ext HD hleD _
      replace hJ := hJ.mono hleD; replace hs := hs.mono hleD; replace hks := hks.mono hleD; replace hj := hj.mono hleD; replace hB := hB.mono hleD; replace hO := hO.mono hleD; replace hP := hP.mono hleD; refine withP_cons rfl rfl ?_; rintro _ rfl; refine withP_nil rfl ?_; refine XO.guardT rfl rfl (decide_eq_false h5) rfl ?_; refine XO.fieldAddr rfl fa_34_0 rfl ?_; refine XO.nil ?_; exact stepQN_ok rfl trivial (rfl)
     refine stepsH_cons rfl ?_ ?_
     ·intro X ext HD hleD _
      replace hJ := hJ.mono hleD; replace hs := hs.mono hleD; replace hks := hks.mono hleD; replace hj := hj.mono hleD; replace hB := hB.mono hleD; replace hO := hO.mono hleD; replace hP := hP.mono hleD; refine withP_cons rfl rfl ?_; rintro _ rfl; refine withP_cons rfl rfl ?_; rintro _ rfl; refine withP_nil rfl ?_; refine XO.guardT rfl rfl (decide_eq_false h5) rfl ?_; refine XO.loadO 1 rfl rfl ty_3 rfl rfl rfl ?_; refine XO.nil ?_; exact stepQN_ok rfl trivial (rfl)
     refine stepsH_cons rfl ?_ ?_
     ·intro X ext HD hleD _
      replace hJ := hJ.mono hleD; replace hs := hs.mono hleD; replace hks := hks.mono hleD; replace hj := hj.mono hleD; replace hB := hB.mono hleD; replace hO := hO.mono hleD; replace hP := hP.mono hleD; refine withP_cons rfl rfl ?_; rintro _ rfl; refine withP_nil rfl ?_; refine XO.guardT rfl rfl (decide_eq_false h5) rfl ?_; refine XO.loadO 4 rfl rfl ty_52 rfl rfl rfl ?_; refine XO.nil ?_; exact stepQN_ok rfl trivial (rfl)
     refine stepsH_cons rfl ?_ ?_
     ·intro X ext HD hleD _
      replace hJ := hJ.mono hleD; replace hs := hs.mono hleD; replace hks := hks.mono hleD; replace hj := hj.mono hleD; replace hB := hB.mono hleD; replace hO := hO.mono hleD; replace hP := hP.mono hleD; refine withP_cons rfl rfl ?_; rintro _ rfl; refine withP_cons rfl rfl ?_; rintro _ rfl; refine withP_nil rfl ?_; refine XO.guardT rfl rfl (decide_eq_false h5) rfl ?_; refine XO.nilCheckP rfl rfl ?_; refine XO.nil ?_; exact stepQN_ok rfl trivial (rfl)
     refine stepsH_cons rfl ?_ ?_
     ·intro X ext HD hleD _
      replace hJ := hJ.mono hleD; replace hs := hs.mono hleD; replace hks := hks.mono hleD; replace hj := hj.mono hleD; replace hB := hB.mono hleD; replace hO := hO.mono hleD; replace hP := hP.mono hleD; refine withP_cons rfl rfl ?_; rintro _ rfl; refine withP_cons rfl rfl ?_; rintro _ rfl; refine withP_nil rfl ?_; refine XO.guardT rfl rfl (decide_eq_false h5) rfl ?_; refine XO.fieldAddr rfl fa_70_0 rfl ?_; refine XO.nil ?_; exact stepQN_ok rfl trivial (rfl)
     refine stepsH_cons rfl ?_ ?_
     ·intro X ext HD hleD _
      replace hJ := hJ.mono hleD; replace hs := hs.mono hleD; replace hks := hks.mono hleD; replace hj := hj.mono hleD; replace hB := hB.mono hleD; replace hO := hO.mono hleD; replace hP := hP.mono hleD; refine withP_cons rfl rfl ?_; rintro _ rfl; refine withP_cons rfl rfl ?_; rintro _ rfl; refine withP_nil rfl ?_; refine XO.guardT rfl rfl (decide_eq_false h5) rfl ?_; refine XO.fieldAddr rfl fa_24_3 rfl ?_; refine XO.nil ?_; exact stepQN_ok rfl trivial (rfl)
     refine stepsH_cons rfl ?_ ?_
     ·intro X ext HD hleD _
      replace hJ := hJ.mono hleD; replace hs := hs.mono hleD; replace hks := hks.mono hleD; replace hj := hj.mono hleD; replace hB := hB.mono hleD; replace hO := hO.mono hleD; replace hP := hP.mono hleD; refine withP_cons rfl rfl ?_; rintro _ rfl; refine withP_cons rfl rfl ?_; rintro _ rfl; refine withP_nil rfl ?_; refine XO.guardT rfl rfl (decide_eq_false h5) rfl ?_; refine XO.loadHF rfl (by assumption) ty_22 rfl rfl rfl ?_; refine XO.nil ?_; exact stepQN_ok rfl trivial (rfl)
     refine stepsH_cons rfl ?_ ?_
     ·intro X ext HD hleD _
      replace hJ := hJ.mono hleD; replace hs := hs.mono hleD; replace hks := hks.mono hleD; replace hj := hj.mono hleD; replace hB := hB.mono hleD; replace hO := hO.mono hleD; replace hP := hP.mono hleD; refine withP_cons rfl rfl ?_; rintro _ rfl; refine withP_cons rfl rfl ?_; rintro _ rfl; refine withP_nil rfl ?_; refine XO.guardT rfl rfl (decide_eq_false h5) rfl ?_; refine XO.lenS (ts := #[]) rfl Try.underlying22 rfl ?_; refine XO.nil ?_; exact stepQN_ok rfl trivial (rfl)
     exact stepsH_end rfl
    case tail6 =>
     intro HD hleD _
     replace hJ := hJ.mono hleD; replace hs := hs.mono hleD; replace hks := hks.mono hleD; replace hj := hj.mono hleD; replace hB := hB.mono hleD; replace hO := hO.mono hleD; replace hP := hP.mono hleD; refine withP_cons rfl rfl ?_; rintro _ rfl; refine withP_cons rfl rfl ?_; rintro _ rfl; refine withP_cons rfl rfl ?_; rintro _ rfl; refine withP_cons rfl rfl ?_; rintro _ rfl; refine withP_cons rfl rfl ?_; rintro _ rfl; refine withP_cons rfl rfl ?_; rintro _ rfl; refine withP_cons rfl rfl ?_; rintro _ rfl; refine withP_cons rfl rfl ?_; rintro _ rfl; refine withP_cons rfl rfl ?_; rintro _ rfl; refine withP_cons rfl rfl ?_; rintro _ rfl; refine withP_cons rfl rfl ?_; rintro _ rfl; refine withP_cons rfl rfl ?_; rintro _ rfl; refine withP_cons rfl rfl ?_; rintro _ rfl; refine withP_cons rfl rfl ?_; rintro _ rfl; refine withP_nil rfl ?_; refine withEnts_nil ?_; refine XO.guardT rfl rfl (decide_eq_false h5) rfl ?_; refine XO.geq rfl rfl rfl ?_; refine XO.pickF rfl (decide_eq_false h5) rfl rfl ?_; refine XO.move rfl rfl ?_; refine XO.guardF rfl rfl (decide_eq_true h16) rfl rfl ?_; refine XO.guardF rfl rfl (decide_eq_true h16) rfl rfl ?_; refine XO.guardF rfl rfl (decide_eq_true h16) rfl rfl ?_; refine XO.pickT rfl (decide_eq_true h16) rfl rfl ?_; refine XO.nil ?_; refine XC.seq2 ?_; refine XC.condT rfl (rfl) ?_; refine XC.seq ?_; refine XC.region ?_; refine XO.storeO 0 rfl rfl rfl rfl ty_4 rfl rfl rfl rfl rfl ?_; refine XO.nil ?_; refine XC.seq2 ?_; refine XC.ret ?_; refine seqX_ret ?_; refine ⟨rfl, _, [], (resC_cell 0 rfl rfl ty_4 rfl rfl resC_nil), (by repeat (first | exact List.Sublist.refl _ | apply List.Sublist.cons_cons | apply List.Sublist.cons)), RetR.mk ?_⟩
     obtain rfl : d = 0 := by omega
     exact congrArg Value.bool (ref_0 (by omega)).symm
   ·skip
    refine XC.keep [4, 5, 6, 7, 8] rfl ?_
    apply XC.drawH (fun _ => True) trivial [] (by decide) (fun _ _ _ _ => True) (fun _ _ _ _ _ _ h => h) 14 [eqF _, eqF _, eqF _, eqF _, eqF _, eqF _, eqF _, eqF _, eqF _, eqF _, eqF _, eqF _, eqF _, eqF _] follows (by kernel_rfl) ⟨eqF_mono _, eqF_mono _, eqF_mono _, eqF_mono _, eqF_mono _, eqF_mono _, eqF_mono _, eqF_mono _, eqF_mono _, eqF_mono _, eqF_mono _, eqF_mono _, eqF_mono _, eqF_mono _, trivial⟩ (by decide) ?steps7 ?tail7
    case steps7 =>
     refine stepsH_cons rfl ?_ ?_
     ·intro X ext HD hleD _
      replace hJ := hJ.mono hleD; replace hs := hs.mono hleD; replace hks := hks.mono hleD; replace hj := hj.mono hleD; replace hB := hB.mono hleD; replace hO := hO.mono hleD; replace hP := hP.mono hleD; refine withP_nil rfl ?_; refine XO.fieldAddr rfl fa_34_0 rfl ?_; refine XO.nil ?_; exact stepQN_ok rfl trivial (rfl)
     refine stepsH_cons rfl ?_ ?_
     ·intro X ext HD hleD _
      replace hJ := hJ.mono hleD; replace hs := hs.mono hleD; replace hks := hks.mono hleD; replace hj := hj.mono hleD; replace hB := hB.mono hleD; replace hO := hO.mono hleD; replace hP := hP.mono hleD; refine withP_cons rfl rfl ?_; rintro _ rfl; refine withP_nil rfl ?_; refine XO.loadO 1 rfl rfl ty_3 rfl rfl rfl ?_; refine XO.nil ?_; exact stepQN_ok rfl trivial (rfl)
     refine stepsH_cons rfl ?_ ?_
     ·intro X ext HD hleD _
      replace hJ := hJ.mono hleD; replace hs := hs.mono hleD; replace hks := hks.mono hleD; replace hj := hj.mono hleD; replace hB := hB.mono hleD; replace hO := hO.mono hleD; replace hP := hP.mono hleD; refine withP_nil rfl ?_; refine XO.loadO 3 rfl rfl ty_25 rfl rfl rfl ?_; refine XO.nil ?_; exact stepQN_ok rfl trivial (rfl)
     refine stepsH_cons rfl ?_ ?_
     ·intro X ext HD hleD _
      replace hJ := hJ.mono hleD; replace hs := hs.mono hleD; replace hks := hks.mono hleD; replace hj := hj.mono hleD; replace hB := hB.mono hleD; replace hO := hO.mono hleD; replace hP := hP.mono hleD; refine withP_cons rfl rfl ?_; rintro _ rfl; refine withP_nil rfl ?_; refine XO.lenS (ts := #[]) rfl Try.underlying25 rfl ?_; refine XO.nil ?_; exact stepQN_ok rfl trivial (rfl)
     refine stepsH_cons rfl ?_ ?_
     ·intro X ext HD hleD _
      replace hJ := hJ.mono hleD; replace hs := hs.mono hleD; replace hks := hks.mono hleD; replace hj := hj.mono hleD; replace hB := hB.mono hleD; replace hO := hO.mono hleD; replace hP := hP.mono hleD; refine withP_cons rfl rfl ?_; rintro _ rfl; refine withP_cons rfl rfl ?_; rintro _ rfl; refine withP_nil rfl ?_; refine XO.neq rfl rfl rfl ?_; refine XO.nil ?_; exact stepQN_ok rfl trivial (rfl)
     refine stepsH_cons rfl ?_ ?_
     ·intro X ext HD hleD _
      replace hJ := hJ.mono hleD; replace hs := hs.mono hleD; replace hks := hks.mono hleD; replace hj := hj.mono hleD; replace hB := hB.mono hleD; replace hO := hO.mono hleD; replace hP := hP.mono hleD; refine withP_cons rfl rfl ?_; rintro _ rfl; refine withP_nil rfl ?_; refine XO.move rfl rfl ?_; refine XO.nil ?_; exact stepQN_ok rfl trivial (rfl)
     refine stepsH_cons rfl ?_ ?_
     ·intro X ext HD hleD _
      replace hJ := hJ.mono hleD; replace hs := hs.mono hleD; replace hks := hks.mono hleD; replace hj := hj.mono hleD; replace hB := hB.mono hleD; replace hO := hO.mono hleD; replace hP := hP.mono hleD; refine withP_cons rfl rfl ?_; rintro _ rfl; refine withP_nil rfl ?_; refine XO.guardT rfl rfl (decide_eq_false h5) rfl ?_; refine XO.fieldAddr rfl fa_34_0 rfl ?_; refine XO.nil ?_; exact stepQN_ok rfl trivial (rfl)
     refine stepsH_cons rfl ?_ ?_
     ·intro X ext HD hleD _
      replace hJ := hJ.mono hleD; replace hs := hs.mono hleD; replace hks := hks.mono hleD; replace hj := hj.mono hleD; replace hB := hB.mono hleD; replace hO := hO.mono hleD; replace hP := hP.mono hleD; refine withP_cons rfl rfl ?_; rintro _ rfl; refine withP_cons rfl rfl ?_; rintro _ rfl; refine withP_nil rfl ?_; refine XO.guardT rfl rfl (decide_eq_false h5) rfl ?_; refine XO.loadO 1 rfl rfl ty_3 rfl rfl rfl ?_; refine XO.nil ?_; exact stepQN_ok rfl trivial (rfl)
     refine stepsH_cons rfl ?_ ?_
     ·intro X ext HD hleD _
      replace hJ := hJ.mono hleD; replace hs := hs.mono hleD; replace hks := hks.mono hleD; replace hj := hj.mono hleD; replace hB := hB.mono hleD; replace hO := hO.mono hleD; replace hP := hP.mono hleD; refine withP_cons rfl rfl ?_; rintro _ rfl; refine withP_nil rfl ?_; refine XO.guardT rfl rfl (decide_eq_false h5) rfl ?_; refine XO.loadO 4 rfl rfl ty_52 rfl rfl rfl ?_; refine XO.nil ?_; exact stepQN_ok rfl trivial (rfl)
     refine stepsH_cons rfl ?_ ?_
     ·intro X ext HD hleD _
      replace hJ := hJ.mono hleD; replace hs := hs.mono hleD; replace hks := hks.mono hleD; replace hj := hj.mono hleD; replace hB := hB.mono hleD; replace hO := hO.mono hleD; replace hP := hP.mono hleD; refine withP_cons rfl rfl ?_; rintro _ rfl; refine withP_cons rfl rfl ?_; rintro _ rfl; refine withP_nil rfl ?_; refine XO.guardT rfl rfl (decide_eq_false h5) rfl ?_; refine XO.nilCheckP rfl rfl ?_; refine XO.nil ?_; exact stepQN_ok rfl trivial (rfl)
     refine stepsH_cons rfl ?_ ?_
     ·intro X ext HD hleD _
      replace hJ := hJ.mono hleD; replace hs := hs.mono hleD; replace hks := hks.mono hleD; replace hj := hj.mono hleD; replace hB := hB.mono hleD; replace hO := hO.mono hleD; replace hP := hP.mono hleD; refine withP_cons rfl rfl ?_; rintro _ rfl; refine withP_cons rfl rfl ?_; rintro _ rfl; refine withP_nil rfl ?_; refine XO.guardT rfl rfl (decide_eq_false h5) rfl ?_; refine XO.fieldAddr rfl fa_70_0 rfl ?_; refine XO.nil ?_; exact stepQN_ok rfl trivial (rfl)
     refine stepsH_cons rfl ?_ ?_
     ·intro X ext HD hleD _
      replace hJ := hJ.mono hleD; replace hs := hs.mono hleD; replace hks := hks.mono hleD; replace hj := hj.mono hleD; replace hB := hB.mono hleD; replace hO := hO.mono hleD; replace hP := hP.mono hleD; refine withP_cons rfl rfl ?_; rintro _ rfl; refine withP_cons rfl rfl ?_; rintro _ rfl; refine withP_nil rfl ?_; refine XO.guardT rfl rfl (decide_eq_false h5) rfl ?_; refine XO.fieldAddr rfl fa_24_3 rfl ?_; refine XO.nil ?_; exact stepQN_ok rfl trivial (rfl)
     refine stepsH_cons rfl ?_ ?_
     ·intro X ext HD hleD _
      replace hJ := hJ.mono hleD; replace hs := hs.mono hleD; replace hks := hks.mono hleD; replace hj := hj.mono hleD; replace hB := hB.mono hleD; replace hO := hO.mono hleD; replace hP := hP.mono hleD; refine withP_cons rfl rfl ?_; rintro _ rfl; refine withP_cons rfl rfl ?_; rintro _ rfl; refine withP_nil rfl ?_; refine XO.guardT rfl rfl (decide_eq_false h5) rfl ?_; refine XO.loadHF rfl (by assumption) ty_22 rfl rfl rfl ?_; refine XO.nil ?_; exact stepQN_ok rfl trivial (rfl)
     refine stepsH_cons rfl ?_ ?_
     ·intro X ext HD hleD _
      replace hJ := hJ.mono hleD; replace hs := hs.mono hleD; replace hks := hks.mono hleD; replace hj := hj.mono hleD; replace hB := hB.mono hleD; replace hO := hO.mono hleD; replace hP := hP.mono hleD; refine withP_cons rfl rfl ?_; rintro _ rfl; refine withP_cons rfl rfl ?_; rintro _ rfl; refine withP_nil rfl ?_; refine XO.guardT rfl rfl (decide_eq_false h5) rfl ?_; refine XO.lenS (ts := #[]) rfl Try.underlying22 rfl ?_; refine XO.nil ?_; exact stepQN_ok rfl trivial (rfl)
     exact stepsH_end rfl
    case tail7 =>
     intro HD hleD _
     replace hJ := hJ.mono hleD; replace hs := hs.mono hleD; replace hks := hks.mono hleD; replace hj := hj.mono hleD; replace hB := hB.mono hleD; replace hO := hO.mono hleD; replace hP := hP.mono hleD; refine withP_cons rfl rfl ?_; rintro _ rfl; refine withP_cons rfl rfl ?_; rintro _ rfl; refine withP_cons rfl rfl ?_; rintro _ rfl; refine withP_cons rfl rfl ?_; rintro _ rfl; refine withP_cons rfl rfl ?_; rintro _ rfl; refine withP_cons rfl rfl ?_; rintro _ rfl; refine withP_cons rfl rfl ?_; rintro _ rfl; refine withP_cons rfl rfl ?_; rintro _ rfl; refine withP_cons rfl rfl ?_; rintro _ rfl; refine withP_cons rfl rfl ?_; rintro _ rfl; refine withP_cons rfl rfl ?_; rintro _ rfl; refine withP_cons rfl rfl ?_; rintro _ rfl; refine withP_cons rfl rfl ?_; rintro _ rfl; refine withP_cons rfl rfl ?_; rintro _ rfl; refine withP_nil rfl ?_; refine withEnts_nil ?_; refine XO.guardT rfl rfl (decide_eq_false h5) rfl ?_; refine XO.geq rfl rfl rfl ?_; refine XO.pickF rfl (decide_eq_false h5) rfl rfl ?_; refine XO.move rfl rfl ?_; refine XO.guardT rfl rfl (decide_eq_false h16) rfl ?_; refine XO.fieldAddr rfl fa_34_1 rfl ?_; refine XO.guardT rfl rfl (decide_eq_false h16) rfl ?_; refine XO.loadO 1 rfl rfl ty_3 rfl rfl rfl ?_; refine XO.guardT rfl rfl (decide_eq_false h16) rfl ?_; refine XO.neq rfl rfl rfl ?_; refine XO.pickF rfl (decide_eq_false h16) rfl rfl ?_; refine XO.nil ?_; refine XC.seq2 ?_; refine XC.cond rfl (fun c1_8 => ?_) (fun c1_8 => ?_)
     ·refine XC.seq ?_; refine XC.region ?_; refine XO.storeO 0 rfl rfl rfl rfl ty_4 rfl rfl rfl rfl rfl ?_; refine XO.nil ?_; refine XC.seq2 ?_; refine XC.ret ?_; refine seqX_ret ?_; refine ⟨rfl, _, [], (resC_cell 0 rfl rfl ty_4 rfl rfl resC_nil), (by repeat (first | exact List.Sublist.refl _ | apply List.Sublist.cons_cons | apply List.Sublist.cons)), RetR.mk ?_⟩
      exact congrArg Value.bool (ref_bad (by omega) (by omega)).symm
     ·have he : e = (l.length : Nat) := by omega
      have hy0 : y = 0 := by omega
      obtain ⟨d, rfl⟩ : ∃ q, d = q + 1 := ⟨d - 1, by omega⟩
      obtain ⟨r, hr⟩ : ∃ r, w.B[l.length]? = some r := ⟨_, List.getElem?_eq_getElem (by omega)⟩
      have hle0 := lstE_at (pr := pr) hr hn
      have hcapl := hs.le
      refine XC.skip ?_; refine XC.seq2 ?_; refine XC.seq ?_; refine XC.region ?_; refine XO.alloc ze_3 rfl (fun b10 => ?_); refine XO.storeO 0 rfl rfl rfl rfl ty_3 rfl rfl rfl rfl rfl ?_; refine XO.nil ?_; refine XC.seq2 ?_; refine XC.seq ?_; refine XC.seq ?_; refine XC.region ?_; refine XO.loadO 5 rfl rfl ty_52 rfl rfl rfl ?_; refine XO.loadO 4 rfl rfl ty_25 rfl rfl rfl ?_; refine XO.lenS (ts := #[]) rfl Try.underlying25 rfl ?_; refine XO.callH rfl (lists_fn bj w old pr l.length n r hr hn (hok.rows r (List.mem_of_getElem? hr)) (by omega) (by omega) _ hJ) rfl ?_; rintro _ HL hleL ⟨bjc, be, rfl, hseq⟩; replace hJ := hJ.mono hleL; replace hs := hs.mono hleL; replace hks := hks.mono hleL; replace hj := hj.mono hleL; replace hB := hB.mono hleL; replace hO := hO.mono hleL; replace hP := hP.mono hleL; refine XO.nil ?_; refine XC.seq2 ?_; refine XC.block ?_; refine XC.keep [4, 5, 6, 7, 8, 10, 50] rfl ?_; refine XC.rangeFuncF (lend := lendI) rfl (hseq) (fun _ _ => rfl) rfl rfl (fun pre Hl own => (b10, .cells 3 [.int .i64 (pre.length : Nat)]) :: (b8, .cells 4 [.bool false]) :: (b7, .cells 34 [.int .i64 e, .int .i64 y, .slice ad ks.length cd]) :: (b6, .cells 3 [.int .i64 lim]) :: (b5, .cells 25 [.slice a l.length c]) :: (b4, .cells 52 [.pointer (some ⟨bj, 0, none⟩)]) :: rest = own ∧ pre.length ≤ ks.length ∧ zipB (fun x D => refF w old pr lim d (l ++ [x]) D) pre (ks.take pre.length) = true) (fun cq Hl own => cq = .ret ∧ ∃ q : Nat, (b10, .cells 3 [.int .i64 (q : Nat)]) :: (b8, .cells 4 [.bool false]) :: (b7, .cells 34 [.int .i64 e, .int .i64 y, .slice ad ks.length cd]) :: (b6, .cells 3 [.int .i64 lim]) :: (b5, .cells 25 [.slice a l.length c]) :: (b4, .cells 52 [.pointer (some ⟨bj, 0, none⟩)]) :: rest = own ∧ zipB (fun x D => refF w old pr lim d (l ++ [x]) D) (lstE w pr l.length) ks = false) (fun _ _ _ _ _ h => h) (⟨rfl, Nat.zero_le _, rfl⟩) (.inl rfl) ?_ ?_ ?_
      ·rintro G lp hd1 hd2 hrec pre x post hxs ⟨ax, cx⟩ Hl _ ownL hleL ⟨rfl, hpk, hzp⟩ ⟨rfl, hx⟩
       have hxl : x.length ≤ 1000 := by have := comb_len (show x ∈ comb (badR r) n pr by rw [hxs]; simp); omega
       have hpl2 : pre.length ≤ 256 := by
        have h1 := comb_size (bad := badR r) n pr
        have h2 : 2 ^ pr.length ≤ 2 ^ 8 := Nat.pow_le_pow_right (by decide) hprl
        rw [hxs, List.length_append] at h1
        omega
       replace hJ := hJ.mono hleL; replace hs := hs.mono hleL; replace hks := hks.mono hleL; replace hj := hj.mono hleL; replace hB := hB.mono hleL; replace hO := hO.mono hleL; replace hP := hP.mono hleL; refine XC.region ?_; refine XO.assign rfl rfl ?_; refine XO.nil ?_; refine assignN ?_; refine XC.block ?_; refine XC.seq ?_; refine XC.seq ?_
       by_cases h5 : ((pre.length : Nat) : Int) ≥ (ks.length : Int)
       ·skip
        refine XC.keep [4, 5, 6, 7, 8, 10, 11] rfl ?_
        apply XC.drawH (fun _ => True) trivial [] (by decide) (fun _ _ _ _ => True) (fun _ _ _ _ _ _ h => h) 22 [eqF _, eqF _, eqF _, eqF _, eqF _, eqF _, eqF _, eqF _, eqF _, eqF _, eqF _, eqF _, eqF _, eqF _, eqF _, eqF _, eqF _, eqF _, eqF _, eqF _, eqF _, eqF _] follows (by kernel_rfl) ⟨eqF_mono _, eqF_mono _, eqF_mono _, eqF_mono _, eqF_mono _, eqF_mono _, eqF_mono _, eqF_mono _, eqF_mono _, eqF_mono _, eqF_mono _, eqF_mono _, eqF_mono _, eqF_mono _, eqF_mono _, eqF_mono _, eqF_mono _, eqF_mono _, eqF_mono _, eqF_mono _, eqF_mono _, eqF_mono _, trivial⟩ (by decide) ?steps10 ?tail10
        case steps10 =>
         refine stepsH_cons rfl ?_ ?_
         ·intro X ext HD hleD _
          replace hJ := hJ.mono hleD; replace hs := hs.mono hleD; replace hks := hks.mono hleD; replace hj := hj.mono hleD; replace hB := hB.mono hleD; replace hO := hO.mono hleD; replace hP := hP.mono hleD; replace hx := hx.mono hleD; refine withP_nil rfl ?_; refine XO.loadO 0 rfl rfl ty_3 rfl rfl rfl ?_; refine XO.nil ?_; exact stepQN_ok rfl trivial (rfl)
         refine stepsH_cons rfl ?_ ?_
         ·intro X ext HD hleD _
          replace hJ := hJ.mono hleD; replace hs := hs.mono hleD; replace hks := hks.mono hleD; replace hj := hj.mono hleD; replace hB := hB.mono hleD; replace hO := hO.mono hleD; replace hP := hP.mono hleD; replace hx := hx.mono hleD; refine withP_nil rfl ?_; refine XO.fieldAddr rfl fa_34_2 rfl ?_; refine XO.nil ?_; exact stepQN_ok rfl trivial (rfl)
         refine stepsH_cons rfl ?_ ?_
         ·intro X ext HD hleD _
          replace hJ := hJ.mono hleD; replace hs := hs.mono hleD; replace hks := hks.mono hleD; replace hj := hj.mono hleD; replace hB := hB.mono hleD; replace hO := hO.mono hleD; replace hP := hP.mono hleD; replace hx := hx.mono hleD; refine withP_cons rfl rfl ?_; rintro _ rfl; refine withP_nil rfl ?_; refine XO.loadO 2 rfl rfl ty_32 rfl rfl rfl ?_; refine XO.nil ?_; exact stepQN_ok rfl trivial (rfl)
         refine stepsH_cons rfl ?_ ?_
         ·intro X ext HD hleD _
          replace hJ := hJ.mono hleD; replace hs := hs.mono hleD; replace hks := hks.mono hleD; replace hj := hj.mono hleD; replace hB := hB.mono hleD; replace hO := hO.mono hleD; replace hP := hP.mono hleD; replace hx := hx.mono hleD; refine withP_cons rfl rfl ?_; rintro _ rfl; refine withP_nil rfl ?_; refine XO.lenS (ts := #[]) rfl Try.underlying32 rfl ?_; refine XO.nil ?_; exact stepQN_ok rfl trivial (rfl)
         refine stepsH_cons rfl ?_ ?_
         ·intro X ext HD hleD _
          replace hJ := hJ.mono hleD; replace hs := hs.mono hleD; replace hks := hks.mono hleD; replace hj := hj.mono hleD; replace hB := hB.mono hleD; replace hO := hO.mono hleD; replace hP := hP.mono hleD; replace hx := hx.mono hleD; refine withP_cons rfl rfl ?_; rintro _ rfl; refine withP_cons rfl rfl ?_; rintro _ rfl; refine withP_nil rfl ?_; refine XO.geq rfl rfl rfl ?_; refine XO.nil ?_; exact stepQN_ok rfl trivial (rfl)
         refine stepsH_cons rfl ?_ ?_
         ·intro X ext HD hleD _
          replace hJ := hJ.mono hleD; replace hs := hs.mono hleD; replace hks := hks.mono hleD; replace hj := hj.mono hleD; replace hB := hB.mono hleD; replace hO := hO.mono hleD; replace hP := hP.mono hleD; replace hx := hx.mono hleD; refine withP_cons rfl rfl ?_; rintro _ rfl; refine withP_nil rfl ?_; refine XO.move rfl rfl ?_; refine XO.nil ?_; exact stepQN_ok rfl trivial (rfl)
         refine stepsH_cons rfl ?_ ?_
         ·intro X ext HD hleD _
          replace hJ := hJ.mono hleD; replace hs := hs.mono hleD; replace hks := hks.mono hleD; replace hj := hj.mono hleD; replace hB := hB.mono hleD; replace hO := hO.mono hleD; replace hP := hP.mono hleD; replace hx := hx.mono hleD; refine withP_cons rfl rfl ?_; rintro _ rfl; refine withP_nil rfl ?_; refine XO.guardF rfl rfl (decide_eq_true h5) rfl rfl ?_; refine XO.nil ?_; exact stepQN_ok rfl trivial (rfl)
         refine stepsH_cons rfl ?_ ?_
         ·intro X ext HD hleD _
          replace hJ := hJ.mono hleD; replace hs := hs.mono hleD; replace hks := hks.mono hleD; replace hj := hj.mono hleD; replace hB := hB.mono hleD; replace hO := hO.mono hleD; replace hP := hP.mono hleD; replace hx := hx.mono hleD; refine withP_cons rfl rfl ?_; rintro _ rfl; refine withP_nil rfl ?_; refine XO.guardF rfl rfl (decide_eq_true h5) rfl rfl ?_; refine XO.nil ?_; exact stepQN_ok rfl trivial (rfl)
         refine stepsH_cons rfl ?_ ?_
         ·intro X ext HD hleD _
          replace hJ := hJ.mono hleD; replace hs := hs.mono hleD; replace hks := hks.mono hleD; replace hj := hj.mono hleD; replace hB := hB.mono hleD; replace hO := hO.mono hleD; replace hP := hP.mono hleD; replace hx := hx.mono hleD; refine withP_cons rfl rfl ?_; rintro _ rfl; refine withP_nil rfl ?_; refine XO.guardF rfl rfl (decide_eq_true h5) rfl rfl ?_; refine XO.nil ?_; exact stepQN_ok rfl trivial (rfl)
         refine stepsH_cons rfl ?_ ?_
         ·intro X ext HD hleD _
          replace hJ := hJ.mono hleD; replace hs := hs.mono hleD; replace hks := hks.mono hleD; replace hj := hj.mono hleD; replace hB := hB.mono hleD; replace hO := hO.mono hleD; replace hP := hP.mono hleD; replace hx := hx.mono hleD; refine withP_cons rfl rfl ?_; rintro _ rfl; refine withP_cons rfl rfl ?_; rintro _ rfl; refine withP_nil rfl ?_; refine XO.guardF rfl rfl (decide_eq_true h5) rfl rfl ?_; refine XO.nil ?_; exact stepQN_ok rfl trivial (rfl)
         refine stepsH_cons rfl ?_ ?_
         ·intro X ext HD hleD _
          replace hJ := hJ.mono hleD; replace hs := hs.mono hleD; replace hks := hks.mono hleD; replace hj := hj.mono hleD; replace hB := hB.mono hleD; replace hO := hO.mono hleD; replace hP := hP.mono hleD; replace hx := hx.mono hleD; refine withP_cons rfl rfl ?_; rintro _ rfl; refine withP_nil rfl ?_; refine XO.guardF rfl rfl (decide_eq_true h5) rfl rfl ?_; refine XO.nil ?_; exact stepQN_ok rfl trivial (rfl)
         refine stepsH_cons rfl ?_ ?_
         ·intro X ext HD hleD _
          replace hJ := hJ.mono hleD; replace hs := hs.mono hleD; replace hks := hks.mono hleD; replace hj := hj.mono hleD; replace hB := hB.mono hleD; replace hO := hO.mono hleD; replace hP := hP.mono hleD; replace hx := hx.mono hleD; refine withP_cons rfl rfl ?_; rintro _ rfl; refine withP_cons rfl rfl ?_; rintro _ rfl; refine withP_nil rfl ?_; refine XO.guardF rfl rfl (decide_eq_true h5) rfl rfl ?_; refine XO.nil ?_; exact stepQN_ok rfl trivial (rfl)
         refine stepsH_cons rfl ?_ ?_
         ·intro X ext HD hleD _
          replace hJ := hJ.mono hleD; replace hs := hs.mono hleD; replace hks := hks.mono hleD; replace hj := hj.mono hleD; replace hB := hB.mono hleD; replace hO := hO.mono hleD; replace hP := hP.mono hleD; replace hx := hx.mono hleD; refine withP_cons rfl rfl ?_; rintro _ rfl; refine withP_cons rfl rfl ?_; rintro _ rfl; refine withP_cons rfl rfl ?_; rintro _ rfl; refine withP_cons rfl rfl ?_; rintro _ rfl; refine withP_nil rfl ?_; refine XO.guardF rfl rfl (decide_eq_true h5) rfl rfl ?_; refine XO.nil ?_; exact stepQN_ok rfl trivial (rfl)
         refine stepsH_cons rfl ?_ ?_
         ·intro X ext HD hleD _
          replace hJ := hJ.mono hleD; replace hs := hs.mono hleD; replace hks := hks.mono hleD; replace hj := hj.mono hleD; replace hB := hB.mono hleD; replace hO := hO.mono hleD; replace hP := hP.mono hleD; replace hx := hx.mono hleD; refine withP_cons rfl rfl ?_; rintro _ rfl; refine withP_nil rfl ?_; refine XO.guardF rfl rfl (decide_eq_true h5) rfl rfl ?_; refine XO.nil ?_; exact stepQN_ok rfl trivial (rfl)
         refine stepsH_cons rfl ?_ ?_
         ·intro X ext HD hleD _
          replace hJ := hJ.mono hleD; replace hs := hs.mono hleD; replace hks := hks.mono hleD; replace hj := hj.mono hleD; replace hB := hB.mono hleD; replace hO := hO.mono hleD; replace hP := hP.mono hleD; replace hx := hx.mono hleD; refine withP_cons rfl rfl ?_; rintro _ rfl; refine withP_cons rfl rfl ?_; rintro _ rfl; refine withP_nil rfl ?_; refine XO.guardF rfl rfl (decide_eq_true h5) rfl rfl ?_; refine XO.nil ?_; exact stepQN_ok rfl trivial (rfl)
         refine stepsH_cons rfl ?_ ?_
         ·intro X ext HD hleD _
          replace hJ := hJ.mono hleD; replace hs := hs.mono hleD; replace hks := hks.mono hleD; replace hj := hj.mono hleD; replace hB := hB.mono hleD; replace hO := hO.mono hleD; replace hP := hP.mono hleD; replace hx := hx.mono hleD; refine withP_cons rfl rfl ?_; rintro _ rfl; refine withP_cons rfl rfl ?_; rintro _ rfl; refine withP_cons rfl rfl ?_; rintro _ rfl; refine withP_nil rfl ?_; refine XO.guardF rfl rfl (decide_eq_true h5) rfl rfl ?_; refine XO.nil ?_; exact stepQN_ok rfl trivial (rfl)
         refine stepsH_cons rfl ?_ ?_
         ·intro X ext HD hleD _
          replace hJ := hJ.mono hleD; replace hs := hs.mono hleD; replace hks := hks.mono hleD; replace hj := hj.mono hleD; replace hB := hB.mono hleD; replace hO := hO.mono hleD; replace hP := hP.mono hleD; replace hx := hx.mono hleD; refine withP_cons rfl rfl ?_; rintro _ rfl; refine withP_nil rfl ?_; refine XO.guardF rfl rfl (decide_eq_true h5) rfl rfl ?_; refine XO.nil ?_; exact stepQN_ok rfl trivial (rfl)
         refine stepsH_cons rfl ?_ ?_
         ·intro X ext HD hleD _
          replace hJ := hJ.mono hleD; replace hs := hs.mono hleD; replace hks := hks.mono hleD; replace hj := hj.mono hleD; replace hB := hB.mono hleD; replace hO := hO.mono hleD; replace hP := hP.mono hleD; replace hx := hx.mono hleD; refine withP_cons rfl rfl ?_; rintro _ rfl; refine withP_nil rfl ?_; refine XO.guardF rfl rfl (decide_eq_true h5) rfl rfl ?_; refine XO.nil ?_; exact stepQN_ok rfl trivial (rfl)
         refine stepsH_cons rfl ?_ ?_
         ·intro X ext HD hleD _
          replace hJ := hJ.mono hleD; replace hs := hs.mono hleD; replace hks := hks.mono hleD; replace hj := hj.mono hleD; replace hB := hB.mono hleD; replace hO := hO.mono hleD; replace hP := hP.mono hleD; replace hx := hx.mono hleD; refine withP_cons rfl rfl ?_; rintro _ rfl; refine withP_cons rfl rfl ?_; rintro _ rfl; refine withP_nil rfl ?_; refine XO.guardF rfl rfl (decide_eq_true h5) rfl rfl ?_; refine XO.nil ?_; exact stepQN_ok rfl trivial (rfl)
         refine stepsH_cons rfl ?_ ?_
         ·intro X ext HD hleD _
          replace hJ := hJ.mono hleD; replace hs := hs.mono hleD; replace hks := hks.mono hleD; replace hj := hj.mono hleD; replace hB := hB.mono hleD; replace hO := hO.mono hleD; replace hP := hP.mono hleD; replace hx := hx.mono hleD; refine withP_cons rfl rfl ?_; rintro _ rfl; refine withP_nil rfl ?_; refine XO.guardF rfl rfl (decide_eq_true h5) rfl rfl ?_; refine XO.nil ?_; exact stepQN_ok rfl trivial (rfl)
         refine stepsH_cons rfl ?_ ?_
         ·intro X ext HD hleD _
          replace hJ := hJ.mono hleD; replace hs := hs.mono hleD; replace hks := hks.mono hleD; replace hj := hj.mono hleD; replace hB := hB.mono hleD; replace hO := hO.mono hleD; replace hP := hP.mono hleD; replace hx := hx.mono hleD; refine withP_cons rfl rfl ?_; rintro _ rfl; refine withP_cons rfl rfl ?_; rintro _ rfl; refine withP_cons rfl rfl ?_; rintro _ rfl; refine withP_nil rfl ?_; refine XO.guardF rfl rfl (decide_eq_true h5) rfl rfl ?_; refine XO.nil ?_; exact stepQN_ok rfl trivial (rfl)
         refine stepsH_cons rfl ?_ ?_
         ·intro X ext HD hleD _
          replace hJ := hJ.mono hleD; replace hs := hs.mono hleD; replace hks := hks.mono hleD; replace hj := hj.mono hleD; replace hB := hB.mono hleD; replace hO := hO.mono hleD; replace hP := hP.mono hleD; replace hx := hx.mono hleD; refine withP_cons rfl rfl ?_; rintro _ rfl; refine withP_cons rfl rfl ?_; rintro _ rfl; refine withP_nil rfl ?_; refine XO.guardF rfl rfl (decide_eq_true h5) rfl rfl ?_; refine XO.nil ?_; exact stepQN_ok rfl trivial (rfl)
         exact stepsH_end rfl
        case tail10 =>
         intro HD hleD _
         replace hJ := hJ.mono hleD; replace hs := hs.mono hleD; replace hks := hks.mono hleD; replace hj := hj.mono hleD; replace hB := hB.mono hleD; replace hO := hO.mono hleD; replace hP := hP.mono hleD; replace hx := hx.mono hleD; refine withP_cons rfl rfl ?_; rintro _ rfl; refine withP_cons rfl rfl ?_; rintro _ rfl; refine withP_cons rfl rfl ?_; rintro _ rfl; refine withP_cons rfl rfl ?_; rintro _ rfl; refine withP_cons rfl rfl ?_; rintro _ rfl; refine withP_cons rfl rfl ?_; rintro _ rfl; refine withP_cons rfl rfl ?_; rintro _ rfl; refine withP_cons rfl rfl ?_; rintro _ rfl; refine withP_cons rfl rfl ?_; rintro _ rfl; refine withP_cons rfl rfl ?_; rintro _ rfl; refine withP_cons rfl rfl ?_; rintro _ rfl; refine withP_cons rfl rfl ?_; rintro _ rfl; refine withP_cons rfl rfl ?_; rintro _ rfl; refine withP_cons rfl rfl ?_; rintro _ rfl; refine withP_cons rfl rfl ?_; rintro _ rfl; refine withP_cons rfl rfl ?_; rintro _ rfl; refine withP_cons rfl rfl ?_; rintro _ rfl; refine withP_cons rfl rfl ?_; rintro _ rfl; refine withP_cons rfl rfl ?_; rintro _ rfl; refine withP_cons rfl rfl ?_; rintro _ rfl; refine withP_cons rfl rfl ?_; rintro _ rfl; refine withP_cons rfl rfl ?_; rintro _ rfl; refine withP_nil rfl ?_; refine withEnts_nil ?_; refine XO.guardF rfl rfl (decide_eq_true h5) rfl rfl ?_; refine XO.guardF rfl rfl (decide_eq_true h5) rfl rfl ?_; refine XO.pickT rfl (decide_eq_true h5) rfl rfl ?_; refine XO.nil ?_; refine XC.seq2 ?_; refine XC.condT rfl (rfl) ?_; refine XC.seq ?_; refine XC.region ?_; refine XO.storeO 1 rfl rfl rfl rfl ty_4 rfl rfl rfl rfl rfl ?_; refine XO.nil ?_; refine XC.seq2 ?_; refine XC.ret ?_; refine seqX_ret ?_; refine blockR ?_; refine ⟨rfl, ((b10, .cells 3 [.int .i64 (pre.length : Nat)]) :: (b8, .cells 4 [.bool false]) :: (b7, .cells 34 [.int .i64 e, .int .i64 y, .slice _ ks.length cd]) :: (b6, .cells 3 [.int .i64 lim]) :: (b5, .cells 25 [.slice a l.length c]) :: (b4, .cells 52 [.pointer (some ⟨bj, 0, none⟩)]) :: rest), (by repeat (first | exact List.Sublist.refl _ | apply List.Sublist.cons)), ?_⟩
         first | exact ⟨rfl, pre.length, rfl, by rw [hle0, hxs]; exact zip_short (by omega)⟩ | exact ⟨rfl, pre.length, rfl, by rw [hle0, hxs]; exact zip_no hxD (by simp_all)⟩
       ·skip
        refine XC.keep [4, 5, 6, 7, 8, 10, 11] rfl ?_; obtain ⟨bED, oED, rfl⟩ := hks.addr (by omega); obtain ⟨_, xD, hxD, hRD, hpD⟩ := hks.elem (pre.length) (by omega); obtain ⟨eD, yD, kD⟩ := xD; obtain ⟨aD, cD, rfl, hdD⟩ := denR_iff.1 hRD
        apply XC.drawH (fun _ => True) trivial [] (by decide) (fun _ _ _ _ => True) (fun _ _ _ _ _ _ h => h) 22 [eqF _, eqF _, eqF _, eqF _, eqF _, eqF _, eqF _, eqF _, eqF _, eqF _, eqF _, eqF _, slCap ilR l, eqF _, slF ilR [x], slG ilR (l ++ [x]), eqF _, eqF _, eqF _, eqF _, eqF _, eqF _] follows (by kernel_rfl) ⟨eqF_mono _, eqF_mono _, eqF_mono _, eqF_mono _, eqF_mono _, eqF_mono _, eqF_mono _, eqF_mono _, eqF_mono _, eqF_mono _, eqF_mono _, eqF_mono _, slCap_mono _ _, eqF_mono _, slF_mono _ _, slG_mono _ _, eqF_mono _, eqF_mono _, eqF_mono _, eqF_mono _, eqF_mono _, eqF_mono _, trivial⟩ (by decide) ?steps11 ?tail11
        case steps11 =>
         refine stepsH_cons rfl ?_ ?_
         ·intro X ext HD hleD _
          replace hJ := hJ.mono hleD; replace hs := hs.mono hleD; replace hks := hks.mono hleD; replace hj := hj.mono hleD; replace hB := hB.mono hleD; replace hO := hO.mono hleD; replace hP := hP.mono hleD; replace hx := hx.mono hleD; replace hpD := hpD.mono hleD; replace hdD := hdD.mono hleD; refine withP_nil rfl ?_; refine XO.loadO 0 rfl rfl ty_3 rfl rfl rfl ?_; refine XO.nil ?_; exact stepQN_ok rfl trivial (rfl)
         refine stepsH_cons rfl ?_ ?_
         ·intro X ext HD hleD _
          replace hJ := hJ.mono hleD; replace hs := hs.mono hleD; replace hks := hks.mono hleD; replace hj := hj.mono hleD; replace hB := hB.mono hleD; replace hO := hO.mono hleD; replace hP := hP.mono hleD; replace hx := hx.mono hleD; replace hpD := hpD.mono hleD; replace hdD := hdD.mono hleD; refine withP_nil rfl ?_; refine XO.fieldAddr rfl fa_34_2 rfl ?_; refine XO.nil ?_; exact stepQN_ok rfl trivial (rfl)
         refine stepsH_cons rfl ?_ ?_
         ·intro X ext HD hleD _
          replace hJ := hJ.mono hleD; replace hs := hs.mono hleD; replace hks := hks.mono hleD; replace hj := hj.mono hleD; replace hB := hB.mono hleD; replace hO := hO.mono hleD; replace hP := hP.mono hleD; replace hx := hx.mono hleD; replace hpD := hpD.mono hleD; replace hdD := hdD.mono hleD; refine withP_cons rfl rfl ?_; rintro _ rfl; refine withP_nil rfl ?_; refine XO.loadO 2 rfl rfl ty_32 rfl rfl rfl ?_; refine XO.nil ?_; exact stepQN_ok rfl trivial (rfl)
         refine stepsH_cons rfl ?_ ?_
         ·intro X ext HD hleD _
          replace hJ := hJ.mono hleD; replace hs := hs.mono hleD; replace hks := hks.mono hleD; replace hj := hj.mono hleD; replace hB := hB.mono hleD; replace hO := hO.mono hleD; replace hP := hP.mono hleD; replace hx := hx.mono hleD; replace hpD := hpD.mono hleD; replace hdD := hdD.mono hleD; refine withP_cons rfl rfl ?_; rintro _ rfl; refine withP_nil rfl ?_; refine XO.lenS (ts := #[]) rfl Try.underlying32 rfl ?_; refine XO.nil ?_; exact stepQN_ok rfl trivial (rfl)
         refine stepsH_cons rfl ?_ ?_
         ·intro X ext HD hleD _
          replace hJ := hJ.mono hleD; replace hs := hs.mono hleD; replace hks := hks.mono hleD; replace hj := hj.mono hleD; replace hB := hB.mono hleD; replace hO := hO.mono hleD; replace hP := hP.mono hleD; replace hx := hx.mono hleD; replace hpD := hpD.mono hleD; replace hdD := hdD.mono hleD; refine withP_cons rfl rfl ?_; rintro _ rfl; refine withP_cons rfl rfl ?_; rintro _ rfl; refine withP_nil rfl ?_; refine XO.geq rfl rfl rfl ?_; refine XO.nil ?_; exact stepQN_ok rfl trivial (rfl)
         refine stepsH_cons rfl ?_ ?_
         ·intro X ext HD hleD _
          replace hJ := hJ.mono hleD; replace hs := hs.mono hleD; replace hks := hks.mono hleD; replace hj := hj.mono hleD; replace hB := hB.mono hleD; replace hO := hO.mono hleD; replace hP := hP.mono hleD; replace hx := hx.mono hleD; replace hpD := hpD.mono hleD; replace hdD := hdD.mono hleD; refine withP_cons rfl rfl ?_; rintro _ rfl; refine withP_nil rfl ?_; refine XO.move rfl rfl ?_; refine XO.nil ?_; exact stepQN_ok rfl trivial (rfl)
         refine stepsH_cons rfl ?_ ?_
         ·intro X ext HD hleD _
          replace hJ := hJ.mono hleD; replace hs := hs.mono hleD; replace hks := hks.mono hleD; replace hj := hj.mono hleD; replace hB := hB.mono hleD; replace hO := hO.mono hleD; replace hP := hP.mono hleD; replace hx := hx.mono hleD; replace hpD := hpD.mono hleD; replace hdD := hdD.mono hleD; refine withP_cons rfl rfl ?_; rintro _ rfl; refine withP_nil rfl ?_; refine XO.guardT rfl rfl (decide_eq_false h5) rfl ?_; refine XO.loadO 5 rfl rfl ty_52 rfl rfl rfl ?_; refine XO.nil ?_; exact stepQN_ok rfl trivial (rfl)
         refine stepsH_cons rfl ?_ ?_
         ·intro X ext HD hleD _
          replace hJ := hJ.mono hleD; replace hs := hs.mono hleD; replace hks := hks.mono hleD; replace hj := hj.mono hleD; replace hB := hB.mono hleD; replace hO := hO.mono hleD; replace hP := hP.mono hleD; replace hx := hx.mono hleD; replace hpD := hpD.mono hleD; replace hdD := hdD.mono hleD; refine withP_cons rfl rfl ?_; rintro _ rfl; refine withP_nil rfl ?_; refine XO.guardT rfl rfl (decide_eq_false h5) rfl ?_; refine XO.loadO 4 rfl rfl ty_25 rfl rfl rfl ?_; refine XO.nil ?_; exact stepQN_ok rfl trivial (rfl)
         refine stepsH_cons rfl ?_ ?_
         ·intro X ext HD hleD _
          replace hJ := hJ.mono hleD; replace hs := hs.mono hleD; replace hks := hks.mono hleD; replace hj := hj.mono hleD; replace hB := hB.mono hleD; replace hO := hO.mono hleD; replace hP := hP.mono hleD; replace hx := hx.mono hleD; replace hpD := hpD.mono hleD; replace hdD := hdD.mono hleD; refine withP_cons rfl rfl ?_; rintro _ rfl; refine withP_nil rfl ?_; refine XO.guardT rfl rfl (decide_eq_false h5) rfl ?_; refine XO.loadO 4 rfl rfl ty_25 rfl rfl rfl ?_; refine XO.nil ?_; exact stepQN_ok rfl trivial (rfl)
         refine stepsH_cons rfl ?_ ?_
         ·intro X ext HD hleD _
          replace hJ := hJ.mono hleD; replace hs := hs.mono hleD; replace hks := hks.mono hleD; replace hj := hj.mono hleD; replace hB := hB.mono hleD; replace hO := hO.mono hleD; replace hP := hP.mono hleD; replace hx := hx.mono hleD; replace hpD := hpD.mono hleD; replace hdD := hdD.mono hleD; refine withP_cons rfl rfl ?_; rintro _ rfl; refine withP_cons rfl rfl ?_; rintro _ rfl; refine withP_nil rfl ?_; refine XO.guardT rfl rfl (decide_eq_false h5) rfl ?_; refine XO.lenS (ts := #[]) rfl Try.underlying25 rfl ?_; refine XO.nil ?_; exact stepQN_ok rfl trivial (rfl)
         refine stepsH_cons rfl ?_ ?_
         ·intro X ext HD hleD _
          replace hJ := hJ.mono hleD; replace hs := hs.mono hleD; replace hks := hks.mono hleD; replace hj := hj.mono hleD; replace hB := hB.mono hleD; replace hO := hO.mono hleD; replace hP := hP.mono hleD; replace hx := hx.mono hleD; replace hpD := hpD.mono hleD; replace hdD := hdD.mono hleD; refine withP_cons rfl rfl ?_; rintro _ rfl; refine withP_nil rfl ?_; refine XO.guardT rfl rfl (decide_eq_false h5) rfl ?_; refine XO.loadO 4 rfl rfl ty_25 rfl rfl rfl ?_; refine XO.nil ?_; exact stepQN_ok rfl trivial (rfl)
         refine stepsH_cons rfl ?_ ?_
         ·intro X ext HD hleD _
          replace hJ := hJ.mono hleD; replace hs := hs.mono hleD; replace hks := hks.mono hleD; replace hj := hj.mono hleD; replace hB := hB.mono hleD; replace hO := hO.mono hleD; replace hP := hP.mono hleD; replace hx := hx.mono hleD; replace hpD := hpD.mono hleD; replace hdD := hdD.mono hleD; refine withP_cons rfl rfl ?_; rintro _ rfl; refine withP_cons rfl rfl ?_; rintro _ rfl; refine withP_nil rfl ?_; refine XO.guardT rfl rfl (decide_eq_false h5) rfl ?_; refine XO.lenS (ts := #[]) rfl Try.underlying25 rfl ?_; refine XO.nil ?_; exact stepQN_ok rfl trivial (rfl)
         refine stepsH_cons rfl ?_ ?_
         ·intro X ext HD hleD _
          replace hJ := hJ.mono hleD; replace hs := hs.mono hleD; replace hks := hks.mono hleD; replace hj := hj.mono hleD; replace hB := hB.mono hleD; replace hO := hO.mono hleD; replace hP := hP.mono hleD; replace hx := hx.mono hleD; replace hpD := hpD.mono hleD; replace hdD := hdD.mono hleD; refine withP_cons rfl rfl ?_; rintro _ rfl; refine withP_cons rfl rfl ?_; rintro _ rfl; refine withP_cons rfl rfl ?_; rintro _ rfl; refine withP_cons rfl rfl ?_; rintro _ rfl; refine withP_nil rfl ?_; refine XO.guardT rfl rfl (decide_eq_false h5) rfl ?_; refine XO.slice (lo' := 0) (hi' := (l.length : Int)) (m' := (l.length : Int)) rfl (by assumption) ev?_none (ev?_some rfl) (ev?_some rfl) (by simp) (by omega) (by omega) (by omega) (by omega) (by omega) Try.underlying25 ty_26 rfl (fun as64 ls64 hls64 hss64 => ?_)
          obtain rfl : ls64 = l := by first | (rw [hls64]; simp only [Int.toNat_natCast, Nat.add_sub_cancel_left]; done) | (rw [hls64]; simp; done) | (rw [hls64]; simp; rw [List.take_of_length_le (by simp)]; done) | (rw [hls64]; simp only [Int.toNat_natCast]; exact List.take_of_length_le (by rw [List.length_drop]; omega))
          refine XO.nil ?_
          exact stepQN_ok rfl trivial (⟨_, _, rfl, hss64, by simp⟩)
         refine stepsH_cons rfl ?_ ?_
         ·intro X ext HD hleD _
          replace hJ := hJ.mono hleD; replace hs := hs.mono hleD; replace hks := hks.mono hleD; replace hj := hj.mono hleD; replace hB := hB.mono hleD; replace hO := hO.mono hleD; replace hP := hP.mono hleD; replace hx := hx.mono hleD; replace hpD := hpD.mono hleD; replace hdD := hdD.mono hleD; refine withP_cons rfl rfl ?_; rintro _ rfl; refine withP_nil rfl ?_; refine XO.guardT rfl rfl (decide_eq_false h5) rfl ?_; refine XO.move rfl rfl ?_; refine XO.nil ?_; exact stepQN_ok rfl trivial (rfl)
         refine stepsH_cons rfl ?_ ?_
         ·intro X ext HD hleD _
          replace hJ := hJ.mono hleD; replace hs := hs.mono hleD; replace hks := hks.mono hleD; replace hj := hj.mono hleD; replace hB := hB.mono hleD; replace hO := hO.mono hleD; replace hP := hP.mono hleD; replace hx := hx.mono hleD; replace hpD := hpD.mono hleD; replace hdD := hdD.mono hleD; refine withP_cons rfl rfl ?_; rintro _ rfl; refine withP_cons rfl rfl ?_; rintro _ rfl; refine withP_nil rfl ?_; refine XO.guardT rfl rfl (decide_eq_false h5) rfl ?_; refine XO.buildSlice rfl Try.underlying25 ty_26 ze_26 rfl rfl rfl (fun b66 => ?_); refine XO.publish 0 rfl rfl rfl (fun HP66 oP66 hleP66 hbP66 hoP66 => ?_); replace hJ := hJ.mono hleP66; replace hs := hs.mono hleP66; replace hks := hks.mono hleP66; replace hj := hj.mono hleP66; replace hB := hB.mono hleP66; replace hO := hO.mono hleP66; replace hP := hP.mono hleP66; replace hx := hx.mono hleP66; replace hpD := hpD.mono hleP66; replace hdD := hdD.mono hleP66
          have hsl66 := SlR.lit (ρ := ilR) (l := [x]) hbP66 hoP66 (RowsR.one1 ⟨_, _, rfl, hx⟩)
          refine XO.nil ?_
          exact stepQN_ok rfl trivial (⟨_, rfl, hsl66⟩)
         refine stepsH_cons rfl ?_ ?_
         ·intro X ext HD hleD _
          replace hJ := hJ.mono hleD; replace hs := hs.mono hleD; replace hks := hks.mono hleD; replace hj := hj.mono hleD; replace hB := hB.mono hleD; replace hO := hO.mono hleD; replace hP := hP.mono hleD; replace hx := hx.mono hleD; replace hpD := hpD.mono hleD; replace hdD := hdD.mono hleD; refine withP_cons rfl rfl ?_; rintro _ ⟨a64, c64, rfl, hsl64, hcap64⟩; refine withP_cons rfl rfl ?_; rintro _ ⟨bs66, rfl, hsl66⟩; refine withP_cons rfl rfl ?_; rintro _ rfl; refine withP_nil rfl ?_; refine XO.guardT rfl rfl (decide_eq_false h5) rfl ?_; refine XO.appendP rfl hsl64 rfl rfl hsl66 rfl (by exact hcap64) Try.underlying25 ty_26 ze_26 rfl by_26 (by simp; omega) rfl (fun HA67 aA67 cA67 hleA67 hsA67 => ?_); replace hJ := hJ.mono hleA67; replace hs := hs.mono hleA67; replace hks := hks.mono hleA67; replace hj := hj.mono hleA67; replace hB := hB.mono hleA67; replace hO := hO.mono hleA67; replace hP := hP.mono hleA67; replace hx := hx.mono hleA67; replace hpD := hpD.mono hleA67; replace hdD := hdD.mono hleA67; replace hsl64 := hsl64.mono hleA67; replace hsl66 := hsl66.mono hleA67; refine XO.nil ?_
          exact stepQN_ok rfl trivial (⟨_, _, rfl, hsA67⟩)
         refine stepsH_cons rfl ?_ ?_
         ·intro X ext HD hleD _
          replace hJ := hJ.mono hleD; replace hs := hs.mono hleD; replace hks := hks.mono hleD; replace hj := hj.mono hleD; replace hB := hB.mono hleD; replace hO := hO.mono hleD; replace hP := hP.mono hleD; replace hx := hx.mono hleD; replace hpD := hpD.mono hleD; replace hdD := hdD.mono hleD; refine withP_cons rfl rfl ?_; rintro _ rfl; refine withP_nil rfl ?_; refine XO.guardT rfl rfl (decide_eq_false h5) rfl ?_; refine XO.loadO 3 rfl rfl ty_3 rfl rfl rfl ?_; refine XO.nil ?_; exact stepQN_ok rfl trivial (rfl)
         refine stepsH_cons rfl ?_ ?_
         ·intro X ext HD hleD _
          replace hJ := hJ.mono hleD; replace hs := hs.mono hleD; replace hks := hks.mono hleD; replace hj := hj.mono hleD; replace hB := hB.mono hleD; replace hO := hO.mono hleD; replace hP := hP.mono hleD; replace hx := hx.mono hleD; replace hpD := hpD.mono hleD; replace hdD := hdD.mono hleD; refine withP_cons rfl rfl ?_; rintro _ rfl; refine withP_nil rfl ?_; refine XO.guardT rfl rfl (decide_eq_false h5) rfl ?_; refine XO.fieldAddr rfl fa_34_2 rfl ?_; refine XO.nil ?_; exact stepQN_ok rfl trivial (rfl)
         refine stepsH_cons rfl ?_ ?_
         ·intro X ext HD hleD _
          replace hJ := hJ.mono hleD; replace hs := hs.mono hleD; replace hks := hks.mono hleD; replace hj := hj.mono hleD; replace hB := hB.mono hleD; replace hO := hO.mono hleD; replace hP := hP.mono hleD; replace hx := hx.mono hleD; replace hpD := hpD.mono hleD; replace hdD := hdD.mono hleD; refine withP_cons rfl rfl ?_; rintro _ rfl; refine withP_cons rfl rfl ?_; rintro _ rfl; refine withP_nil rfl ?_; refine XO.guardT rfl rfl (decide_eq_false h5) rfl ?_; refine XO.loadO 2 rfl rfl ty_32 rfl rfl rfl ?_; refine XO.nil ?_; exact stepQN_ok rfl trivial (rfl)
         refine stepsH_cons rfl ?_ ?_
         ·intro X ext HD hleD _
          replace hJ := hJ.mono hleD; replace hs := hs.mono hleD; replace hks := hks.mono hleD; replace hj := hj.mono hleD; replace hB := hB.mono hleD; replace hO := hO.mono hleD; replace hP := hP.mono hleD; replace hx := hx.mono hleD; replace hpD := hpD.mono hleD; replace hdD := hdD.mono hleD; refine withP_cons rfl rfl ?_; rintro _ rfl; refine withP_nil rfl ?_; refine XO.guardT rfl rfl (decide_eq_false h5) rfl ?_; refine XO.loadO 0 rfl rfl ty_3 rfl rfl rfl ?_; refine XO.nil ?_; exact stepQN_ok rfl trivial (rfl)
         refine stepsH_cons rfl ?_ ?_
         ·intro X ext HD hleD _
          replace hJ := hJ.mono hleD; replace hs := hs.mono hleD; replace hks := hks.mono hleD; replace hj := hj.mono hleD; replace hB := hB.mono hleD; replace hO := hO.mono hleD; replace hP := hP.mono hleD; replace hx := hx.mono hleD; replace hpD := hpD.mono hleD; replace hdD := hdD.mono hleD; refine withP_cons rfl rfl ?_; rintro _ rfl; refine withP_cons rfl rfl ?_; rintro _ rfl; refine withP_cons rfl rfl ?_; rintro _ rfl; refine withP_nil rfl ?_; refine XO.guardT rfl rfl (decide_eq_false h5) rfl ?_; refine XO.indexE rfl rfl Try.underlying32 ty_34 (by omega) (by omega) rfl ?_; refine XO.nil ?_; exact stepQN_ok rfl trivial (rfl)
         refine stepsH_cons rfl ?_ ?_
         ·intro X ext HD hleD _
          replace hJ := hJ.mono hleD; replace hs := hs.mono hleD; replace hks := hks.mono hleD; replace hj := hj.mono hleD; replace hB := hB.mono hleD; replace hO := hO.mono hleD; replace hP := hP.mono hleD; replace hx := hx.mono hleD; replace hpD := hpD.mono hleD; replace hdD := hdD.mono hleD; refine withP_cons rfl rfl ?_; rintro _ rfl; refine withP_cons rfl rfl ?_; rintro _ rfl; refine withP_nil rfl ?_; refine XO.guardT rfl rfl (decide_eq_false h5) rfl ?_; refine XO.loadH rfl (by assumption) ty_34 rfl rfl rfl ?_; refine XO.nil ?_; exact stepQN_ok rfl trivial (rfl)
         exact stepsH_end rfl
        case tail11 =>
         intro HD hleD _
         replace hJ := hJ.mono hleD; replace hs := hs.mono hleD; replace hks := hks.mono hleD; replace hj := hj.mono hleD; replace hB := hB.mono hleD; replace hO := hO.mono hleD; replace hP := hP.mono hleD; replace hx := hx.mono hleD; replace hpD := hpD.mono hleD; replace hdD := hdD.mono hleD; refine withP_cons rfl rfl ?_; rintro _ rfl; refine withP_cons rfl rfl ?_; rintro _ rfl; refine withP_cons rfl rfl ?_; rintro _ rfl; refine withP_cons rfl rfl ?_; rintro _ rfl; refine withP_cons rfl rfl ?_; rintro _ rfl; refine withP_cons rfl rfl ?_; rintro _ rfl; refine withP_cons rfl rfl ?_; rintro _ rfl; refine withP_cons rfl rfl ?_; rintro _ rfl; refine withP_cons rfl rfl ?_; rintro _ rfl; refine withP_cons rfl rfl ?_; rintro _ rfl; refine withP_cons rfl rfl ?_; rintro _ rfl; refine withP_cons rfl rfl ?_; rintro _ rfl; refine withP_cons rfl rfl ?_; rintro _ ⟨a64, c64, rfl, hsl64, hcap64⟩; refine withP_cons rfl rfl ?_; rintro _ rfl; refine withP_cons rfl rfl ?_; rintro _ ⟨bs66, rfl, hsl66⟩; refine withP_cons rfl rfl ?_; rintro _ ⟨a67, c67, rfl, hsl67⟩; refine withP_cons rfl rfl ?_; rintro _ rfl; refine withP_cons rfl rfl ?_; rintro _ rfl; refine withP_cons rfl rfl ?_; rintro _ rfl; refine withP_cons rfl rfl ?_; rintro _ rfl; refine withP_cons rfl rfl ?_; rintro _ rfl; refine withP_cons rfl rfl ?_; rintro _ rfl; refine withP_nil rfl ?_; refine withEnts_nil ?_; refine XO.guardT rfl rfl (decide_eq_false h5) rfl ?_; refine XO.callV rfl (ih d (by omega) (l ++ [x]) _ _ eD yD kD _ _ _ (by simp; omega) (fun z hz => (List.mem_append.1 hz).elim (hw z) (fun h => by simp only [List.mem_singleton] at h; subst h; exact hxl)) hJ hsl67 hdD) rfl ?_; refine XO.guardT rfl rfl (decide_eq_false h5) rfl ?_; refine XO.notB rfl rfl ?_; refine XO.pickF rfl (decide_eq_false h5) rfl rfl ?_; refine XO.nil ?_; refine XC.seq2 ?_; refine XC.condB rfl (fun c2_15 => ?_) (fun c2_15 => ?_)
         ·refine XC.seq ?_; refine XC.region ?_; refine XO.storeO 1 rfl rfl rfl rfl ty_4 rfl rfl rfl rfl rfl ?_; refine XO.nil ?_; refine XC.seq2 ?_; refine XC.ret ?_; refine seqX_ret ?_; refine blockR ?_; refine ⟨rfl, ((b10, .cells 3 [.int .i64 (pre.length : Nat)]) :: (b8, .cells 4 [.bool false]) :: (b7, .cells 34 [.int .i64 e, .int .i64 y, .slice _ ks.length cd]) :: (b6, .cells 3 [.int .i64 lim]) :: (b5, .cells 25 [.slice a l.length c]) :: (b4, .cells 52 [.pointer (some ⟨bj, 0, none⟩)]) :: rest), (by repeat (first | exact List.Sublist.refl _ | apply List.Sublist.cons)), ?_⟩
          first | exact ⟨rfl, pre.length, rfl, by rw [hle0, hxs]; exact zip_short (by omega)⟩ | exact ⟨rfl, pre.length, rfl, by rw [hle0, hxs]; exact zip_no hxD (by simp_all)⟩
         ·refine XC.skip ?_; refine XC.seq2 ?_; refine XC.region ?_; refine XO.loadO 0 rfl rfl ty_3 rfl rfl rfl ?_; refine XO.add rfl rfl (wrap_i64 (by omega) (by omega)) rfl ?_; refine XO.storeO 0 rfl rfl rfl rfl ty_3 rfl rfl rfl rfl rfl ?_; refine XO.nil ?_; refine blockN ?_; refine ⟨rfl, ((b10, .cells 3 [.int .i64 (((pre.length : Nat) : Int) + 1)]) :: (b8, .cells 4 [.bool false]) :: (b7, .cells 34 [.int .i64 e, .int .i64 y, .slice _ ks.length cd]) :: (b6, .cells 3 [.int .i64 lim]) :: (b5, .cells 25 [.slice a l.length c]) :: (b4, .cells 52 [.pointer (some ⟨bj, 0, none⟩)]) :: rest), (by repeat (first | exact List.Sublist.refl _ | apply List.Sublist.cons)), ?_⟩
          exact ⟨_, rfl, by rw [List.length_append]; rfl, by simp; omega, by rw [List.length_append, List.length_cons, List.length_nil, zip_snoc hxD, hzp]; simp_all⟩
      ·rintro Hl ownL hleL ⟨rfl, hpk, hzp⟩; replace hJ := hJ.mono hleL; replace hs := hs.mono hleL; replace hks := hks.mono hleL; replace hj := hj.mono hleL; replace hB := hB.mono hleL; replace hO := hO.mono hleL; replace hP := hP.mono hleL; refine blockN ?_; refine XC.seq2 ?_; refine XC.seq ?_; refine XC.region ?_; refine XO.loadO 0 rfl rfl ty_3 rfl rfl rfl ?_; refine XO.fieldAddr rfl fa_34_2 rfl ?_; refine XO.loadO 2 rfl rfl ty_32 rfl rfl rfl ?_; refine XO.lenS (ts := #[]) rfl Try.underlying32 rfl ?_; refine XO.eql rfl rfl rfl ?_; refine XO.storeO 1 rfl rfl rfl rfl ty_4 rfl rfl rfl rfl rfl ?_; refine XO.nil ?_; refine XC.seq2 ?_; refine XC.ret ?_; refine ⟨rfl, _, [], (resC_cell 1 rfl rfl ty_4 rfl rfl resC_nil), (by repeat (first | exact List.Sublist.refl _ | apply List.Sublist.cons_cons | apply List.Sublist.cons)), RetR.mk ?_⟩
       exact congrArg Value.bool (by rw [ref_s (by omega) ⟨he, hy0⟩, hle0]; rw [zip_full hzp, decide_eq_decide]; omega)
      ·rintro _ Hl ownL hleL ⟨rfl, q, rfl, hfalse⟩; replace hJ := hJ.mono hleL; replace hs := hs.mono hleL; replace hks := hks.mono hleL; replace hj := hj.mono hleL; replace hB := hB.mono hleL; replace hO := hO.mono hleL; replace hP := hP.mono hleL; refine XC.ret ?_; refine blockR ?_; refine seqX_ret ?_; refine ⟨rfl, _, [], (resC_cell 1 rfl rfl ty_4 rfl rfl resC_nil), (by repeat (first | exact List.Sublist.refl _ | apply List.Sublist.cons_cons | apply List.Sublist.cons)), RetR.mk ?_⟩
       exact congrArg Value.bool (by rw [ref_s (by omega) ⟨he, hy0⟩]; exact hfalse.symm)

end Go.Proofs

/- Repairs: what the reference's functions are told, in plain Lean. -/
set_option autoImplicit false
set_option linter.unusedVariables false
set_option linter.unusedSimpArgs false
namespace Go.Proofs
open Go.XL
/-- what is known of a question throughout -/
structure RefOk (w : Wi) (old : Ls) (ab : List Int) (n : Nat) : Prop where
 S : w.S = (n : Nat)
 n1 : n ≤ 256
 B : w.B.length ≤ 12
 O : old.length = w.B.length
 wo : ∀ x ∈ old, x.length ≤ 1000
 J : 0 ≤ w.J ∧ w.J ≤ 8
 rows : ∀ r ∈ w.B, (r.length : Int) = w.J
 p : ((prs w.J ab).length : Int) = w.J - ab.length
 a : ab.length ≤ 1000
theorem lst_rows {w : Wi} {pr : List Int} {e n : Nat} {x : List Int} (hS : w.S = (n : Nat)) (hx : x ∈ lstE w pr e) : x.length = n := by
 unfold lstE at hx; rw [hS] at hx; exact comb_len hx
theorem lst_size {w : Wi} {pr : List Int} {e : Nat} (h : pr.length ≤ 8) : (lstE w pr e).length ≤ 256 := by
 have h1 := comb_size (bad := badR (w.B.getD e [])) w.S.toNat pr
 have h2 : 2 ^ pr.length ≤ 2 ^ 8 := Nat.pow_le_pow_right (by decide) h
 unfold lstE; omega
section
variable {w : Wi} {old : Ls} {pr : List Int} {lim : Int} {d : Nat} {l : Ls}
theorem best_no (h : whyW w old pr l lim ≠ 0) : bestF w old pr d l lim = none := by cases d <;> exact if_neg h
theorem best_0 (h : whyW w old pr l lim = 0) : bestF w old pr 0 l lim = some l := if_pos h
def bstep (w : Wi) (old : Ls) (pr : List Int) (d : Nat) (l : Ls) (acc : Option Ls × Int) (x : List Int) : Option Ls × Int := match bestF w old pr d (l ++ [x]) acc.2 with
  | some p => (some p, ((chg old p : Nat) : Int))
  | none => acc
theorem best_s (h : whyW w old pr l lim = 0) : bestF w old pr (d + 1) l lim = ((lstE w pr l.length).foldl (bstep w old pr d l) (none, lim)).1 := if_pos h
theorem bstep_y {acc : Option Ls × Int} {x : List Int} {p : Ls} (h : bestF w old pr d (l ++ [x]) acc.2 = some p) : bstep w old pr d l acc x = (some p, ((chg old p : Nat) : Int)) := by unfold bstep; rw [h]
theorem bstep_n {acc : Option Ls × Int} {x : List Int} (h : bestF w old pr d (l ++ [x]) acc.2 = none) : bstep w old pr d l acc x = acc := by unfold bstep; rw [h]
end
theorem fold_snoc {α β : Type} {f : β → α → β} {l : List α} {k : Nat} {x : α} {b : β} (h : l[k]? = some x) : (l.take (k + 1)).foldl f b = f ((l.take k).foldl f b) x := by
 rw [take_snoc h, List.foldl_append]; rfl
/-- what best returns is complete -/
theorem best_len {w : Wi} {old : Ls} {pr : List Int} {n : Nat} (hS : w.S = (n : Nat)) : ∀ (d : Nat) (l : Ls) (lim : Int) (p : Ls), bestF w old pr d l lim = some p → p.length = l.length + d ∧ ∀ x ∈ p, x ∈ l ∨ x.length = n
  | 0, l, lim, p, h => by
    by_cases h0 : whyW w old pr l lim = 0
    · rw [best_0 h0] at h; cases h; exact ⟨rfl, fun x hx => Or.inl hx⟩
    · rw [best_no h0] at h; cases h
  | d + 1, l, lim, p, h => by
    by_cases h0 : whyW w old pr l lim = 0
    · rw [best_s h0] at h
      have key : ∀ (m : Ls) (acc : Option Ls × Int), (∀ x ∈ m, x.length = n) → (∀ q, acc.1 = some q → q.length = l.length + (d + 1) ∧ ∀ x ∈ q, x ∈ l ∨ x.length = n) → ∀ q, (m.foldl (bstep w old pr d l) acc).1 = some q → q.length = l.length + (d + 1) ∧ ∀ x ∈ q, x ∈ l ∨ x.length = n := by
        intro m
        induction m with
        | nil => intro acc _ ha q hq; exact ha q hq
        | cons y r ih =>
          intro acc hm ha q hq
          refine ih (bstep w old pr d l acc y) (fun x hx => hm x (by simp [hx])) ?_ q hq
          intro q2 hq2
          cases hb : bestF w old pr d (l ++ [y]) acc.2 with
          | none => rw [bstep_n hb] at hq2; exact ha q2 hq2
          | some p2 =>
            rw [bstep_y hb] at hq2; cases hq2
            obtain ⟨h1, h2⟩ := best_len hS d _ _ _ hb
            refine ⟨by rw [h1, List.length_append]; simp; omega, fun x hx => ?_⟩
            rcases h2 x hx with h3 | h3
            · rcases List.mem_append.1 h3 with h4 | h4
              · exact Or.inl h4
              · simp only [List.mem_singleton] at h4; subst h4; exact Or.inr (hm x (by simp))
            · exact Or.inr h3
      exact key _ _ (fun x hx => lst_rows hS hx) (fun q hq => by cases hq) p h
    · rw [best_no h0] at h; cases h
mutual
def sameD : Den → Den → Bool
 | .mk e y l, .mk e' y' l' => e == e' && y == y' && sameDL l l'
def sameDL : List Den → List Den → Bool
 | [], [] => true
 | x :: r, y :: r' => sameD x y && sameDL r r'
 | _, _ => false
end
theorem sameDL_iff_of : ∀ {l l' : List Den}, (∀ x ∈ l, ∀ y, sameD x y = true ↔ x = y) → (sameDL l l' = true ↔ l = l')
  | [], [], _ => by simp [sameDL]
  | [], _ :: _, _ => by simp [sameDL]
  | _ :: _, [], _ => by simp [sameDL]
  | x :: r, y :: r', h => by
    rw [sameDL, Bool.and_eq_true, h x (by simp), sameDL_iff_of (fun z hz => h z (by simp [hz]))]
    simp
theorem sameD_iff : ∀ (v w : Den), sameD v w = true ↔ v = w := by
 intro v
 refine Den.ind (motive := fun v => ∀ w, sameD v w = true ↔ v = w) ?_ v; rintro e y l ih ⟨e', y', l'⟩
 rw [sameD]
 simp only [Bool.and_eq_true, beq_iff_eq, sameDL_iff_of ih, Den.mk.injEq, and_assoc]
theorem sameDL_snoc : ∀ {l l' : List Den} {i : Nat} {x y : Den}, l[i]? = some x → l'[i]? = some y → sameDL (l.take (i + 1)) (l'.take (i + 1)) = (sameDL (l.take i) (l'.take i) && sameD x y)
  | [], _, i, x, y, h, _ => by simp at h
  | _ :: _, [], i, x, y, _, h => by simp at h
  | a :: l, b :: l', 0, x, y, h1, h2 => by simp at h1 h2; subst h1; subst h2; simp [sameDL]
  | a :: l, b :: l', i + 1, x, y, h1, h2 => by
    simp only [List.take_succ_cons, sameDL]
    rw [sameDL_snoc (by simpa using h1) (by simpa using h2), Bool.and_assoc]
theorem sameDL_len : ∀ {l l' : List Den}, sameDL l l' = true → l.length = l'.length
  | [], [], _ => rfl
  | [], _ :: _, h => by simp [sameDL] at h
  | _ :: _, [], h => by simp [sameDL] at h
  | x :: r, y :: r', h => by
    rw [sameDL, Bool.and_eq_true] at h
    simp [sameDL_len h.2]
theorem sameDL_diff {l l' : List Den} {i : Nat} {x y : Den} (hx : l[i]? = some x) (hy : l'[i]? = some y) (h : sameD x y = false) : sameDL l l' = false := by
  cases hb : sameDL l l' with
  | false => rfl
  | true =>
    have := (sameDL_iff_of (fun x _ => sameD_iff x)).1 hb
    subst this
    rw [hx] at hy; cases hy
    rw [(sameD_iff x x).2 rfl] at h; cases h
theorem sameD_mk {e y e' y' : Int} {l l' : List Den} : sameD (.mk e y l) (.mk e' y' l') = true ↔ (e = e' ∧ y = y') ∧ sameDL l l' = true := by
 rw [sameD]; simp only [Bool.and_eq_true, beq_iff_eq]
/-- how long the lists of a denial are -/
inductive FitD : Den → Prop
 | mk (e y : Int) (l : List Den) (hl : l.length < 2 ^ 63) (h : ∀ x ∈ l, FitD x) : FitD (.mk e y l)
theorem FitD.of {e y : Int} {l : List Den} (h : FitD (.mk e y l)) : l.length < 9223372036854775808 ∧ ∀ x ∈ l, FitD x := by
 cases h with
 | mk _ _ _ h3 h4 => exact ⟨h3, h4⟩
theorem bf {b : Bool} (h : ¬ b = true) : b = false := by simpa using h
theorem zip_step {α β : Type} {f : α → β → Bool} {p : List α} {ks : List β} {k : Nat} {x : α} {y : β} (hx : p[k]? = some x) (hy : ks[k]? = some y) : zipB f (p.take (k + 1)) (ks.take (k + 1)) = (zipB f (p.take k) (ks.take k) && f x y) := by
 have hk : k < p.length := (List.getElem?_eq_some_iff.1 hx).1
 have hl : (p.take k).length = k := by rw [List.length_take]; omega
 have := zip_snoc (f := f) (p := p.take k) (ks := ks) (x := x) (y := y) (by rw [hl]; exact hy)
 rw [hl] at this
 rw [take_snoc hx, this]
theorem zip_diff {α β : Type} {f : α → β → Bool} {p : List α} {ks : List β} {k : Nat} {x : α} {y : β} (hx : p[k]? = some x) (hy : ks[k]? = some y) (h : f x y = false) : zipB f p ks = false := by
 have hk : k < p.length := (List.getElem?_eq_some_iff.1 hx).1
 have e : p = p.take k ++ x :: p.drop (k + 1) := by rw [← drop_cons hx, List.take_append_drop]
 rw [e]
 exact zip_no (by rw [List.length_take, Nat.min_eq_left (by omega)]; exact hy) h
theorem zip_ne {α β : Type} {f : α → β → Bool} {p : List α} {ks : List β} (h : p.length ≠ ks.length) : zipB f p ks = false := by
 cases hz : zipB f p ks with
 | false => rfl
 | true => exact absurd (zip_len hz) h
section
variable {w : Wi} {old : Ls} {pr : List Int} {lim : Int} {l : Ls} {e : Int} {ks : List Den}
theorem leaf_3 {y : Int} (hy : y = 3) (h : ks.length = 0) : leafB w old pr lim l (.mk e y ks) = decide (lim ≤ (chg old l : Nat)) := by
 subst hy; obtain rfl := List.length_eq_zero_iff.1 h; simp [leafB, Den.K, Den.Y, isY]
theorem leaf_1 {y : Int} (hy : y = 1) (h : ks.length = 0) : leafB w old pr lim l (.mk e y ks) = unbalB w pr l := by
 subst hy; obtain rfl := List.length_eq_zero_iff.1 h; simp [leafB, Den.K, Den.Y, isY]
theorem leaf_2 {y : Int} (hy : y = 2) (h : ks.length = 0) : leafB w old pr lim l (.mk e y ks) = apartB w l := by
 subst hy; obtain rfl := List.length_eq_zero_iff.1 h; simp [leafB, Den.K, Den.Y, isY]
theorem ref_d0 {d : Nat} {y : Int} (hd : d = 0) (h : e ≠ -1) : refF w old pr lim d l (.mk e y ks) = false := by subst hd; exact ref_0 h
theorem leaf_0 {y : Int} (h : y ≠ 3 ∧ y ≠ 1 ∧ y ≠ 2) : leafB w old pr lim l (.mk e y ks) = false := by
 simp [leafB, Den.Y, h.1, h.2.1, h.2.2]
end
end Go.Proofs

/- The walks of the functions of repairs: what each of them computes, at any input. -/
set_option autoImplicit false
set_option linter.unusedVariables false
set_option linter.unusedSimpArgs false
namespace Go.Proofs
open Go.XL



set_option maxRecDepth 100000 in
set_option maxHeartbeats 1600000 in
theorem best_all (w : Wi) (old : Ls) (ab : List Int) (n : Nat) (hok : RefOk w old ab n) :
 ∀ (d : Nat) (l : Ls) (lim : Int) (aB aO aA a : Option Addr) (cB cO cA c : Nat) (H : Hp), l.length + d = w.B.length → (∀ x ∈ l, x.length ≤ 1000) → SlR tbR H aB cB w.B → SlR ilR H aO cO old → SlR (intR .i64) H aA cA ab → SlR ilR H a c l →
 FnC Try.prog 30 #[.agg ⟨[.int .i64 w.J, .int .i64 w.S, .int .i64 w.N, .slice aB w.B.length cB]⟩, .slice aO old.length cO, .slice aA ab.length cA, .slice a l.length c, .int .i64 lim] H [] (RetR fun v H2 _ => FindU (bestF w old (prs w.J ab) d l lim) H2 v) := by
 intro d
 refine Nat.strongRecOn d ?_
 clear d
 intro d ih l lim aB aO aA a cB cO cA c H hd hw hB hO hA hs
 have hB12 := hok.B
 have hO0 := hok.O
 have hn := hok.S
 have hn1 := hok.n1
 have hJ8 := hok.J
 have ha1 := hok.a
 have hp := hok.p
 have hprl := prs_len w.J ab
 have hwo : ∀ x ∈ old, x.length < 9223372036854775808 := fun x hx => by have := hok.wo x hx; omega
 have hz : (w.B.length ≤ 4096 ∧ 0 ≤ w.S) ∧ (w.S ≤ 256 ∧ (0 ≤ w.J ∧ w.J ≤ 256)) := by omega
 refine FnC.intro (args := [.agg ⟨[.int .i64 w.J, .int .i64 w.S, .int .i64 w.N, .slice aB w.B.length cB]⟩, .slice aO old.length cO, .slice aA ab.length cA, .slice a l.length c, .int .i64 lim]) Try.func30 rfl rfl Try.ntmps30 rfl rfl rfl fun G rest => ?_
 refine XC.seq ?_; refine XC.region ?_; refine XO.box rfl rfl rfl (fun b5 => ?_); refine XO.assign rfl rfl ?_; refine XO.assign rfl rfl ?_; refine XO.nil ?_; refine XC.seq2 ?_; refine XC.seq ?_; refine XC.seq ?_; refine XC.region ?_; refine XO.move rfl rfl ?_; refine XO.move rfl rfl ?_; refine XO.callV rfl (rchanges_fn _ _ _ _ old l _ hO hs (by omega) hwo hw (by omega)) rfl ?_; refine XO.move rfl rfl ?_; refine XO.geq rfl rfl rfl ?_; refine XO.move rfl rfl ?_; refine XO.guardC rfl rfl rfl rfl (fun g2 => ?_) (fun g2 => ?_)
 ·have g2p := of_decide_eq_false g2
  refine XO.loadO 0 rfl rfl ty_24 rfl rfl rfl ?_; refine XO.guardT rfl rfl (g2) rfl ?_; refine XO.move rfl rfl ?_; refine XO.guardT rfl rfl (g2) rfl ?_; refine XO.move rfl rfl ?_; refine XO.guardT rfl rfl (g2) rfl ?_; refine XO.callV rfl (rloadB_fn w ab l _ _ _ _ _ _ _ hB hA hs hw (by omega) hz hp) rfl ?_; refine XO.pickF rfl (g2) rfl rfl ?_; refine XO.move rfl rfl ?_; refine XO.guardC rfl rfl rfl rfl (fun g4 => ?_) (fun g4 => ?_)
  ·have g4p := g4
   refine XO.loadO 0 rfl rfl ty_24 rfl rfl rfl ?_; refine XO.guardT rfl rfl (g4) rfl ?_; refine XO.move rfl rfl ?_; refine XO.guardT rfl rfl (g4) rfl ?_; refine XO.callV rfl (rpair_fn w l _ _ _ _ _ hB hs hw (by omega)) rfl ?_; refine XO.pickF rfl (g4) rfl rfl ?_; refine XO.nil ?_; refine XC.seq2 ?_; refine XC.condB rfl (fun c0_6 => ?_) (fun c0_6 => ?_)
   ·refine XC.seq ?_; refine XC.region ?_; refine XO.assign rfl rfl ?_; refine XO.assign rfl rfl ?_; refine XO.nil ?_; refine XC.seq2 ?_; refine XC.ret ?_; refine seqX_ret ?_; refine ⟨rfl, _, [], rfl, (by repeat (first | exact List.Sublist.refl _ | apply List.Sublist.cons_cons | apply List.Sublist.cons)), RetR.mk ?_⟩
    first | exact FindU.no (best_no (by rw [why_3 (by omega)]; decide)) | exact FindU.no (best_no (by rw [why_1 (by omega) (by assumption)]; decide)) | exact FindU.no (best_no (by rw [why_2 (by omega) (by assumption) (by assumption)]; decide)) | exact FindU.yes (best_0 hwhy) hs | exact ⟨_, _, by rw [best_s hwhy, hfold]; rfl, by rw [best_s hwhy, hfold]; exact hpo⟩
   ·have hwhy := why_0 (w := w) (old := old) (pr := prs w.J ab) (l := l) (lim := lim) (by omega) (by assumption) (by assumption)
    refine XC.skip ?_; refine XC.seq2 ?_; refine XC.seq ?_; refine XC.seq ?_; refine XC.region ?_; refine XO.move rfl rfl ?_; refine XO.lenS (ts := #[]) rfl Try.underlying25 rfl ?_; refine XO.fieldAddr rfl fa_24_3 rfl ?_; refine XO.loadO 0 rfl rfl ty_22 rfl rfl rfl ?_; refine XO.lenS (ts := #[]) rfl Try.underlying22 rfl ?_; refine XO.eql rfl rfl rfl ?_; refine XO.nil ?_; refine XC.seq2 ?_; refine XC.cond rfl (fun c1_7 => ?_) (fun c1_7 => ?_)
    ·obtain rfl : d = 0 := by omega
     refine XC.seq ?_; refine XC.region ?_; refine XO.move rfl rfl ?_; refine XO.assign rfl rfl ?_; refine XO.assign rfl rfl ?_; refine XO.nil ?_; refine XC.seq2 ?_; refine XC.ret ?_; refine seqX_ret ?_; refine ⟨rfl, _, [], rfl, (by repeat (first | exact List.Sublist.refl _ | apply List.Sublist.cons_cons | apply List.Sublist.cons)), RetR.mk ?_⟩
     first | exact FindU.no (best_no (by rw [why_3 (by omega)]; decide)) | exact FindU.no (best_no (by rw [why_1 (by omega) (by assumption)]; decide)) | exact FindU.no (best_no (by rw [why_2 (by omega) (by assumption) (by assumption)]; decide)) | exact FindU.yes (best_0 hwhy) hs | exact ⟨_, _, by rw [best_s hwhy, hfold]; rfl, by rw [best_s hwhy, hfold]; exact hpo⟩
    ·obtain ⟨d, rfl⟩ : ∃ q, d = q + 1 := ⟨d - 1, by omega⟩
     obtain ⟨r, hr⟩ : ∃ r, w.B[l.length]? = some r := ⟨_, List.getElem?_eq_getElem (by omega)⟩
     have hrl := hok.rows r (List.mem_of_getElem? hr)
     have hsz := lst_size (w := w) (pr := prs w.J ab) (e := l.length) (by omega)
     refine XC.skip ?_; refine XC.seq2 ?_; refine XC.seq ?_; refine XC.region ?_; refine XO.assign rfl rfl ?_; refine XO.nil ?_; refine XC.seq2 ?_; refine XC.seq ?_; refine XC.region ?_; refine XO.assign rfl rfl ?_; refine XO.nil ?_; refine XC.seq2 ?_; refine XC.seq ?_; refine XC.region ?_; refine XO.loadO 0 rfl rfl ty_24 rfl rfl rfl ?_; refine XO.move rfl rfl ?_; refine XO.move rfl rfl ?_; refine XO.lenS (ts := #[]) rfl Try.underlying25 rfl ?_; refine XO.callH rfl (rLists_fn w ab l.length n r hr hrl hn (by omega) (by omega) (by omega) (by omega) (by omega) _ _ _ _ _ hB hA) rfl ?_; rintro _ HM hleM ⟨aM, cM, rfl, hm⟩; replace hB := hB.mono hleM; replace hO := hO.mono hleM; replace hA := hA.mono hleM; replace hs := hs.mono hleM; refine XO.assign rfl rfl ?_; refine XO.nil ?_; refine XC.seq2 ?_; refine XC.seq ?_; refine XC.seq ?_; refine XC.region ?_; refine XO.assign rfl rfl ?_; refine XO.nil ?_; refine XC.seq2 ?_; refine XC.block ?_; refine XC.keep [4, 12, 13, 15, 1, 2, 3, 5, 14] rfl ?_; refine XC.loop (base := [(1, _), (2, _), (3, _), (5, _), (14, _)]) (fun ζ : Nat × (Option Ls) × (Int) × (Option Addr) × (Nat) => [(4, .int .i64 ζ.2.2.1), (12, .bool ζ.2.1.isSome), (13, .slice ζ.2.2.2.1 (ζ.2.1.getD []).length ζ.2.2.2.2), (15, .int .i64 (ζ.1 : Nat))]) (fun ζ Hl own => ζ.1 ≤ (lstE w (prs w.J ab) l.length).length ∧ (b5, .cells 24 [.int .i64 w.J, .int .i64 w.S, .int .i64 w.N, .slice aB w.B.length cB]) :: rest = own ∧ (((lstE w (prs w.J ab) l.length).take (ζ.1)).foldl (bstep w old (prs w.J ab) d l) (none, lim) = (ζ.2.1, ζ.2.2.1)) ∧ (SlR ilR Hl ζ.2.2.2.1 ζ.2.2.2.2 (ζ.2.1.getD []))) (fun ζ => (lstE w (prs w.J ab) l.length).length - ζ.1) (0, none, lim, none, 0) (prov_cons (rfl) (prov_cons (rfl) (prov_cons (rfl) (prov_cons (rfl) (prov_cons (rfl) (prov_cons (rfl) (prov_cons (rfl) (prov_cons (rfl) (prov_cons (rfl) prov_nil))))))))) (by repeat (first | exact List.Sublist.refl _ | apply List.Sublist.cons_cons | apply List.Sublist.cons)) ⟨Nat.zero_le _, rfl, rfl, SlR.nil0 _ _⟩ ?_; rintro ⟨k, o, lm, ap, cp⟩ Hl0 _ hle0 ⟨hkk, rfl, hfold, hpo⟩; replace hB := hB.mono hle0; replace hO := hO.mono hle0; replace hA := hA.mono hle0; replace hs := hs.mono hle0; replace hm := hm.mono hle0
     try dsimp only at hkk hfold hpo ⊢
     refine XC.seq ?_; refine XC.seq ?_; refine XC.region ?_; refine XO.move rfl rfl ?_; refine XO.move rfl rfl ?_; refine XO.lenS (ts := #[]) rfl Try.underlying25 rfl ?_; refine XO.lss rfl rfl rfl ?_; refine XO.nil ?_; refine XC.seq2 ?_; refine XC.cond rfl (fun c2_9 => ?_) (fun c2_9 => ?_)
     ·refine XC.skip ?_; refine XC.seq2 ?_; refine XC.seq ?_; refine XC.block ?_; refine XC.seq ?_
      by_cases hq0 : l = []
      ·skip
       refine XC.keep [1, 2, 3, 4, 5, 12, 13, 14, 15] rfl ?_; obtain ⟨bEM, oEM, rfl⟩ := hm.addr (by omega); obtain ⟨_, xM, hxM, ⟨axM, cxM, rfl, hdM⟩, hpM⟩ := hm.elem (k) (by omega)
       have hxl : xM.length ≤ 1000 := by have := lst_rows hn (List.mem_of_getElem? hxM); omega
       apply XC.drawG (fun _ => True) trivial 18 [eqF _, eqF _, eqF _, slCap ilR [], eqF _, slCap ilR l, eqF _, eqF _, eqF _, eqF _, slF ilR [xM], slG ilR (l ++ [xM]), eqF _, fun v H => FindU (bestF w old (prs w.J ab) d (l ++ [xM]) lm) H v, fun v H => FindU (bestF w old (prs w.J ab) d (l ++ [xM]) lm) H v, slG ilR ((bestF w old (prs w.J ab) d (l ++ [xM]) lm).getD []), eqF _, slG ilR ((bestF w old (prs w.J ab) d (l ++ [xM]) lm).getD [])] follows (by kernel_rfl) (by kernel_rfl) ⟨eqF_mono _, eqF_mono _, eqF_mono _, slCap_mono _ _, eqF_mono _, slCap_mono _ _, eqF_mono _, eqF_mono _, eqF_mono _, eqF_mono _, slF_mono _ _, slG_mono _ _, eqF_mono _, fun _ _ _ hle ⟨a, c, h1, h2⟩ => ⟨a, c, h1, h2.mono hle⟩, fun _ _ _ hle ⟨a, c, h1, h2⟩ => ⟨a, c, h1, h2.mono hle⟩, slG_mono _ _, eqF_mono _, slG_mono _ _, trivial⟩ ?steps10 ?tail10
       case steps10 =>
        refine stepsD_cons rfl ?_ ?_
        ·intro X HD hleD _
         replace hB := hB.mono hleD; replace hO := hO.mono hleD; replace hA := hA.mono hleD; replace hs := hs.mono hleD; replace hm := hm.mono hleD; replace hpo := hpo.mono hleD; replace hpM := hpM.mono hleD; replace hdM := hdM.mono hleD; replace hle0 := hle0.trans hleD; refine withPreds_nil rfl ?_; refine XO.loadO 0 rfl rfl ty_24 rfl rfl rfl ?_; refine XO.nil ?_
         exact stepQ_ok trivial (rfl)
        refine stepsD_cons rfl ?_ ?_
        ·intro X HD hleD _
         replace hB := hB.mono hleD; replace hO := hO.mono hleD; replace hA := hA.mono hleD; replace hs := hs.mono hleD; replace hm := hm.mono hleD; replace hpo := hpo.mono hleD; replace hpM := hpM.mono hleD; replace hdM := hdM.mono hleD; replace hle0 := hle0.trans hleD; refine withPreds_nil rfl ?_; refine XO.move rfl rfl ?_; refine XO.nil ?_
         exact stepQ_ok trivial (rfl)
        refine stepsD_cons rfl ?_ ?_
        ·intro X HD hleD _
         replace hB := hB.mono hleD; replace hO := hO.mono hleD; replace hA := hA.mono hleD; replace hs := hs.mono hleD; replace hm := hm.mono hleD; replace hpo := hpo.mono hleD; replace hpM := hpM.mono hleD; replace hdM := hdM.mono hleD; replace hle0 := hle0.trans hleD; refine withPreds_nil rfl ?_; refine XO.move rfl rfl ?_; refine XO.nil ?_
         exact stepQ_ok trivial (rfl)
        refine stepsD_cons rfl ?_ ?_
        ·intro X HD hleD _
         replace hB := hB.mono hleD; replace hO := hO.mono hleD; replace hA := hA.mono hleD; replace hs := hs.mono hleD; replace hm := hm.mono hleD; replace hpo := hpo.mono hleD; replace hpM := hpM.mono hleD; replace hdM := hdM.mono hleD; replace hle0 := hle0.trans hleD; refine withPreds_nil rfl ?_; refine XO.buildSlice rfl Try.underlying25 ty_26 ze_26 rfl rfl rfl (fun b56 => ?_); refine XO.publish 0 rfl rfl rfl (fun HP56 oP56 hleP56 hbP56 hoP56 => ?_)
         have hsl56 := SlR.lit (ρ := ilR) (l := ([] : Ls)) hbP56 hoP56 rfl
         replace hB := hB.mono hleP56; replace hO := hO.mono hleP56; replace hA := hA.mono hleP56; replace hs := hs.mono hleP56; replace hm := hm.mono hleP56; replace hpo := hpo.mono hleP56; replace hpM := hpM.mono hleP56; replace hdM := hdM.mono hleP56; replace hle0 := hle0.trans hleP56; refine XO.nil ?_
         exact stepQ_ok trivial (⟨_, _, rfl, hsl56, by simp⟩)
        refine stepsD_cons rfl ?_ ?_
        ·intro X HD hleD _
         replace hB := hB.mono hleD; replace hO := hO.mono hleD; replace hA := hA.mono hleD; replace hs := hs.mono hleD; replace hm := hm.mono hleD; replace hpo := hpo.mono hleD; replace hpM := hpM.mono hleD; replace hdM := hdM.mono hleD; replace hle0 := hle0.trans hleD; refine withPreds_nil rfl ?_; refine XO.move rfl rfl ?_; refine XO.nil ?_
         exact stepQ_ok trivial (rfl)
        refine stepsD_cons rfl ?_ ?_
        ·intro X HD hleD _
         replace hB := hB.mono hleD; replace hO := hO.mono hleD; replace hA := hA.mono hleD; replace hs := hs.mono hleD; replace hm := hm.mono hleD; replace hpo := hpo.mono hleD; replace hpM := hpM.mono hleD; replace hdM := hdM.mono hleD; replace hle0 := hle0.trans hleD; refine withPreds_cons rfl rfl ?_; rintro _ ⟨a56, c56, rfl, hsl56, hcap56⟩; refine withPreds_cons rfl rfl ?_; rintro _ rfl; refine withPreds_nil rfl ?_; refine XO.append0 rfl rfl (by rw [hq0]; rfl) hsl56.le Try.underlying25 ty_26 rfl ?_; refine XO.nil ?_
         exact stepQ_ok trivial (⟨_, _, by first | (rw [hq0]; done) | (rw [hq0]; rfl), by rw [hq0]; exact hsl56, by rw [hq0]; exact hcap56⟩)
        refine stepsD_cons rfl ?_ ?_
        ·intro X HD hleD _
         replace hB := hB.mono hleD; replace hO := hO.mono hleD; replace hA := hA.mono hleD; replace hs := hs.mono hleD; replace hm := hm.mono hleD; replace hpo := hpo.mono hleD; replace hpM := hpM.mono hleD; replace hdM := hdM.mono hleD; replace hle0 := hle0.trans hleD; refine withPreds_nil rfl ?_; refine XO.move rfl rfl ?_; refine XO.nil ?_
         exact stepQ_ok trivial (rfl)
        refine stepsD_cons rfl ?_ ?_
        ·intro X HD hleD _
         replace hB := hB.mono hleD; replace hO := hO.mono hleD; replace hA := hA.mono hleD; replace hs := hs.mono hleD; replace hm := hm.mono hleD; replace hpo := hpo.mono hleD; replace hpM := hpM.mono hleD; replace hdM := hdM.mono hleD; replace hle0 := hle0.trans hleD; refine withPreds_nil rfl ?_; refine XO.move rfl rfl ?_; refine XO.nil ?_
         exact stepQ_ok trivial (rfl)
        refine stepsD_cons rfl ?_ ?_
        ·intro X HD hleD _
         replace hB := hB.mono hleD; replace hO := hO.mono hleD; replace hA := hA.mono hleD; replace hs := hs.mono hleD; replace hm := hm.mono hleD; replace hpo := hpo.mono hleD; replace hpM := hpM.mono hleD; replace hdM := hdM.mono hleD; replace hle0 := hle0.trans hleD; refine withPreds_cons rfl rfl ?_; rintro _ rfl; refine withPreds_cons rfl rfl ?_; rintro _ rfl; refine withPreds_nil rfl ?_; refine XO.indexE rfl rfl Try.underlying25 ty_26 (by omega) (by omega) rfl ?_; refine XO.nil ?_
         exact stepQ_ok trivial (rfl)
        refine stepsD_cons rfl ?_ ?_
        ·intro X HD hleD _
         replace hB := hB.mono hleD; replace hO := hO.mono hleD; replace hA := hA.mono hleD; replace hs := hs.mono hleD; replace hm := hm.mono hleD; replace hpo := hpo.mono hleD; replace hpM := hpM.mono hleD; replace hdM := hdM.mono hleD; replace hle0 := hle0.trans hleD; refine withPreds_cons rfl rfl ?_; rintro _ rfl; refine withPreds_nil rfl ?_; refine XO.loadH rfl (by assumption) ty_26 rfl rfl rfl ?_; refine XO.nil ?_
         exact stepQ_ok trivial (rfl)
        refine stepsD_cons rfl ?_ ?_
        ·intro X HD hleD _
         replace hB := hB.mono hleD; replace hO := hO.mono hleD; replace hA := hA.mono hleD; replace hs := hs.mono hleD; replace hm := hm.mono hleD; replace hpo := hpo.mono hleD; replace hpM := hpM.mono hleD; replace hdM := hdM.mono hleD; replace hle0 := hle0.trans hleD; refine withPreds_cons rfl rfl ?_; rintro _ rfl; refine withPreds_nil rfl ?_; refine XO.buildSlice rfl Try.underlying25 ty_26 ze_26 rfl rfl rfl (fun b63 => ?_); refine XO.publish 0 rfl rfl rfl (fun HP63 oP63 hleP63 hbP63 hoP63 => ?_); replace hB := hB.mono hleP63; replace hO := hO.mono hleP63; replace hA := hA.mono hleP63; replace hs := hs.mono hleP63; replace hm := hm.mono hleP63; replace hpo := hpo.mono hleP63; replace hpM := hpM.mono hleP63; replace hdM := hdM.mono hleP63; replace hle0 := hle0.trans hleP63
         have hsl63 := SlR.lit (ρ := ilR) (l := [xM]) hbP63 hoP63 (RowsR.one1 ⟨_, _, rfl, hdM⟩)
         refine XO.nil ?_
         exact stepQ_ok trivial (⟨_, rfl, hsl63⟩)
        refine stepsD_cons rfl ?_ ?_
        ·intro X HD hleD _
         replace hB := hB.mono hleD; replace hO := hO.mono hleD; replace hA := hA.mono hleD; replace hs := hs.mono hleD; replace hm := hm.mono hleD; replace hpo := hpo.mono hleD; replace hpM := hpM.mono hleD; replace hdM := hdM.mono hleD; replace hle0 := hle0.trans hleD; refine withPreds_cons rfl rfl ?_; rintro _ ⟨a58, c58, rfl, hsl58, hcap58⟩; refine withPreds_cons rfl rfl ?_; rintro _ ⟨bs63, rfl, hsl63⟩; refine withPreds_nil rfl ?_; refine XO.appendP rfl hsl58 rfl rfl hsl63 rfl (by exact hcap58) Try.underlying25 ty_26 ze_26 rfl by_26 (by simp; omega) rfl (fun HA64 aA64 cA64 hleA64 hsA64 => ?_); replace hB := hB.mono hleA64; replace hO := hO.mono hleA64; replace hA := hA.mono hleA64; replace hs := hs.mono hleA64; replace hm := hm.mono hleA64; replace hpo := hpo.mono hleA64; replace hpM := hpM.mono hleA64; replace hdM := hdM.mono hleA64; replace hsl58 := hsl58.mono hleA64; replace hsl63 := hsl63.mono hleA64; replace hle0 := hle0.trans hleA64; refine XO.nil ?_
         exact stepQ_ok trivial (⟨_, _, rfl, hsA64⟩)
        refine stepsD_cons rfl ?_ ?_
        ·intro X HD hleD _
         replace hB := hB.mono hleD; replace hO := hO.mono hleD; replace hA := hA.mono hleD; replace hs := hs.mono hleD; replace hm := hm.mono hleD; replace hpo := hpo.mono hleD; replace hpM := hpM.mono hleD; replace hdM := hdM.mono hleD; replace hle0 := hle0.trans hleD; refine withPreds_nil rfl ?_; refine XO.move rfl rfl ?_; refine XO.nil ?_
         exact stepQ_ok trivial (rfl)
        refine stepsD_cons rfl ?_ ?_
        ·intro X HD hleD _
         replace hB := hB.mono hleD; replace hO := hO.mono hleD; replace hA := hA.mono hleD; replace hs := hs.mono hleD; replace hm := hm.mono hleD; replace hpo := hpo.mono hleD; replace hpM := hpM.mono hleD; replace hdM := hdM.mono hleD; replace hle0 := hle0.trans hleD; refine withPreds_cons rfl rfl ?_; rintro _ rfl; refine withPreds_cons rfl rfl ?_; rintro _ rfl; refine withPreds_cons rfl rfl ?_; rintro _ rfl; refine withPreds_cons rfl rfl ?_; rintro _ ⟨a64, c64, rfl, hsl64⟩; refine withPreds_cons rfl rfl ?_; rintro _ rfl; refine withPreds_nil rfl ?_
         have hcall := ih d (by omega) (l ++ [xM]) lm _ _ _ _ _ _ _ _ _ (by simp; omega) (fun z hz => (List.mem_append.1 hz).elim (hw z) (fun h => by simp only [List.mem_singleton] at h; subst h; exact hxl)) hB hO hA hsl64
         refine XO.callH rfl hcall rfl ?_; rintro _ HF hleF ⟨aF, cF, rfl, hF⟩; replace hB := hB.mono hleF; replace hO := hO.mono hleF; replace hA := hA.mono hleF; replace hs := hs.mono hleF; replace hm := hm.mono hleF; replace hpo := hpo.mono hleF; replace hpM := hpM.mono hleF; replace hdM := hdM.mono hleF; replace hsl64 := hsl64.mono hleF; replace hle0 := hle0.trans hleF; refine XO.nil ?_
         exact stepQ_ok trivial (⟨_, _, rfl, hF⟩)
        refine stepsD_cons rfl ?_ ?_
        ·intro X HD hleD _
         replace hB := hB.mono hleD; replace hO := hO.mono hleD; replace hA := hA.mono hleD; replace hs := hs.mono hleD; replace hm := hm.mono hleD; replace hpo := hpo.mono hleD; replace hpM := hpM.mono hleD; replace hdM := hdM.mono hleD; replace hle0 := hle0.trans hleD; refine withPreds_cons rfl rfl ?_; rintro _ ⟨aF, cF, rfl, hF⟩; refine withPreds_nil rfl ?_; refine XO.move rfl rfl ?_; refine XO.nil ?_
         exact stepQ_ok trivial (⟨_, _, rfl, hF⟩)
        refine stepsD_cons rfl ?_ ?_
        ·intro X HD hleD _
         replace hB := hB.mono hleD; replace hO := hO.mono hleD; replace hA := hA.mono hleD; replace hs := hs.mono hleD; replace hm := hm.mono hleD; replace hpo := hpo.mono hleD; replace hpM := hpM.mono hleD; replace hdM := hdM.mono hleD; replace hle0 := hle0.trans hleD; refine withPreds_cons rfl rfl ?_; rintro _ ⟨aG, cG, rfl, hG⟩; refine withPreds_nil rfl ?_; refine XO.extract rfl rfl rfl ?_; refine XO.nil ?_
         exact stepQ_ok trivial (⟨_, _, rfl, hG⟩)
        refine stepsD_cons rfl ?_ ?_
        ·intro X HD hleD _
         replace hB := hB.mono hleD; replace hO := hO.mono hleD; replace hA := hA.mono hleD; replace hs := hs.mono hleD; replace hm := hm.mono hleD; replace hpo := hpo.mono hleD; replace hpM := hpM.mono hleD; replace hdM := hdM.mono hleD; replace hle0 := hle0.trans hleD; refine withPreds_cons rfl rfl ?_; rintro _ ⟨aG, cG, rfl, hG⟩; refine withPreds_nil rfl ?_; refine XO.extract rfl rfl rfl ?_; refine XO.nil ?_
         exact stepQ_ok trivial (rfl)
        refine stepsD_cons rfl ?_ ?_
        ·intro X HD hleD _
         replace hB := hB.mono hleD; replace hO := hO.mono hleD; replace hA := hA.mono hleD; replace hs := hs.mono hleD; replace hm := hm.mono hleD; replace hpo := hpo.mono hleD; replace hpM := hpM.mono hleD; replace hdM := hdM.mono hleD; replace hle0 := hle0.trans hleD; refine withPreds_cons rfl rfl ?_; rintro _ ⟨a67, c67, rfl, hsl67⟩; refine withPreds_nil rfl ?_; refine XO.assign rfl rfl ?_; refine XO.nil ?_
         exact stepQ_ok trivial (⟨_, _, rfl, hsl67⟩)
        exact stepsD_end rfl
       case tail10 =>
        intro HD hleD _
        replace hB := hB.mono hleD; replace hO := hO.mono hleD; replace hA := hA.mono hleD; replace hs := hs.mono hleD; replace hm := hm.mono hleD; replace hpo := hpo.mono hleD; replace hpM := hpM.mono hleD; replace hdM := hdM.mono hleD; replace hle0 := hle0.trans hleD; refine withPreds_cons rfl rfl ?_; rintro _ rfl; refine withPreds_cons rfl rfl ?_; rintro _ rfl; refine withPreds_cons rfl rfl ?_; rintro _ rfl; refine withPreds_cons rfl rfl ?_; rintro _ ⟨a56, c56, rfl, hsl56, hcap56⟩; refine withPreds_cons rfl rfl ?_; rintro _ rfl; refine withPreds_cons rfl rfl ?_; rintro _ ⟨a58, c58, rfl, hsl58, hcap58⟩; refine withPreds_cons rfl rfl ?_; rintro _ rfl; refine withPreds_cons rfl rfl ?_; rintro _ rfl; refine withPreds_cons rfl rfl ?_; rintro _ rfl; refine withPreds_cons rfl rfl ?_; rintro _ rfl; refine withPreds_cons rfl rfl ?_; rintro _ ⟨bs63, rfl, hsl63⟩; refine withPreds_cons rfl rfl ?_; rintro _ ⟨a64, c64, rfl, hsl64⟩; refine withPreds_cons rfl rfl ?_; rintro _ rfl; refine withPreds_cons rfl rfl ?_; rintro _ ⟨aF, cF, rfl, hF⟩; refine withPreds_cons rfl rfl ?_; rintro _ ⟨aG, cG, rfl, hG⟩; refine withPreds_cons rfl rfl ?_; rintro _ ⟨a67, c67, rfl, hsl67⟩; refine withPreds_cons rfl rfl ?_; rintro _ rfl; refine withPreds_cons rfl rfl ?_; rintro _ ⟨a16, c16, rfl, hsl16⟩; refine withPreds_nil rfl ?_; refine XO.assign rfl rfl ?_; refine XO.nil ?_; refine XC.seq2 ?_; refine XC.seq ?_; refine XC.region ?_; refine XO.move rfl rfl ?_; refine XO.nil ?_; refine XC.seq2 ?_; refine XC.condB rfl (fun c3_15 => ?_) (fun c3_15 => ?_)
        ·have hbs := getD_some (d := []) (o := (bestF w old (prs w.J ab) d (l ++ [xM]) lm)) (by assumption)
         obtain ⟨hbl, hbr⟩ := best_len hn _ _ _ _ hbs
         rw [List.length_append, List.length_cons, List.length_nil] at hbl
         have hbw : ∀ x ∈ (bestF w old (prs w.J ab) d (l ++ [xM]) lm).getD [], x.length ≤ 1000 := fun x hx => (hbr x hx).elim (fun h => (List.mem_append.1 h).elim (hw x) (fun h2 => by simp only [List.mem_singleton] at h2; subst h2; exact hxl)) (fun h => by omega)
         refine XC.seq ?_; refine XC.region ?_; refine XO.assign rfl rfl ?_; refine XO.nil ?_; refine XC.seq2 ?_; refine XC.seq ?_; refine XC.region ?_; refine XO.move rfl rfl ?_; refine XO.assign rfl rfl ?_; refine XO.nil ?_; refine XC.seq2 ?_; refine XC.region ?_; refine XO.move rfl rfl ?_; refine XO.move rfl rfl ?_; refine XO.callV rfl (rchanges_fn _ _ _ _ old ((bestF w old (prs w.J ab) d (l ++ [xM]) lm).getD []) _ hO hsl16 (by omega) hwo hbw (by omega)) rfl ?_; refine XO.assign rfl rfl ?_; refine XO.nil ?_; refine blockN ?_; refine XC.seq2 ?_; refine XC.region ?_; refine XO.move rfl rfl ?_; refine XO.add rfl rfl (wrap_i64 (by omega) (by omega)) rfl ?_; refine XO.assign rfl rfl ?_; refine XO.nil ?_; refine loop_next ((k + 1, some ((bestF w old (prs w.J ab) d (l ++ [xM]) lm).getD []), ((chg old ((bestF w old (prs w.J ab) d (l ++ [xM]) lm).getD []) : Nat) : Int), a16, c16)) (by show (lstE w (prs w.J ab) l.length).length - (k + 1) < (lstE w (prs w.J ab) l.length).length - k; omega) (prov_cons (rfl) (prov_cons (rfl) (prov_cons (rfl) (prov_cons (rfl) (prov_cons (rfl) (prov_cons (rfl) (prov_cons (rfl) (prov_cons (rfl) (prov_cons (rfl) prov_nil))))))))) (⟨by show k + 1 ≤ (lstE w (prs w.J ab) l.length).length; omega, rfl, by first | (rw [fold_snoc hxM, hfold, bstep_y hbs]; done) | (rw [fold_snoc hxM, hfold, bstep_y hbs]; rfl) | (rw [fold_snoc hxM, hfold, bstep_n hbn]), by first | exact hsl16 | exact hpo⟩) (by repeat (first | exact List.Sublist.refl _ | apply List.Sublist.cons_cons | apply List.Sublist.cons)) (hle0)
        ·have hbn := isSome_no (o := (bestF w old (prs w.J ab) d (l ++ [xM]) lm)) (by assumption)
         refine XC.skip ?_; refine blockN ?_; refine XC.seq2 ?_; refine XC.region ?_; refine XO.move rfl rfl ?_; refine XO.add rfl rfl (wrap_i64 (by omega) (by omega)) rfl ?_; refine XO.assign rfl rfl ?_; refine XO.nil ?_; refine loop_next ((k + 1, o, lm, ap, cp)) (by show (lstE w (prs w.J ab) l.length).length - (k + 1) < (lstE w (prs w.J ab) l.length).length - k; omega) (prov_cons (rfl) (prov_cons (rfl) (prov_cons (rfl) (prov_cons (rfl) (prov_cons (rfl) (prov_cons (rfl) (prov_cons (rfl) (prov_cons (rfl) (prov_cons (rfl) prov_nil))))))))) (⟨by show k + 1 ≤ (lstE w (prs w.J ab) l.length).length; omega, rfl, by first | (rw [fold_snoc hxM, hfold, bstep_y hbs]; done) | (rw [fold_snoc hxM, hfold, bstep_y hbs]; rfl) | (rw [fold_snoc hxM, hfold, bstep_n hbn]), by first | exact hsl16 | exact hpo⟩) (by repeat (first | exact List.Sublist.refl _ | apply List.Sublist.cons_cons | apply List.Sublist.cons)) (hle0)
      ·skip
       refine XC.keep [1, 2, 3, 4, 5, 12, 13, 14, 15] rfl ?_; obtain ⟨bEM, oEM, rfl⟩ := hm.addr (by omega); obtain ⟨_, xM, hxM, ⟨axM, cxM, rfl, hdM⟩, hpM⟩ := hm.elem (k) (by omega)
       have hxl : xM.length ≤ 1000 := by have := lst_rows hn (List.mem_of_getElem? hxM); omega
       apply XC.drawM (fun _ => True) trivial [5] (by decide) [(11, 5)] (ownF ilR 26 l) (fun _ _ p _ => p.2 = .nothing) (ownF_mono _ _ _) (fun _ _ _ _ _ _ h => h) 18 [eqF _, eqF _, eqF _, slF ilR ([] : Ls), eqF _, anyF, eqF _, eqF _, eqF _, eqF _, slF ilR [xM], slG ilR (l ++ [xM]), eqF _, fun v H => FindU (bestF w old (prs w.J ab) d (l ++ [xM]) lm) H v, fun v H => FindU (bestF w old (prs w.J ab) d (l ++ [xM]) lm) H v, slG ilR ((bestF w old (prs w.J ab) d (l ++ [xM]) lm).getD []), eqF _, slG ilR ((bestF w old (prs w.J ab) d (l ++ [xM]) lm).getD [])] follows (by kernel_rfl) ⟨eqF_mono _, eqF_mono _, eqF_mono _, slF_mono _ _, eqF_mono _, anyF_mono, eqF_mono _, eqF_mono _, eqF_mono _, eqF_mono _, slF_mono _ _, slG_mono _ _, eqF_mono _, fun _ _ _ hle ⟨a, c, h1, h2⟩ => ⟨a, c, h1, h2.mono hle⟩, fun _ _ _ hle ⟨a, c, h1, h2⟩ => ⟨a, c, h1, h2.mono hle⟩, slG_mono _ _, eqF_mono _, slG_mono _ _, trivial⟩ (by decide) (by kernel_rfl) ?steps17 ?tail17
       case steps17 =>
        refine stepsM_cons rfl rfl ?_ ?_
        ·intro X ext HD hleD _
         replace hB := hB.mono hleD; replace hO := hO.mono hleD; replace hA := hA.mono hleD; replace hs := hs.mono hleD; replace hm := hm.mono hleD; replace hpo := hpo.mono hleD; replace hpM := hpM.mono hleD; replace hdM := hdM.mono hleD; replace hle0 := hle0.trans hleD; refine withP_nil rfl ?_; refine XO.loadO 0 rfl rfl ty_24 rfl rfl rfl ?_; refine XO.nil ?_; exact stepQN_ok rfl trivial (rfl)
        refine stepsM_cons rfl rfl ?_ ?_
        ·intro X ext HD hleD _
         replace hB := hB.mono hleD; replace hO := hO.mono hleD; replace hA := hA.mono hleD; replace hs := hs.mono hleD; replace hm := hm.mono hleD; replace hpo := hpo.mono hleD; replace hpM := hpM.mono hleD; replace hdM := hdM.mono hleD; replace hle0 := hle0.trans hleD; refine withP_nil rfl ?_; refine XO.move rfl rfl ?_; refine XO.nil ?_; exact stepQN_ok rfl trivial (rfl)
        refine stepsM_cons rfl rfl ?_ ?_
        ·intro X ext HD hleD _
         replace hB := hB.mono hleD; replace hO := hO.mono hleD; replace hA := hA.mono hleD; replace hs := hs.mono hleD; replace hm := hm.mono hleD; replace hpo := hpo.mono hleD; replace hpM := hpM.mono hleD; replace hdM := hdM.mono hleD; replace hle0 := hle0.trans hleD; refine withP_nil rfl ?_; refine XO.move rfl rfl ?_; refine XO.nil ?_; exact stepQN_ok rfl trivial (rfl)
        refine stepsM_cons rfl rfl ?_ ?_
        ·intro X ext HD hleD _
         replace hB := hB.mono hleD; replace hO := hO.mono hleD; replace hA := hA.mono hleD; replace hs := hs.mono hleD; replace hm := hm.mono hleD; replace hpo := hpo.mono hleD; replace hpM := hpM.mono hleD; replace hdM := hdM.mono hleD; replace hle0 := hle0.trans hleD; refine withP_nil rfl ?_; refine XO.buildSlice rfl Try.underlying25 ty_26 ze_26 rfl rfl rfl (fun b56 => ?_); refine XO.publish 0 rfl rfl rfl (fun HP56 oP56 hleP56 hbP56 hoP56 => ?_)
         have hsl56 := SlR.lit (ρ := ilR) (l := ([] : Ls)) hbP56 hoP56 rfl
         replace hB := hB.mono hleP56; replace hO := hO.mono hleP56; replace hA := hA.mono hleP56; replace hs := hs.mono hleP56; replace hm := hm.mono hleP56; replace hpo := hpo.mono hleP56; replace hpM := hpM.mono hleP56; replace hdM := hdM.mono hleP56; replace hle0 := hle0.trans hleP56; refine XO.nil ?_
         exact stepQN_ok rfl trivial (⟨_, rfl, hsl56⟩)
        refine stepsM_cons rfl rfl ?_ ?_
        ·intro X ext HD hleD _
         replace hB := hB.mono hleD; replace hO := hO.mono hleD; replace hA := hA.mono hleD; replace hs := hs.mono hleD; replace hm := hm.mono hleD; replace hpo := hpo.mono hleD; replace hpM := hpM.mono hleD; replace hdM := hdM.mono hleD; replace hle0 := hle0.trans hleD; refine withP_nil rfl ?_; refine XO.move rfl rfl ?_; refine XO.nil ?_; exact stepQN_ok rfl trivial (rfl)
        refine stepsM_cons rfl rfl ?_ ?_
        ·intro X ext HD hleD _
         replace hB := hB.mono hleD; replace hO := hO.mono hleD; replace hA := hA.mono hleD; replace hs := hs.mono hleD; replace hm := hm.mono hleD; replace hpo := hpo.mono hleD; replace hpM := hpM.mono hleD; replace hdM := hdM.mono hleD; replace hle0 := hle0.trans hleD; refine withP_cons rfl rfl ?_; rintro _ ⟨bs56, rfl, hsl56⟩; refine withP_cons rfl rfl ?_; rintro _ rfl; refine withP_nil rfl ?_; refine XO.appendN rfl hsl56 rfl rfl hs rfl (by have := List.length_pos_iff.2 hq0; simp; omega) Try.underlying25 ty_26 ze_26 rfl by_26 (by simp; omega) rfl (fun pe ae ce hacc => ?_); refine XO.nil ?_
         exact stepQN_new rfl trivial trivial (⟨_, _, rfl, hacc⟩)
        refine stepsM_cons rfl rfl ?_ ?_
        ·intro X ext HD hleD _
         replace hB := hB.mono hleD; replace hO := hO.mono hleD; replace hA := hA.mono hleD; replace hs := hs.mono hleD; replace hm := hm.mono hleD; replace hpo := hpo.mono hleD; replace hpM := hpM.mono hleD; replace hdM := hdM.mono hleD; replace hle0 := hle0.trans hleD; refine withP_nil rfl ?_; refine XO.move rfl rfl ?_; refine XO.nil ?_; exact stepQN_ok rfl trivial (rfl)
        refine stepsM_cons rfl rfl ?_ ?_
        ·intro X ext HD hleD _
         replace hB := hB.mono hleD; replace hO := hO.mono hleD; replace hA := hA.mono hleD; replace hs := hs.mono hleD; replace hm := hm.mono hleD; replace hpo := hpo.mono hleD; replace hpM := hpM.mono hleD; replace hdM := hdM.mono hleD; replace hle0 := hle0.trans hleD; refine withP_nil rfl ?_; refine XO.move rfl rfl ?_; refine XO.nil ?_; exact stepQN_ok rfl trivial (rfl)
        refine stepsM_cons rfl rfl ?_ ?_
        ·intro X ext HD hleD _
         replace hB := hB.mono hleD; replace hO := hO.mono hleD; replace hA := hA.mono hleD; replace hs := hs.mono hleD; replace hm := hm.mono hleD; replace hpo := hpo.mono hleD; replace hpM := hpM.mono hleD; replace hdM := hdM.mono hleD; replace hle0 := hle0.trans hleD; refine withP_cons rfl rfl ?_; rintro _ rfl; refine withP_cons rfl rfl ?_; rintro _ rfl; refine withP_nil rfl ?_; refine XO.indexE rfl rfl Try.underlying25 ty_26 (by omega) (by omega) rfl ?_; refine XO.nil ?_; exact stepQN_ok rfl trivial (rfl)
        refine stepsM_cons rfl rfl ?_ ?_
        ·intro X ext HD hleD _
         replace hB := hB.mono hleD; replace hO := hO.mono hleD; replace hA := hA.mono hleD; replace hs := hs.mono hleD; replace hm := hm.mono hleD; replace hpo := hpo.mono hleD; replace hpM := hpM.mono hleD; replace hdM := hdM.mono hleD; replace hle0 := hle0.trans hleD; refine withP_cons rfl rfl ?_; rintro _ rfl; refine withP_nil rfl ?_; refine XO.loadH rfl (by assumption) ty_26 rfl rfl rfl ?_; refine XO.nil ?_; exact stepQN_ok rfl trivial (rfl)
        refine stepsM_cons rfl rfl ?_ ?_
        ·intro X ext HD hleD _
         replace hB := hB.mono hleD; replace hO := hO.mono hleD; replace hA := hA.mono hleD; replace hs := hs.mono hleD; replace hm := hm.mono hleD; replace hpo := hpo.mono hleD; replace hpM := hpM.mono hleD; replace hdM := hdM.mono hleD; replace hle0 := hle0.trans hleD; refine withP_cons rfl rfl ?_; rintro _ rfl; refine withP_nil rfl ?_; refine XO.buildSlice rfl Try.underlying25 ty_26 ze_26 rfl rfl rfl (fun b63 => ?_); refine XO.publish 0 rfl rfl rfl (fun HP63 oP63 hleP63 hbP63 hoP63 => ?_); replace hB := hB.mono hleP63; replace hO := hO.mono hleP63; replace hA := hA.mono hleP63; replace hs := hs.mono hleP63; replace hm := hm.mono hleP63; replace hpo := hpo.mono hleP63; replace hpM := hpM.mono hleP63; replace hdM := hdM.mono hleP63; replace hle0 := hle0.trans hleP63
         have hsl63 := SlR.lit (ρ := ilR) (l := [xM]) hbP63 hoP63 (RowsR.one1 ⟨_, _, rfl, hdM⟩)
         refine XO.nil ?_
         exact stepQN_ok rfl trivial (⟨_, rfl, hsl63⟩)
        refine stepsM_mod rfl rfl ?_ ?_
        ·intro X ext p HD hleD _
         replace hB := hB.mono hleD; replace hO := hO.mono hleD; replace hA := hA.mono hleD; replace hs := hs.mono hleD; replace hm := hm.mono hleD; replace hpo := hpo.mono hleD; replace hpM := hpM.mono hleD; replace hdM := hdM.mono hleD; replace hle0 := hle0.trans hleD; refine withP_cons rfl rfl ?_; rintro _ _; refine withP_cons rfl rfl ?_; rintro _ ⟨bs63, rfl, hsl63⟩; refine withP_nil rfl ?_
         intro hfo
         obtain ⟨ab, cb, rfl, haccb⟩ := hfo _ _ rfl rfl; refine XO.appendA 0 rfl rfl haccb rfl rfl hsl63 rfl Try.underlying25 ty_26 ze_26 rfl by_26 (by simp; omega) rfl (fun pc ac cc haccc => ?_); refine XO.publishA 0 rfl haccc rfl (fun HQ hleQ hsQ => ?_); refine XO.open0 (σ := []) (fun b0 => ?_); refine XO.nil ?_
         exact stepQM_ok trivial (⟨_, _, rfl, hsQ⟩) (fun u t h1 h2 => rfl)
        refine stepsM_cons rfl rfl ?_ ?_
        ·intro X ext HD hleD _
         replace hB := hB.mono hleD; replace hO := hO.mono hleD; replace hA := hA.mono hleD; replace hs := hs.mono hleD; replace hm := hm.mono hleD; replace hpo := hpo.mono hleD; replace hpM := hpM.mono hleD; replace hdM := hdM.mono hleD; replace hle0 := hle0.trans hleD; refine withP_nil rfl ?_; refine XO.move rfl rfl ?_; refine XO.nil ?_; exact stepQN_ok rfl trivial (rfl)
        refine stepsM_cons rfl rfl ?_ ?_
        ·intro X ext HD hleD _
         replace hB := hB.mono hleD; replace hO := hO.mono hleD; replace hA := hA.mono hleD; replace hs := hs.mono hleD; replace hm := hm.mono hleD; replace hpo := hpo.mono hleD; replace hpM := hpM.mono hleD; replace hdM := hdM.mono hleD; replace hle0 := hle0.trans hleD; refine withP_cons rfl rfl ?_; rintro _ rfl; refine withP_cons rfl rfl ?_; rintro _ rfl; refine withP_cons rfl rfl ?_; rintro _ rfl; refine withP_cons rfl rfl ?_; rintro _ ⟨a64, c64, rfl, hsl64⟩; refine withP_cons rfl rfl ?_; rintro _ rfl; refine withP_nil rfl ?_
         have hcall := ih d (by omega) (l ++ [xM]) lm _ _ _ _ _ _ _ _ _ (by simp; omega) (fun z hz => (List.mem_append.1 hz).elim (hw z) (fun h => by simp only [List.mem_singleton] at h; subst h; exact hxl)) hB hO hA hsl64
         refine XO.callH rfl hcall rfl ?_; rintro _ HF hleF ⟨aF, cF, rfl, hF⟩; replace hB := hB.mono hleF; replace hO := hO.mono hleF; replace hA := hA.mono hleF; replace hs := hs.mono hleF; replace hm := hm.mono hleF; replace hpo := hpo.mono hleF; replace hpM := hpM.mono hleF; replace hdM := hdM.mono hleF; replace hsl64 := hsl64.mono hleF; replace hle0 := hle0.trans hleF; refine XO.nil ?_
         exact stepQN_ok rfl trivial (⟨_, _, rfl, hF⟩)
        refine stepsM_cons rfl rfl ?_ ?_
        ·intro X ext HD hleD _
         replace hB := hB.mono hleD; replace hO := hO.mono hleD; replace hA := hA.mono hleD; replace hs := hs.mono hleD; replace hm := hm.mono hleD; replace hpo := hpo.mono hleD; replace hpM := hpM.mono hleD; replace hdM := hdM.mono hleD; replace hle0 := hle0.trans hleD; refine withP_cons rfl rfl ?_; rintro _ ⟨aF, cF, rfl, hF⟩; refine withP_nil rfl ?_; refine XO.move rfl rfl ?_; refine XO.nil ?_
         exact stepQN_ok rfl trivial (⟨_, _, rfl, hF⟩)
        refine stepsM_cons rfl rfl ?_ ?_
        ·intro X ext HD hleD _
         replace hB := hB.mono hleD; replace hO := hO.mono hleD; replace hA := hA.mono hleD; replace hs := hs.mono hleD; replace hm := hm.mono hleD; replace hpo := hpo.mono hleD; replace hpM := hpM.mono hleD; replace hdM := hdM.mono hleD; replace hle0 := hle0.trans hleD; refine withP_cons rfl rfl ?_; rintro _ ⟨aG, cG, rfl, hG⟩; refine withP_nil rfl ?_; refine XO.extract rfl rfl rfl ?_; refine XO.nil ?_
         exact stepQN_ok rfl trivial (⟨_, _, rfl, hG⟩)
        refine stepsM_cons rfl rfl ?_ ?_
        ·intro X ext HD hleD _
         replace hB := hB.mono hleD; replace hO := hO.mono hleD; replace hA := hA.mono hleD; replace hs := hs.mono hleD; replace hm := hm.mono hleD; replace hpo := hpo.mono hleD; replace hpM := hpM.mono hleD; replace hdM := hdM.mono hleD; replace hle0 := hle0.trans hleD; refine withP_cons rfl rfl ?_; rintro _ ⟨aG, cG, rfl, hG⟩; refine withP_nil rfl ?_; refine XO.extract rfl rfl rfl ?_; refine XO.nil ?_; exact stepQN_ok rfl trivial (rfl)
        refine stepsM_cons rfl rfl ?_ ?_
        ·intro X ext HD hleD _
         replace hB := hB.mono hleD; replace hO := hO.mono hleD; replace hA := hA.mono hleD; replace hs := hs.mono hleD; replace hm := hm.mono hleD; replace hpo := hpo.mono hleD; replace hpM := hpM.mono hleD; replace hdM := hdM.mono hleD; replace hle0 := hle0.trans hleD; refine withP_cons rfl rfl ?_; rintro _ ⟨a67, c67, rfl, hsl67⟩; refine withP_nil rfl ?_; refine XO.assign rfl rfl ?_; refine XO.nil ?_
         exact stepQN_ok rfl trivial (⟨_, _, rfl, hsl67⟩)
        exact stepsM_end rfl
       case tail17 =>
        intro HD hleD _
        replace hB := hB.mono hleD; replace hO := hO.mono hleD; replace hA := hA.mono hleD; replace hs := hs.mono hleD; replace hm := hm.mono hleD; replace hpo := hpo.mono hleD; replace hpM := hpM.mono hleD; replace hdM := hdM.mono hleD; replace hle0 := hle0.trans hleD; refine withP_cons rfl rfl ?_; rintro _ rfl; refine withP_cons rfl rfl ?_; rintro _ rfl; refine withP_cons rfl rfl ?_; rintro _ rfl; refine withP_cons rfl rfl ?_; rintro _ ⟨bs56, rfl, hsl56⟩; refine withP_cons rfl rfl ?_; rintro _ rfl; refine withP_cons rfl rfl ?_; rintro _ _; refine withP_cons rfl rfl ?_; rintro _ rfl; refine withP_cons rfl rfl ?_; rintro _ rfl; refine withP_cons rfl rfl ?_; rintro _ rfl; refine withP_cons rfl rfl ?_; rintro _ rfl; refine withP_cons rfl rfl ?_; rintro _ ⟨bs63, rfl, hsl63⟩; refine withP_cons rfl rfl ?_; rintro _ ⟨a64, c64, rfl, hsl64⟩; refine withP_cons rfl rfl ?_; rintro _ rfl; refine withP_cons rfl rfl ?_; rintro _ ⟨aF, cF, rfl, hF⟩; refine withP_cons rfl rfl ?_; rintro _ ⟨aG, cG, rfl, hG⟩; refine withP_cons rfl rfl ?_; rintro _ ⟨a67, c67, rfl, hsl67⟩; refine withP_cons rfl rfl ?_; rintro _ rfl; refine withP_cons rfl rfl ?_; rintro _ ⟨a16, c16, rfl, hsl16⟩; refine withP_nil rfl ?_; refine withEnts_cons ?_
        intro pe hpe
        refine withEnts_nil ?_; refine XO.assign rfl rfl ?_; refine XO.nil ?_; refine XC.seq2 ?_; refine XC.seq ?_; refine XC.region ?_; refine XO.move rfl rfl ?_; refine XO.nil ?_; refine XC.seq2 ?_; refine XC.condB rfl (fun c3_21 => ?_) (fun c3_21 => ?_)
        ·have hbs := getD_some (d := []) (o := (bestF w old (prs w.J ab) d (l ++ [xM]) lm)) (by assumption)
         obtain ⟨hbl, hbr⟩ := best_len hn _ _ _ _ hbs
         rw [List.length_append, List.length_cons, List.length_nil] at hbl
         have hbw : ∀ x ∈ (bestF w old (prs w.J ab) d (l ++ [xM]) lm).getD [], x.length ≤ 1000 := fun x hx => (hbr x hx).elim (fun h => (List.mem_append.1 h).elim (hw x) (fun h2 => by simp only [List.mem_singleton] at h2; subst h2; exact hxl)) (fun h => by omega)
         refine XC.seq ?_; refine XC.region ?_; refine XO.assign rfl rfl ?_; refine XO.nil ?_; refine XC.seq2 ?_; refine XC.seq ?_; refine XC.region ?_; refine XO.move rfl rfl ?_; refine XO.assign rfl rfl ?_; refine XO.nil ?_; refine XC.seq2 ?_; refine XC.region ?_; refine XO.move rfl rfl ?_; refine XO.move rfl rfl ?_; refine XO.callV rfl (rchanges_fn _ _ _ _ old ((bestF w old (prs w.J ab) d (l ++ [xM]) lm).getD []) _ hO hsl16 (by omega) hwo hbw (by omega)) rfl ?_; refine XO.assign rfl rfl ?_; refine XO.nil ?_; refine blockN ?_; refine XC.seq2 ?_; refine XC.region ?_; refine XO.move rfl rfl ?_; refine XO.add rfl rfl (wrap_i64 (by omega) (by omega)) rfl ?_; refine XO.assign rfl rfl ?_; refine XO.nil ?_; refine loop_next ((k + 1, some ((bestF w old (prs w.J ab) d (l ++ [xM]) lm).getD []), ((chg old ((bestF w old (prs w.J ab) d (l ++ [xM]) lm).getD []) : Nat) : Int), a16, c16)) (by show (lstE w (prs w.J ab) l.length).length - (k + 1) < (lstE w (prs w.J ab) l.length).length - k; omega) (prov_cons (rfl) (prov_cons (rfl) (prov_cons (rfl) (prov_cons (rfl) (prov_cons (rfl) (prov_cons (rfl) (prov_cons (rfl) (prov_cons (rfl) (prov_cons (rfl) prov_nil))))))))) (⟨by show k + 1 ≤ (lstE w (prs w.J ab) l.length).length; omega, rfl, by first | (rw [fold_snoc hxM, hfold, bstep_y hbs]; done) | (rw [fold_snoc hxM, hfold, bstep_y hbs]; rfl) | (rw [fold_snoc hxM, hfold, bstep_n hbn]), by first | exact hsl16 | exact hpo⟩) (by repeat (first | exact List.Sublist.refl _ | apply List.Sublist.cons_cons | apply List.Sublist.cons)) (hle0)
        ·have hbn := isSome_no (o := (bestF w old (prs w.J ab) d (l ++ [xM]) lm)) (by assumption)
         refine XC.skip ?_; refine blockN ?_; refine XC.seq2 ?_; refine XC.region ?_; refine XO.move rfl rfl ?_; refine XO.add rfl rfl (wrap_i64 (by omega) (by omega)) rfl ?_; refine XO.assign rfl rfl ?_; refine XO.nil ?_; refine loop_next ((k + 1, o, lm, ap, cp)) (by show (lstE w (prs w.J ab) l.length).length - (k + 1) < (lstE w (prs w.J ab) l.length).length - k; omega) (prov_cons (rfl) (prov_cons (rfl) (prov_cons (rfl) (prov_cons (rfl) (prov_cons (rfl) (prov_cons (rfl) (prov_cons (rfl) (prov_cons (rfl) (prov_cons (rfl) prov_nil))))))))) (⟨by show k + 1 ≤ (lstE w (prs w.J ab) l.length).length; omega, rfl, by first | (rw [fold_snoc hxM, hfold, bstep_y hbs]; done) | (rw [fold_snoc hxM, hfold, bstep_y hbs]; rfl) | (rw [fold_snoc hxM, hfold, bstep_n hbn]), by first | exact hsl16 | exact hpo⟩) (by repeat (first | exact List.Sublist.refl _ | apply List.Sublist.cons_cons | apply List.Sublist.cons)) (hle0)
     ·obtain rfl : k = (lstE w (prs w.J ab) l.length).length := by omega
      rw [List.take_length] at hfold
      refine XC.exit ?_; refine seqX_exit ?_; refine loopX_exit ?_; refine blockHit rfl ?_; refine XC.seq2 ?_; refine XC.seq ?_; refine XC.region ?_; refine XO.move rfl rfl ?_; refine XO.move rfl rfl ?_; refine XO.assign rfl rfl ?_; refine XO.assign rfl rfl ?_; refine XO.nil ?_; refine XC.seq2 ?_; refine XC.ret ?_; refine ⟨rfl, _, [], rfl, (by repeat (first | exact List.Sublist.refl _ | apply List.Sublist.cons_cons | apply List.Sublist.cons)), RetR.mk ?_⟩
      first | exact FindU.no (best_no (by rw [why_3 (by omega)]; decide)) | exact FindU.no (best_no (by rw [why_1 (by omega) (by assumption)]; decide)) | exact FindU.no (best_no (by rw [why_2 (by omega) (by assumption) (by assumption)]; decide)) | exact FindU.yes (best_0 hwhy) hs | exact ⟨_, _, by rw [best_s hwhy, hfold]; rfl, by rw [best_s hwhy, hfold]; exact hpo⟩
  ·have g4p := g4
   refine XO.guardF rfl rfl (g4) rfl rfl ?_; refine XO.guardF rfl rfl (g4) rfl rfl ?_; refine XO.pickT rfl (g4) rfl rfl ?_; refine XO.nil ?_; refine XC.seq2 ?_; refine XC.condT rfl (rfl) ?_; refine XC.seq ?_; refine XC.region ?_; refine XO.assign rfl rfl ?_; refine XO.assign rfl rfl ?_; refine XO.nil ?_; refine XC.seq2 ?_; refine XC.ret ?_; refine seqX_ret ?_; refine ⟨rfl, _, [], rfl, (by repeat (first | exact List.Sublist.refl _ | apply List.Sublist.cons_cons | apply List.Sublist.cons)), RetR.mk ?_⟩
   first | exact FindU.no (best_no (by rw [why_3 (by omega)]; decide)) | exact FindU.no (best_no (by rw [why_1 (by omega) (by assumption)]; decide)) | exact FindU.no (best_no (by rw [why_2 (by omega) (by assumption) (by assumption)]; decide)) | exact FindU.yes (best_0 hwhy) hs | exact ⟨_, _, by rw [best_s hwhy, hfold]; rfl, by rw [best_s hwhy, hfold]; exact hpo⟩
 ·have g2p := of_decide_eq_true g2
  refine XO.guardF rfl rfl (g2) rfl rfl ?_; refine XO.guardF rfl rfl (g2) rfl rfl ?_; refine XO.guardF rfl rfl (g2) rfl rfl ?_; refine XO.pickT rfl (g2) rfl rfl ?_; refine XO.move rfl rfl ?_; refine XO.guardF rfl rfl (rfl) rfl rfl ?_; refine XO.guardF rfl rfl (rfl) rfl rfl ?_; refine XO.guardF rfl rfl (rfl) rfl rfl ?_; refine XO.pickT rfl (rfl) rfl rfl ?_; refine XO.nil ?_; refine XC.seq2 ?_; refine XC.condT rfl (rfl) ?_; refine XC.seq ?_; refine XC.region ?_; refine XO.assign rfl rfl ?_; refine XO.assign rfl rfl ?_; refine XO.nil ?_; refine XC.seq2 ?_; refine XC.ret ?_; refine seqX_ret ?_; refine ⟨rfl, _, [], rfl, (by repeat (first | exact List.Sublist.refl _ | apply List.Sublist.cons_cons | apply List.Sublist.cons)), RetR.mk ?_⟩
  first | exact FindU.no (best_no (by rw [why_3 (by omega)]; decide)) | exact FindU.no (best_no (by rw [why_1 (by omega) (by assumption)]; decide)) | exact FindU.no (best_no (by rw [why_2 (by omega) (by assumption) (by assumption)]; decide)) | exact FindU.yes (best_0 hwhy) hs | exact ⟨_, _, by rw [best_s hwhy, hfold]; rfl, by rw [best_s hwhy, hfold]; exact hpo⟩

end Go.Proofs
