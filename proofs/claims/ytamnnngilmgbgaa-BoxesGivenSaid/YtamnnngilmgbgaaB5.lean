/- The walks of the functions of boxes: what each of them computes, at any input. -/
import Derived.Test.YtamnnngilmgbgaaB4
import Derived.Test.YtamnnngilmgbgaaB3
set_option maxRecDepth 100000
set_option autoImplicit false
set_option linter.unusedVariables false
set_option linter.unusedSimpArgs false
namespace Go.Proofs
open Go.XL

theorem eg_55 : Try.prog.eqGuardType Try.prog.depth 55 = false := by kernel_rfl
theorem fa_50_0 : fieldF Try.prog 50 0 = some 0 := by kernel_rfl
theorem ty_31 : tyF Try.prog 31 1 false = true := by kernel_rfl
theorem ty_50 : tyF Try.prog 50 1 true = true := by kernel_rfl
theorem ze_27 : zeroC Try.prog 27 = some [.int .i64 0, .int .i64 0, .int .i64 0, .slice none 0 0, .int .u8 0, .int .u8 0, .int .u8 0, .int .u8 0, .int .u8 0, .int .u8 0, .int .u8 0, .int .u8 0, .int .u8 0, .int .u8 0, .int .u8 0, .int .u8 0, .int .u8 0, .int .u8 0, .int .u8 0, .int .u8 0, .int .u8 0, .int .u8 0, .int .u8 0, .int .u8 0, .int .u8 0, .int .u8 0, .int .u8 0, .int .u8 0, .int .u8 0, .int .u8 0, .int .u8 0, .int .u8 0, .int .u8 0, .int .u8 0, .int .u8 0, .int .u8 0] := by kernel_rfl
theorem ze_50 : zeroC Try.prog 50 = some [.slice none 0 0] := by kernel_rfl

theorem riseC_fn (a : Option Addr) (c : Nat) (l : List Card) (H : Hp) (hs : SlR cardR H a c l) (hl : l.length < 9223372036854775808) (g : Value) (hg : ∀ (x y : Card) (ax ay : Option Addr) (cx cy : Nat) (H2 : Hp), Le H H2 → x ∈ l → y ∈ l → SlR (intR .i64) H2 ax cx x.C → SlR (intR .i64) H2 ay cy y.C → x.D.length = 32 → y.D.length = 32 → FnV Try.prog g [.agg ⟨cardV x.R x.E x.J x.C.length x.D ax cx⟩, .agg ⟨cardV y.R y.E y.J y.C.length y.D ay cy⟩] H2 [] (RetR fun v _ _ => v = .int .i64 (ordC x y))) : FnC Try.prog 30 #[.slice a l.length c, g] H [] (RetR (fun v _ _ => v = .bool (riseG ordC l))) := by
 refine FnC.intro (args := [.slice a l.length c, g]) Try.func30 rfl rfl Try.ntmps30 rfl rfl rfl fun G rest => ?_
 refine XC.seq ?_; refine XC.region ?_; refine XO.assign rfl rfl ?_; refine XO.nil ?_; refine XC.seq2 ?_; refine XC.seq ?_; refine XC.seq ?_; refine XC.region ?_; refine XO.assign rfl rfl ?_; refine XO.nil ?_; refine XC.seq2 ?_; refine XC.block ?_; refine XC.keep [5, 0, 1] rfl ?_; refine XC.loop (base := [(0, _), (1, _)]) (fun ζ : Nat => [(5, .int .i64 ((ζ + 1 : Nat) : Int))]) (fun ζ Hl own => ζ ≤ (l.length + 1) ∧ rest = own ∧ (riseG ordC l = riseG ordC (l.drop (ζ))) ∧ (LeW H Hl)) (fun ζ => (l.length + 1) - ζ) 0 (prov_cons (rfl) (prov_cons (rfl) (prov_cons (rfl) prov_nil))) (by repeat (first | exact List.Sublist.refl _ | apply List.Sublist.cons_cons | apply List.Sublist.cons)) ⟨Nat.zero_le _, rfl, rfl, Le.refl _⟩ ?_; rintro k Hl0 _ hle0 ⟨hkk, rfl, hr, hLH⟩; replace hs := hs.mono hle0
 try dsimp only at ⊢
 refine XC.seq ?_; refine XC.seq ?_; refine XC.region ?_; refine XO.move rfl rfl ?_; refine XO.move rfl rfl ?_; refine XO.lenS (ts := #[]) rfl Try.underlying31 rfl ?_; refine XO.lss rfl rfl rfl ?_; refine XO.nil ?_; refine XC.seq2 ?_; refine XC.cond rfl (fun c0_1 => ?_) (fun c0_1 => ?_)
 ·refine XC.skip ?_; refine XC.seq2 ?_; refine XC.seq ?_; refine XC.block ?_; refine XC.seq ?_; refine XC.keep [0, 1, 5] rfl ?_; obtain ⟨bEX, oEX, rfl⟩ := hs.addr (by omega); obtain ⟨_, xX, hxX, ⟨axX, cxX, rfl, hdX, hDX⟩, hpX⟩ := hs.elem (k) (by omega); obtain ⟨_, xY, hxY, ⟨axY, cxY, rfl, hdY, hDY⟩, hpY⟩ := hs.elem (k + 1) (by omega)
  apply XC.drawG (fun _ => True) trivial 10 [eqF _, eqF _, eqF _, eqF _, eqF _, eqF _, eqF _, eqF _, eqF _, eqF _] follows (by kernel_rfl) (by kernel_rfl) ⟨eqF_mono _, eqF_mono _, eqF_mono _, eqF_mono _, eqF_mono _, eqF_mono _, eqF_mono _, eqF_mono _, eqF_mono _, eqF_mono _, trivial⟩ ?steps2 ?tail2
  case steps2 =>
   refine stepsD_cons rfl ?_ ?_
   ·intro X HD hleD _
    replace hs := hs.mono hleD; replace hLH := hLH.mono hleD; replace hpX := hpX.mono hleD; replace hdX := hdX.mono hleD; replace hpY := hpY.mono hleD; replace hdY := hdY.mono hleD; replace hle0 := hle0.trans hleD; refine withPreds_nil rfl ?_; refine XO.move rfl rfl ?_; refine XO.nil ?_
    exact stepQ_ok trivial (rfl)
   refine stepsD_cons rfl ?_ ?_
   ·intro X HD hleD _
    replace hs := hs.mono hleD; replace hLH := hLH.mono hleD; replace hpX := hpX.mono hleD; replace hdX := hdX.mono hleD; replace hpY := hpY.mono hleD; replace hdY := hdY.mono hleD; replace hle0 := hle0.trans hleD; refine withPreds_nil rfl ?_; refine XO.move rfl rfl ?_; refine XO.nil ?_
    exact stepQ_ok trivial (rfl)
   refine stepsD_cons rfl ?_ ?_
   ·intro X HD hleD _
    replace hs := hs.mono hleD; replace hLH := hLH.mono hleD; replace hpX := hpX.mono hleD; replace hdX := hdX.mono hleD; replace hpY := hpY.mono hleD; replace hdY := hdY.mono hleD; replace hle0 := hle0.trans hleD; refine withPreds_nil rfl ?_; refine XO.move rfl rfl ?_; refine XO.nil ?_
    exact stepQ_ok trivial (rfl)
   refine stepsD_cons rfl ?_ ?_
   ·intro X HD hleD _
    replace hs := hs.mono hleD; replace hLH := hLH.mono hleD; replace hpX := hpX.mono hleD; replace hdX := hdX.mono hleD; replace hpY := hpY.mono hleD; replace hdY := hdY.mono hleD; replace hle0 := hle0.trans hleD; refine withPreds_cons rfl rfl ?_; rintro _ rfl; refine withPreds_nil rfl ?_; refine XO.sub (c := ((k : Nat) : Int)) rfl rfl ((wrap_i64 (by omega) (by omega)).trans (by omega)) rfl ?_; refine XO.nil ?_
    exact stepQ_ok trivial (rfl)
   refine stepsD_cons rfl ?_ ?_
   ·intro X HD hleD _
    replace hs := hs.mono hleD; replace hLH := hLH.mono hleD; replace hpX := hpX.mono hleD; replace hdX := hdX.mono hleD; replace hpY := hpY.mono hleD; replace hdY := hdY.mono hleD; replace hle0 := hle0.trans hleD; refine withPreds_cons rfl rfl ?_; rintro _ rfl; refine withPreds_cons rfl rfl ?_; rintro _ rfl; refine withPreds_nil rfl ?_; refine XO.indexE rfl rfl Try.underlying31 ty_27 (by omega) (by omega) rfl ?_; refine XO.nil ?_
    exact stepQ_ok trivial (rfl)
   refine stepsD_cons rfl ?_ ?_
   ·intro X HD hleD _
    replace hs := hs.mono hleD; replace hLH := hLH.mono hleD; replace hpX := hpX.mono hleD; replace hdX := hdX.mono hleD; replace hpY := hpY.mono hleD; replace hdY := hdY.mono hleD; replace hle0 := hle0.trans hleD; refine withPreds_cons rfl rfl ?_; rintro _ rfl; refine withPreds_nil rfl ?_; refine XO.loadH rfl (by assumption) ty_27 rfl rfl rfl ?_; refine XO.nil ?_
    exact stepQ_ok trivial (rfl)
   refine stepsD_cons rfl ?_ ?_
   ·intro X HD hleD _
    replace hs := hs.mono hleD; replace hLH := hLH.mono hleD; replace hpX := hpX.mono hleD; replace hdX := hdX.mono hleD; replace hpY := hpY.mono hleD; replace hdY := hdY.mono hleD; replace hle0 := hle0.trans hleD; refine withPreds_nil rfl ?_; refine XO.move rfl rfl ?_; refine XO.nil ?_
    exact stepQ_ok trivial (rfl)
   refine stepsD_cons rfl ?_ ?_
   ·intro X HD hleD _
    replace hs := hs.mono hleD; replace hLH := hLH.mono hleD; replace hpX := hpX.mono hleD; replace hdX := hdX.mono hleD; replace hpY := hpY.mono hleD; replace hdY := hdY.mono hleD; replace hle0 := hle0.trans hleD; refine withPreds_nil rfl ?_; refine XO.move rfl rfl ?_; refine XO.nil ?_
    exact stepQ_ok trivial (rfl)
   refine stepsD_cons rfl ?_ ?_
   ·intro X HD hleD _
    replace hs := hs.mono hleD; replace hLH := hLH.mono hleD; replace hpX := hpX.mono hleD; replace hdX := hdX.mono hleD; replace hpY := hpY.mono hleD; replace hdY := hdY.mono hleD; replace hle0 := hle0.trans hleD; refine withPreds_cons rfl rfl ?_; rintro _ rfl; refine withPreds_cons rfl rfl ?_; rintro _ rfl; refine withPreds_nil rfl ?_; refine XO.indexE rfl rfl Try.underlying31 ty_27 (by omega) (by omega) rfl ?_; refine XO.nil ?_
    exact stepQ_ok trivial (rfl)
   refine stepsD_cons rfl ?_ ?_
   ·intro X HD hleD _
    replace hs := hs.mono hleD; replace hLH := hLH.mono hleD; replace hpX := hpX.mono hleD; replace hdX := hdX.mono hleD; replace hpY := hpY.mono hleD; replace hdY := hdY.mono hleD; replace hle0 := hle0.trans hleD; refine withPreds_cons rfl rfl ?_; rintro _ rfl; refine withPreds_nil rfl ?_; refine XO.loadH rfl (by assumption) ty_27 rfl rfl rfl ?_; refine XO.nil ?_
    exact stepQ_ok trivial (rfl)
   exact stepsD_end rfl
  case tail2 =>
   intro HD hleD _
   replace hs := hs.mono hleD; replace hLH := hLH.mono hleD; replace hpX := hpX.mono hleD; replace hdX := hdX.mono hleD; replace hpY := hpY.mono hleD; replace hdY := hdY.mono hleD; replace hle0 := hle0.trans hleD; refine withPreds_cons rfl rfl ?_; rintro _ rfl; refine withPreds_cons rfl rfl ?_; rintro _ rfl; refine withPreds_cons rfl rfl ?_; rintro _ rfl; refine withPreds_cons rfl rfl ?_; rintro _ rfl; refine withPreds_cons rfl rfl ?_; rintro _ rfl; refine withPreds_cons rfl rfl ?_; rintro _ rfl; refine withPreds_cons rfl rfl ?_; rintro _ rfl; refine withPreds_cons rfl rfl ?_; rintro _ rfl; refine withPreds_cons rfl rfl ?_; rintro _ rfl; refine withPreds_cons rfl rfl ?_; rintro _ rfl; refine withPreds_nil rfl ?_; refine XO.callVH rfl trivial rfl (hg xX xY _ _ _ _ _ hLH (List.mem_of_getElem? hxX) (List.mem_of_getElem? hxY) hdX hdY hDX hDY) rfl ?_; rintro _ HN oN hleN rfl; replace hs := hs.mono hleN; replace hLH := hLH.mono hleN; replace hpX := hpX.mono hleN; replace hdX := hdX.mono hleN; replace hpY := hpY.mono hleN; replace hdY := hdY.mono hleN; replace hle0 := hle0.trans hleN; refine XO.geq rfl rfl rfl ?_; refine XO.nil ?_; refine XC.seq2 ?_; refine XC.cond rfl (fun c1_6 => ?_) (fun c1_6 => ?_)
   ·refine XC.seq ?_; refine XC.region ?_; refine XO.assign rfl rfl ?_; refine XO.nil ?_; refine XC.seq2 ?_; refine XC.ret ?_; refine blockR ?_; refine seqX_ret ?_; refine loopX_ret ?_; refine blockR ?_; refine seqX_ret ?_; refine ⟨rfl, _, [], rfl, (by repeat (first | exact List.Sublist.refl _ | apply List.Sublist.cons)), RetR.mk ?_⟩
    first | exact congrArg Value.bool (rise_n hr hxX hxY (by omega)) | exact congrArg Value.bool (rise_e hr (by omega))
   ·refine XC.skip ?_; refine blockN ?_; refine XC.seq2 ?_; refine XC.region ?_; refine XO.move rfl rfl ?_; refine XO.add rfl rfl (wrap_i64 (by omega) (by omega)) rfl ?_; refine XO.assign rfl rfl ?_; refine XO.nil ?_; refine loop_next (k + 1) (by show (l.length + 1) - (k + 1) < (l.length + 1) - k; omega) (prov_cons (rfl) (prov_cons (rfl) (prov_cons (rfl) prov_nil))) (⟨by show k + 1 ≤ (l.length + 1); omega, rfl, rise_y hr hxX hxY (by omega), hLH⟩) (by repeat (first | exact List.Sublist.refl _ | apply List.Sublist.cons_cons | apply List.Sublist.cons)) (hle0)
 ·skip
  refine XC.exit ?_; refine seqX_exit ?_; refine loopX_exit ?_; refine blockHit rfl ?_; refine XC.seq2 ?_; refine XC.seq ?_; refine XC.region ?_; refine XO.assign rfl rfl ?_; refine XO.nil ?_; refine XC.seq2 ?_; refine XC.ret ?_; refine ⟨rfl, _, [], rfl, (by repeat (first | exact List.Sublist.refl _ | apply List.Sublist.cons)), RetR.mk ?_⟩
  first | exact congrArg Value.bool (rise_n hr hxX hxY (by omega)) | exact congrArg Value.bool (rise_e hr (by omega))

theorem slotcmp_fn (l m : List Card) (a b : Option Addr) (c d : Nat) (H : Hp) (hs : SlR cardR H a c l) (ht : SlR cardR H b d m) (hl : 0 < l.length) (hm : 0 < m.length) : FnC Try.prog 33 #[.agg ⟨[.slice a l.length c]⟩, .agg ⟨[.slice b m.length d]⟩] H [] (RetR (fun v _ _ => v = .int .i64 (plq l m))) := by
 refine FnC.intro (args := [.agg ⟨[.slice a l.length c]⟩, .agg ⟨[.slice b m.length d]⟩]) Try.func33 rfl rfl Try.ntmps33 rfl rfl rfl fun G rest => ?_
 refine XC.seq ?_; refine XC.region ?_; refine XO.box rfl rfl rfl (fun b2 => ?_); refine XO.box rfl rfl rfl (fun b3 => ?_); refine XO.assign rfl rfl ?_; refine XO.nil ?_; refine XC.seq2 ?_; refine XC.seq ?_; refine XC.keep [2, 3] rfl ?_; obtain ⟨bEX, oEX, rfl⟩ := hs.addr (by omega); obtain ⟨_, xX, hxX, ⟨axX, cxX, rfl, hdX, hDX⟩, hpX⟩ := hs.elem (0) (by omega); obtain ⟨bEY, oEY, rfl⟩ := ht.addr (by omega); obtain ⟨_, xY, hxY, ⟨axY, cxY, rfl, hdY, hDY⟩, hpY⟩ := ht.elem (0) (by omega); obtain rfl := hd_at hxX; obtain rfl := hd_at hxY
 apply XC.drawM (fun _ => True) trivial [10, 11] (by decide) [(12, 10)] (fun _ v p _ => v = .pointer (some ⟨p.1, 0, none⟩) ∧ p.2 = .cells 55 [.int .i64 0, .int .i64 0, .int .i64 0]) (fun _ v p _ => v = .pointer (some ⟨p.1, 0, none⟩) ∧ p.2 = .cells 55 [.int .i64 (hd l).R, .int .i64 (hd l).E, .int .i64 (hd l).J]) (fun _ _ _ _ _ _ h => h) (fun _ _ _ _ _ _ h => h) 13 [eqF _, eqF _, eqF _, eqF _, eqF _, eqF _, eqF _, eqF _, eqF _, eqF _, anyF, anyF, anyF] follows (by kernel_rfl) ⟨eqF_mono _, eqF_mono _, eqF_mono _, eqF_mono _, eqF_mono _, eqF_mono _, eqF_mono _, eqF_mono _, eqF_mono _, eqF_mono _, anyF_mono, anyF_mono, anyF_mono, trivial⟩ (by decide) (by kernel_rfl) ?steps1 ?tail1
 case steps1 =>
  refine stepsM_cons rfl rfl ?_ ?_
  ·intro X ext HD hleD _
   replace hs := hs.mono hleD; replace ht := ht.mono hleD; replace hpX := hpX.mono hleD; replace hdX := hdX.mono hleD; replace hpY := hpY.mono hleD; replace hdY := hdY.mono hleD; refine withP_nil rfl ?_; refine XO.fieldAddr rfl fa_50_0 rfl ?_; refine XO.nil ?_; exact stepQN_ok rfl trivial (rfl)
  refine stepsM_cons rfl rfl ?_ ?_
  ·intro X ext HD hleD _
   replace hs := hs.mono hleD; replace ht := ht.mono hleD; replace hpX := hpX.mono hleD; replace hdX := hdX.mono hleD; replace hpY := hpY.mono hleD; replace hdY := hdY.mono hleD; refine withP_cons rfl rfl ?_; rintro _ rfl; refine withP_nil rfl ?_; refine XO.loadO 1 rfl rfl ty_31 rfl rfl rfl ?_; refine XO.nil ?_; exact stepQN_ok rfl trivial (rfl)
  refine stepsM_cons rfl rfl ?_ ?_
  ·intro X ext HD hleD _
   replace hs := hs.mono hleD; replace ht := ht.mono hleD; replace hpX := hpX.mono hleD; replace hdX := hdX.mono hleD; replace hpY := hpY.mono hleD; replace hdY := hdY.mono hleD; refine withP_cons rfl rfl ?_; rintro _ rfl; refine withP_nil rfl ?_; refine XO.indexE rfl rfl Try.underlying31 ty_27 (by omega) (by omega) rfl ?_; refine XO.nil ?_; exact stepQN_ok rfl trivial (rfl)
  refine stepsM_cons rfl rfl ?_ ?_
  ·intro X ext HD hleD _
   replace hs := hs.mono hleD; replace ht := ht.mono hleD; replace hpX := hpX.mono hleD; replace hdX := hdX.mono hleD; replace hpY := hpY.mono hleD; replace hdY := hdY.mono hleD; refine withP_cons rfl rfl ?_; rintro _ rfl; refine withP_nil rfl ?_; refine XO.loadH rfl (by assumption) ty_27 rfl rfl rfl ?_; refine XO.nil ?_; exact stepQN_ok rfl trivial (rfl)
  refine stepsM_cons rfl rfl ?_ ?_
  ·intro X ext HD hleD _
   replace hs := hs.mono hleD; replace ht := ht.mono hleD; replace hpX := hpX.mono hleD; replace hdX := hdX.mono hleD; replace hpY := hpY.mono hleD; replace hdY := hdY.mono hleD; refine withP_cons rfl rfl ?_; rintro _ rfl; refine withP_nil rfl ?_; refine XO.callV rfl (at_fn (hd l) _ _ _ hdX hDX) rfl ?_; refine XO.nil ?_; exact stepQN_ok rfl trivial (rfl)
  refine stepsM_cons rfl rfl ?_ ?_
  ·intro X ext HD hleD _
   replace hs := hs.mono hleD; replace ht := ht.mono hleD; replace hpX := hpX.mono hleD; replace hdX := hdX.mono hleD; replace hpY := hpY.mono hleD; replace hdY := hdY.mono hleD; refine withP_nil rfl ?_; refine XO.fieldAddr rfl fa_50_0 rfl ?_; refine XO.nil ?_; exact stepQN_ok rfl trivial (rfl)
  refine stepsM_cons rfl rfl ?_ ?_
  ·intro X ext HD hleD _
   replace hs := hs.mono hleD; replace ht := ht.mono hleD; replace hpX := hpX.mono hleD; replace hdX := hdX.mono hleD; replace hpY := hpY.mono hleD; replace hdY := hdY.mono hleD; refine withP_cons rfl rfl ?_; rintro _ rfl; refine withP_nil rfl ?_; refine XO.loadO 0 rfl rfl ty_31 rfl rfl rfl ?_; refine XO.nil ?_; exact stepQN_ok rfl trivial (rfl)
  refine stepsM_cons rfl rfl ?_ ?_
  ·intro X ext HD hleD _
   replace hs := hs.mono hleD; replace ht := ht.mono hleD; replace hpX := hpX.mono hleD; replace hdX := hdX.mono hleD; replace hpY := hpY.mono hleD; replace hdY := hdY.mono hleD; refine withP_cons rfl rfl ?_; rintro _ rfl; refine withP_nil rfl ?_; refine XO.indexE rfl rfl Try.underlying31 ty_27 (by omega) (by omega) rfl ?_; refine XO.nil ?_; exact stepQN_ok rfl trivial (rfl)
  refine stepsM_cons rfl rfl ?_ ?_
  ·intro X ext HD hleD _
   replace hs := hs.mono hleD; replace ht := ht.mono hleD; replace hpX := hpX.mono hleD; replace hdX := hdX.mono hleD; replace hpY := hpY.mono hleD; replace hdY := hdY.mono hleD; refine withP_cons rfl rfl ?_; rintro _ rfl; refine withP_nil rfl ?_; refine XO.loadH rfl (by assumption) ty_27 rfl rfl rfl ?_; refine XO.nil ?_; exact stepQN_ok rfl trivial (rfl)
  refine stepsM_cons rfl rfl ?_ ?_
  ·intro X ext HD hleD _
   replace hs := hs.mono hleD; replace ht := ht.mono hleD; replace hpX := hpX.mono hleD; replace hdX := hdX.mono hleD; replace hpY := hpY.mono hleD; replace hdY := hdY.mono hleD; refine withP_cons rfl rfl ?_; rintro _ rfl; refine withP_nil rfl ?_; refine XO.callV rfl (at_fn (hd m) _ _ _ hdY hDY) rfl ?_; refine XO.nil ?_; exact stepQN_ok rfl trivial (rfl)
  refine stepsM_cons rfl rfl ?_ ?_
  ·intro X ext HD hleD _
   replace hs := hs.mono hleD; replace ht := ht.mono hleD; replace hpX := hpX.mono hleD; replace hdX := hdX.mono hleD; replace hpY := hpY.mono hleD; replace hdY := hdY.mono hleD; refine withP_nil rfl ?_; refine XO.alloc ze_55 rfl (fun b5 => ?_); refine XO.nil ?_
   exact stepQN_new rfl trivial trivial (⟨rfl, rfl⟩)
  refine stepsM_cons rfl rfl ?_ ?_
  ·intro X ext HD hleD _
   replace hs := hs.mono hleD; replace ht := ht.mono hleD; replace hpX := hpX.mono hleD; replace hdX := hdX.mono hleD; replace hpY := hpY.mono hleD; replace hdY := hdY.mono hleD; refine withP_nil rfl ?_; refine XO.alloc ze_55 rfl (fun b6 => ?_); refine XO.nil ?_
   exact stepQN_new rfl trivial trivial (⟨rfl, rfl⟩)
  refine stepsM_mod rfl rfl ?_ ?_
  ·intro X ext p HD hleD _
   replace hs := hs.mono hleD; replace ht := ht.mono hleD; replace hpX := hpX.mono hleD; replace hdX := hdX.mono hleD; replace hpY := hpY.mono hleD; replace hdY := hdY.mono hleD; refine withP_cons rfl rfl ?_; rintro _ _; refine withP_cons rfl rfl ?_; rintro _ rfl; refine withP_nil rfl ?_
   intro hfo
   obtain ⟨be10, se10⟩ := p; obtain ⟨rfl, hse10⟩ := hfo _ _ rfl rfl
   simp only at hse10
   subst hse10
   refine XO.storeO 0 rfl rfl rfl rfl ty_55 rfl rfl rfl rfl rfl ?_; refine XO.nil ?_
   exact stepQM_ok trivial (trivial) (fun u t h1 h2 => by cases (show some _ = some t from h1); cases (show some (Value.pointer _) = some u from h2); exact ⟨rfl, rfl⟩)
  exact stepsM_end rfl
 case tail1 =>
  intro HD hleD _
  replace hs := hs.mono hleD; replace ht := ht.mono hleD; replace hpX := hpX.mono hleD; replace hdX := hdX.mono hleD; replace hpY := hpY.mono hleD; replace hdY := hdY.mono hleD; refine withP_cons rfl rfl ?_; rintro _ rfl; refine withP_cons rfl rfl ?_; rintro _ rfl; refine withP_cons rfl rfl ?_; rintro _ rfl; refine withP_cons rfl rfl ?_; rintro _ rfl; refine withP_cons rfl rfl ?_; rintro _ rfl; refine withP_cons rfl rfl ?_; rintro _ rfl; refine withP_cons rfl rfl ?_; rintro _ rfl; refine withP_cons rfl rfl ?_; rintro _ rfl; refine withP_cons rfl rfl ?_; rintro _ rfl; refine withP_cons rfl rfl ?_; rintro _ rfl; refine withP_cons rfl rfl ?_; rintro _ _; refine withP_cons rfl rfl ?_; rintro _ _; refine withP_skip rfl rfl ?_; refine withP_nil rfl ?_; refine withEnts_cons ?_
  intro pk10 hpk10
  obtain ⟨rfl, hpk10b⟩ := hpk10 _ ⟨_, rfl, rfl⟩; obtain ⟨be10, se10⟩ := pk10
  simp only at hpk10b
  subst hpk10b
  refine withEnts_cons ?_
  intro pk11 hpk11
  obtain ⟨rfl, hpk11b⟩ := hpk11 _ ⟨_, rfl, rfl⟩; obtain ⟨be11, se11⟩ := pk11
  simp only at hpk11b
  subst hpk11b
  refine withEnts_nil ?_; refine XO.storeO 1 rfl rfl rfl rfl ty_55 rfl rfl rfl rfl rfl ?_; refine XO.nil ?_; refine XC.seq2 ?_; refine XC.seq ?_; refine XC.keep [5, 6] rfl ?_; refine XC.publish 0 rfl rfl rfl (fun HK5 oK5 hleK5 hbK5 hoK5 => ?_)
  have hpK5 := PtH.of_is hbK5 hoK5
  replace hs := hs.mono hleK5; replace ht := ht.mono hleK5; replace hpX := hpX.mono hleK5; replace hdX := hdX.mono hleK5; replace hpY := hpY.mono hleK5; replace hdY := hdY.mono hleK5; refine XC.publish 0 rfl rfl rfl (fun HK6 oK6 hleK6 hbK6 hoK6 => ?_)
  have hpK6 := PtH.of_is hbK6 hoK6
  replace hs := hs.mono hleK6; replace ht := ht.mono hleK6; replace hpX := hpX.mono hleK6; replace hdX := hdX.mono hleK6; replace hpY := hpY.mono hleK6; replace hdY := hdY.mono hleK6; replace hpK5 := hpK5.mono hleK6
  have hP5 := SlR.of_pt (k := .i64) (l := plcL (hd l)) hpK5
  have hP6 := SlR.of_pt (k := .i64) (l := plcL (hd m)) hpK6
  apply XC.draw 2 [eqF _, eqF _] follows (by kernel_rfl) (by kernel_rfl) ⟨eqF_mono _, eqF_mono _, trivial⟩ ?steps6 ?tail6
  case steps6 =>
   refine stepsK_cons rfl ?_ ?_
   ·intro X
    refine withPreds_nil rfl ?_; refine XO.sliceArr rfl Try.underlying55 ty_3 rfl ?_; refine XO.nil ?_
    exact stepQ_ok rfl (rfl)
   refine stepsK_cons rfl ?_ ?_
   ·intro X
    refine withPreds_nil rfl ?_; refine XO.sliceArr rfl Try.underlying55 ty_3 rfl ?_; refine XO.nil ?_
    exact stepQ_ok rfl (rfl)
   exact stepsD_end rfl
  case tail6 =>
   refine withPreds_cons rfl rfl ?_; rintro _ rfl; refine withPreds_cons rfl rfl ?_; rintro _ rfl; refine withPreds_nil rfl ?_; refine XO.callV rfl (compare_fn _ _ _ _ (plcL (hd l)) (plcL (hd m)) _ hP5 hP6 (show (3 : Nat) < 9223372036854775808 by decide) (show (3 : Nat) < 9223372036854775808 by decide)) rfl ?_; refine XO.assign rfl rfl ?_; refine XO.nil ?_; refine XC.seq2 ?_; refine XC.ret ?_; refine ⟨rfl, _, [], rfl, (by repeat (first | exact List.Sublist.refl _ | apply List.Sublist.cons)), RetR.mk ?_⟩
   rfl

theorem riseB_fn (a : Option Addr) (c : Nat) (l : Box) (H : Hp) (hs : SlR (slR cardR) H a c l) (hl : l.length < 9223372036854775808) (g : Value) (hg : ∀ (x y : List Card) (ax ay : Option Addr) (cx cy : Nat) (H2 : Hp), Le H H2 → x ∈ l → y ∈ l → SlR cardR H2 ax cx x → SlR cardR H2 ay cy y → FnV Try.prog g [.agg ⟨[.slice ax x.length cx]⟩, .agg ⟨[.slice ay y.length cy]⟩] H2 [] (RetR fun v _ _ => v = .int .i64 (plq x y))) : FnC Try.prog 32 #[.slice a l.length c, g] H [] (RetR (fun v _ _ => v = .bool (riseG plq l))) := by
 refine FnC.intro (args := [.slice a l.length c, g]) Try.func32 rfl rfl Try.ntmps32 rfl rfl rfl fun G rest => ?_
 refine XC.seq ?_; refine XC.region ?_; refine XO.assign rfl rfl ?_; refine XO.nil ?_; refine XC.seq2 ?_; refine XC.seq ?_; refine XC.seq ?_; refine XC.region ?_; refine XO.assign rfl rfl ?_; refine XO.nil ?_; refine XC.seq2 ?_; refine XC.block ?_; refine XC.keep [5, 0, 1] rfl ?_; refine XC.loop (base := [(0, _), (1, _)]) (fun ζ : Nat => [(5, .int .i64 ((ζ + 1 : Nat) : Int))]) (fun ζ Hl own => ζ ≤ (l.length + 1) ∧ rest = own ∧ (riseG plq l = riseG plq (l.drop (ζ))) ∧ (LeW H Hl)) (fun ζ => (l.length + 1) - ζ) 0 (prov_cons (rfl) (prov_cons (rfl) (prov_cons (rfl) prov_nil))) (by repeat (first | exact List.Sublist.refl _ | apply List.Sublist.cons_cons | apply List.Sublist.cons)) ⟨Nat.zero_le _, rfl, rfl, Le.refl _⟩ ?_; rintro k Hl0 _ hle0 ⟨hkk, rfl, hr, hLH⟩; replace hs := hs.mono hle0
 try dsimp only at ⊢
 refine XC.seq ?_; refine XC.seq ?_; refine XC.region ?_; refine XO.move rfl rfl ?_; refine XO.move rfl rfl ?_; refine XO.lenS (ts := #[]) rfl Try.underlying22 rfl ?_; refine XO.lss rfl rfl rfl ?_; refine XO.nil ?_; refine XC.seq2 ?_; refine XC.cond rfl (fun c0_1 => ?_) (fun c0_1 => ?_)
 ·refine XC.skip ?_; refine XC.seq2 ?_; refine XC.seq ?_; refine XC.block ?_; refine XC.seq ?_; refine XC.keep [0, 1, 5] rfl ?_; obtain ⟨bEX, oEX, rfl⟩ := hs.addr (by omega); obtain ⟨_, xX, hxX, ⟨axX, cxX, rfl, hdX⟩, hpX⟩ := hs.elem (k) (by omega); obtain ⟨_, xY, hxY, ⟨axY, cxY, rfl, hdY⟩, hpY⟩ := hs.elem (k + 1) (by omega)
  apply XC.drawG (fun _ => True) trivial 10 [eqF _, eqF _, eqF _, eqF _, eqF _, eqF _, eqF _, eqF _, eqF _, eqF _] follows (by kernel_rfl) (by kernel_rfl) ⟨eqF_mono _, eqF_mono _, eqF_mono _, eqF_mono _, eqF_mono _, eqF_mono _, eqF_mono _, eqF_mono _, eqF_mono _, eqF_mono _, trivial⟩ ?steps2 ?tail2
  case steps2 =>
   refine stepsD_cons rfl ?_ ?_
   ·intro X HD hleD _
    replace hs := hs.mono hleD; replace hLH := hLH.mono hleD; replace hpX := hpX.mono hleD; replace hdX := hdX.mono hleD; replace hpY := hpY.mono hleD; replace hdY := hdY.mono hleD; replace hle0 := hle0.trans hleD; refine withPreds_nil rfl ?_; refine XO.move rfl rfl ?_; refine XO.nil ?_
    exact stepQ_ok trivial (rfl)
   refine stepsD_cons rfl ?_ ?_
   ·intro X HD hleD _
    replace hs := hs.mono hleD; replace hLH := hLH.mono hleD; replace hpX := hpX.mono hleD; replace hdX := hdX.mono hleD; replace hpY := hpY.mono hleD; replace hdY := hdY.mono hleD; replace hle0 := hle0.trans hleD; refine withPreds_nil rfl ?_; refine XO.move rfl rfl ?_; refine XO.nil ?_
    exact stepQ_ok trivial (rfl)
   refine stepsD_cons rfl ?_ ?_
   ·intro X HD hleD _
    replace hs := hs.mono hleD; replace hLH := hLH.mono hleD; replace hpX := hpX.mono hleD; replace hdX := hdX.mono hleD; replace hpY := hpY.mono hleD; replace hdY := hdY.mono hleD; replace hle0 := hle0.trans hleD; refine withPreds_nil rfl ?_; refine XO.move rfl rfl ?_; refine XO.nil ?_
    exact stepQ_ok trivial (rfl)
   refine stepsD_cons rfl ?_ ?_
   ·intro X HD hleD _
    replace hs := hs.mono hleD; replace hLH := hLH.mono hleD; replace hpX := hpX.mono hleD; replace hdX := hdX.mono hleD; replace hpY := hpY.mono hleD; replace hdY := hdY.mono hleD; replace hle0 := hle0.trans hleD; refine withPreds_cons rfl rfl ?_; rintro _ rfl; refine withPreds_nil rfl ?_; refine XO.sub (c := ((k : Nat) : Int)) rfl rfl ((wrap_i64 (by omega) (by omega)).trans (by omega)) rfl ?_; refine XO.nil ?_
    exact stepQ_ok trivial (rfl)
   refine stepsD_cons rfl ?_ ?_
   ·intro X HD hleD _
    replace hs := hs.mono hleD; replace hLH := hLH.mono hleD; replace hpX := hpX.mono hleD; replace hdX := hdX.mono hleD; replace hpY := hpY.mono hleD; replace hdY := hdY.mono hleD; replace hle0 := hle0.trans hleD; refine withPreds_cons rfl rfl ?_; rintro _ rfl; refine withPreds_cons rfl rfl ?_; rintro _ rfl; refine withPreds_nil rfl ?_; refine XO.indexE rfl rfl Try.underlying22 ty_50 (by omega) (by omega) rfl ?_; refine XO.nil ?_
    exact stepQ_ok trivial (rfl)
   refine stepsD_cons rfl ?_ ?_
   ·intro X HD hleD _
    replace hs := hs.mono hleD; replace hLH := hLH.mono hleD; replace hpX := hpX.mono hleD; replace hdX := hdX.mono hleD; replace hpY := hpY.mono hleD; replace hdY := hdY.mono hleD; replace hle0 := hle0.trans hleD; refine withPreds_cons rfl rfl ?_; rintro _ rfl; refine withPreds_nil rfl ?_; refine XO.loadH rfl (by assumption) ty_50 rfl rfl rfl ?_; refine XO.nil ?_
    exact stepQ_ok trivial (rfl)
   refine stepsD_cons rfl ?_ ?_
   ·intro X HD hleD _
    replace hs := hs.mono hleD; replace hLH := hLH.mono hleD; replace hpX := hpX.mono hleD; replace hdX := hdX.mono hleD; replace hpY := hpY.mono hleD; replace hdY := hdY.mono hleD; replace hle0 := hle0.trans hleD; refine withPreds_nil rfl ?_; refine XO.move rfl rfl ?_; refine XO.nil ?_
    exact stepQ_ok trivial (rfl)
   refine stepsD_cons rfl ?_ ?_
   ·intro X HD hleD _
    replace hs := hs.mono hleD; replace hLH := hLH.mono hleD; replace hpX := hpX.mono hleD; replace hdX := hdX.mono hleD; replace hpY := hpY.mono hleD; replace hdY := hdY.mono hleD; replace hle0 := hle0.trans hleD; refine withPreds_nil rfl ?_; refine XO.move rfl rfl ?_; refine XO.nil ?_
    exact stepQ_ok trivial (rfl)
   refine stepsD_cons rfl ?_ ?_
   ·intro X HD hleD _
    replace hs := hs.mono hleD; replace hLH := hLH.mono hleD; replace hpX := hpX.mono hleD; replace hdX := hdX.mono hleD; replace hpY := hpY.mono hleD; replace hdY := hdY.mono hleD; replace hle0 := hle0.trans hleD; refine withPreds_cons rfl rfl ?_; rintro _ rfl; refine withPreds_cons rfl rfl ?_; rintro _ rfl; refine withPreds_nil rfl ?_; refine XO.indexE rfl rfl Try.underlying22 ty_50 (by omega) (by omega) rfl ?_; refine XO.nil ?_
    exact stepQ_ok trivial (rfl)
   refine stepsD_cons rfl ?_ ?_
   ·intro X HD hleD _
    replace hs := hs.mono hleD; replace hLH := hLH.mono hleD; replace hpX := hpX.mono hleD; replace hdX := hdX.mono hleD; replace hpY := hpY.mono hleD; replace hdY := hdY.mono hleD; replace hle0 := hle0.trans hleD; refine withPreds_cons rfl rfl ?_; rintro _ rfl; refine withPreds_nil rfl ?_; refine XO.loadH rfl (by assumption) ty_50 rfl rfl rfl ?_; refine XO.nil ?_
    exact stepQ_ok trivial (rfl)
   exact stepsD_end rfl
  case tail2 =>
   intro HD hleD _
   replace hs := hs.mono hleD; replace hLH := hLH.mono hleD; replace hpX := hpX.mono hleD; replace hdX := hdX.mono hleD; replace hpY := hpY.mono hleD; replace hdY := hdY.mono hleD; replace hle0 := hle0.trans hleD; refine withPreds_cons rfl rfl ?_; rintro _ rfl; refine withPreds_cons rfl rfl ?_; rintro _ rfl; refine withPreds_cons rfl rfl ?_; rintro _ rfl; refine withPreds_cons rfl rfl ?_; rintro _ rfl; refine withPreds_cons rfl rfl ?_; rintro _ rfl; refine withPreds_cons rfl rfl ?_; rintro _ rfl; refine withPreds_cons rfl rfl ?_; rintro _ rfl; refine withPreds_cons rfl rfl ?_; rintro _ rfl; refine withPreds_cons rfl rfl ?_; rintro _ rfl; refine withPreds_cons rfl rfl ?_; rintro _ rfl; refine withPreds_nil rfl ?_; refine XO.callVH rfl trivial rfl (hg xX xY _ _ _ _ _ hLH (List.mem_of_getElem? hxX) (List.mem_of_getElem? hxY) hdX hdY) rfl ?_; rintro _ HN oN hleN rfl; replace hs := hs.mono hleN; replace hLH := hLH.mono hleN; replace hpX := hpX.mono hleN; replace hdX := hdX.mono hleN; replace hpY := hpY.mono hleN; replace hdY := hdY.mono hleN; replace hle0 := hle0.trans hleN; refine XO.geq rfl rfl rfl ?_; refine XO.nil ?_; refine XC.seq2 ?_; refine XC.cond rfl (fun c1_6 => ?_) (fun c1_6 => ?_)
   ·refine XC.seq ?_; refine XC.region ?_; refine XO.assign rfl rfl ?_; refine XO.nil ?_; refine XC.seq2 ?_; refine XC.ret ?_; refine blockR ?_; refine seqX_ret ?_; refine loopX_ret ?_; refine blockR ?_; refine seqX_ret ?_; refine ⟨rfl, _, [], rfl, (by repeat (first | exact List.Sublist.refl _ | apply List.Sublist.cons)), RetR.mk ?_⟩
    first | exact congrArg Value.bool (rise_n hr hxX hxY (by omega)) | exact congrArg Value.bool (rise_e hr (by omega))
   ·refine XC.skip ?_; refine blockN ?_; refine XC.seq2 ?_; refine XC.region ?_; refine XO.move rfl rfl ?_; refine XO.add rfl rfl (wrap_i64 (by omega) (by omega)) rfl ?_; refine XO.assign rfl rfl ?_; refine XO.nil ?_; refine loop_next (k + 1) (by show (l.length + 1) - (k + 1) < (l.length + 1) - k; omega) (prov_cons (rfl) (prov_cons (rfl) (prov_cons (rfl) prov_nil))) (⟨by show k + 1 ≤ (l.length + 1); omega, rfl, rise_y hr hxX hxY (by omega), hLH⟩) (by repeat (first | exact List.Sublist.refl _ | apply List.Sublist.cons_cons | apply List.Sublist.cons)) (hle0)
 ·skip
  refine XC.exit ?_; refine seqX_exit ?_; refine loopX_exit ?_; refine blockHit rfl ?_; refine XC.seq2 ?_; refine XC.seq ?_; refine XC.region ?_; refine XO.assign rfl rfl ?_; refine XO.nil ?_; refine XC.seq2 ?_; refine XC.ret ?_; refine ⟨rfl, _, [], rfl, (by repeat (first | exact List.Sublist.refl _ | apply List.Sublist.cons)), RetR.mk ?_⟩
  first | exact congrArg Value.bool (rise_n hr hxX hxY (by omega)) | exact congrArg Value.bool (rise_e hr (by omega))

theorem check_b (a : Option Addr) (c : Nat) (l : Box) (H : Hp) (hs : SlR (slR cardR) H a c l) (hl : l.length < 9223372036854775808) (hlx : ∀ x ∈ l, x.length < 9223372036854775808) (hlc : ∀ x ∈ l, ∀ s ∈ x, s.C.length < 9223372036854775808) : FnC Try.prog 13 #[.slice a l.length c] H [] (RetR (fun v _ _ => v = .int .i64 (chkB l))) := by
 refine FnC.intro (args := [.slice a l.length c]) Try.func13 rfl rfl Try.ntmps13 rfl rfl rfl fun G rest => ?_
 refine XC.seq ?_; refine XC.region ?_; refine XO.assign rfl rfl ?_; refine XO.nil ?_; refine XC.seq2 ?_; refine XC.seq ?_; refine XC.seq ?_; refine XC.region ?_; refine XO.move rfl rfl ?_; refine XO.lenS (ts := #[]) rfl Try.underlying22 rfl ?_; refine XO.gtr rfl rfl rfl ?_; refine XO.nil ?_; refine XC.seq2 ?_; refine XC.cond rfl (fun c0_1 => ?_) (fun c0_1 => ?_)
 ·refine XC.seq ?_; refine XC.region ?_; refine XO.assign rfl rfl ?_; refine XO.nil ?_; refine XC.seq2 ?_; refine XC.ret ?_; refine seqX_ret ?_; refine ⟨rfl, _, [], rfl, (by repeat (first | exact List.Sublist.refl _ | apply List.Sublist.cons)), RetR.mk ?_⟩
  first | exact congrArg (Value.int .i64) (bchk_2 (by omega)).symm | exact congrArg (Value.int .i64) (bchk_s (by omega) (List.mem_of_getElem? hx14) (slot_nl (by omega))).symm | exact congrArg (Value.int .i64) (bchk_s (by omega) (List.mem_of_getElem? hx14) (slot_nc (List.mem_of_getElem? hx31) hok)).symm | exact congrArg (Value.int .i64) (bchk_s (by omega) (List.mem_of_getElem? hx14) (slot_np (List.mem_of_getElem? hx31) (by assumption))).symm | exact congrArg (Value.int .i64) (bchk_s (by omega) (List.mem_of_getElem? hx14) (slot_nr (by simpa using (show (!riseG ordC x14) = true by assumption)))).symm | exact congrArg (Value.int .i64) (bchk_r (by omega) (by simpa using (show (!riseG plq l) = true by assumption))).symm | exact congrArg (Value.int .i64) (bchk_0 (by omega) hall (by simpa using (show (!riseG plq l) = false by assumption))).symm
 ·refine XC.skip ?_; refine XC.seq2 ?_; refine XC.seq ?_; refine XC.seq ?_; refine XC.region ?_; refine XO.move rfl rfl ?_; refine XO.lenS (ts := #[]) rfl Try.underlying22 rfl ?_; refine XO.move rfl rfl ?_; refine XO.nil ?_; refine XC.seq2 ?_; refine XC.block ?_; refine XC.keep [12, 0, 10, 11] rfl ?_; refine XC.loop (base := [(0, _), (10, _), (11, _)]) (fun ζ : Nat => [(12, .int .i64 (ζ : Nat))]) (fun ζ Hl own => ζ ≤ l.length ∧ rest = own ∧ ((l.take (ζ)).all slotB = true)) (fun ζ => l.length - ζ) 0 (prov_cons (rfl) (prov_cons (rfl) (prov_cons (rfl) (prov_cons (rfl) prov_nil)))) (by repeat (first | exact List.Sublist.refl _ | apply List.Sublist.cons_cons | apply List.Sublist.cons)) ⟨Nat.zero_le _, rfl, rfl⟩ ?_; rintro i Hl0 _ hle0 ⟨hki, rfl, hall⟩; replace hs := hs.mono hle0
  try dsimp only at ⊢
  refine XC.seq ?_; refine XC.region ?_; refine XO.lss rfl rfl rfl ?_; refine XO.nil ?_; refine XC.seq2 ?_; refine XC.seq ?_; refine XC.cond rfl (fun c1_2 => ?_) (fun c1_2 => ?_)
  ·refine XC.skip ?_; refine XC.seq2 ?_; refine XC.seq ?_; refine XC.block ?_; refine XC.seq ?_; refine XC.region ?_; refine XO.indexN rfl hs rfl Try.underlying22 ty_50 (by omega) rfl ?_; rintro eb14 eo14 _ x14 hx14 ⟨ax14, cx14, rfl, hd14⟩ hp14; refine XO.loadH rfl (by assumption) ty_50 rfl rfl rfl ?_; refine XO.alloc ze_50 rfl (fun b4 => ?_); refine XO.storeO 0 rfl rfl rfl rfl ty_50 rfl rfl rfl rfl rfl ?_; refine XO.nil ?_; refine XC.seq2 ?_; refine XC.seq ?_; refine XC.seq ?_; refine XC.region ?_; refine XO.fieldAddr rfl fa_50_0 rfl ?_; refine XO.loadO 0 rfl rfl ty_31 rfl rfl rfl ?_; refine XO.lenS (ts := #[]) rfl Try.underlying31 rfl ?_; refine XO.lss rfl rfl rfl ?_; refine XO.move rfl rfl ?_; refine XO.guardC rfl rfl rfl rfl (fun g4 => ?_) (fun g4 => ?_)
   ·have g4p := of_decide_eq_false g4
    refine XO.fieldAddr rfl fa_50_0 rfl ?_; refine XO.guardT rfl rfl (g4) rfl ?_; refine XO.loadO 0 rfl rfl ty_31 rfl rfl rfl ?_; refine XO.guardT rfl rfl (g4) rfl ?_; refine XO.lenS (ts := #[]) rfl Try.underlying31 rfl ?_; refine XO.guardT rfl rfl (g4) rfl ?_; refine XO.gtr rfl rfl rfl ?_; refine XO.pickF rfl (g4) rfl rfl ?_; refine XO.nil ?_; refine XC.seq2 ?_; refine XC.cond rfl (fun c2_5 => ?_) (fun c2_5 => ?_)
    ·refine XC.seq ?_; refine XC.region ?_; refine XO.assign rfl rfl ?_; refine XO.nil ?_; refine XC.seq2 ?_; refine XC.ret ?_; refine seqX_ret ?_; refine blockR ?_; refine seqX_ret ?_; refine loopX_ret ?_; refine blockR ?_; refine seqX_ret ?_; refine ⟨rfl, _, [], rfl, (by repeat (first | exact List.Sublist.refl _ | apply List.Sublist.cons)), RetR.mk ?_⟩
     first | exact congrArg (Value.int .i64) (bchk_2 (by omega)).symm | exact congrArg (Value.int .i64) (bchk_s (by omega) (List.mem_of_getElem? hx14) (slot_nl (by omega))).symm | exact congrArg (Value.int .i64) (bchk_s (by omega) (List.mem_of_getElem? hx14) (slot_nc (List.mem_of_getElem? hx31) hok)).symm | exact congrArg (Value.int .i64) (bchk_s (by omega) (List.mem_of_getElem? hx14) (slot_np (List.mem_of_getElem? hx31) (by assumption))).symm | exact congrArg (Value.int .i64) (bchk_s (by omega) (List.mem_of_getElem? hx14) (slot_nr (by simpa using (show (!riseG ordC x14) = true by assumption)))).symm | exact congrArg (Value.int .i64) (bchk_r (by omega) (by simpa using (show (!riseG plq l) = true by assumption))).symm | exact congrArg (Value.int .i64) (bchk_0 (by omega) hall (by simpa using (show (!riseG plq l) = false by assumption))).symm
    ·refine XC.skip ?_; refine XC.seq2 ?_; refine XC.seq ?_; refine XC.seq ?_; refine XC.region ?_; refine XO.fieldAddr rfl fa_50_0 rfl ?_; refine XO.loadO 0 rfl rfl ty_31 rfl rfl rfl ?_; refine XO.lenS (ts := #[]) rfl Try.underlying31 rfl ?_; refine XO.move rfl rfl ?_; refine XO.nil ?_; refine XC.seq2 ?_; refine XC.block ?_; refine XC.keep [29, 0, 4, 10, 11, 12, 27, 28] rfl ?_; refine XC.loop (base := [(0, _), (4, _), (10, _), (11, _), (12, _), (27, _), (28, _)]) (fun ζ : Nat => [(29, .int .i64 (ζ : Nat))]) (fun ζ Hl own => ζ ≤ x14.length ∧ (b4, .cells 50 [.slice ax14 x14.length cx14]) :: rest = own ∧ (∀ s ∈ x14.take (ζ), okC s ∧ plcL s = plcL (hd x14))) (fun ζ => x14.length - ζ) 0 (prov_cons (rfl) (prov_cons (rfl) (prov_cons (rfl) (prov_cons (rfl) (prov_cons (rfl) (prov_cons (rfl) (prov_cons (rfl) (prov_cons (rfl) prov_nil)))))))) (by repeat (first | exact List.Sublist.refl _ | apply List.Sublist.cons_cons | apply List.Sublist.cons)) ⟨Nat.zero_le _, rfl, by simp⟩ ?_; rintro j Hl1 _ hle1 ⟨hkj, rfl, hcs⟩; replace hs := hs.mono hle1; replace hp14 := hp14.mono hle1; replace hd14 := hd14.mono hle1; replace hle0 := hle0.trans hle1
     try dsimp only at ⊢
     refine XC.seq ?_; refine XC.region ?_; refine XO.lss rfl rfl rfl ?_; refine XO.nil ?_; refine XC.seq2 ?_; refine XC.seq ?_; refine XC.cond rfl (fun c3_6 => ?_) (fun c3_6 => ?_)
     ·refine XC.skip ?_; refine XC.seq2 ?_; refine XC.seq ?_; refine XC.block ?_; refine XC.seq ?_; refine XC.region ?_; refine XO.indexN rfl hd14 rfl Try.underlying31 ty_27 (by omega) rfl ?_; rintro eb31 eo31 _ x31 hx31 ⟨ax31, cx31, rfl, hd31, hD31⟩ hp31; refine XO.loadH rfl (by assumption) ty_27 rfl rfl rfl ?_; refine XO.alloc ze_27 rfl (fun b6 => ?_); refine XO.storeO 0 rfl rfl rfl rfl ty_27 rfl rfl rfl rfl rfl ?_; refine XO.nil ?_; refine XC.seq2 ?_; refine XC.seq ?_
      by_cases hok : okC x31
      ·skip
       refine XC.keep [0, 4, 6, 10, 11, 12, 27, 28, 29] rfl ?_; obtain ⟨bEH, oEH, rfl⟩ := hd14.addr (by omega); obtain ⟨_, xH, hxH, ⟨axH, cxH, rfl, hdH, hDH⟩, hpH⟩ := hd14.elem (0) (by omega); obtain rfl := hd_at hxH
       apply XC.drawH (fun _ => True) trivial [] (by decide) (fun _ _ _ _ => True) (fun _ _ _ _ _ _ h => h) 10 [eqF _, eqF _, eqF _, eqF _, eqF _, eqF _, eqF _, eqF _, eqF _, eqF _] follows (by kernel_rfl) ⟨eqF_mono _, eqF_mono _, eqF_mono _, eqF_mono _, eqF_mono _, eqF_mono _, eqF_mono _, eqF_mono _, eqF_mono _, eqF_mono _, trivial⟩ (by decide) ?steps8 ?tail8
       case steps8 =>
        refine stepsH_cons rfl ?_ ?_
        ·intro X ext HD hleD _
         replace hs := hs.mono hleD; replace hp14 := hp14.mono hleD; replace hd14 := hd14.mono hleD; replace hp31 := hp31.mono hleD; replace hd31 := hd31.mono hleD; replace hpH := hpH.mono hleD; replace hdH := hdH.mono hleD; replace hle0 := hle0.trans hleD; replace hle1 := hle1.trans hleD; refine withP_nil rfl ?_; refine XO.loadO 0 rfl rfl ty_27 rfl rfl rfl ?_; refine XO.nil ?_; exact stepQN_ok rfl trivial (rfl)
        refine stepsH_cons rfl ?_ ?_
        ·intro X ext HD hleD _
         replace hs := hs.mono hleD; replace hp14 := hp14.mono hleD; replace hd14 := hd14.mono hleD; replace hp31 := hp31.mono hleD; replace hd31 := hd31.mono hleD; replace hpH := hpH.mono hleD; replace hdH := hdH.mono hleD; replace hle0 := hle0.trans hleD; replace hle1 := hle1.trans hleD; refine withP_cons rfl rfl ?_; rintro _ rfl; refine withP_nil rfl ?_; refine XO.callV rfl (selcheck_fn x31 _ _ _ hd31 hD31 (hlc _ (List.mem_of_getElem? hx14) _ (List.mem_of_getElem? hx31))) rfl ?_; refine XO.nil ?_; exact stepQN_ok rfl trivial (rfl)
        refine stepsH_cons rfl ?_ ?_
        ·intro X ext HD hleD _
         replace hs := hs.mono hleD; replace hp14 := hp14.mono hleD; replace hd14 := hd14.mono hleD; replace hp31 := hp31.mono hleD; replace hd31 := hd31.mono hleD; replace hpH := hpH.mono hleD; replace hdH := hdH.mono hleD; replace hle0 := hle0.trans hleD; replace hle1 := hle1.trans hleD; refine withP_cons rfl rfl ?_; rintro _ rfl; refine withP_nil rfl ?_; refine XO.neq rfl rfl rfl ?_; refine XO.nil ?_; exact stepQN_ok rfl trivial (rfl)
        refine stepsH_cons rfl ?_ ?_
        ·intro X ext HD hleD _
         replace hs := hs.mono hleD; replace hp14 := hp14.mono hleD; replace hd14 := hd14.mono hleD; replace hp31 := hp31.mono hleD; replace hd31 := hd31.mono hleD; replace hpH := hpH.mono hleD; replace hdH := hdH.mono hleD; replace hle0 := hle0.trans hleD; replace hle1 := hle1.trans hleD; refine withP_cons rfl rfl ?_; rintro _ rfl; refine withP_nil rfl ?_; refine XO.move rfl rfl ?_; refine XO.nil ?_; exact stepQN_ok rfl trivial (rfl)
        refine stepsH_cons rfl ?_ ?_
        ·intro X ext HD hleD _
         replace hs := hs.mono hleD; replace hp14 := hp14.mono hleD; replace hd14 := hd14.mono hleD; replace hp31 := hp31.mono hleD; replace hd31 := hd31.mono hleD; replace hpH := hpH.mono hleD; replace hdH := hdH.mono hleD; replace hle0 := hle0.trans hleD; replace hle1 := hle1.trans hleD; refine withP_cons rfl rfl ?_; rintro _ rfl; refine withP_nil rfl ?_; refine XO.guardT rfl rfl (decide_eq_false (fun h => h (sel_iff.2 hok))) rfl ?_; refine XO.loadO 0 rfl rfl ty_27 rfl rfl rfl ?_; refine XO.nil ?_; exact stepQN_ok rfl trivial (rfl)
        refine stepsH_cons rfl ?_ ?_
        ·intro X ext HD hleD _
         replace hs := hs.mono hleD; replace hp14 := hp14.mono hleD; replace hd14 := hd14.mono hleD; replace hp31 := hp31.mono hleD; replace hd31 := hd31.mono hleD; replace hpH := hpH.mono hleD; replace hdH := hdH.mono hleD; replace hle0 := hle0.trans hleD; replace hle1 := hle1.trans hleD; refine withP_cons rfl rfl ?_; rintro _ rfl; refine withP_cons rfl rfl ?_; rintro _ rfl; refine withP_nil rfl ?_; refine XO.guardT rfl rfl (decide_eq_false (fun h => h (sel_iff.2 hok))) rfl ?_; refine XO.callV rfl (at_fn x31 _ _ _ hd31 hD31) rfl ?_; refine XO.nil ?_; exact stepQN_ok rfl trivial (rfl)
        refine stepsH_cons rfl ?_ ?_
        ·intro X ext HD hleD _
         replace hs := hs.mono hleD; replace hp14 := hp14.mono hleD; replace hd14 := hd14.mono hleD; replace hp31 := hp31.mono hleD; replace hd31 := hd31.mono hleD; replace hpH := hpH.mono hleD; replace hdH := hdH.mono hleD; replace hle0 := hle0.trans hleD; replace hle1 := hle1.trans hleD; refine withP_cons rfl rfl ?_; rintro _ rfl; refine withP_nil rfl ?_; refine XO.guardT rfl rfl (decide_eq_false (fun h => h (sel_iff.2 hok))) rfl ?_; refine XO.fieldAddr rfl fa_50_0 rfl ?_; refine XO.nil ?_; exact stepQN_ok rfl trivial (rfl)
        refine stepsH_cons rfl ?_ ?_
        ·intro X ext HD hleD _
         replace hs := hs.mono hleD; replace hp14 := hp14.mono hleD; replace hd14 := hd14.mono hleD; replace hp31 := hp31.mono hleD; replace hd31 := hd31.mono hleD; replace hpH := hpH.mono hleD; replace hdH := hdH.mono hleD; replace hle0 := hle0.trans hleD; replace hle1 := hle1.trans hleD; refine withP_cons rfl rfl ?_; rintro _ rfl; refine withP_cons rfl rfl ?_; rintro _ rfl; refine withP_nil rfl ?_; refine XO.guardT rfl rfl (decide_eq_false (fun h => h (sel_iff.2 hok))) rfl ?_; refine XO.loadO 1 rfl rfl ty_31 rfl rfl rfl ?_; refine XO.nil ?_; exact stepQN_ok rfl trivial (rfl)
        refine stepsH_cons rfl ?_ ?_
        ·intro X ext HD hleD _
         replace hs := hs.mono hleD; replace hp14 := hp14.mono hleD; replace hd14 := hd14.mono hleD; replace hp31 := hp31.mono hleD; replace hd31 := hd31.mono hleD; replace hpH := hpH.mono hleD; replace hdH := hdH.mono hleD; replace hle0 := hle0.trans hleD; replace hle1 := hle1.trans hleD; refine withP_cons rfl rfl ?_; rintro _ rfl; refine withP_cons rfl rfl ?_; rintro _ rfl; refine withP_nil rfl ?_; refine XO.guardT rfl rfl (decide_eq_false (fun h => h (sel_iff.2 hok))) rfl ?_; refine XO.indexE rfl rfl Try.underlying31 ty_27 (by omega) (by omega) rfl ?_; refine XO.nil ?_; exact stepQN_ok rfl trivial (rfl)
        refine stepsH_cons rfl ?_ ?_
        ·intro X ext HD hleD _
         replace hs := hs.mono hleD; replace hp14 := hp14.mono hleD; replace hd14 := hd14.mono hleD; replace hp31 := hp31.mono hleD; replace hd31 := hd31.mono hleD; replace hpH := hpH.mono hleD; replace hdH := hdH.mono hleD; replace hle0 := hle0.trans hleD; replace hle1 := hle1.trans hleD; refine withP_cons rfl rfl ?_; rintro _ rfl; refine withP_cons rfl rfl ?_; rintro _ rfl; refine withP_nil rfl ?_; refine XO.guardT rfl rfl (decide_eq_false (fun h => h (sel_iff.2 hok))) rfl ?_; refine XO.loadH rfl (by assumption) ty_27 rfl rfl rfl ?_; refine XO.nil ?_; exact stepQN_ok rfl trivial (rfl)
        exact stepsH_end rfl
       case tail8 =>
        intro HD hleD _
        replace hs := hs.mono hleD; replace hp14 := hp14.mono hleD; replace hd14 := hd14.mono hleD; replace hp31 := hp31.mono hleD; replace hd31 := hd31.mono hleD; replace hpH := hpH.mono hleD; replace hdH := hdH.mono hleD; replace hle0 := hle0.trans hleD; replace hle1 := hle1.trans hleD; refine withP_cons rfl rfl ?_; rintro _ rfl; refine withP_cons rfl rfl ?_; rintro _ rfl; refine withP_cons rfl rfl ?_; rintro _ rfl; refine withP_cons rfl rfl ?_; rintro _ rfl; refine withP_cons rfl rfl ?_; rintro _ rfl; refine withP_cons rfl rfl ?_; rintro _ rfl; refine withP_cons rfl rfl ?_; rintro _ rfl; refine withP_cons rfl rfl ?_; rintro _ rfl; refine withP_cons rfl rfl ?_; rintro _ rfl; refine withP_cons rfl rfl ?_; rintro _ rfl; refine withP_nil rfl ?_; refine withEnts_nil ?_; refine XO.guardT rfl rfl (decide_eq_false (fun h => h (sel_iff.2 hok))) rfl ?_; refine XO.callV rfl (at_fn (hd x14) _ _ _ hdH hDH) rfl ?_; refine XO.guardT rfl rfl (decide_eq_false (fun h => h (sel_iff.2 hok))) rfl ?_; refine XO.neqAr (l := plcL x31) (m := plcL (hd x14)) rfl rfl rfl rfl rfl rfl Try.underlying55 eg_55 Try.underlying3 ty_3 rfl ?_; refine XO.pickF rfl (decide_eq_false (fun h => h (sel_iff.2 hok))) rfl rfl ?_; refine XO.nil ?_; refine XC.seq2 ?_; refine XC.cond rfl (fun c4_14 => ?_) (fun c4_14 => ?_)
        ·refine XC.seq ?_; refine XC.region ?_; refine XO.assign rfl rfl ?_; refine XO.nil ?_; refine XC.seq2 ?_; refine XC.ret ?_; refine blockR ?_; refine seqX_ret ?_; refine loopX_ret ?_; refine blockR ?_; refine seqX_ret ?_; refine blockR ?_; refine seqX_ret ?_; refine loopX_ret ?_; refine blockR ?_; refine seqX_ret ?_; refine ⟨rfl, _, [], rfl, (by repeat (first | exact List.Sublist.refl _ | apply List.Sublist.cons)), RetR.mk ?_⟩
         first | exact congrArg (Value.int .i64) (bchk_2 (by omega)).symm | exact congrArg (Value.int .i64) (bchk_s (by omega) (List.mem_of_getElem? hx14) (slot_nl (by omega))).symm | exact congrArg (Value.int .i64) (bchk_s (by omega) (List.mem_of_getElem? hx14) (slot_nc (List.mem_of_getElem? hx31) hok)).symm | exact congrArg (Value.int .i64) (bchk_s (by omega) (List.mem_of_getElem? hx14) (slot_np (List.mem_of_getElem? hx31) (by assumption))).symm | exact congrArg (Value.int .i64) (bchk_s (by omega) (List.mem_of_getElem? hx14) (slot_nr (by simpa using (show (!riseG ordC x14) = true by assumption)))).symm | exact congrArg (Value.int .i64) (bchk_r (by omega) (by simpa using (show (!riseG plq l) = true by assumption))).symm | exact congrArg (Value.int .i64) (bchk_0 (by omega) hall (by simpa using (show (!riseG plq l) = false by assumption))).symm
        ·refine XC.skip ?_; refine blockN ?_; refine XC.seq2 ?_; refine XC.region ?_; refine XO.add rfl rfl (wrap_i64 (by omega) (by omega)) rfl ?_; refine XO.move rfl rfl ?_; refine XO.nil ?_; refine loop_next (j + 1) (by show x14.length - (j + 1) < x14.length - j; omega) (prov_cons (rfl) (prov_cons (rfl) (prov_cons (rfl) (prov_cons (rfl) (prov_cons (rfl) (prov_cons (rfl) (prov_cons (rfl) (prov_cons (rfl) prov_nil)))))))) (⟨by show j + 1 ≤ x14.length; omega, rfl, all_snocP (p := fun s => okC s ∧ plcL s = plcL (hd x14)) hcs hx31 ⟨hok, Decidable.not_not.1 (by assumption)⟩⟩) (by repeat (first | exact List.Sublist.refl _ | apply List.Sublist.cons_cons | apply List.Sublist.cons)) (hle1)
      ·skip
       refine XC.keep [0, 4, 6, 10, 11, 12, 27, 28, 29] rfl ?_
       apply XC.drawH (fun _ => True) trivial [] (by decide) (fun _ _ _ _ => True) (fun _ _ _ _ _ _ h => h) 10 [eqF _, eqF _, eqF _, eqF _, eqF _, eqF _, eqF _, eqF _, eqF _, eqF _] follows (by kernel_rfl) ⟨eqF_mono _, eqF_mono _, eqF_mono _, eqF_mono _, eqF_mono _, eqF_mono _, eqF_mono _, eqF_mono _, eqF_mono _, eqF_mono _, trivial⟩ (by decide) ?steps15 ?tail15
       case steps15 =>
        refine stepsH_cons rfl ?_ ?_
        ·intro X ext HD hleD _
         replace hs := hs.mono hleD; replace hp14 := hp14.mono hleD; replace hd14 := hd14.mono hleD; replace hp31 := hp31.mono hleD; replace hd31 := hd31.mono hleD; replace hle0 := hle0.trans hleD; replace hle1 := hle1.trans hleD; refine withP_nil rfl ?_; refine XO.loadO 0 rfl rfl ty_27 rfl rfl rfl ?_; refine XO.nil ?_; exact stepQN_ok rfl trivial (rfl)
        refine stepsH_cons rfl ?_ ?_
        ·intro X ext HD hleD _
         replace hs := hs.mono hleD; replace hp14 := hp14.mono hleD; replace hd14 := hd14.mono hleD; replace hp31 := hp31.mono hleD; replace hd31 := hd31.mono hleD; replace hle0 := hle0.trans hleD; replace hle1 := hle1.trans hleD; refine withP_cons rfl rfl ?_; rintro _ rfl; refine withP_nil rfl ?_; refine XO.callV rfl (selcheck_fn x31 _ _ _ hd31 hD31 (hlc _ (List.mem_of_getElem? hx14) _ (List.mem_of_getElem? hx31))) rfl ?_; refine XO.nil ?_; exact stepQN_ok rfl trivial (rfl)
        refine stepsH_cons rfl ?_ ?_
        ·intro X ext HD hleD _
         replace hs := hs.mono hleD; replace hp14 := hp14.mono hleD; replace hd14 := hd14.mono hleD; replace hp31 := hp31.mono hleD; replace hd31 := hd31.mono hleD; replace hle0 := hle0.trans hleD; replace hle1 := hle1.trans hleD; refine withP_cons rfl rfl ?_; rintro _ rfl; refine withP_nil rfl ?_; refine XO.neq rfl rfl rfl ?_; refine XO.nil ?_; exact stepQN_ok rfl trivial (rfl)
        refine stepsH_cons rfl ?_ ?_
        ·intro X ext HD hleD _
         replace hs := hs.mono hleD; replace hp14 := hp14.mono hleD; replace hd14 := hd14.mono hleD; replace hp31 := hp31.mono hleD; replace hd31 := hd31.mono hleD; replace hle0 := hle0.trans hleD; replace hle1 := hle1.trans hleD; refine withP_cons rfl rfl ?_; rintro _ rfl; refine withP_nil rfl ?_; refine XO.move rfl rfl ?_; refine XO.nil ?_; exact stepQN_ok rfl trivial (rfl)
        refine stepsH_cons rfl ?_ ?_
        ·intro X ext HD hleD _
         replace hs := hs.mono hleD; replace hp14 := hp14.mono hleD; replace hd14 := hd14.mono hleD; replace hp31 := hp31.mono hleD; replace hd31 := hd31.mono hleD; replace hle0 := hle0.trans hleD; replace hle1 := hle1.trans hleD; refine withP_cons rfl rfl ?_; rintro _ rfl; refine withP_nil rfl ?_; refine XO.guardF rfl rfl (decide_eq_true (fun h => hok (sel_iff.1 h))) rfl rfl ?_; refine XO.nil ?_; exact stepQN_ok rfl trivial (rfl)
        refine stepsH_cons rfl ?_ ?_
        ·intro X ext HD hleD _
         replace hs := hs.mono hleD; replace hp14 := hp14.mono hleD; replace hd14 := hd14.mono hleD; replace hp31 := hp31.mono hleD; replace hd31 := hd31.mono hleD; replace hle0 := hle0.trans hleD; replace hle1 := hle1.trans hleD; refine withP_cons rfl rfl ?_; rintro _ rfl; refine withP_cons rfl rfl ?_; rintro _ rfl; refine withP_nil rfl ?_; refine XO.guardF rfl rfl (decide_eq_true (fun h => hok (sel_iff.1 h))) rfl rfl ?_; refine XO.nil ?_; exact stepQN_ok rfl trivial (rfl)
        refine stepsH_cons rfl ?_ ?_
        ·intro X ext HD hleD _
         replace hs := hs.mono hleD; replace hp14 := hp14.mono hleD; replace hd14 := hd14.mono hleD; replace hp31 := hp31.mono hleD; replace hd31 := hd31.mono hleD; replace hle0 := hle0.trans hleD; replace hle1 := hle1.trans hleD; refine withP_cons rfl rfl ?_; rintro _ rfl; refine withP_nil rfl ?_; refine XO.guardF rfl rfl (decide_eq_true (fun h => hok (sel_iff.1 h))) rfl rfl ?_; refine XO.nil ?_; exact stepQN_ok rfl trivial (rfl)
        refine stepsH_cons rfl ?_ ?_
        ·intro X ext HD hleD _
         replace hs := hs.mono hleD; replace hp14 := hp14.mono hleD; replace hd14 := hd14.mono hleD; replace hp31 := hp31.mono hleD; replace hd31 := hd31.mono hleD; replace hle0 := hle0.trans hleD; replace hle1 := hle1.trans hleD; refine withP_cons rfl rfl ?_; rintro _ rfl; refine withP_cons rfl rfl ?_; rintro _ rfl; refine withP_nil rfl ?_; refine XO.guardF rfl rfl (decide_eq_true (fun h => hok (sel_iff.1 h))) rfl rfl ?_; refine XO.nil ?_; exact stepQN_ok rfl trivial (rfl)
        refine stepsH_cons rfl ?_ ?_
        ·intro X ext HD hleD _
         replace hs := hs.mono hleD; replace hp14 := hp14.mono hleD; replace hd14 := hd14.mono hleD; replace hp31 := hp31.mono hleD; replace hd31 := hd31.mono hleD; replace hle0 := hle0.trans hleD; replace hle1 := hle1.trans hleD; refine withP_cons rfl rfl ?_; rintro _ rfl; refine withP_cons rfl rfl ?_; rintro _ rfl; refine withP_nil rfl ?_; refine XO.guardF rfl rfl (decide_eq_true (fun h => hok (sel_iff.1 h))) rfl rfl ?_; refine XO.nil ?_; exact stepQN_ok rfl trivial (rfl)
        refine stepsH_cons rfl ?_ ?_
        ·intro X ext HD hleD _
         replace hs := hs.mono hleD; replace hp14 := hp14.mono hleD; replace hd14 := hd14.mono hleD; replace hp31 := hp31.mono hleD; replace hd31 := hd31.mono hleD; replace hle0 := hle0.trans hleD; replace hle1 := hle1.trans hleD; refine withP_cons rfl rfl ?_; rintro _ rfl; refine withP_cons rfl rfl ?_; rintro _ rfl; refine withP_nil rfl ?_; refine XO.guardF rfl rfl (decide_eq_true (fun h => hok (sel_iff.1 h))) rfl rfl ?_; refine XO.nil ?_; exact stepQN_ok rfl trivial (rfl)
        exact stepsH_end rfl
       case tail15 =>
        intro HD hleD _
        replace hs := hs.mono hleD; replace hp14 := hp14.mono hleD; replace hd14 := hd14.mono hleD; replace hp31 := hp31.mono hleD; replace hd31 := hd31.mono hleD; replace hle0 := hle0.trans hleD; replace hle1 := hle1.trans hleD; refine withP_cons rfl rfl ?_; rintro _ rfl; refine withP_cons rfl rfl ?_; rintro _ rfl; refine withP_cons rfl rfl ?_; rintro _ rfl; refine withP_cons rfl rfl ?_; rintro _ rfl; refine withP_cons rfl rfl ?_; rintro _ rfl; refine withP_cons rfl rfl ?_; rintro _ rfl; refine withP_cons rfl rfl ?_; rintro _ rfl; refine withP_cons rfl rfl ?_; rintro _ rfl; refine withP_cons rfl rfl ?_; rintro _ rfl; refine withP_cons rfl rfl ?_; rintro _ rfl; refine withP_nil rfl ?_; refine withEnts_nil ?_; refine XO.guardF rfl rfl (decide_eq_true (fun h => hok (sel_iff.1 h))) rfl rfl ?_; refine XO.guardF rfl rfl (decide_eq_true (fun h => hok (sel_iff.1 h))) rfl rfl ?_; refine XO.pickT rfl (decide_eq_true (fun h => hok (sel_iff.1 h))) rfl rfl ?_; refine XO.nil ?_; refine XC.seq2 ?_; refine XC.condT rfl (rfl) ?_; refine XC.seq ?_; refine XC.region ?_; refine XO.assign rfl rfl ?_; refine XO.nil ?_; refine XC.seq2 ?_; refine XC.ret ?_; refine blockR ?_; refine seqX_ret ?_; refine loopX_ret ?_; refine blockR ?_; refine seqX_ret ?_; refine blockR ?_; refine seqX_ret ?_; refine loopX_ret ?_; refine blockR ?_; refine seqX_ret ?_; refine ⟨rfl, _, [], rfl, (by repeat (first | exact List.Sublist.refl _ | apply List.Sublist.cons)), RetR.mk ?_⟩
        first | exact congrArg (Value.int .i64) (bchk_2 (by omega)).symm | exact congrArg (Value.int .i64) (bchk_s (by omega) (List.mem_of_getElem? hx14) (slot_nl (by omega))).symm | exact congrArg (Value.int .i64) (bchk_s (by omega) (List.mem_of_getElem? hx14) (slot_nc (List.mem_of_getElem? hx31) hok)).symm | exact congrArg (Value.int .i64) (bchk_s (by omega) (List.mem_of_getElem? hx14) (slot_np (List.mem_of_getElem? hx31) (by assumption))).symm | exact congrArg (Value.int .i64) (bchk_s (by omega) (List.mem_of_getElem? hx14) (slot_nr (by simpa using (show (!riseG ordC x14) = true by assumption)))).symm | exact congrArg (Value.int .i64) (bchk_r (by omega) (by simpa using (show (!riseG plq l) = true by assumption))).symm | exact congrArg (Value.int .i64) (bchk_0 (by omega) hall (by simpa using (show (!riseG plq l) = false by assumption))).symm
     ·obtain rfl : j = x14.length := by omega
      rw [List.take_length] at hcs
      refine XC.exit ?_; refine seqX_exit ?_; refine loopX_exit ?_; refine blockHit rfl ?_; refine XC.seq2 ?_; refine XC.seq ?_; refine XC.region ?_; refine XO.fieldAddr rfl fa_50_0 rfl ?_; refine XO.loadO 0 rfl rfl ty_31 rfl rfl rfl ?_; refine XO.callH rfl (riseC_fn _ _ x14 _ hd14 (by omega) (.func (.func 31) #[] #[]) (fun x y ax ay cx cy H2 hle hx hy h1 h2 h3 h4 => (FnV.of_fn (cap := []) (args := [_, _]) (order_fn x y _ _ _ _ H2 h1 h2 h3 h4 (hcs x hx).1 (hcs y hy).1)))) rfl ?_; rintro _ HN49 hleN49 rfl; replace hs := hs.mono hleN49; replace hp14 := hp14.mono hleN49; replace hd14 := hd14.mono hleN49; replace hle0 := hle0.trans hleN49; replace hle1 := hle1.trans hleN49; refine XO.notB rfl rfl ?_; refine XO.nil ?_; refine XC.seq2 ?_; refine XC.condB rfl (fun c5_18 => ?_) (fun c5_18 => ?_)
      ·refine XC.seq ?_; refine XC.region ?_; refine XO.assign rfl rfl ?_; refine XO.nil ?_; refine XC.seq2 ?_; refine XC.ret ?_; refine blockR ?_; refine seqX_ret ?_; refine loopX_ret ?_; refine blockR ?_; refine seqX_ret ?_; refine ⟨rfl, _, [], rfl, (by repeat (first | exact List.Sublist.refl _ | apply List.Sublist.cons)), RetR.mk ?_⟩
       first | exact congrArg (Value.int .i64) (bchk_2 (by omega)).symm | exact congrArg (Value.int .i64) (bchk_s (by omega) (List.mem_of_getElem? hx14) (slot_nl (by omega))).symm | exact congrArg (Value.int .i64) (bchk_s (by omega) (List.mem_of_getElem? hx14) (slot_nc (List.mem_of_getElem? hx31) hok)).symm | exact congrArg (Value.int .i64) (bchk_s (by omega) (List.mem_of_getElem? hx14) (slot_np (List.mem_of_getElem? hx31) (by assumption))).symm | exact congrArg (Value.int .i64) (bchk_s (by omega) (List.mem_of_getElem? hx14) (slot_nr (by simpa using (show (!riseG ordC x14) = true by assumption)))).symm | exact congrArg (Value.int .i64) (bchk_r (by omega) (by simpa using (show (!riseG plq l) = true by assumption))).symm | exact congrArg (Value.int .i64) (bchk_0 (by omega) hall (by simpa using (show (!riseG plq l) = false by assumption))).symm
      ·refine XC.skip ?_; refine blockN ?_; refine XC.seq2 ?_; refine XC.region ?_; refine XO.add rfl rfl (wrap_i64 (by omega) (by omega)) rfl ?_; refine XO.move rfl rfl ?_; refine XO.nil ?_; refine loop_next (i + 1) (by show l.length - (i + 1) < l.length - i; omega) (prov_cons (rfl) (prov_cons (rfl) (prov_cons (rfl) (prov_cons (rfl) prov_nil)))) (⟨by show i + 1 ≤ l.length; omega, rfl, all_take hx14 hall (slot_y (by omega) hcs (by simpa using (show (!riseG ordC x14) = false by assumption)))⟩) (by repeat (first | exact List.Sublist.refl _ | apply List.Sublist.cons_cons | apply List.Sublist.cons)) (hle0)
   ·have g4p := of_decide_eq_true g4
    refine XO.guardF rfl rfl (g4) rfl rfl ?_; refine XO.guardF rfl rfl (g4) rfl rfl ?_; refine XO.guardF rfl rfl (g4) rfl rfl ?_; refine XO.pickT rfl (g4) rfl rfl ?_; refine XO.nil ?_; refine XC.seq2 ?_; refine XC.condT rfl (rfl) ?_; refine XC.seq ?_; refine XC.region ?_; refine XO.assign rfl rfl ?_; refine XO.nil ?_; refine XC.seq2 ?_; refine XC.ret ?_; refine seqX_ret ?_; refine blockR ?_; refine seqX_ret ?_; refine loopX_ret ?_; refine blockR ?_; refine seqX_ret ?_; refine ⟨rfl, _, [], rfl, (by repeat (first | exact List.Sublist.refl _ | apply List.Sublist.cons)), RetR.mk ?_⟩
    first | exact congrArg (Value.int .i64) (bchk_2 (by omega)).symm | exact congrArg (Value.int .i64) (bchk_s (by omega) (List.mem_of_getElem? hx14) (slot_nl (by omega))).symm | exact congrArg (Value.int .i64) (bchk_s (by omega) (List.mem_of_getElem? hx14) (slot_nc (List.mem_of_getElem? hx31) hok)).symm | exact congrArg (Value.int .i64) (bchk_s (by omega) (List.mem_of_getElem? hx14) (slot_np (List.mem_of_getElem? hx31) (by assumption))).symm | exact congrArg (Value.int .i64) (bchk_s (by omega) (List.mem_of_getElem? hx14) (slot_nr (by simpa using (show (!riseG ordC x14) = true by assumption)))).symm | exact congrArg (Value.int .i64) (bchk_r (by omega) (by simpa using (show (!riseG plq l) = true by assumption))).symm | exact congrArg (Value.int .i64) (bchk_0 (by omega) hall (by simpa using (show (!riseG plq l) = false by assumption))).symm
  ·obtain rfl : i = l.length := by omega
   rw [List.take_length] at hall
   refine XC.exit ?_; refine seqX_exit ?_; refine loopX_exit ?_; refine blockHit rfl ?_; refine XC.seq2 ?_; refine XC.seq ?_; refine XC.seq ?_; refine XC.region ?_; refine XO.move rfl rfl ?_; refine XO.callH rfl (riseB_fn _ _ l _ hs hl (.func (.func 33) #[] #[]) (fun x y ax ay cx cy H2 hle hx hy h1 h2 => FnV.of_fn (cap := []) (args := [_, _]) (slotcmp_fn x y _ _ _ _ H2 h1 h2 (pos_of (List.all_eq_true.1 hall x hx)) (pos_of (List.all_eq_true.1 hall y hy))))) rfl ?_; rintro _ HN53 hleN53 rfl; replace hs := hs.mono hleN53; replace hle0 := hle0.trans hleN53; refine XO.notB rfl rfl ?_; refine XO.nil ?_; refine XC.seq2 ?_; refine XC.condB rfl (fun c6_20 => ?_) (fun c6_20 => ?_)
   ·refine XC.seq ?_; refine XC.region ?_; refine XO.assign rfl rfl ?_; refine XO.nil ?_; refine XC.seq2 ?_; refine XC.ret ?_; refine seqX_ret ?_; refine ⟨rfl, _, [], rfl, (by repeat (first | exact List.Sublist.refl _ | apply List.Sublist.cons)), RetR.mk ?_⟩
    first | exact congrArg (Value.int .i64) (bchk_2 (by omega)).symm | exact congrArg (Value.int .i64) (bchk_s (by omega) (List.mem_of_getElem? hx14) (slot_nl (by omega))).symm | exact congrArg (Value.int .i64) (bchk_s (by omega) (List.mem_of_getElem? hx14) (slot_nc (List.mem_of_getElem? hx31) hok)).symm | exact congrArg (Value.int .i64) (bchk_s (by omega) (List.mem_of_getElem? hx14) (slot_np (List.mem_of_getElem? hx31) (by assumption))).symm | exact congrArg (Value.int .i64) (bchk_s (by omega) (List.mem_of_getElem? hx14) (slot_nr (by simpa using (show (!riseG ordC x14) = true by assumption)))).symm | exact congrArg (Value.int .i64) (bchk_r (by omega) (by simpa using (show (!riseG plq l) = true by assumption))).symm | exact congrArg (Value.int .i64) (bchk_0 (by omega) hall (by simpa using (show (!riseG plq l) = false by assumption))).symm
   ·refine XC.skip ?_; refine XC.seq2 ?_; refine XC.seq ?_; refine XC.region ?_; refine XO.assign rfl rfl ?_; refine XO.nil ?_; refine XC.seq2 ?_; refine XC.ret ?_; refine ⟨rfl, _, [], rfl, (by repeat (first | exact List.Sublist.refl _ | apply List.Sublist.cons)), RetR.mk ?_⟩
    first | exact congrArg (Value.int .i64) (bchk_2 (by omega)).symm | exact congrArg (Value.int .i64) (bchk_s (by omega) (List.mem_of_getElem? hx14) (slot_nl (by omega))).symm | exact congrArg (Value.int .i64) (bchk_s (by omega) (List.mem_of_getElem? hx14) (slot_nc (List.mem_of_getElem? hx31) hok)).symm | exact congrArg (Value.int .i64) (bchk_s (by omega) (List.mem_of_getElem? hx14) (slot_np (List.mem_of_getElem? hx31) (by assumption))).symm | exact congrArg (Value.int .i64) (bchk_s (by omega) (List.mem_of_getElem? hx14) (slot_nr (by simpa using (show (!riseG ordC x14) = true by assumption)))).symm | exact congrArg (Value.int .i64) (bchk_r (by omega) (by simpa using (show (!riseG plq l) = true by assumption))).symm | exact congrArg (Value.int .i64) (bchk_0 (by omega) hall (by simpa using (show (!riseG plq l) = false by assumption))).symm

end Go.Proofs

/- The walks of the functions of boxes: what each of them computes, at any input. -/
set_option maxRecDepth 100000
set_option autoImplicit false
set_option linter.unusedVariables false
set_option linter.unusedSimpArgs false
namespace Go.Proofs
open Go.XL



theorem fewcards_fn (a : Option Addr) (c : Nat) (l : List Card) (H : Hp) (hs : SlR cardR H a c l) (hl : l.length < 9223372036854775808) : FnC Try.prog 10 #[.slice a l.length c] H [] (RetR (fun v _ _ => ∃ q : Bool, v = .bool q ∧ (q = true → l.length ≤ 12))) := by
 refine FnC.intro (args := [.slice a l.length c]) Try.func10 rfl rfl Try.ntmps10 rfl rfl rfl fun G rest => ?_
 refine XC.seq ?_; refine XC.region ?_; refine XO.assign rfl rfl ?_; refine XO.nil ?_; refine XC.seq2 ?_; refine XC.seq ?_; refine XC.seq ?_; refine XC.region ?_; refine XO.assign rfl rfl ?_; refine XO.nil ?_; refine XC.seq2 ?_; refine XC.block ?_; refine XC.keep [3, 0] rfl ?_; refine XC.loop (base := [(0, _)]) (fun ζ : Nat => [(3, .int .i64 (ζ : Nat))]) (fun ζ Hl own => ζ ≤ l.length ∧ rest = own) (fun ζ => l.length - ζ) 0 (prov_cons (rfl) (prov_cons (rfl) prov_nil)) (by repeat (first | exact List.Sublist.refl _ | apply List.Sublist.cons_cons | apply List.Sublist.cons)) ⟨Nat.zero_le _, rfl⟩ ?_; rintro k Hl0 _ hle0 ⟨hkk, rfl⟩; replace hs := hs.mono hle0
 try dsimp only at ⊢
 refine XC.seq ?_; refine XC.seq ?_; refine XC.region ?_; refine XO.move rfl rfl ?_; refine XO.move rfl rfl ?_; refine XO.lenS (ts := #[]) rfl Try.underlying31 rfl ?_; refine XO.lss rfl rfl rfl ?_; refine XO.move rfl rfl ?_; refine XO.guardC rfl rfl rfl rfl (fun g1 => ?_) (fun g1 => ?_)
 ·have g1p := of_decide_eq_true g1
  refine XO.move rfl rfl ?_; refine XO.guardT rfl rfl (g1) rfl ?_; refine XO.lss rfl rfl rfl ?_; refine XO.pickT rfl (g1) rfl rfl ?_; refine XO.nil ?_; refine XC.seq2 ?_; refine XC.cond rfl (fun c0_2 => ?_) (fun c0_2 => ?_)
  ·refine XC.skip ?_; refine XC.seq2 ?_; refine XC.seq ?_; refine XC.block ?_; refine XC.seq ?_; refine XC.region ?_; refine XO.move rfl rfl ?_; refine XO.move rfl rfl ?_; refine XO.indexN rfl hs rfl Try.underlying31 ty_27 (by omega) rfl ?_; rintro eb16 eo16 _ x16 hx16 ⟨ax16, cx16, rfl, hd16, hD16⟩ hp16; refine XO.fieldAddr rfl fa_27_3 rfl ?_; refine XO.loadHF rfl (by assumption) ty_23 rfl rfl rfl ?_; refine XO.lenS (ts := #[]) rfl Try.underlying23 rfl ?_; refine XO.gtr rfl rfl rfl ?_; refine XO.nil ?_; refine XC.seq2 ?_; refine XC.cond rfl (fun c1_4 => ?_) (fun c1_4 => ?_)
   ·refine XC.seq ?_; refine XC.region ?_; refine XO.assign rfl rfl ?_; refine XO.nil ?_; refine XC.seq2 ?_; refine XC.ret ?_; refine blockR ?_; refine seqX_ret ?_; refine loopX_ret ?_; refine blockR ?_; refine seqX_ret ?_; refine ⟨rfl, _, [], rfl, (by repeat (first | exact List.Sublist.refl _ | apply List.Sublist.cons)), RetR.mk ?_⟩
    first | exact ⟨false, rfl, fun h => (by cases h)⟩ | exact ⟨_, rfl, fun h => by have := of_decide_eq_true h; omega⟩
   ·refine XC.skip ?_; refine blockN ?_; refine XC.seq2 ?_; refine XC.region ?_; refine XO.move rfl rfl ?_; refine XO.add rfl rfl (wrap_i64 (by omega) (by omega)) rfl ?_; refine XO.assign rfl rfl ?_; refine XO.nil ?_; refine loop_next (k + 1) (by show l.length - (k + 1) < l.length - k; omega) (prov_cons (rfl) (prov_cons (rfl) prov_nil)) (⟨by show k + 1 ≤ l.length; omega, rfl⟩) (by repeat (first | exact List.Sublist.refl _ | apply List.Sublist.cons_cons | apply List.Sublist.cons)) (hle0)
  ·refine XC.exit ?_; refine seqX_exit ?_; refine loopX_exit ?_; refine blockHit rfl ?_; refine XC.seq2 ?_; refine XC.seq ?_; refine XC.region ?_; refine XO.move rfl rfl ?_; refine XO.lenS (ts := #[]) rfl Try.underlying31 rfl ?_; refine XO.leq rfl rfl rfl ?_; refine XO.assign rfl rfl ?_; refine XO.nil ?_; refine XC.seq2 ?_; refine XC.ret ?_; refine ⟨rfl, _, [], rfl, (by repeat (first | exact List.Sublist.refl _ | apply List.Sublist.cons)), RetR.mk ?_⟩
   first | exact ⟨false, rfl, fun h => (by cases h)⟩ | exact ⟨_, rfl, fun h => by have := of_decide_eq_true h; omega⟩
 ·have g1p := of_decide_eq_false g1
  refine XO.guardF rfl rfl (g1) rfl rfl ?_; refine XO.pickF rfl (g1) rfl rfl ?_; refine XO.nil ?_; refine XC.seq2 ?_; refine XC.condF rfl (rfl) ?_; refine XC.exit ?_; refine seqX_exit ?_; refine loopX_exit ?_; refine blockHit rfl ?_; refine XC.seq2 ?_; refine XC.seq ?_; refine XC.region ?_; refine XO.move rfl rfl ?_; refine XO.lenS (ts := #[]) rfl Try.underlying31 rfl ?_; refine XO.leq rfl rfl rfl ?_; refine XO.assign rfl rfl ?_; refine XO.nil ?_; refine XC.seq2 ?_; refine XC.ret ?_; refine ⟨rfl, _, [], rfl, (by repeat (first | exact List.Sublist.refl _ | apply List.Sublist.cons)), RetR.mk ?_⟩
  first | exact ⟨false, rfl, fun h => (by cases h)⟩ | exact ⟨_, rfl, fun h => by have := of_decide_eq_true h; omega⟩

theorem sameB_fn (a b : Option Addr) (c d : Nat) (l m : Box) (H : Hp) (hs : SlR (slR cardR) H a c l) (ht : SlR (slR cardR) H b d m) (hl : l.length < 9223372036854775808) (hw : ∀ x ∈ l, x.length < 9223372036854775808) (hlc : ∀ x ∈ l, ∀ s ∈ x, s.C.length < 9223372036854775808) (hmc : ∀ x ∈ m, ∀ s ∈ x, s.C.length < 9223372036854775808) : FnC Try.prog 15 #[.slice a l.length c, .slice b m.length d] H [] (RetR (fun v _ _ => v = .bool (decide (l = m)))) := by
 refine FnC.intro (args := [.slice a l.length c, .slice b m.length d]) Try.func15 rfl rfl Try.ntmps15 rfl rfl rfl fun G rest => ?_
 refine XC.seq ?_; refine XC.region ?_; refine XO.assign rfl rfl ?_; refine XO.nil ?_; refine XC.seq2 ?_; refine XC.seq ?_; refine XC.seq ?_; refine XC.region ?_; refine XO.move rfl rfl ?_; refine XO.lenS (ts := #[]) rfl Try.underlying22 rfl ?_; refine XO.move rfl rfl ?_; refine XO.lenS (ts := #[]) rfl Try.underlying22 rfl ?_; refine XO.neq rfl rfl rfl ?_; refine XO.nil ?_; refine XC.seq2 ?_; refine XC.cond rfl (fun c0_1 => ?_) (fun c0_1 => ?_)
 ·refine XC.seq ?_; refine XC.region ?_; refine XO.assign rfl rfl ?_; refine XO.nil ?_; refine XC.seq2 ?_; refine XC.ret ?_; refine seqX_ret ?_; refine ⟨rfl, _, [], rfl, (by repeat (first | exact List.Sublist.refl _ | apply List.Sublist.cons)), RetR.mk ?_⟩
  first | exact congrArg Value.bool (decide_eq_false (fun h => by have := congrArg List.length h; omega)).symm | exact congrArg Value.bool (decide_eq_false (fun h => by subst h; have h2 := Option.some.inj (hxX.symm.trans hxY); subst h2; first | exact absurd rfl (by assumption) | (have h3 := Option.some.inj (hxU.symm.trans hxV); exact absurd h3 (by assumption)))).symm | exact congrArg Value.bool (decide_eq_true (heq.trans (List.take_of_length_le (by omega)))).symm
 ·refine XC.skip ?_; refine XC.seq2 ?_; refine XC.seq ?_; refine XC.seq ?_; refine XC.region ?_; refine XO.assign rfl rfl ?_; refine XO.nil ?_; refine XC.seq2 ?_; refine XC.block ?_; refine XC.keep [5, 0, 1] rfl ?_; refine XC.loop (base := [(0, _), (1, _)]) (fun ζ : Nat => [(5, .int .i64 (ζ : Nat))]) (fun ζ Hl own => ζ ≤ l.length ∧ rest = own ∧ (l.take (ζ) = m.take (ζ))) (fun ζ => l.length - ζ) 0 (prov_cons (rfl) (prov_cons (rfl) (prov_cons (rfl) prov_nil))) (by repeat (first | exact List.Sublist.refl _ | apply List.Sublist.cons_cons | apply List.Sublist.cons)) ⟨Nat.zero_le _, rfl, by simp⟩ ?_; rintro i Hl0 _ hle0 ⟨hki, rfl, heq⟩; replace hs := hs.mono hle0; replace ht := ht.mono hle0
  try dsimp only at ⊢
  refine XC.seq ?_; refine XC.seq ?_; refine XC.region ?_; refine XO.move rfl rfl ?_; refine XO.move rfl rfl ?_; refine XO.lenS (ts := #[]) rfl Try.underlying22 rfl ?_; refine XO.lss rfl rfl rfl ?_; refine XO.nil ?_; refine XC.seq2 ?_; refine XC.cond rfl (fun c1_2 => ?_) (fun c1_2 => ?_)
  ·refine XC.skip ?_; refine XC.seq2 ?_; refine XC.seq ?_; refine XC.block ?_; refine XC.seq ?_; refine XC.seq ?_; refine XC.keep [0, 1, 5] rfl ?_; obtain ⟨bEX, oEX, rfl⟩ := hs.addr (by omega); obtain ⟨_, xX, hxX, ⟨axX, cxX, rfl, hdX⟩, hpX⟩ := hs.elem (i) (by omega); obtain ⟨bEY, oEY, rfl⟩ := ht.addr (by omega); obtain ⟨_, xY, hxY, ⟨axY, cxY, rfl, hdY⟩, hpY⟩ := ht.elem (i) (by omega)
   apply XC.draw 12 [eqF _, eqF _, eqF _, eqF _, eqF _, eqF _, eqF _, eqF _, eqF _, eqF _, eqF _, eqF _] follows (by kernel_rfl) (by kernel_rfl) ⟨eqF_mono _, eqF_mono _, eqF_mono _, eqF_mono _, eqF_mono _, eqF_mono _, eqF_mono _, eqF_mono _, eqF_mono _, eqF_mono _, eqF_mono _, eqF_mono _, trivial⟩ ?steps3 ?tail3
   case steps3 =>
    refine stepsK_cons rfl ?_ ?_
    ·intro X
     refine withPreds_nil rfl ?_; refine XO.move rfl rfl ?_; refine XO.nil ?_
     exact stepQ_ok rfl (rfl)
    refine stepsK_cons rfl ?_ ?_
    ·intro X
     refine withPreds_nil rfl ?_; refine XO.move rfl rfl ?_; refine XO.nil ?_
     exact stepQ_ok rfl (rfl)
    refine stepsK_cons rfl ?_ ?_
    ·intro X
     refine withPreds_cons rfl rfl ?_; rintro _ rfl; refine withPreds_cons rfl rfl ?_; rintro _ rfl; refine withPreds_nil rfl ?_; refine XO.indexE rfl rfl Try.underlying22 ty_50 (by omega) (by omega) rfl ?_; refine XO.nil ?_
     exact stepQ_ok rfl (rfl)
    refine stepsK_cons rfl ?_ ?_
    ·intro X
     refine withPreds_cons rfl rfl ?_; rintro _ rfl; refine withPreds_nil rfl ?_; refine XO.fieldAddr rfl fa_50_0 rfl ?_; refine XO.nil ?_
     exact stepQ_ok rfl (rfl)
    refine stepsK_cons rfl ?_ ?_
    ·intro X
     refine withPreds_cons rfl rfl ?_; rintro _ rfl; refine withPreds_nil rfl ?_; refine XO.loadHF rfl (by assumption) ty_31 rfl rfl rfl ?_; refine XO.nil ?_
     exact stepQ_ok rfl (rfl)
    refine stepsK_cons rfl ?_ ?_
    ·intro X
     refine withPreds_cons rfl rfl ?_; rintro _ rfl; refine withPreds_nil rfl ?_; refine XO.lenS (ts := #[]) rfl Try.underlying31 rfl ?_; refine XO.nil ?_
     exact stepQ_ok rfl (rfl)
    refine stepsK_cons rfl ?_ ?_
    ·intro X
     refine withPreds_nil rfl ?_; refine XO.move rfl rfl ?_; refine XO.nil ?_
     exact stepQ_ok rfl (rfl)
    refine stepsK_cons rfl ?_ ?_
    ·intro X
     refine withPreds_nil rfl ?_; refine XO.move rfl rfl ?_; refine XO.nil ?_
     exact stepQ_ok rfl (rfl)
    refine stepsK_cons rfl ?_ ?_
    ·intro X
     refine withPreds_cons rfl rfl ?_; rintro _ rfl; refine withPreds_cons rfl rfl ?_; rintro _ rfl; refine withPreds_nil rfl ?_; refine XO.indexE rfl rfl Try.underlying22 ty_50 (by omega) (by omega) rfl ?_; refine XO.nil ?_
     exact stepQ_ok rfl (rfl)
    refine stepsK_cons rfl ?_ ?_
    ·intro X
     refine withPreds_cons rfl rfl ?_; rintro _ rfl; refine withPreds_nil rfl ?_; refine XO.fieldAddr rfl fa_50_0 rfl ?_; refine XO.nil ?_
     exact stepQ_ok rfl (rfl)
    refine stepsK_cons rfl ?_ ?_
    ·intro X
     refine withPreds_cons rfl rfl ?_; rintro _ rfl; refine withPreds_nil rfl ?_; refine XO.loadHF rfl (by assumption) ty_31 rfl rfl rfl ?_; refine XO.nil ?_
     exact stepQ_ok rfl (rfl)
    refine stepsK_cons rfl ?_ ?_
    ·intro X
     refine withPreds_cons rfl rfl ?_; rintro _ rfl; refine withPreds_nil rfl ?_; refine XO.lenS (ts := #[]) rfl Try.underlying31 rfl ?_; refine XO.nil ?_
     exact stepQ_ok rfl (rfl)
    exact stepsD_end rfl
   case tail3 =>
    refine withPreds_cons rfl rfl ?_; rintro _ rfl; refine withPreds_cons rfl rfl ?_; rintro _ rfl; refine withPreds_cons rfl rfl ?_; rintro _ rfl; refine withPreds_cons rfl rfl ?_; rintro _ rfl; refine withPreds_cons rfl rfl ?_; rintro _ rfl; refine withPreds_cons rfl rfl ?_; rintro _ rfl; refine withPreds_cons rfl rfl ?_; rintro _ rfl; refine withPreds_cons rfl rfl ?_; rintro _ rfl; refine withPreds_cons rfl rfl ?_; rintro _ rfl; refine withPreds_cons rfl rfl ?_; rintro _ rfl; refine withPreds_cons rfl rfl ?_; rintro _ rfl; refine withPreds_cons rfl rfl ?_; rintro _ rfl; refine withPreds_nil rfl ?_; refine XO.neq rfl rfl rfl ?_; refine XO.nil ?_; refine XC.seq2 ?_; refine XC.cond rfl (fun c2_6 => ?_) (fun c2_6 => ?_)
    ·refine XC.seq ?_; refine XC.region ?_; refine XO.assign rfl rfl ?_; refine XO.nil ?_; refine XC.seq2 ?_; refine XC.ret ?_; refine seqX_ret ?_; refine blockR ?_; refine seqX_ret ?_; refine loopX_ret ?_; refine blockR ?_; refine seqX_ret ?_; refine ⟨rfl, _, [], rfl, (by repeat (first | exact List.Sublist.refl _ | apply List.Sublist.cons)), RetR.mk ?_⟩
     first | exact congrArg Value.bool (decide_eq_false (fun h => by have := congrArg List.length h; omega)).symm | exact congrArg Value.bool (decide_eq_false (fun h => by subst h; have h2 := Option.some.inj (hxX.symm.trans hxY); subst h2; first | exact absurd rfl (by assumption) | (have h3 := Option.some.inj (hxU.symm.trans hxV); exact absurd h3 (by assumption)))).symm | exact congrArg Value.bool (decide_eq_true (heq.trans (List.take_of_length_le (by omega)))).symm
    ·refine XC.skip ?_; refine XC.seq2 ?_; refine XC.seq ?_; refine XC.region ?_; refine XO.assign rfl rfl ?_; refine XO.nil ?_; refine XC.seq2 ?_; refine XC.block ?_; refine XC.keep [6, 0, 1, 5] rfl ?_
     have hxw := hw _ (List.mem_of_getElem? hxX)
     refine XC.loop (base := [(0, _), (1, _), (5, _)]) (fun ζ : Nat => [(6, .int .i64 (ζ : Nat))]) (fun ζ Hl own => ζ ≤ xX.length ∧ rest = own ∧ (xX.take (ζ) = xY.take (ζ))) (fun ζ => xX.length - ζ) 0 (prov_cons (rfl) (prov_cons (rfl) (prov_cons (rfl) (prov_cons (rfl) prov_nil)))) (by repeat (first | exact List.Sublist.refl _ | apply List.Sublist.cons_cons | apply List.Sublist.cons)) ⟨Nat.zero_le _, rfl, by simp⟩ ?_; rintro k Hl1 _ hle1 ⟨hkk, rfl, hrow⟩; replace hs := hs.mono hle1; replace ht := ht.mono hle1; replace hpX := hpX.mono hle1; replace hdX := hdX.mono hle1; replace hpY := hpY.mono hle1; replace hdY := hdY.mono hle1; replace hle0 := hle0.trans hle1
     try dsimp only at ⊢
     refine XC.seq ?_; refine XC.seq ?_; refine XC.region ?_; refine XO.move rfl rfl ?_; refine XO.move rfl rfl ?_; refine XO.move rfl rfl ?_; refine XO.indexN rfl hs rfl Try.underlying22 ty_50 (by omega) rfl ?_; rintro eb34 eo34 _ x34 hx34 ⟨ax34, cx34, rfl, hd34⟩ hp34; obtain rfl := Option.some.inj (hxX.symm.trans hx34); refine XO.fieldAddr rfl fa_50_0 rfl ?_; refine XO.loadHF rfl (by assumption) ty_31 rfl rfl rfl ?_; refine XO.lenS (ts := #[]) rfl Try.underlying31 rfl ?_; refine XO.lss rfl rfl rfl ?_; refine XO.nil ?_; refine XC.seq2 ?_; refine XC.cond rfl (fun c3_8 => ?_) (fun c3_8 => ?_)
     ·refine XC.skip ?_; refine XC.seq2 ?_; refine XC.seq ?_; refine XC.block ?_; refine XC.seq ?_; refine XC.keep [0, 1, 5, 6] rfl ?_; obtain ⟨_, xR, hxR, ⟨axR, cxR, rfl, hdR⟩, hpR⟩ := hs.elem (i) (by omega); obtain ⟨_, xT, hxT, ⟨axT, cxT, rfl, hdT⟩, hpT⟩ := ht.elem (i) (by omega); obtain rfl := Option.some.inj (hxX.symm.trans hxR); obtain rfl := Option.some.inj (hxY.symm.trans hxT); obtain ⟨bEU, oEU, rfl⟩ := hdR.addr (by omega); obtain ⟨_, xU, hxU, ⟨axU, cxU, rfl, hdU, hDU⟩, hpU⟩ := hdR.elem k (by omega); obtain ⟨bEV, oEV, rfl⟩ := hdT.addr (by omega); obtain ⟨_, xV, hxV, ⟨axV, cxV, rfl, hdV, hDV⟩, hpV⟩ := hdT.elem k (by omega)
      apply XC.draw 16 [eqF _, eqF _, eqF _, eqF _, eqF _, eqF _, eqF _, eqF _, eqF _, eqF _, eqF _, eqF _, eqF _, eqF _, eqF _, eqF _] follows (by kernel_rfl) (by kernel_rfl) ⟨eqF_mono _, eqF_mono _, eqF_mono _, eqF_mono _, eqF_mono _, eqF_mono _, eqF_mono _, eqF_mono _, eqF_mono _, eqF_mono _, eqF_mono _, eqF_mono _, eqF_mono _, eqF_mono _, eqF_mono _, eqF_mono _, trivial⟩ ?steps9 ?tail9
      case steps9 =>
       refine stepsK_cons rfl ?_ ?_
       ·intro X
        refine withPreds_nil rfl ?_; refine XO.move rfl rfl ?_; refine XO.nil ?_
        exact stepQ_ok rfl (rfl)
       refine stepsK_cons rfl ?_ ?_
       ·intro X
        refine withPreds_nil rfl ?_; refine XO.move rfl rfl ?_; refine XO.nil ?_
        exact stepQ_ok rfl (rfl)
       refine stepsK_cons rfl ?_ ?_
       ·intro X
        refine withPreds_cons rfl rfl ?_; rintro _ rfl; refine withPreds_cons rfl rfl ?_; rintro _ rfl; refine withPreds_nil rfl ?_; refine XO.indexE rfl rfl Try.underlying22 ty_50 (by omega) (by omega) rfl ?_; refine XO.nil ?_
        exact stepQ_ok rfl (rfl)
       refine stepsK_cons rfl ?_ ?_
       ·intro X
        refine withPreds_cons rfl rfl ?_; rintro _ rfl; refine withPreds_nil rfl ?_; refine XO.fieldAddr rfl fa_50_0 rfl ?_; refine XO.nil ?_
        exact stepQ_ok rfl (rfl)
       refine stepsK_cons rfl ?_ ?_
       ·intro X
        refine withPreds_cons rfl rfl ?_; rintro _ rfl; refine withPreds_nil rfl ?_; refine XO.loadHF rfl (by assumption) ty_31 rfl rfl rfl ?_; refine XO.nil ?_
        exact stepQ_ok rfl (rfl)
       refine stepsK_cons rfl ?_ ?_
       ·intro X
        refine withPreds_nil rfl ?_; refine XO.move rfl rfl ?_; refine XO.nil ?_
        exact stepQ_ok rfl (rfl)
       refine stepsK_cons rfl ?_ ?_
       ·intro X
        refine withPreds_cons rfl rfl ?_; rintro _ rfl; refine withPreds_cons rfl rfl ?_; rintro _ rfl; refine withPreds_nil rfl ?_; refine XO.indexE rfl rfl Try.underlying31 ty_27 (by omega) (by omega) rfl ?_; refine XO.nil ?_
        exact stepQ_ok rfl (rfl)
       refine stepsK_cons rfl ?_ ?_
       ·intro X
        refine withPreds_cons rfl rfl ?_; rintro _ rfl; refine withPreds_nil rfl ?_; refine XO.loadH rfl (by assumption) ty_27 rfl rfl rfl ?_; refine XO.nil ?_
        exact stepQ_ok rfl (rfl)
       refine stepsK_cons rfl ?_ ?_
       ·intro X
        refine withPreds_nil rfl ?_; refine XO.move rfl rfl ?_; refine XO.nil ?_
        exact stepQ_ok rfl (rfl)
       refine stepsK_cons rfl ?_ ?_
       ·intro X
        refine withPreds_nil rfl ?_; refine XO.move rfl rfl ?_; refine XO.nil ?_
        exact stepQ_ok rfl (rfl)
       refine stepsK_cons rfl ?_ ?_
       ·intro X
        refine withPreds_cons rfl rfl ?_; rintro _ rfl; refine withPreds_cons rfl rfl ?_; rintro _ rfl; refine withPreds_nil rfl ?_; refine XO.indexE rfl rfl Try.underlying22 ty_50 (by omega) (by omega) rfl ?_; refine XO.nil ?_
        exact stepQ_ok rfl (rfl)
       refine stepsK_cons rfl ?_ ?_
       ·intro X
        refine withPreds_cons rfl rfl ?_; rintro _ rfl; refine withPreds_nil rfl ?_; refine XO.fieldAddr rfl fa_50_0 rfl ?_; refine XO.nil ?_
        exact stepQ_ok rfl (rfl)
       refine stepsK_cons rfl ?_ ?_
       ·intro X
        refine withPreds_cons rfl rfl ?_; rintro _ rfl; refine withPreds_nil rfl ?_; refine XO.loadHF rfl (by assumption) ty_31 rfl rfl rfl ?_; refine XO.nil ?_
        exact stepQ_ok rfl (rfl)
       refine stepsK_cons rfl ?_ ?_
       ·intro X
        refine withPreds_nil rfl ?_; refine XO.move rfl rfl ?_; refine XO.nil ?_
        exact stepQ_ok rfl (rfl)
       refine stepsK_cons rfl ?_ ?_
       ·intro X
        refine withPreds_cons rfl rfl ?_; rintro _ rfl; refine withPreds_cons rfl rfl ?_; rintro _ rfl; refine withPreds_nil rfl ?_; refine XO.indexE rfl rfl Try.underlying31 ty_27 (by omega) (by omega) rfl ?_; refine XO.nil ?_
        exact stepQ_ok rfl (rfl)
       refine stepsK_cons rfl ?_ ?_
       ·intro X
        refine withPreds_cons rfl rfl ?_; rintro _ rfl; refine withPreds_nil rfl ?_; refine XO.loadH rfl (by assumption) ty_27 rfl rfl rfl ?_; refine XO.nil ?_
        exact stepQ_ok rfl (rfl)
       exact stepsD_end rfl
      case tail9 =>
       refine withPreds_cons rfl rfl ?_; rintro _ rfl; refine withPreds_cons rfl rfl ?_; rintro _ rfl; refine withPreds_cons rfl rfl ?_; rintro _ rfl; refine withPreds_cons rfl rfl ?_; rintro _ rfl; refine withPreds_cons rfl rfl ?_; rintro _ rfl; refine withPreds_cons rfl rfl ?_; rintro _ rfl; refine withPreds_cons rfl rfl ?_; rintro _ rfl; refine withPreds_cons rfl rfl ?_; rintro _ rfl; refine withPreds_cons rfl rfl ?_; rintro _ rfl; refine withPreds_cons rfl rfl ?_; rintro _ rfl; refine withPreds_cons rfl rfl ?_; rintro _ rfl; refine withPreds_cons rfl rfl ?_; rintro _ rfl; refine withPreds_cons rfl rfl ?_; rintro _ rfl; refine withPreds_cons rfl rfl ?_; rintro _ rfl; refine withPreds_cons rfl rfl ?_; rintro _ rfl; refine withPreds_cons rfl rfl ?_; rintro _ rfl; refine withPreds_nil rfl ?_; refine XO.callV rfl (sameC_fn xU xV _ _ _ _ _ hdU hdV hDU hDV (hlc _ (List.mem_of_getElem? hxX) _ (List.mem_of_getElem? hxU)) (hmc _ (List.mem_of_getElem? hxY) _ (List.mem_of_getElem? hxV))) rfl ?_; refine XO.not rfl rfl ?_; refine XO.nil ?_; refine XC.seq2 ?_; refine XC.cond rfl (fun c4_15 => ?_) (fun c4_15 => ?_)
       ·refine XC.seq ?_; refine XC.region ?_; refine XO.assign rfl rfl ?_; refine XO.nil ?_; refine XC.seq2 ?_; refine XC.ret ?_; refine blockR ?_; refine seqX_ret ?_; refine loopX_ret ?_; refine blockR ?_; refine blockR ?_; refine seqX_ret ?_; refine loopX_ret ?_; refine blockR ?_; refine seqX_ret ?_; refine ⟨rfl, _, [], rfl, (by repeat (first | exact List.Sublist.refl _ | apply List.Sublist.cons)), RetR.mk ?_⟩
        first | exact congrArg Value.bool (decide_eq_false (fun h => by have := congrArg List.length h; omega)).symm | exact congrArg Value.bool (decide_eq_false (fun h => by subst h; have h2 := Option.some.inj (hxX.symm.trans hxY); subst h2; first | exact absurd rfl (by assumption) | (have h3 := Option.some.inj (hxU.symm.trans hxV); exact absurd h3 (by assumption)))).symm | exact congrArg Value.bool (decide_eq_true (heq.trans (List.take_of_length_le (by omega)))).symm
       ·refine XC.skip ?_; refine blockN ?_; refine XC.seq2 ?_; refine XC.region ?_; refine XO.move rfl rfl ?_; refine XO.add rfl rfl (wrap_i64 (by omega) (by omega)) rfl ?_; refine XO.assign rfl rfl ?_; refine XO.nil ?_; refine loop_next (k + 1) (by show xX.length - (k + 1) < xX.length - k; omega) (prov_cons (rfl) (prov_cons (rfl) (prov_cons (rfl) (prov_cons (rfl) prov_nil)))) (⟨by show k + 1 ≤ xX.length; omega, rfl, by rw [take_snoc hxU, take_snoc hxV, hrow, show xU = xV from Decidable.not_not.1 (by assumption)]⟩) (by repeat (first | exact List.Sublist.refl _ | apply List.Sublist.cons_cons | apply List.Sublist.cons)) (hle1)
     ·obtain rfl : k = xX.length := by omega
      rw [List.take_length, List.take_of_length_le (by omega)] at hrow
      refine XC.exit ?_; refine seqX_exit ?_; refine loopX_exit ?_; refine blockHit rfl ?_; refine blockN ?_; refine XC.seq2 ?_; refine XC.region ?_; refine XO.move rfl rfl ?_; refine XO.add rfl rfl (wrap_i64 (by omega) (by omega)) rfl ?_; refine XO.assign rfl rfl ?_; refine XO.nil ?_; refine loop_next (i + 1) (by show l.length - (i + 1) < l.length - i; omega) (prov_cons (rfl) (prov_cons (rfl) (prov_cons (rfl) prov_nil))) (⟨by show i + 1 ≤ l.length; omega, rfl, by rw [take_snoc hxX, take_snoc hxY, heq, hrow]⟩) (by repeat (first | exact List.Sublist.refl _ | apply List.Sublist.cons_cons | apply List.Sublist.cons)) (hle0)
  ·obtain rfl : i = l.length := by omega
   rw [List.take_length] at heq
   refine XC.exit ?_; refine seqX_exit ?_; refine loopX_exit ?_; refine blockHit rfl ?_; refine XC.seq2 ?_; refine XC.seq ?_; refine XC.region ?_; refine XO.assign rfl rfl ?_; refine XO.nil ?_; refine XC.seq2 ?_; refine XC.ret ?_; refine ⟨rfl, _, [], rfl, (by repeat (first | exact List.Sublist.refl _ | apply List.Sublist.cons)), RetR.mk ?_⟩
   first | exact congrArg Value.bool (decide_eq_false (fun h => by have := congrArg List.length h; omega)).symm | exact congrArg Value.bool (decide_eq_false (fun h => by subst h; have h2 := Option.some.inj (hxX.symm.trans hxY); subst h2; first | exact absurd rfl (by assumption) | (have h3 := Option.some.inj (hxU.symm.trans hxV); exact absurd h3 (by assumption)))).symm | exact congrArg Value.bool (decide_eq_true (heq.trans (List.take_of_length_le (by omega)))).symm

end Go.Proofs

/- Boxes: cards put into a box as the reference does, in plain Lean. -/
set_option autoImplicit false
set_option linter.unusedVariables false
set_option linter.unusedSimpArgs false
namespace Go.Proofs
open Go.XL
def ltT (s y : Card) : Prop := cmpB (textC s) (textC y) < 0
instance (s y : Card) : Decidable (ltT s y) := by unfold ltT; infer_instance
def insF (s : Card) : List Card → List Card
 | [] => [s]
 | y :: r => if ltT s y then s :: y :: r else y :: insF s r
theorem insF_done {s : Card} {q : List Card} : ∀ {p : List Card}, (∃ y ∈ p, ltT s y) → insF s (p ++ q) = insF s p ++ q
  | [], ⟨y, hy, _⟩ => by cases hy
  | y :: p, h => by
    rw [List.cons_append, insF, insF]
    by_cases h1 : ltT s y
    · rw [if_pos h1, if_pos h1]; rfl
    · rw [if_neg h1, if_neg h1, List.cons_append, insF_done]
      obtain ⟨z, hz, h2⟩ := h
      rcases List.mem_cons.1 hz with rfl | hz
      · exact absurd h2 h1
      · exact ⟨z, hz, h2⟩
def withC (x : List Card) (s : Card) : List Card := if ∃ y ∈ x, textC y = textC s then x else (insF s x).take 2
/-- what the loop has gathered -/
def WI (s : Card) (x : List Card) (k : Nat) (dn : Bool) (U : List Card) : Prop := (dn = true → U = insF s (x.take k) ∧ ∃ y ∈ x.take k, ltT s y) ∧ (dn = false → U = x.take k ∧ ∀ y ∈ x.take k, ¬ ltT s y)
section
variable {s y : Card} {x U : List Card} {k : Nat} {dn : Bool}
theorem WI.no (h : WI s x k dn U) (hx : x[k]? = some y) (hn : ¬ (dn = false ∧ ltT s y)) : WI s x (k + 1) dn (U ++ [y]) := by
 refine ⟨fun e => ?_, fun e => ?_⟩
 ·obtain ⟨h1, h2⟩ := h.1 e
  rw [take_snoc hx, insF_done h2, h1]
  obtain ⟨z, hz, h3⟩ := h2
  exact ⟨rfl, z, List.mem_append_left _ hz, h3⟩
 ·obtain ⟨h1, h2⟩ := h.2 e
  rw [take_snoc hx, h1]
  refine ⟨rfl, fun z hz => ?_⟩
  rcases List.mem_append.1 hz with hz | hz
  ·exact h2 z hz
  ·simp only [List.mem_singleton] at hz; subst hz; exact fun hl => hn ⟨e, hl⟩
theorem WI.len (h : WI s x k dn U) : U.length ≤ k + 1 := by
 have hi : ∀ l : List Card, (insF s l).length = l.length + 1 := by
  intro l
  induction l with
  | nil => rfl
  | cons z r ih => rw [insF]; split <;> simp [ih]
 cases dn with
 | true => rw [(h.1 rfl).1, hi, List.length_take]; omega
 | false => rw [(h.2 rfl).1, List.length_take]; omega
theorem with_same (hy : y ∈ x) (h : textC y = textC s) : withC x s = x := if_pos ⟨y, hy, h⟩
theorem with_ins (h : ∀ y ∈ x, ¬ textC y = textC s) : withC x s = (insF s x).take 2 := if_neg fun ⟨y, hy, e⟩ => h y hy e
end
theorem mem_insF {s z : Card} : ∀ {x : List Card}, z ∈ insF s x → z = s ∨ z ∈ x
  | [], h => by simp [insF] at h; exact .inl h
  | y :: r, h => by
    rw [insF] at h
    split at h
    · rcases List.mem_cons.1 h with h | h
      · exact .inl h
      · exact .inr h
    · rcases List.mem_cons.1 h with h | h
      · exact .inr (by rw [h]; simp)
      · rcases mem_insF h with h | h
        · exact .inl h
        · exact .inr (List.mem_cons_of_mem _ h)
theorem mem_with {x : List Card} {s z : Card} (h : z ∈ withC x s) : z = s ∨ z ∈ x := by
 unfold withC at h
 split at h
 ·exact .inr h
 ·exact mem_insF (List.mem_of_mem_take h)
/-- a slot handed over -/
def SltU (x : List Card) (H : Hp) (v : Value) : Prop := ∃ a c, v = .agg ⟨[.slice a x.length c]⟩ ∧ SlR cardR H a c x
def befP (s : Card) (x : List Card) : Prop := cmpL (plcL s) (plcL (hd x)) < 0
instance (s : Card) (x : List Card) : Decidable (befP s x) := by unfold befP; infer_instance
def putS (s : Card) (st : Box × Bool) (x : List Card) : Box × Bool :=
 if st.2 = false ∧ befP s x then (if plcL s = plcL (hd x) then (st.1 ++ [[s]] ++ [withC x s], true) else (st.1 ++ [[s]] ++ [x], true))
 else (if plcL s = plcL (hd x) then (st.1 ++ [withC x s], true) else (st.1 ++ [x], st.2))
def putT (s : Card) (b : Box) : Box × Bool := b.foldl (putS s) ([], false)
def putB (b : Box) (s : Card) : Box := if (putT s b).2 = true then (putT s b).1 else (putT s b).1 ++ [[s]]
section
variable {s : Card} {b : Box} {x : List Card} {k : Nat}
theorem put_s (hx : b[k]? = some x) : putT s (b.take (k + 1)) = putS s (putT s (b.take k)) x := by unfold putT; rw [take_snoc hx, List.foldl_append]; rfl
theorem putT_len (s : Card) (b : Box) : ∀ k, (putT s (b.take k)).1.length + (if (putT s (b.take k)).2 = true then 0 else 1) ≤ k + 1
  | 0 => by simp [putT]
  | k + 1 => by
    have ih := putT_len s b k
    cases hx : b[k]? with
    | none =>
      have hk : b.length ≤ k := List.getElem?_eq_none_iff.1 hx
      rw [List.take_of_length_le (by omega)] at ih ⊢
      omega
    | some x =>
      rw [put_s hx, putS]
      split
      · rename_i h
        rw [if_neg (by rw [h.1]; decide)] at ih
        split <;> simp <;> omega
      · split
        · simp; split at ih <;> omega
        · simp only [List.length_append, List.length_singleton]; omega
theorem putB_len : (putB b s).length ≤ b.length + 1 := by
 have := putT_len s b b.length
 rw [List.take_length] at this
 unfold putB
 split
 ·rename_i h; rw [if_pos h] at this; omega
 ·rename_i h; rw [if_neg h] at this; rw [List.length_append, List.length_singleton]; omega
end
/-- boxes that may be walked -/
def goodB (b : Box) : Prop := ∀ x ∈ b, (0 < x.length ∧ x.length ≤ 2) ∧ ∀ s ∈ x, okC s
theorem good_of {b : Box} (h : chkB b = 0) : goodB b := fun x hx => by
 have h1 := List.all_eq_true.1 (chkB_0 h).2.1 x hx
 have := slot_len h1
 exact ⟨by omega, slot_ok h1⟩
theorem good_snoc {b : Box} {x : List Card} (h : goodB b) (h1 : 0 < x.length ∧ x.length ≤ 2) (h2 : ∀ s ∈ x, okC s) : goodB (b ++ [x]) := fun y hy => by
 rcases List.mem_append.1 hy with hy | hy
 ·exact h y hy
 ·simp only [List.mem_singleton] at hy; subst hy; exact ⟨h1, h2⟩
/-- a box and an error handed back -/
def BoxU (b : Box) (e : Int) (H : Hp) (v : Value) : Prop := ∃ a c, v = .tuple #[.slice a b.length c, .int .i64 e] ∧ SlR (slR cardR) H a c b
theorem BoxU.no {e : Int} {b : Box} {H : Hp} (h : b = []) : BoxU b e H (.tuple #[.slice none 0 0, .int .i64 e]) := by subst h; exact ⟨none, 0, rfl, SlR.nil0 _ _⟩
theorem BoxU.yes {b : Box} {H : Hp} {a : Option Addr} {c : Nat} {e : Int} (hs : SlR (slR cardR) H a c b) : BoxU b e H (.tuple #[.slice a b.length c, .int .i64 e]) := ⟨a, c, rfl, hs⟩
def rputE (b : Box) (s : Card) : Int := if chkB b = 0 then (if okC s then (if 4096 < (putB b s).length then 2 else 0) else 350) else chkB b
def rputX (b : Box) (s : Card) : Box := if rputE b s = 0 then putB b s else []
theorem rput_1 {b : Box} {s : Card} (h : chkB b ≠ 0) : rputE b s = chkB b ∧ rputX b s = [] := by
 have : rputE b s = chkB b := if_neg h
 exact ⟨this, if_neg (by rw [this]; exact h)⟩
theorem rput_2 {b : Box} {s : Card} (h : chkB b = 0) (h2 : ¬ okC s) : rputE b s = 350 ∧ rputX b s = [] := by
 have : rputE b s = 350 := by unfold rputE; rw [if_pos h, if_neg h2]
 exact ⟨this, if_neg (by rw [this]; decide)⟩
theorem rput_3 {b : Box} {s : Card} (h : chkB b = 0) (h2 : okC s) (h3 : 4096 < (putB b s).length) : rputE b s = 2 ∧ rputX b s = [] := by
 have : rputE b s = 2 := by unfold rputE; rw [if_pos h, if_pos h2, if_pos h3]
 exact ⟨this, if_neg (by rw [this]; decide)⟩
theorem rput_4 {b : Box} {s : Card} (h : chkB b = 0) (h2 : okC s) (h3 : ¬ 4096 < (putB b s).length) : rputE b s = 0 ∧ rputX b s = putB b s := by
 have : rputE b s = 0 := by unfold rputE; rw [if_pos h, if_pos h2, if_neg h3]
 exact ⟨this, if_pos this⟩
def putsB (a : Box) (l : List Card) : Box := l.foldl putB a
theorem puts_len : ∀ (l : List Card) (a : Box), (putsB a l).length ≤ a.length + l.length
  | [], a => by simp [putsB]
  | s :: l, a => by
    have h1 := puts_len l (putB a s)
    have h2 := putB_len (b := a) (s := s)
    have : putsB a (s :: l) = putsB (putB a s) l := rfl
    rw [this, List.length_cons]; omega
theorem puts_snoc (a : Box) (l : List Card) (s : Card) : putsB a (l ++ [s]) = putB (putsB a l) s := by unfold putsB; rw [List.foldl_append]; rfl
def rmrgE (a b : Box) : Int := if chkB a = 0 then (if chkB b = 0 then (if 4096 < (putsB a b.flatten).length then 2 else 0) else chkB b) else chkB a
def rmrgX (a b : Box) : Box := if rmrgE a b = 0 then putsB a b.flatten else []
theorem flat_take {α : Type} {l : List (List α)} {k : Nat} {x : List α} (hx : l[k]? = some x) : (l.take (k + 1)).flatten = (l.take k).flatten ++ x := by rw [take_snoc hx, List.flatten_append]; simp
theorem flat_len {b : Box} (h : goodB b) : b.flatten.length ≤ 2 * b.length := by
  induction b with
  | nil => simp
  | cons x b ih =>
    have h1 := (h x List.mem_cons_self).1.2
    have h2 := ih fun y hy => h y (List.mem_cons_of_mem _ hy)
    rw [List.flatten_cons, List.length_append, List.length_cons]; omega
theorem good_mem {b : Box} (h : goodB b) {s : Card} (hs : s ∈ b.flatten) : okC s := by
 obtain ⟨x, hx, hs⟩ := List.mem_flatten.1 hs
 exact (h x hx).2 s hs
theorem good_take {b : Box} (h : goodB b) (k : Nat) : goodB (b.take k) := fun x hx => h x (List.mem_of_mem_take hx)
/-- found -/
def fndC (b : Box) (p : List Int) : Option Card := (b.find? fun x => decide (plcL (hd x) = p ∧ x.length = 1)).map hd
theorem fnd_y {b : Box} {p : List Int} {k : Nat} {x : List Card} (h : ∀ y ∈ b.take k, ¬ (plcL (hd y) = p ∧ y.length = 1)) (hx : b[k]? = some x) (h1 : plcL (hd x) = p ∧ x.length = 1) : fndC b p = some (hd x) := by
 unfold fndC
 have e : b = b.take k ++ x :: b.drop (k + 1) := by rw [← drop_cons hx, List.take_append_drop]
 rw [e, List.find?_append, List.find?_eq_none.2 (fun y hy => by simpa using h y hy), Option.none_or, List.find?_cons_of_pos (by simpa using h1)]; rfl
theorem fnd_n {b : Box} {p : List Int} (h : ∀ y ∈ b, ¬ (plcL (hd y) = p ∧ y.length = 1)) : fndC b p = none := by
 unfold fndC; rw [List.find?_eq_none.2 (fun y hy => by simpa using h y hy)]; rfl
def FndU (o : Option Card) (e : Int) (H : Hp) (v : Value) : Prop := ∃ a c, v = .tuple #[.agg ⟨cardV (o.getD c0).R (o.getD c0).E (o.getD c0).J (o.getD c0).C.length (o.getD c0).D a c⟩, .bool o.isSome, .int .i64 e] ∧ SlR (intR .i64) H a c (o.getD c0).C ∧ (o.getD c0).D.length = 32
theorem FndU.no {o : Option Card} {e : Int} {H : Hp} (h : o = none) : FndU o e H (.tuple #[.agg ⟨cardV 0 0 0 0 c0.D none 0⟩, .bool false, .int .i64 e]) := by subst h; exact ⟨none, 0, rfl, SlR.nil0 _ _, rfl⟩
theorem FndU.yes {o : Option Card} {s : Card} {e : Int} {H : Hp} {a : Option Addr} {c : Nat} (h : o = some s) (hs : SlR (intR .i64) H a c s.C) (hD : s.D.length = 32) : FndU o e H (.tuple #[.agg ⟨cardV s.R s.E s.J s.C.length s.D a c⟩, .bool true, .int .i64 e]) := by subst h; exact ⟨a, c, rfl, hs, hD⟩
def fndR (b : Box) (p : List Int) : Option Card := if chkB b = 0 then fndC b p else none
def PutU (b : Box) (s : Card) (H : Hp) (v : Value) : Prop := ∃ a c, v = .slice a (putB b s).length c ∧ SlR (slR cardR) H a c (putB b s)
theorem PutU.y {b : Box} {s : Card} {H : Hp} {a : Option Addr} {c : Nat} (h : (putT s b).2 = true) (hs : SlR (slR cardR) H a c (putT s b).1) : PutU b s H (.slice a (putT s b).1.length c) := by
 have : putB b s = (putT s b).1 := if_pos h
 exact ⟨a, c, by rw [this], by rw [this]; exact hs⟩
theorem PutU.n {b : Box} {s : Card} {H : Hp} {a : Option Addr} {c : Nat} (h : (putT s b).2 = false) (hs : SlR (slR cardR) H a c ((putT s b).1 ++ [[s]])) : PutU b s H (.slice a ((putT s b).1 ++ [[s]]).length c) := by
 have : putB b s = (putT s b).1 ++ [[s]] := if_neg (by rw [h]; decide)
 exact ⟨a, c, by rw [this], by rw [this]; exact hs⟩
theorem SltU.cut {x U ls : List Card} {s : Card} {H : Hp} {a : Option Addr} {c : Nat} (hne : ∀ y ∈ x, ¬ textC y = textC s) (hU : U = insF s x) (hl : ls = (U.drop (0 : Int).toNat).take ((min ((U.length : Nat) : Int) 2).toNat - (0 : Int).toNat)) (hs : SlR cardR H a c ls) : SltU (withC x s) H (.agg ⟨[.slice a ls.length c]⟩) := by
 have e : withC x s = ls := by
  rw [with_ins hne, hl, ← hU, show (0 : Int).toNat = 0 from rfl, List.drop_zero]
  rcases Nat.lt_or_ge U.length 2 with h | h
  ·rw [List.take_of_length_le (by omega), List.take_of_length_le (by omega)]
  ·rw [show (min ((U.length : Nat) : Int) 2).toNat - 0 = 2 by omega]
 exact ⟨a, c, by rw [e], by rw [e]; exact hs⟩
theorem rmrg_1 {a b : Box} (h : chkB a ≠ 0) : rmrgE a b = chkB a ∧ rmrgX a b = [] := by
 have : rmrgE a b = chkB a := if_neg h
 exact ⟨this, if_neg (by rw [this]; exact h)⟩
theorem rmrg_2 {a b : Box} (h : chkB a = 0) (h2 : chkB b ≠ 0) : rmrgE a b = chkB b ∧ rmrgX a b = [] := by
 have : rmrgE a b = chkB b := by unfold rmrgE; rw [if_pos h, if_neg h2]
 exact ⟨this, if_neg (by rw [this]; exact h2)⟩
theorem rmrg_3 {a b : Box} (h : chkB a = 0) (h2 : chkB b = 0) (h3 : 4096 < (putsB a b.flatten).length) : rmrgE a b = 2 ∧ rmrgX a b = [] := by
 have : rmrgE a b = 2 := by unfold rmrgE; rw [if_pos h, if_pos h2, if_pos h3]
 exact ⟨this, if_neg (by rw [this]; decide)⟩
theorem rmrg_4 {a b : Box} (h : chkB a = 0) (h2 : chkB b = 0) (h3 : ¬ 4096 < (putsB a b.flatten).length) : rmrgE a b = 0 ∧ rmrgX a b = putsB a b.flatten := by
 have : rmrgE a b = 0 := by unfold rmrgE; rw [if_pos h, if_pos h2, if_neg h3]
 exact ⟨this, if_pos this⟩
theorem BoxU.e {X : Box} {e E : Int} {H : Hp} (h : E = e ∧ X = []) : BoxU X E H (.tuple #[.slice none 0 0, .int .i64 e]) := by obtain ⟨rfl, rfl⟩ := h; exact BoxU.no rfl
theorem BoxU.k {b X : Box} {E : Int} {H : Hp} {a : Option Addr} {c : Nat} (h : E = 0 ∧ X = b) (hs : SlR (slR cardR) H a c b) : BoxU X E H (.tuple #[.slice a b.length c, .int .i64 0]) := by obtain ⟨rfl, rfl⟩ := h; exact BoxU.yes hs
theorem flat_part_len {b : Box} (hg : goodB b) {x : List Card} {i : Nat} (hx : b[i]? = some x) (j : Nat) : ((b.take i).flatten ++ x.take j).length ≤ 2 * b.length := by
 have h1 := flat_len (good_take hg (i + 1))
 rw [flat_take hx] at h1
 have h2 : (b.take (i + 1)).length ≤ b.length := by rw [List.length_take]; omega
 rw [List.length_append] at h1 ⊢
 rw [List.length_take]; omega
theorem FndU.n {o : Option Card} {e e' : Int} {H : Hp} (h : o = none ∧ e = e') : FndU o e H (.tuple #[.agg ⟨cardV 0 0 0 0 c0.D none 0⟩, .bool false, .int .i64 e']) := by obtain ⟨h, rfl⟩ := h; exact FndU.no h
theorem FndU.y {o : Option Card} {s : Card} {e : Int} {H : Hp} {a : Option Addr} {c : Nat} (h : o = some s ∧ e = 0) (hs : SlR (intR .i64) H a c s.C) (hD : s.D.length = 32) : FndU o e H (.tuple #[.agg ⟨cardV s.R s.E s.J s.C.length s.D a c⟩, .bool true, .int .i64 0]) := by obtain ⟨h, rfl⟩ := h; exact FndU.yes h hs hD
theorem fndR_1 {b : Box} {p : List Int} (h : ¬ chkB b = 0) : fndR b p = none ∧ chkB b = chkB b := ⟨if_neg h, rfl⟩
theorem fndR_2 {b : Box} {p : List Int} {k : Nat} {x : List Card} (h0 : chkB b = 0) (h : ∀ y ∈ b.take k, ¬ (plcL (hd y) = p ∧ y.length = 1)) (hx : b[k]? = some x) (h1 : plcL (hd x) = p ∧ x.length = 1) : fndR b p = some (hd x) ∧ chkB b = 0 := ⟨by unfold fndR; rw [if_pos h0]; exact fnd_y h hx h1, h0⟩
theorem fndR_3 {b : Box} {p : List Int} (h0 : chkB b = 0) (h : ∀ y ∈ b, ¬ (plcL (hd y) = p ∧ y.length = 1)) : fndR b p = none ∧ chkB b = 0 := ⟨by unfold fndR; rw [if_pos h0]; exact fnd_n h, h0⟩
end Go.Proofs

/- The walks of the functions of boxes: what each of them computes, at any input. -/
set_option maxRecDepth 100000
set_option autoImplicit false
set_option linter.unusedVariables false
set_option linter.unusedSimpArgs false
namespace Go.Proofs
open Go.XL

theorem bf_50 : structF Try.prog 50 = some [(0, 1)] := by kernel_rfl
theorem bk_50 : structK Try.prog 50 = true := by kernel_rfl
theorem by_27 : Nat.ble (Try.prog.bytesOf 27) 4096 = true := by kernel_rfl
theorem by_50 : Nat.ble (Try.prog.bytesOf 50) 4096 = true := by kernel_rfl

end Go.Proofs

/- The walks of the functions of boxes: what each of them computes, at any input. -/
set_option maxRecDepth 100000
set_option autoImplicit false
set_option linter.unusedVariables false
set_option linter.unusedSimpArgs false
namespace Go.Proofs
open Go.XL

theorem bf_27 : structF Try.prog 27 = some [(0, 1), (1, 1), (2, 1), (3, 1), (4, 32)] := by kernel_rfl
theorem bk_27 : structK Try.prog 27 = true := by kernel_rfl

theorem find_b (a : Option Addr) (c : Nat) (l : Box) (H : Hp) (hs : SlR (slR cardR) H a c l) (hl : l.length < 9223372036854775808) (hlx : ∀ x ∈ l, x.length < 9223372036854775808) (hlc : ∀ x ∈ l, ∀ s ∈ x, s.C.length < 9223372036854775808) (x y z : Int) : FnC Try.prog 18 #[.slice a l.length c, .int .i64 x, .int .i64 y, .int .i64 z] H [] (RetR (fun v H2 _ => FndU (fndR l [x, y, z]) (chkB l) H2 v)) := by
 refine FnC.introC (args := [.slice a l.length c, .int .i64 x, .int .i64 y, .int .i64 z]) Try.func18 rfl rfl Try.ntmps18 rfl rfl rfl fun G rest => ?_
 refine XC.seq ?_; refine XC.region ?_; refine XO.alloc ze_27 rfl (fun b8 => ?_); refine XO.assign rfl rfl ?_; refine XO.assign rfl rfl ?_; refine XO.nil ?_; refine XC.seq2 ?_; refine XC.seq ?_; refine XC.seq ?_; refine XC.region ?_; refine XO.move rfl rfl ?_; refine XO.callV rfl (check_b _ _ l _ hs hl hlx hlc) rfl ?_; refine XO.assign rfl rfl ?_; refine XO.nil ?_; refine XC.seq2 ?_; refine XC.seq ?_; refine XC.region ?_; refine XO.move rfl rfl ?_; refine XO.neq rfl rfl rfl ?_; refine XO.nil ?_; refine XC.seq2 ?_; refine XC.cond rfl (fun c0_2 => ?_) (fun c0_2 => ?_)
 ·refine XC.seq ?_; refine XC.region ?_; refine XO.loadO 0 rfl rfl ty_27 rfl rfl rfl ?_; refine XO.move rfl rfl ?_; refine XO.storeO 0 rfl rfl rfl rfl ty_27 rfl rfl rfl rfl rfl ?_; refine XO.assign rfl rfl ?_; refine XO.assign rfl rfl ?_; refine XO.nil ?_; refine XC.seq2 ?_; refine XC.ret ?_; refine seqX_ret ?_; refine ⟨rfl, _, [], (resC_cell 0 rfl rfl ty_27 rfl rfl (resC_tmp rfl (resC_tmp rfl resC_nil))), (by repeat (first | exact List.Sublist.refl _ | apply List.Sublist.cons)), RetR.mk ?_⟩
  first | exact FndU.n (fndR_1 (by omega)) | exact FndU.y (fndR_2 h0 hno hx28 ⟨by assumption, by omega⟩) (by assumption) (by assumption) | exact FndU.n (fndR_3 h0 hno)
 ·have h0 : chkB l = 0 := by omega
  have hg := good_of h0
  refine XC.skip ?_; refine XC.seq2 ?_; refine XC.seq ?_; refine XC.region ?_; refine XO.move rfl rfl ?_; refine XO.move rfl rfl ?_; refine XO.move rfl rfl ?_; refine XO.buildArr Try.underlying55 ty_3 ze_55 rfl rfl rfl ?_; refine XO.alloc ze_55 rfl (fun b11 => ?_); refine XO.storeO 0 rfl rfl rfl rfl ty_55 rfl rfl rfl rfl rfl ?_; refine XO.nil ?_; refine XC.seq2 ?_; refine XC.seq ?_; refine XC.seq ?_; refine XC.region ?_; refine XO.move rfl rfl ?_; refine XO.lenS (ts := #[]) rfl Try.underlying22 rfl ?_; refine XO.move rfl rfl ?_; refine XO.nil ?_; refine XC.seq2 ?_; refine XC.block ?_; refine XC.keep [26, 8, 11, 24, 25] rfl ?_; refine XC.loop (base := [(8, _), (11, _), (24, _), (25, _)]) (fun ζ : Nat => [(26, .int .i64 (ζ : Nat))]) (fun ζ Hl own => ζ ≤ l.length ∧ (b11, .cells 55 [.int .i64 x, .int .i64 y, .int .i64 z]) :: (b8, .cells 27 (cardV 0 0 0 0 c0.D none 0)) :: rest = own ∧ (∀ y_ ∈ l.take (ζ), ¬ (plcL (hd y_) = [x, y, z] ∧ y_.length = 1))) (fun ζ => l.length - ζ) 0 (prov_cons (rfl) (prov_cons (rfl) (prov_cons (rfl) (prov_cons (rfl) (prov_cons (rfl) prov_nil))))) (by repeat (first | exact List.Sublist.refl _ | apply List.Sublist.cons_cons | apply List.Sublist.cons)) ⟨Nat.zero_le _, rfl, by simp⟩ ?_; rintro k Hl0 _ hle0 ⟨hkk, rfl, hno⟩; replace hs := hs.mono hle0
  try dsimp only at ⊢
  refine XC.seq ?_; refine XC.region ?_; refine XO.lss rfl rfl rfl ?_; refine XO.nil ?_; refine XC.seq2 ?_; refine XC.seq ?_; refine XC.cond rfl (fun c1_3 => ?_) (fun c1_3 => ?_)
  ·skip
   refine XC.skip ?_; refine XC.seq2 ?_; refine XC.seq ?_; refine XC.block ?_; refine XC.seq ?_; refine XC.region ?_; refine XO.indexN rfl hs rfl Try.underlying22 ty_50 (by omega) rfl ?_; rintro eb28 eo28 _ x28 hx28 ⟨ax28, cx28, rfl, hd28⟩ hp28
   have hk28 := (hg _ (List.mem_of_getElem? hx28)).1
   refine XO.loadH rfl (by assumption) ty_50 rfl rfl rfl ?_; refine XO.alloc ze_50 rfl (fun b13 => ?_); refine XO.storeO 0 rfl rfl rfl rfl ty_50 rfl rfl rfl rfl rfl ?_; refine XO.nil ?_; refine XC.seq2 ?_; refine XC.seq ?_
   by_cases hpl : plcL (hd x28) = [x, y, z]
   ·skip
    refine XC.keep [8, 11, 13, 24, 25, 26] rfl ?_; obtain ⟨bEZ, oEZ, rfl⟩ := hd28.addr (by omega); obtain ⟨_, xZ, hxZ, ⟨axZ, cxZ, rfl, hdZ, hDZ⟩, hpZ⟩ := hd28.elem (0) (by omega); obtain rfl := hd_at hxZ
    apply XC.draw 6 [eqF _, eqF _, eqF _, eqF _, eqF _, eqF _] follows (by kernel_rfl) (by kernel_rfl) ⟨eqF_mono _, eqF_mono _, eqF_mono _, eqF_mono _, eqF_mono _, eqF_mono _, trivial⟩ ?steps5 ?tail5
    case steps5 =>
     refine stepsK_cons rfl ?_ ?_
     ·intro X
      refine withPreds_nil rfl ?_; refine XO.fieldAddr rfl fa_50_0 rfl ?_; refine XO.nil ?_
      exact stepQ_ok rfl (rfl)
     refine stepsK_cons rfl ?_ ?_
     ·intro X
      refine withPreds_cons rfl rfl ?_; rintro _ rfl; refine withPreds_nil rfl ?_; refine XO.loadO 0 rfl rfl ty_31 rfl rfl rfl ?_; refine XO.nil ?_
      exact stepQ_ok rfl (rfl)
     refine stepsK_cons rfl ?_ ?_
     ·intro X
      refine withPreds_cons rfl rfl ?_; rintro _ rfl; refine withPreds_nil rfl ?_; refine XO.indexE rfl rfl Try.underlying31 ty_27 (by omega) (by omega) rfl ?_; refine XO.nil ?_
      exact stepQ_ok rfl (rfl)
     refine stepsK_cons rfl ?_ ?_
     ·intro X
      refine withPreds_cons rfl rfl ?_; rintro _ rfl; refine withPreds_nil rfl ?_; refine XO.loadH rfl (by assumption) ty_27 rfl rfl rfl ?_; refine XO.nil ?_
      exact stepQ_ok rfl (rfl)
     refine stepsK_cons rfl ?_ ?_
     ·intro X
      refine withPreds_cons rfl rfl ?_; rintro _ rfl; refine withPreds_nil rfl ?_; refine XO.callV rfl (at_fn (hd x28) _ _ _ hdZ hDZ) rfl ?_; refine XO.nil ?_
      exact stepQ_ok rfl (rfl)
     refine stepsK_cons rfl ?_ ?_
     ·intro X
      refine withPreds_nil rfl ?_; refine XO.loadO 1 rfl rfl ty_55 rfl rfl rfl ?_; refine XO.nil ?_
      exact stepQ_ok rfl (rfl)
     exact stepsD_end rfl
    case tail5 =>
     refine withPreds_cons rfl rfl ?_; rintro _ rfl; refine withPreds_cons rfl rfl ?_; rintro _ rfl; refine withPreds_cons rfl rfl ?_; rintro _ rfl; refine withPreds_cons rfl rfl ?_; rintro _ rfl; refine withPreds_cons rfl rfl ?_; rintro _ rfl; refine withPreds_cons rfl rfl ?_; rintro _ rfl; refine withPreds_nil rfl ?_; refine XO.eqlAr (l := plcL (hd x28)) (m := [x, y, z]) rfl rfl rfl rfl rfl rfl Try.underlying55 eg_55 Try.underlying3 ty_3 rfl ?_; refine XO.move rfl rfl ?_; refine XO.guardT rfl rfl (decide_eq_true hpl) rfl ?_; refine XO.fieldAddr rfl fa_50_0 rfl ?_; refine XO.guardT rfl rfl (decide_eq_true hpl) rfl ?_; refine XO.loadO 0 rfl rfl ty_31 rfl rfl rfl ?_; refine XO.guardT rfl rfl (decide_eq_true hpl) rfl ?_; refine XO.lenS (ts := #[]) rfl Try.underlying31 rfl ?_; refine XO.guardT rfl rfl (decide_eq_true hpl) rfl ?_; refine XO.eql rfl rfl rfl ?_; refine XO.pickT rfl (decide_eq_true hpl) rfl rfl ?_; refine XO.nil ?_; refine XC.seq2 ?_; refine XC.cond rfl (fun c2_9 => ?_) (fun c2_9 => ?_)
     ·refine XC.seq ?_; refine XC.region ?_; refine XO.fieldAddr rfl fa_50_0 rfl ?_; refine XO.loadO 0 rfl rfl ty_31 rfl rfl rfl ?_; refine XO.indexN (i := 0) rfl hd28 rfl Try.underlying31 ty_27 (by omega) rfl ?_; rintro eb45 eo45 _ x45 hx45 ⟨ax45, cx45, rfl, hd45, hD45⟩ hp45; obtain rfl := hd_at hx45; refine XO.loadH rfl (by assumption) ty_27 rfl rfl rfl ?_; refine XO.storeO 2 rfl rfl rfl rfl ty_27 rfl rfl rfl rfl rfl ?_; refine XO.assign rfl rfl ?_; refine XO.assign rfl rfl ?_; refine XO.nil ?_; refine XC.seq2 ?_; refine XC.ret ?_; refine blockR ?_; refine seqX_ret ?_; refine loopX_ret ?_; refine blockR ?_; refine seqX_ret ?_; refine ⟨rfl, _, [], (resC_cell 2 rfl rfl ty_27 rfl rfl (resC_tmp rfl (resC_tmp rfl resC_nil))), (by repeat (first | exact List.Sublist.refl _ | apply List.Sublist.cons)), RetR.mk ?_⟩
      first | exact FndU.n (fndR_1 (by omega)) | exact FndU.y (fndR_2 h0 hno hx28 ⟨by assumption, by omega⟩) (by assumption) (by assumption) | exact FndU.n (fndR_3 h0 hno)
     ·refine XC.skip ?_; refine blockN ?_; refine XC.seq2 ?_; refine XC.region ?_; refine XO.add rfl rfl (wrap_i64 (by omega) (by omega)) rfl ?_; refine XO.move rfl rfl ?_; refine XO.nil ?_; refine loop_next (k + 1) (by show l.length - (k + 1) < l.length - k; omega) (prov_cons (rfl) (prov_cons (rfl) (prov_cons (rfl) (prov_cons (rfl) (prov_cons (rfl) prov_nil))))) (⟨by show k + 1 ≤ l.length; omega, rfl, all_snocP (p := fun y_ => ¬ (plcL (hd y_) = [x, y, z] ∧ y_.length = 1)) hno hx28 (fun h => by first | exact absurd h.1 (by assumption) | (have := h.2; omega))⟩) (by repeat (first | exact List.Sublist.refl _ | apply List.Sublist.cons_cons | apply List.Sublist.cons)) (hle0)
   ·skip
    refine XC.keep [8, 11, 13, 24, 25, 26] rfl ?_; obtain ⟨bEZ, oEZ, rfl⟩ := hd28.addr (by omega); obtain ⟨_, xZ, hxZ, ⟨axZ, cxZ, rfl, hdZ, hDZ⟩, hpZ⟩ := hd28.elem (0) (by omega); obtain rfl := hd_at hxZ
    apply XC.draw 6 [eqF _, eqF _, eqF _, eqF _, eqF _, eqF _] follows (by kernel_rfl) (by kernel_rfl) ⟨eqF_mono _, eqF_mono _, eqF_mono _, eqF_mono _, eqF_mono _, eqF_mono _, trivial⟩ ?steps11 ?tail11
    case steps11 =>
     refine stepsK_cons rfl ?_ ?_
     ·intro X
      refine withPreds_nil rfl ?_; refine XO.fieldAddr rfl fa_50_0 rfl ?_; refine XO.nil ?_
      exact stepQ_ok rfl (rfl)
     refine stepsK_cons rfl ?_ ?_
     ·intro X
      refine withPreds_cons rfl rfl ?_; rintro _ rfl; refine withPreds_nil rfl ?_; refine XO.loadO 0 rfl rfl ty_31 rfl rfl rfl ?_; refine XO.nil ?_
      exact stepQ_ok rfl (rfl)
     refine stepsK_cons rfl ?_ ?_
     ·intro X
      refine withPreds_cons rfl rfl ?_; rintro _ rfl; refine withPreds_nil rfl ?_; refine XO.indexE rfl rfl Try.underlying31 ty_27 (by omega) (by omega) rfl ?_; refine XO.nil ?_
      exact stepQ_ok rfl (rfl)
     refine stepsK_cons rfl ?_ ?_
     ·intro X
      refine withPreds_cons rfl rfl ?_; rintro _ rfl; refine withPreds_nil rfl ?_; refine XO.loadH rfl (by assumption) ty_27 rfl rfl rfl ?_; refine XO.nil ?_
      exact stepQ_ok rfl (rfl)
     refine stepsK_cons rfl ?_ ?_
     ·intro X
      refine withPreds_cons rfl rfl ?_; rintro _ rfl; refine withPreds_nil rfl ?_; refine XO.callV rfl (at_fn (hd x28) _ _ _ hdZ hDZ) rfl ?_; refine XO.nil ?_
      exact stepQ_ok rfl (rfl)
     refine stepsK_cons rfl ?_ ?_
     ·intro X
      refine withPreds_nil rfl ?_; refine XO.loadO 1 rfl rfl ty_55 rfl rfl rfl ?_; refine XO.nil ?_
      exact stepQ_ok rfl (rfl)
     exact stepsD_end rfl
    case tail11 =>
     refine withPreds_cons rfl rfl ?_; rintro _ rfl; refine withPreds_cons rfl rfl ?_; rintro _ rfl; refine withPreds_cons rfl rfl ?_; rintro _ rfl; refine withPreds_cons rfl rfl ?_; rintro _ rfl; refine withPreds_cons rfl rfl ?_; rintro _ rfl; refine withPreds_cons rfl rfl ?_; rintro _ rfl; refine withPreds_nil rfl ?_; refine XO.eqlAr (l := plcL (hd x28)) (m := [x, y, z]) rfl rfl rfl rfl rfl rfl Try.underlying55 eg_55 Try.underlying3 ty_3 rfl ?_; refine XO.move rfl rfl ?_; refine XO.guardF rfl rfl (decide_eq_false hpl) rfl rfl ?_; refine XO.guardF rfl rfl (decide_eq_false hpl) rfl rfl ?_; refine XO.guardF rfl rfl (decide_eq_false hpl) rfl rfl ?_; refine XO.guardF rfl rfl (decide_eq_false hpl) rfl rfl ?_; refine XO.pickF rfl (decide_eq_false hpl) rfl rfl ?_; refine XO.nil ?_; refine XC.seq2 ?_; refine XC.condF rfl (rfl) ?_; refine XC.skip ?_; refine blockN ?_; refine XC.seq2 ?_; refine XC.region ?_; refine XO.add rfl rfl (wrap_i64 (by omega) (by omega)) rfl ?_; refine XO.move rfl rfl ?_; refine XO.nil ?_; refine loop_next (k + 1) (by show l.length - (k + 1) < l.length - k; omega) (prov_cons (rfl) (prov_cons (rfl) (prov_cons (rfl) (prov_cons (rfl) (prov_cons (rfl) prov_nil))))) (⟨by show k + 1 ≤ l.length; omega, rfl, all_snocP (p := fun y_ => ¬ (plcL (hd y_) = [x, y, z] ∧ y_.length = 1)) hno hx28 (fun h => by first | exact absurd h.1 (by assumption) | (have := h.2; omega))⟩) (by repeat (first | exact List.Sublist.refl _ | apply List.Sublist.cons_cons | apply List.Sublist.cons)) (hle0)
  ·obtain rfl : k = l.length := by omega
   rw [List.take_length] at hno
   refine XC.exit ?_; refine seqX_exit ?_; refine loopX_exit ?_; refine blockHit rfl ?_; refine XC.seq2 ?_; refine XC.seq ?_; refine XC.region ?_; refine XO.loadO 1 rfl rfl ty_27 rfl rfl rfl ?_; refine XO.storeO 1 rfl rfl rfl rfl ty_27 rfl rfl rfl rfl rfl ?_; refine XO.assign rfl rfl ?_; refine XO.assign rfl rfl ?_; refine XO.nil ?_; refine XC.seq2 ?_; refine XC.ret ?_; refine ⟨rfl, _, [], (resC_cell 1 rfl rfl ty_27 rfl rfl (resC_tmp rfl (resC_tmp rfl resC_nil))), (by repeat (first | exact List.Sublist.refl _ | apply List.Sublist.cons)), RetR.mk ?_⟩
   first | exact FndU.n (fndR_1 (by omega)) | exact FndU.y (fndR_2 h0 hno hx28 ⟨by assumption, by omega⟩) (by assumption) (by assumption) | exact FndU.n (fndR_3 h0 hno)

end Go.Proofs

/- The walks of the functions of boxes: what each of them computes, at any input. -/
set_option maxRecDepth 100000
set_option autoImplicit false
set_option linter.unusedVariables false
set_option linter.unusedSimpArgs false
namespace Go.Proofs
open Go.XL



end Go.Proofs

/- Boxes: the program's merge, in plain Lean. -/
set_option maxRecDepth 100000
set_option autoImplicit false
set_option linter.unusedVariables false
set_option linter.unusedSimpArgs false
namespace Go.Proofs
open Go.XL
/-- two lists in one, in order -/
def mrg : List Card → List Card → List Card
 | [], y => y
 | x :: p, [] => x :: p
 | x :: p, y :: q => if ordC y x < 0 then y :: mrg (x :: p) q else x :: mrg p (y :: q)
termination_by a b => a.length + b.length
theorem mrg_nil (x : List Card) : mrg x [] = x := by cases x <;> rw [mrg]
theorem mrg_x {X Y : List Card} {z : Card} (h : X[0]? = some z) (hc : Y.length = 0 ∨ ∃ y, Y[0]? = some y ∧ ¬ ordC y z < 0) : mrg X Y = z :: mrg (X.drop 1) Y := by
  match X, h with
  | x :: p, h =>
    simp at h; subst h
    match Y, hc with
    | [], _ => rw [mrg_nil, mrg_nil]; rfl
    | y :: q, hc =>
      rw [mrg, if_neg]
      · rfl
      · rcases hc with hc | ⟨y', h1, h2⟩
        · simp at hc
        · simp at h1; subst h1; exact h2
theorem mrg_y {X Y : List Card} {z : Card} (h : Y[0]? = some z) (hc : X.length = 0 ∨ ∃ x, X[0]? = some x ∧ ordC z x < 0) : mrg X Y = z :: mrg X (Y.drop 1) := by
  match Y, h with
  | y :: q, h =>
    simp at h; subst h
    match X, hc with
    | [], _ => rw [mrg, mrg]; rfl
    | x :: p, hc =>
      rw [mrg, if_pos]
      · rfl
      · rcases hc with hc | ⟨x', h1, h2⟩
        · simp at hc
        · simp at h1; subst h1; exact h2
theorem drop_one {Z ls : List Card} (h : ls = (Z.drop (1 : Int).toNat).take (((Z.length : Nat) : Int).toNat - (1 : Int).toNat)) : ls = Z.drop 1 := by
 rw [h, show (1 : Int).toNat = 1 from rfl, show ((Z.length : Nat) : Int).toNat = Z.length from rfl, List.take_of_length_le]
 rw [List.length_drop]; omega
theorem mem_mrg : ∀ {x y : List Card} {z : Card}, z ∈ mrg x y ↔ z ∈ x ∨ z ∈ y
  | [], y, z => by rw [mrg]; simp
  | x :: p, [], z => by rw [mrg]; simp
  | x :: p, y :: q, z => by
    rw [mrg]
    split
    · rw [List.mem_cons, mem_mrg, List.mem_cons (a := z) (b := y)]; constructor <;> (intro h; rcases h with h | h | h <;> simp [h])
    · rw [List.mem_cons, mem_mrg, List.mem_cons (a := z) (b := x)]; constructor
      · intro h; rcases h with h | h | h <;> simp [h]
      · intro h; rcases h with (h | h) | h <;> simp [h]
termination_by x y => x.length + y.length
theorem len_mrg : ∀ (x y : List Card), (mrg x y).length = x.length + y.length
  | [], y => by rw [mrg]; simp
  | x :: p, [] => by rw [mrg]; simp
  | x :: p, y :: q => by
    rw [mrg]
    split
    · rw [List.length_cons, len_mrg]; simp; omega
    · rw [List.length_cons, len_mrg]; simp; omega
termination_by x y => x.length + y.length
def encC (x : Card) (b : Option Addr × Nat) : List Value := [.agg ⟨cardV x.R x.E x.J x.C.length x.D b.1 b.2⟩]
def lendC (x : Card) (b : Option Addr × Nat) (H : Hp) (o : XL.Own) : Prop := o = [] ∧ SlR (intR .i64) H b.1 b.2 x.C ∧ x.D.length = 32
/-- one card more -/
def stepM (R : Box) (s : Card) : Box :=
 match R[R.length - 1]? with
 | none => R ++ [[s]]
 | some x => if plcL (hd x) ≠ plcL s then R ++ [[s]] else if x.length < 2 ∧ ordC (hd x) s < 0 then R.set (R.length - 1) (x ++ [s]) else R
def boxO (l : List Card) : Box := l.foldl stepM []
theorem boxO_snoc (l : List Card) (s : Card) : boxO (l ++ [s]) = stepM (boxO l) s := by unfold boxO; rw [List.foldl_append]; rfl
section
variable {R : Box} {s : Card} {x : List Card}
theorem step_1 (h : R.length = 0) : stepM R s = R ++ [[s]] := by
 have : R = [] := List.eq_nil_of_length_eq_zero h
 subst this; rfl
theorem step_2 (hx : R[R.length - 1]? = some x) (h : plcL (hd x) ≠ plcL s) : stepM R s = R ++ [[s]] := by unfold stepM; rw [hx]; exact if_pos h
theorem step_3 (hx : R[R.length - 1]? = some x) (h : plcL (hd x) = plcL s) (h2 : ¬ (x.length < 2 ∧ ordC (hd x) s < 0)) : stepM R s = R := by unfold stepM; rw [hx]; simp only; rw [if_neg (fun e => e h), if_neg h2]
theorem step_5 (hx : R[R.length - 1]? = some x) (h : plcL (hd x) = plcL s) (h2 : x.length < 2 ∧ ordC (hd x) s < 0) : stepM R s = R.set (R.length - 1) (x ++ [s]) := by unfold stepM; rw [hx]; simp only; rw [if_neg (fun e => e h), if_pos h2]
theorem good_step (hg : goodB R) (hs : okC s) : goodB (stepM R s) := by
 have h1 : goodB (R ++ [[s]]) := good_snoc hg ⟨Nat.le_refl 1, show 1 ≤ 2 by decide⟩ (fun t ht => by simp only [List.mem_singleton] at ht; subst ht; exact hs)
 unfold stepM
 split
 ·exact h1
 ·rename_i x hx
  split
  ·exact h1
  ·split
   ·rename_i h2
    intro y hy
    rcases List.mem_or_eq_of_mem_set hy with hy | rfl
    ·exact hg y hy
    ·have := hg _ (List.mem_of_getElem? hx)
     refine ⟨by rw [List.length_append, List.length_singleton]; omega, fun t ht => ?_⟩
     rcases List.mem_append.1 ht with ht | ht
     ·exact this.2 t ht
     ·simp only [List.mem_singleton] at ht; subst ht; exact hs
   ·exact hg
theorem len_step : (stepM R s).length ≤ R.length + 1 := by
 unfold stepM
 split
 ·simp
 ·split
  ·simp
  ·split <;> simp
end
theorem good_boxO {l : List Card} (h : ∀ s ∈ l, okC s) : goodB (boxO l) := by
 have key : ∀ (l : List Card) (R : Box), goodB R → (∀ s ∈ l, okC s) → goodB (l.foldl stepM R) := by
  intro l
  induction l with
  | nil => intro R h _; exact h
  | cons s l ih => intro R h h2; exact ih _ (good_step h (h2 s List.mem_cons_self)) fun t ht => h2 t (List.mem_cons_of_mem _ ht)
 exact key l [] (fun x hx => by cases hx) h
theorem len_boxO (l : List Card) : (boxO l).length ≤ l.length := by
  have key : ∀ (l : List Card) (R : Box), (l.foldl stepM R).length ≤ R.length + l.length := by
    intro l
    induction l with
    | nil => intro R; simp
    | cons s l ih =>
      intro R
      have h1 := ih (stepM R s)
      have h2 := len_step (R := R) (s := s)
      rw [List.foldl_cons, List.length_cons]; omega
  have := key l []
  unfold boxO
  simpa using this
/-- the slots as they lie, small ones full -/
def RawS (H : Hp) (rs : List Raw) (l : Box) : Prop := RawOf cardR H rs l ∧ ∀ (i : Nat) (r : Raw) (x : List Card), rs[i]? = some r → l[i]? = some x → x.length < 2 → r.2.2 ≤ x.length
section
variable {H : Hp} {rs : List Raw} {l : Box} {x : List Card} {a : Option Addr} {c i : Nat}
theorem RawS.mono {H' : Hp} (h : RawS H rs l) (hle : Le H H') : RawS H' rs l := ⟨h.1.mono hle, h.2⟩
theorem RawS.nil : RawS H [] [] := ⟨⟨rfl, fun i r x h => by simp at h⟩, fun i r x h => by simp at h⟩
theorem RawS.get (h : RawS H rs l) (hx : l[i]? = some x) : ∃ a c, rs[i]? = some (a, x.length, c) ∧ SlR cardR H a c x ∧ (x.length < 2 → c ≤ x.length) := by
 have hi : i < rs.length := by rw [h.1.1]; exact (List.getElem?_eq_some_iff.1 hx).1
 have hr : rs[i]? = some rs[i] := List.getElem?_eq_getElem hi
 obtain ⟨h1, h2⟩ := h.1.2 i _ x hr hx; refine ⟨rs[i].1, rs[i].2.2, by rw [hr, ← h1], h2, h.2 i _ x hr hx⟩
theorem RawS.snoc (h : RawS H rs l) (hs : SlR cardR H a c x) (hc : x.length < 2 → c ≤ x.length) : RawS H (rs ++ [(a, x.length, c)]) (l ++ [x]) := by
 have e := h.1.1
 have key : ∀ (i : Nat) (r : Raw) (y : List Card), (rs ++ [(a, x.length, c)])[i]? = some r → (l ++ [x])[i]? = some y → (rs[i]? = some r ∧ l[i]? = some y) ∨ (r = (a, x.length, c) ∧ y = x) := by
  intro i r y hr hy
  rcases Nat.lt_or_ge i rs.length with hi | hi
  ·rw [List.getElem?_append_left hi] at hr
   rw [List.getElem?_append_left (by omega)] at hy
   exact .inl ⟨hr, hy⟩
  ·rw [List.getElem?_append_right hi] at hr
   rw [List.getElem?_append_right (by omega)] at hy
   have h1 := List.mem_of_getElem? hr
   have h2 := List.mem_of_getElem? hy
   simp only [List.mem_singleton] at h1 h2
   exact .inr ⟨h1, h2⟩
 refine ⟨⟨by simp [e], fun i r y hr hy => ?_⟩, fun i r y hr hy => ?_⟩
 ·rcases key i r y hr hy with ⟨h1, h2⟩ | ⟨rfl, rfl⟩
  ·exact h.1.2 i r y h1 h2
  ·exact ⟨rfl, hs⟩
 ·rcases key i r y hr hy with ⟨h1, h2⟩ | ⟨rfl, rfl⟩
  ·exact h.2 i r y h1 h2
  ·exact hc
theorem RawS.set (h : RawS H rs l) (hi : i < l.length) (hs : SlR cardR H a c x) (hc : x.length < 2 → c ≤ x.length) : RawS H (rs.set i (a, x.length, c)) (l.set i x) := by
 have e := h.1.1
 have key : ∀ (j : Nat) (r : Raw) (y : List Card), (rs.set i (a, x.length, c))[j]? = some r → (l.set i x)[j]? = some y → (rs[j]? = some r ∧ l[j]? = some y) ∨ (r = (a, x.length, c) ∧ y = x) := by
  intro j r y hr hy
  by_cases hj : i = j
  ·subst hj
   rw [List.getElem?_set_self (by omega)] at hr hy
   exact .inr ⟨(Option.some.inj hr).symm, (Option.some.inj hy).symm⟩
  ·rw [List.getElem?_set_ne hj] at hr hy
   exact .inl ⟨hr, hy⟩
 refine ⟨⟨by simp [e], fun j r y hr hy => ?_⟩, fun j r y hr hy => ?_⟩
 ·rcases key j r y hr hy with ⟨h1, h2⟩ | ⟨rfl, rfl⟩
  ·exact h.1.2 j r y h1 h2
  ·exact ⟨rfl, hs⟩
 ·rcases key j r y hr hy with ⟨h1, h2⟩ | ⟨rfl, rfl⟩
  ·exact h.2 j r y h1 h2
  ·exact hc
end
/-- the program's merge -/
def pmB (l m : Box) : Box := boxO (mrg l.flatten m.flatten)
def pE (X : Box) : Int := if 4096 < X.length then 2 else 0
def pX (X : Box) : Box := if 4096 < X.length then [] else X
theorem p_1 {X : Box} (h : 4096 < X.length) : pE X = 2 ∧ pX X = [] := ⟨if_pos h, if_pos h⟩
theorem p_0 {X : Box} (h : ¬ 4096 < X.length) : pE X = 0 ∧ pX X = X := ⟨if_neg h, if_neg h⟩
theorem BoxU.n {b X : Box} {E : Int} {H : Hp} {a : Option Addr} {c n : Nat} (h : E = 0 ∧ X = b) (hn : n = b.length) (hs : SlR (slR cardR) H a c b) : BoxU X E H (.tuple #[.slice a n c, .int .i64 0]) := by subst hn; exact BoxU.k h hs
def pputE (b : Box) (s : Card) : Int := if chkB b = 0 then (if okC s then pE (pmB b [[s]]) else 350) else chkB b
def pputX (b : Box) (s : Card) : Box := if chkB b = 0 ∧ okC s then pX (pmB b [[s]]) else []
def pmrgE (a b : Box) : Int := if chkB a = 0 then (if chkB b = 0 then pE (pmB a b) else chkB b) else chkB a
def pmrgX (a b : Box) : Box := if chkB a = 0 ∧ chkB b = 0 then pX (pmB a b) else []
theorem pput_1 {b : Box} {s : Card} (h : ¬ chkB b = 0) : pputE b s = chkB b ∧ pputX b s = [] := ⟨if_neg h, if_neg fun e => h e.1⟩
theorem pput_2 {b : Box} {s : Card} (h : chkB b = 0) (h2 : ¬ okC s) : pputE b s = 350 ∧ pputX b s = [] := ⟨by unfold pputE; rw [if_pos h, if_neg h2], if_neg fun e => h2 e.2⟩
theorem pput_3 {b : Box} {s : Card} (h : chkB b = 0) (h2 : okC s) : pputE b s = pE (pmB b [[s]]) ∧ pputX b s = pX (pmB b [[s]]) := ⟨by unfold pputE; rw [if_pos h, if_pos h2], if_pos ⟨h, h2⟩⟩
theorem pmrg_1 {a b : Box} (h : ¬ chkB a = 0) : pmrgE a b = chkB a ∧ pmrgX a b = [] := ⟨if_neg h, if_neg fun e => h e.1⟩
theorem pmrg_2 {a b : Box} (h : chkB a = 0) (h2 : ¬ chkB b = 0) : pmrgE a b = chkB b ∧ pmrgX a b = [] := ⟨by unfold pmrgE; rw [if_pos h, if_neg h2], if_neg fun e => h2 e.2⟩
theorem pmrg_3 {a b : Box} (h : chkB a = 0) (h2 : chkB b = 0) : pmrgE a b = pE (pmB a b) ∧ pmrgX a b = pX (pmB a b) := ⟨by unfold pmrgE; rw [if_pos h, if_pos h2], if_pos ⟨h, h2⟩⟩
theorem BoxU.via {X Y : Box} {E F : Int} {H : Hp} {a : Option Addr} {c : Nat} {e : Int} {n : Nat} (h : E = F ∧ X = Y) (hb : F = e ∧ n = Y.length) (hs : SlR (slR cardR) H a c Y) : BoxU X E H (.tuple #[.slice a n c, .int .i64 e]) := by obtain ⟨rfl, rfl⟩ := h; obtain ⟨rfl, rfl⟩ := hb; exact BoxU.yes hs
end Go.Proofs
