/- The walks of the functions of boxes: what each of them computes, at any input. -/
import Derived.Test.YtamnnngilmgbgaaB5
set_option maxRecDepth 100000
set_option autoImplicit false
set_option linter.unusedVariables false
set_option linter.unusedSimpArgs false
namespace Go.Proofs
open Go.XL

theorem eg_55 : Try.prog.eqGuardType Try.prog.depth 55 = false := by kernel_rfl
theorem fa_50_0 : fieldF Try.prog 50 0 = some 0 := by kernel_rfl
theorem ty_31 : tyF Try.prog 31 1 false = true := by kernel_rfl
theorem ty_50 : tyF Try.prog 50 1 true = true := by kernel_rfl
theorem ze_27 : zeroC Try.prog 27 = some [.int .i64 0, .int .i64 0, .int .i64 0, .slice none 0 0, .int .u8 0, .int .u8 0, .int .u8 0, .int .u8 0, .int .u8 0, .int .u8 0, .int .u8 0, .int .u8 0, .int .u8 0, .int .u8 0, .int .u8 0, .int .u8 0, .int .u8 0, .int .u8 0, .int .u8 0, .int .u8 0, .int .u8 0, .int .u8 0, .int .u8 0, .int .u8 0, .int .u8 0, .int .u8 0, .int .u8 0, .int .u8 0, .int .u8 0, .int .u8 0, .int .u8 0, .int .u8 0, .int .u8 0, .int .u8 0, .int .u8 0, .int .u8 0] := by kernel_rfl
theorem ze_50 : zeroC Try.prog 50 = some [.slice none 0 0] := by kernel_rfl

theorem riseC_fn (a : Option Addr) (c : Nat) (l : List Card) (H : Hp) (hs : SlR cardR H a c l) (hl : l.length < 9223372036854775808) (g : Value) (hg : ∀ (x y : Card) (ax ay : Option Addr) (cx cy : Nat) (H2 : Hp), Le H H2 → x ∈ l → y ∈ l → SlR (intR .i64) H2 ax cx x.C → SlR (intR .i64) H2 ay cy y.C → x.D.length = 32 → y.D.length = 32 → FnV Try.prog g [.agg ⟨cardV x.R x.E x.J x.C.length x.D ax cx⟩, .agg ⟨cardV y.R y.E y.J y.C.length y.D ay cy⟩] H2 [] (RetR fun v _ _ => v = .int .i64 (ordC x y))) : FnC Try.prog 30 #[.slice a l.length c, g] H [] (RetR (fun v _ _ => v = .bool (riseG ordC l))) := by
 refine FnC.intro (args := [.slice a l.length c, g]) Try.func30 rfl rfl Try.ntmps30 rfl rfl rfl fun G rest => ?_
 refine XC.seq ?_; refine XC.region ?_; refine XO.assign rfl rfl ?_; refine XO.nil ?_; refine XC.seq2 ?_; refine XC.seq ?_; refine XC.seq ?_; refine XC.region ?_; refine XO.assign rfl rfl ?_; refine XO.nil ?_; refine XC.seq2 ?_; refine XC.block ?_; refine XC.keep [5, 0, 1] rfl ?_; refine XC.loop (base := [(0, _), (1, _)]) (fun ζ : Nat => [(5, .int .i64 ((ζ + 1 : Nat) : Int))]) (fun ζ Hl own => ζ ≤ (l.length + 1) ∧ rest = own ∧ (riseG ordC l = riseG ordC (l.drop (ζ))) ∧ (LeW H Hl)) (fun ζ => (l.length + 1) - ζ) 0 (prov_cons (rfl) (prov_cons (rfl) (prov_cons (rfl) prov_nil))) (by repeat (first | exact List.Sublist.refl _ | apply List.Sublist.cons_cons | apply List.Sublist.cons)) ⟨Nat.zero_le _, rfl, rfl, Le.refl _⟩ ?_; rintro k Hl0 _ hle0 ⟨hkk, rfl, hr, hLH⟩; replace hs := hs.mono hle0
 try dsimp only at ⊢
 refine XC.seq ?_; refine XC.seq ?_; refine XC.region ?_; refine XO.move rfl rfl ?_; refine XO.move rfl rfl ?_; refine XO.lenS (ts := #[]) rfl Try.underlying31 rfl ?_; refine XO.lss rfl rfl rfl ?_; refine XO.nil ?_; refine XC.seq2 ?_; refine XC.cond rfl (fun c0_1 => ?_) (fun c0_1 => ?_)
 ·refine XC.skip ?_; refine XC.seq2 ?_; refine XC.seq ?_; refine XC.block ?_; refine XC.seq ?_; refine XC.keep [0, 1, 5] rfl ?_; obtain ⟨bEX, oEX, rfl⟩ := hs.addr (by omega); obtain ⟨_, xX, hxX, ⟨axX, cxX, rfl, hdX, hDX⟩, hpX⟩ := hs.elem (k) (by omega); obtain ⟨_, xY, hxY, ⟨axY, cxY, rfl, hdY, hDY⟩, hpY⟩ := hs.elem (k + 1) (by omega)
  apply XC.drawG (fun _ => True) trivial 10 [eqF _, eqF _, eqF _, eqF _, eqF _, eqF _, eqF _, eqF _, eqF _, eqF _] follows (by kernel_rfl) (by kernel_rfl) ⟨eqF_mono _, eqF_mono _, eqF_mono _, eqF_mono _, eqF_mono _, eqF_mono _, eqF_mono _, eqF_mono _, eqF_mono _, eqF_mono _, trivial⟩ ?steps2 ?tail2
  case steps2 =>
   refine stepsD_cons rfl ?_ ?_
   ·intro X HD hleD _
    replace hs := hs.mono hleD; replace hLH := hLH.mono hleD; replace hpX := hpX.mono hleD; replace hdX := hdX.mono hleD; replace hpY := hpY.mono hleD; replace hdY := hdY.mono hleD; replace hle0 := hle0.trans hleD; refine withPreds_nil rfl ?_; refine XO.move rfl rfl ?_; refine XO.nil ?_
    exact stepQ_ok trivial (rfl)
   refine stepsD_cons rfl ?_ ?_
   ·intro X HD hleD _
    replace hs := hs.mono hleD; replace hLH := hLH.mono hleD; replace hpX := hpX.mono hleD; replace hdX := hdX.mono hleD; replace hpY := hpY.mono hleD; replace hdY := hdY.mono hleD; replace hle0 := hle0.trans hleD; refine withPreds_nil rfl ?_; refine XO.move rfl rfl ?_; refine XO.nil ?_
    exact stepQ_ok trivial (rfl)
   refine stepsD_cons rfl ?_ ?_
   ·intro X HD hleD _
    replace hs := hs.mono hleD; replace hLH := hLH.mono hleD; replace hpX := hpX.mono hleD; replace hdX := hdX.mono hleD; replace hpY := hpY.mono hleD; replace hdY := hdY.mono hleD; replace hle0 := hle0.trans hleD; refine withPreds_nil rfl ?_; refine XO.move rfl rfl ?_; refine XO.nil ?_
    exact stepQ_ok trivial (rfl)
   refine stepsD_cons rfl ?_ ?_
   ·intro X HD hleD _
    replace hs := hs.mono hleD; replace hLH := hLH.mono hleD; replace hpX := hpX.mono hleD; replace hdX := hdX.mono hleD; replace hpY := hpY.mono hleD; replace hdY := hdY.mono hleD; replace hle0 := hle0.trans hleD; refine withPreds_cons rfl rfl ?_; rintro _ rfl; refine withPreds_nil rfl ?_; refine XO.sub (c := ((k : Nat) : Int)) rfl rfl ((wrap_i64 (by omega) (by omega)).trans (by omega)) rfl ?_; refine XO.nil ?_
    exact stepQ_ok trivial (rfl)
   refine stepsD_cons rfl ?_ ?_
   ·intro X HD hleD _
    replace hs := hs.mono hleD; replace hLH := hLH.mono hleD; replace hpX := hpX.mono hleD; replace hdX := hdX.mono hleD; replace hpY := hpY.mono hleD; replace hdY := hdY.mono hleD; replace hle0 := hle0.trans hleD; refine withPreds_cons rfl rfl ?_; rintro _ rfl; refine withPreds_cons rfl rfl ?_; rintro _ rfl; refine withPreds_nil rfl ?_; refine XO.indexE rfl rfl Try.underlying31 ty_27 (by omega) (by omega) rfl ?_; refine XO.nil ?_
    exact stepQ_ok trivial (rfl)
   refine stepsD_cons rfl ?_ ?_
   ·intro X HD hleD _
    replace hs := hs.mono hleD; replace hLH := hLH.mono hleD; replace hpX := hpX.mono hleD; replace hdX := hdX.mono hleD; replace hpY := hpY.mono hleD; replace hdY := hdY.mono hleD; replace hle0 := hle0.trans hleD; refine withPreds_cons rfl rfl ?_; rintro _ rfl; refine withPreds_nil rfl ?_; refine XO.loadH rfl (by assumption) ty_27 rfl rfl rfl ?_; refine XO.nil ?_
    exact stepQ_ok trivial (rfl)
   refine stepsD_cons rfl ?_ ?_
   ·intro X HD hleD _
    replace hs := hs.mono hleD; replace hLH := hLH.mono hleD; replace hpX := hpX.mono hleD; replace hdX := hdX.mono hleD; replace hpY := hpY.mono hleD; replace hdY := hdY.mono hleD; replace hle0 := hle0.trans hleD; refine withPreds_nil rfl ?_; refine XO.move rfl rfl ?_; refine XO.nil ?_
    exact stepQ_ok trivial (rfl)
   refine stepsD_cons rfl ?_ ?_
   ·intro X HD hleD _
    replace hs := hs.mono hleD; replace hLH := hLH.mono hleD; replace hpX := hpX.mono hleD; replace hdX := hdX.mono hleD; replace hpY := hpY.mono hleD; replace hdY := hdY.mono hleD; replace hle0 := hle0.trans hleD; refine withPreds_nil rfl ?_; refine XO.move rfl rfl ?_; refine XO.nil ?_
    exact stepQ_ok trivial (rfl)
   refine stepsD_cons rfl ?_ ?_
   ·intro X HD hleD _
    replace hs := hs.mono hleD; replace hLH := hLH.mono hleD; replace hpX := hpX.mono hleD; replace hdX := hdX.mono hleD; replace hpY := hpY.mono hleD; replace hdY := hdY.mono hleD; replace hle0 := hle0.trans hleD; refine withPreds_cons rfl rfl ?_; rintro _ rfl; refine withPreds_cons rfl rfl ?_; rintro _ rfl; refine withPreds_nil rfl ?_; refine XO.indexE rfl rfl Try.underlying31 ty_27 (by omega) (by omega) rfl ?_; refine XO.nil ?_
    exact stepQ_ok trivial (rfl)
   refine stepsD_cons rfl ?_ ?_
   ·intro X HD hleD _
    replace hs := hs.mono hleD; replace hLH := hLH.mono hleD; replace hpX := hpX.mono hleD; replace hdX := hdX.mono hleD; replace hpY := hpY.mono hleD; replace hdY := hdY.mono hleD; replace hle0 := hle0.trans hleD; refine withPreds_cons rfl rfl ?_; rintro _ rfl; refine withPreds_nil rfl ?_; refine XO.loadH rfl (by assumption) ty_27 rfl rfl rfl ?_; refine XO.nil ?_
    exact stepQ_ok trivial (rfl)
   exact stepsD_end rfl
  case tail2 =>
   intro HD hleD _
   replace hs := hs.mono hleD; replace hLH := hLH.mono hleD; replace hpX := hpX.mono hleD; replace hdX := hdX.mono hleD; replace hpY := hpY.mono hleD; replace hdY := hdY.mono hleD; replace hle0 := hle0.trans hleD; refine withPreds_cons rfl rfl ?_; rintro _ rfl; refine withPreds_cons rfl rfl ?_; rintro _ rfl; refine withPreds_cons rfl rfl ?_; rintro _ rfl; refine withPreds_cons rfl rfl ?_; rintro _ rfl; refine withPreds_cons rfl rfl ?_; rintro _ rfl; refine withPreds_cons rfl rfl ?_; rintro _ rfl; refine withPreds_cons rfl rfl ?_; rintro _ rfl; refine withPreds_cons rfl rfl ?_; rintro _ rfl; refine withPreds_cons rfl rfl ?_; rintro _ rfl; refine withPreds_cons rfl rfl ?_; rintro _ rfl; refine withPreds_nil rfl ?_; refine XO.callVH rfl trivial rfl (hg xX xY _ _ _ _ _ hLH (List.mem_of_getElem? hxX) (List.mem_of_getElem? hxY) hdX hdY hDX hDY) rfl ?_; rintro _ HN oN hleN rfl; replace hs := hs.mono hleN; replace hLH := hLH.mono hleN; replace hpX := hpX.mono hleN; replace hdX := hdX.mono hleN; replace hpY := hpY.mono hleN; replace hdY := hdY.mono hleN; replace hle0 := hle0.trans hleN; refine XO.geq rfl rfl rfl ?_; refine XO.nil ?_; refine XC.seq2 ?_; refine XC.cond rfl (fun c1_6 => ?_) (fun c1_6 => ?_)
   ·refine XC.seq ?_; refine XC.region ?_; refine XO.assign rfl rfl ?_; refine XO.nil ?_; refine XC.seq2 ?_; refine XC.ret ?_; refine blockR ?_; refine seqX_ret ?_; refine loopX_ret ?_; refine blockR ?_; refine seqX_ret ?_; refine ⟨rfl, _, [], rfl, (by repeat (first | exact List.Sublist.refl _ | apply List.Sublist.cons)), RetR.mk ?_⟩
    first | exact congrArg Value.bool (rise_n hr hxX hxY (by omega)) | exact congrArg Value.bool (rise_e hr (by omega))
   ·refine XC.skip ?_; refine blockN ?_; refine XC.seq2 ?_; refine XC.region ?_; refine XO.move rfl rfl ?_; refine XO.add rfl rfl (wrap_i64 (by omega) (by omega)) rfl ?_; refine XO.assign rfl rfl ?_; refine XO.nil ?_; refine loop_next (k + 1) (by show (l.length + 1) - (k + 1) < (l.length + 1) - k; omega) (prov_cons (rfl) (prov_cons (rfl) (prov_cons (rfl) prov_nil))) (⟨by show k + 1 ≤ (l.length + 1); omega, rfl, rise_y hr hxX hxY (by omega), hLH⟩) (by repeat (first | exact List.Sublist.refl _ | apply List.Sublist.cons_cons | apply List.Sublist.cons)) (hle0)
 ·skip
  refine XC.exit ?_; refine seqX_exit ?_; refine loopX_exit ?_; refine blockHit rfl ?_; refine XC.seq2 ?_; refine XC.seq ?_; refine XC.region ?_; refine XO.assign rfl rfl ?_; refine XO.nil ?_; refine XC.seq2 ?_; refine XC.ret ?_; refine ⟨rfl, _, [], rfl, (by repeat (first | exact List.Sublist.refl _ | apply List.Sublist.cons)), RetR.mk ?_⟩
  first | exact congrArg Value.bool (rise_n hr hxX hxY (by omega)) | exact congrArg Value.bool (rise_e hr (by omega))

theorem slotcmp_fn (l m : List Card) (a b : Option Addr) (c d : Nat) (H : Hp) (hs : SlR cardR H a c l) (ht : SlR cardR H b d m) (hl : 0 < l.length) (hm : 0 < m.length) : FnC Try.prog 33 #[.agg ⟨[.slice a l.length c]⟩, .agg ⟨[.slice b m.length d]⟩] H [] (RetR (fun v _ _ => v = .int .i64 (plq l m))) := by
 refine FnC.intro (args := [.agg ⟨[.slice a l.length c]⟩, .agg ⟨[.slice b m.length d]⟩]) Try.func33 rfl rfl Try.ntmps33 rfl rfl rfl fun G rest => ?_
 refine XC.seq ?_; refine XC.region ?_; refine XO.box rfl rfl rfl (fun b2 => ?_); refine XO.box rfl rfl rfl (fun b3 => ?_); refine XO.assign rfl rfl ?_; refine XO.nil ?_; refine XC.seq2 ?_; refine XC.seq ?_; refine XC.keep [2, 3] rfl ?_; obtain ⟨bEX, oEX, rfl⟩ := hs.addr (by omega); obtain ⟨_, xX, hxX, ⟨axX, cxX, rfl, hdX, hDX⟩, hpX⟩ := hs.elem (0) (by omega); obtain ⟨bEY, oEY, rfl⟩ := ht.addr (by omega); obtain ⟨_, xY, hxY, ⟨axY, cxY, rfl, hdY, hDY⟩, hpY⟩ := ht.elem (0) (by omega); obtain rfl := hd_at hxX; obtain rfl := hd_at hxY
 apply XC.drawM (fun _ => True) trivial [10, 11] (by decide) [(12, 10)] (fun _ v p _ => v = .pointer (some ⟨p.1, 0, none⟩) ∧ p.2 = .cells 55 [.int .i64 0, .int .i64 0, .int .i64 0]) (fun _ v p _ => v = .pointer (some ⟨p.1, 0, none⟩) ∧ p.2 = .cells 55 [.int .i64 (hd l).R, .int .i64 (hd l).E, .int .i64 (hd l).J]) (fun _ _ _ _ _ _ h => h) (fun _ _ _ _ _ _ h => h) 13 [eqF _, eqF _, eqF _, eqF _, eqF _, eqF _, eqF _, eqF _, eqF _, eqF _, anyF, anyF, anyF] follows (by kernel_rfl) ⟨eqF_mono _, eqF_mono _, eqF_mono _, eqF_mono _, eqF_mono _, eqF_mono _, eqF_mono _, eqF_mono _, eqF_mono _, eqF_mono _, anyF_mono, anyF_mono, anyF_mono, trivial⟩ (by decide) (by kernel_rfl) ?steps1 ?tail1
 case steps1 =>
  refine stepsM_cons rfl rfl ?_ ?_
  ·intro X ext HD hleD _
   replace hs := hs.mono hleD; replace ht := ht.mono hleD; replace hpX := hpX.mono hleD; replace hdX := hdX.mono hleD; replace hpY := hpY.mono hleD; replace hdY := hdY.mono hleD; refine withP_nil rfl ?_; refine XO.fieldAddr rfl fa_50_0 rfl ?_; refine XO.nil ?_; exact stepQN_ok rfl trivial (rfl)
  refine stepsM_cons rfl rfl ?_ ?_
  ·intro X ext HD hleD _
   replace hs := hs.mono hleD; replace ht := ht.mono hleD; replace hpX := hpX.mono hleD; replace hdX := hdX.mono hleD; replace hpY := hpY.mono hleD; replace hdY := hdY.mono hleD; refine withP_cons rfl rfl ?_; rintro _ rfl; refine withP_nil rfl ?_; refine XO.loadO 1 rfl rfl ty_31 rfl rfl rfl ?_; refine XO.nil ?_; exact stepQN_ok rfl trivial (rfl)
  refine stepsM_cons rfl rfl ?_ ?_
  ·intro X ext HD hleD _
   replace hs := hs.mono hleD; replace ht := ht.mono hleD; replace hpX := hpX.mono hleD; replace hdX := hdX.mono hleD; replace hpY := hpY.mono hleD; replace hdY := hdY.mono hleD; refine withP_cons rfl rfl ?_; rintro _ rfl; refine withP_nil rfl ?_; refine XO.indexE rfl rfl Try.underlying31 ty_27 (by omega) (by omega) rfl ?_; refine XO.nil ?_; exact stepQN_ok rfl trivial (rfl)
  refine stepsM_cons rfl rfl ?_ ?_
  ·intro X ext HD hleD _
   replace hs := hs.mono hleD; replace ht := ht.mono hleD; replace hpX := hpX.mono hleD; replace hdX := hdX.mono hleD; replace hpY := hpY.mono hleD; replace hdY := hdY.mono hleD; refine withP_cons rfl rfl ?_; rintro _ rfl; refine withP_nil rfl ?_; refine XO.loadH rfl (by assumption) ty_27 rfl rfl rfl ?_; refine XO.nil ?_; exact stepQN_ok rfl trivial (rfl)
  refine stepsM_cons rfl rfl ?_ ?_
  ·intro X ext HD hleD _
   replace hs := hs.mono hleD; replace ht := ht.mono hleD; replace hpX := hpX.mono hleD; replace hdX := hdX.mono hleD; replace hpY := hpY.mono hleD; replace hdY := hdY.mono hleD; refine withP_cons rfl rfl ?_; rintro _ rfl; refine withP_nil rfl ?_; refine XO.callV rfl (at_fn (hd l) _ _ _ hdX hDX) rfl ?_; refine XO.nil ?_; exact stepQN_ok rfl trivial (rfl)
  refine stepsM_cons rfl rfl ?_ ?_
  ·intro X ext HD hleD _
   replace hs := hs.mono hleD; replace ht := ht.mono hleD; replace hpX := hpX.mono hleD; replace hdX := hdX.mono hleD; replace hpY := hpY.mono hleD; replace hdY := hdY.mono hleD; refine withP_nil rfl ?_; refine XO.fieldAddr rfl fa_50_0 rfl ?_; refine XO.nil ?_; exact stepQN_ok rfl trivial (rfl)
  refine stepsM_cons rfl rfl ?_ ?_
  ·intro X ext HD hleD _
   replace hs := hs.mono hleD; replace ht := ht.mono hleD; replace hpX := hpX.mono hleD; replace hdX := hdX.mono hleD; replace hpY := hpY.mono hleD; replace hdY := hdY.mono hleD; refine withP_cons rfl rfl ?_; rintro _ rfl; refine withP_nil rfl ?_; refine XO.loadO 0 rfl rfl ty_31 rfl rfl rfl ?_; refine XO.nil ?_; exact stepQN_ok rfl trivial (rfl)
  refine stepsM_cons rfl rfl ?_ ?_
  ·intro X ext HD hleD _
   replace hs := hs.mono hleD; replace ht := ht.mono hleD; replace hpX := hpX.mono hleD; replace hdX := hdX.mono hleD; replace hpY := hpY.mono hleD; replace hdY := hdY.mono hleD; refine withP_cons rfl rfl ?_; rintro _ rfl; refine withP_nil rfl ?_; refine XO.indexE rfl rfl Try.underlying31 ty_27 (by omega) (by omega) rfl ?_; refine XO.nil ?_; exact stepQN_ok rfl trivial (rfl)
  refine stepsM_cons rfl rfl ?_ ?_
  ·intro X ext HD hleD _
   replace hs := hs.mono hleD; replace ht := ht.mono hleD; replace hpX := hpX.mono hleD; replace hdX := hdX.mono hleD; replace hpY := hpY.mono hleD; replace hdY := hdY.mono hleD; refine withP_cons rfl rfl ?_; rintro _ rfl; refine withP_nil rfl ?_; refine XO.loadH rfl (by assumption) ty_27 rfl rfl rfl ?_; refine XO.nil ?_; exact stepQN_ok rfl trivial (rfl)
  refine stepsM_cons rfl rfl ?_ ?_
  ·intro X ext HD hleD _
   replace hs := hs.mono hleD; replace ht := ht.mono hleD; replace hpX := hpX.mono hleD; replace hdX := hdX.mono hleD; replace hpY := hpY.mono hleD; replace hdY := hdY.mono hleD; refine withP_cons rfl rfl ?_; rintro _ rfl; refine withP_nil rfl ?_; refine XO.callV rfl (at_fn (hd m) _ _ _ hdY hDY) rfl ?_; refine XO.nil ?_; exact stepQN_ok rfl trivial (rfl)
  refine stepsM_cons rfl rfl ?_ ?_
  ·intro X ext HD hleD _
   replace hs := hs.mono hleD; replace ht := ht.mono hleD; replace hpX := hpX.mono hleD; replace hdX := hdX.mono hleD; replace hpY := hpY.mono hleD; replace hdY := hdY.mono hleD; refine withP_nil rfl ?_; refine XO.alloc ze_55 rfl (fun b5 => ?_); refine XO.nil ?_
   exact stepQN_new rfl trivial trivial (⟨rfl, rfl⟩)
  refine stepsM_cons rfl rfl ?_ ?_
  ·intro X ext HD hleD _
   replace hs := hs.mono hleD; replace ht := ht.mono hleD; replace hpX := hpX.mono hleD; replace hdX := hdX.mono hleD; replace hpY := hpY.mono hleD; replace hdY := hdY.mono hleD; refine withP_nil rfl ?_; refine XO.alloc ze_55 rfl (fun b6 => ?_); refine XO.nil ?_
   exact stepQN_new rfl trivial trivial (⟨rfl, rfl⟩)
  refine stepsM_mod rfl rfl ?_ ?_
  ·intro X ext p HD hleD _
   replace hs := hs.mono hleD; replace ht := ht.mono hleD; replace hpX := hpX.mono hleD; replace hdX := hdX.mono hleD; replace hpY := hpY.mono hleD; replace hdY := hdY.mono hleD; refine withP_cons rfl rfl ?_; rintro _ _; refine withP_cons rfl rfl ?_; rintro _ rfl; refine withP_nil rfl ?_
   intro hfo
   obtain ⟨be10, se10⟩ := p; obtain ⟨rfl, hse10⟩ := hfo _ _ rfl rfl
   simp only at hse10
   subst hse10
   refine XO.storeO 0 rfl rfl rfl rfl ty_55 rfl rfl rfl rfl rfl ?_; refine XO.nil ?_
   exact stepQM_ok trivial (trivial) (fun u t h1 h2 => by cases (show some _ = some t from h1); cases (show some (Value.pointer _) = some u from h2); exact ⟨rfl, rfl⟩)
  exact stepsM_end rfl
 case tail1 =>
  intro HD hleD _
  replace hs := hs.mono hleD; replace ht := ht.mono hleD; replace hpX := hpX.mono hleD; replace hdX := hdX.mono hleD; replace hpY := hpY.mono hleD; replace hdY := hdY.mono hleD; refine withP_cons rfl rfl ?_; rintro _ rfl; refine withP_cons rfl rfl ?_; rintro _ rfl; refine withP_cons rfl rfl ?_; rintro _ rfl; refine withP_cons rfl rfl ?_; rintro _ rfl; refine withP_cons rfl rfl ?_; rintro _ rfl; refine withP_cons rfl rfl ?_; rintro _ rfl; refine withP_cons rfl rfl ?_; rintro _ rfl; refine withP_cons rfl rfl ?_; rintro _ rfl; refine withP_cons rfl rfl ?_; rintro _ rfl; refine withP_cons rfl rfl ?_; rintro _ rfl; refine withP_cons rfl rfl ?_; rintro _ _; refine withP_cons rfl rfl ?_; rintro _ _; refine withP_skip rfl rfl ?_; refine withP_nil rfl ?_; refine withEnts_cons ?_
  intro pk10 hpk10
  obtain ⟨rfl, hpk10b⟩ := hpk10 _ ⟨_, rfl, rfl⟩; obtain ⟨be10, se10⟩ := pk10
  simp only at hpk10b
  subst hpk10b
  refine withEnts_cons ?_
  intro pk11 hpk11
  obtain ⟨rfl, hpk11b⟩ := hpk11 _ ⟨_, rfl, rfl⟩; obtain ⟨be11, se11⟩ := pk11
  simp only at hpk11b
  subst hpk11b
  refine withEnts_nil ?_; refine XO.storeO 1 rfl rfl rfl rfl ty_55 rfl rfl rfl rfl rfl ?_; refine XO.nil ?_; refine XC.seq2 ?_; refine XC.seq ?_; refine XC.keep [5, 6] rfl ?_; refine XC.publish 0 rfl rfl rfl (fun HK5 oK5 hleK5 hbK5 hoK5 => ?_)
  have hpK5 := PtH.of_is hbK5 hoK5
  replace hs := hs.mono hleK5; replace ht := ht.mono hleK5; replace hpX := hpX.mono hleK5; replace hdX := hdX.mono hleK5; replace hpY := hpY.mono hleK5; replace hdY := hdY.mono hleK5; refine XC.publish 0 rfl rfl rfl (fun HK6 oK6 hleK6 hbK6 hoK6 => ?_)
  have hpK6 := PtH.of_is hbK6 hoK6
  replace hs := hs.mono hleK6; replace ht := ht.mono hleK6; replace hpX := hpX.mono hleK6; replace hdX := hdX.mono hleK6; replace hpY := hpY.mono hleK6; replace hdY := hdY.mono hleK6; replace hpK5 := hpK5.mono hleK6
  have hP5 := SlR.of_pt (k := .i64) (l := plcL (hd l)) hpK5
  have hP6 := SlR.of_pt (k := .i64) (l := plcL (hd m)) hpK6
  apply XC.draw 2 [eqF _, eqF _] follows (by kernel_rfl) (by kernel_rfl) ⟨eqF_mono _, eqF_mono _, trivial⟩ ?steps6 ?tail6
  case steps6 =>
   refine stepsK_cons rfl ?_ ?_
   ·intro X
    refine withPreds_nil rfl ?_; refine XO.sliceArr rfl Try.underlying55 ty_3 rfl ?_; refine XO.nil ?_
    exact stepQ_ok rfl (rfl)
   refine stepsK_cons rfl ?_ ?_
   ·intro X
    refine withPreds_nil rfl ?_; refine XO.sliceArr rfl Try.underlying55 ty_3 rfl ?_; refine XO.nil ?_
    exact stepQ_ok rfl (rfl)
   exact stepsD_end rfl
  case tail6 =>
   refine withPreds_cons rfl rfl ?_; rintro _ rfl; refine withPreds_cons rfl rfl ?_; rintro _ rfl; refine withPreds_nil rfl ?_; refine XO.callV rfl (compare_fn _ _ _ _ (plcL (hd l)) (plcL (hd m)) _ hP5 hP6 (show (3 : Nat) < 9223372036854775808 by decide) (show (3 : Nat) < 9223372036854775808 by decide)) rfl ?_; refine XO.assign rfl rfl ?_; refine XO.nil ?_; refine XC.seq2 ?_; refine XC.ret ?_; refine ⟨rfl, _, [], rfl, (by repeat (first | exact List.Sublist.refl _ | apply List.Sublist.cons)), RetR.mk ?_⟩
   rfl

theorem riseB_fn (a : Option Addr) (c : Nat) (l : Box) (H : Hp) (hs : SlR (slR cardR) H a c l) (hl : l.length < 9223372036854775808) (g : Value) (hg : ∀ (x y : List Card) (ax ay : Option Addr) (cx cy : Nat) (H2 : Hp), Le H H2 → x ∈ l → y ∈ l → SlR cardR H2 ax cx x → SlR cardR H2 ay cy y → FnV Try.prog g [.agg ⟨[.slice ax x.length cx]⟩, .agg ⟨[.slice ay y.length cy]⟩] H2 [] (RetR fun v _ _ => v = .int .i64 (plq x y))) : FnC Try.prog 32 #[.slice a l.length c, g] H [] (RetR (fun v _ _ => v = .bool (riseG plq l))) := by
 refine FnC.intro (args := [.slice a l.length c, g]) Try.func32 rfl rfl Try.ntmps32 rfl rfl rfl fun G rest => ?_
 refine XC.seq ?_; refine XC.region ?_; refine XO.assign rfl rfl ?_; refine XO.nil ?_; refine XC.seq2 ?_; refine XC.seq ?_; refine XC.seq ?_; refine XC.region ?_; refine XO.assign rfl rfl ?_; refine XO.nil ?_; refine XC.seq2 ?_; refine XC.block ?_; refine XC.keep [5, 0, 1] rfl ?_; refine XC.loop (base := [(0, _), (1, _)]) (fun ζ : Nat => [(5, .int .i64 ((ζ + 1 : Nat) : Int))]) (fun ζ Hl own => ζ ≤ (l.length + 1) ∧ rest = own ∧ (riseG plq l = riseG plq (l.drop (ζ))) ∧ (LeW H Hl)) (fun ζ => (l.length + 1) - ζ) 0 (prov_cons (rfl) (prov_cons (rfl) (prov_cons (rfl) prov_nil))) (by repeat (first | exact List.Sublist.refl _ | apply List.Sublist.cons_cons | apply List.Sublist.cons)) ⟨Nat.zero_le _, rfl, rfl, Le.refl _⟩ ?_; rintro k Hl0 _ hle0 ⟨hkk, rfl, hr, hLH⟩; replace hs := hs.mono hle0
 try dsimp only at ⊢
 refine XC.seq ?_; refine XC.seq ?_; refine XC.region ?_; refine XO.move rfl rfl ?_; refine XO.move rfl rfl ?_; refine XO.lenS (ts := #[]) rfl Try.underlying22 rfl ?_; refine XO.lss rfl rfl rfl ?_; refine XO.nil ?_; refine XC.seq2 ?_; refine XC.cond rfl (fun c0_1 => ?_) (fun c0_1 => ?_)
 ·refine XC.skip ?_; refine XC.seq2 ?_; refine XC.seq ?_; refine XC.block ?_; refine XC.seq ?_; refine XC.keep [0, 1, 5] rfl ?_; obtain ⟨bEX, oEX, rfl⟩ := hs.addr (by omega); obtain ⟨_, xX, hxX, ⟨axX, cxX, rfl, hdX⟩, hpX⟩ := hs.elem (k) (by omega); obtain ⟨_, xY, hxY, ⟨axY, cxY, rfl, hdY⟩, hpY⟩ := hs.elem (k + 1) (by omega)
  apply XC.drawG (fun _ => True) trivial 10 [eqF _, eqF _, eqF _, eqF _, eqF _, eqF _, eqF _, eqF _, eqF _, eqF _] follows (by kernel_rfl) (by kernel_rfl) ⟨eqF_mono _, eqF_mono _, eqF_mono _, eqF_mono _, eqF_mono _, eqF_mono _, eqF_mono _, eqF_mono _, eqF_mono _, eqF_mono _, trivial⟩ ?steps2 ?tail2
  case steps2 =>
   refine stepsD_cons rfl ?_ ?_
   ·intro X HD hleD _
    replace hs := hs.mono hleD; replace hLH := hLH.mono hleD; replace hpX := hpX.mono hleD; replace hdX := hdX.mono hleD; replace hpY := hpY.mono hleD; replace hdY := hdY.mono hleD; replace hle0 := hle0.trans hleD; refine withPreds_nil rfl ?_; refine XO.move rfl rfl ?_; refine XO.nil ?_
    exact stepQ_ok trivial (rfl)
   refine stepsD_cons rfl ?_ ?_
   ·intro X HD hleD _
    replace hs := hs.mono hleD; replace hLH := hLH.mono hleD; replace hpX := hpX.mono hleD; replace hdX := hdX.mono hleD; replace hpY := hpY.mono hleD; replace hdY := hdY.mono hleD; replace hle0 := hle0.trans hleD; refine withPreds_nil rfl ?_; refine XO.move rfl rfl ?_; refine XO.nil ?_
    exact stepQ_ok trivial (rfl)
   refine stepsD_cons rfl ?_ ?_
   ·intro X HD hleD _
    replace hs := hs.mono hleD; replace hLH := hLH.mono hleD; replace hpX := hpX.mono hleD; replace hdX := hdX.mono hleD; replace hpY := hpY.mono hleD; replace hdY := hdY.mono hleD; replace hle0 := hle0.trans hleD; refine withPreds_nil rfl ?_; refine XO.move rfl rfl ?_; refine XO.nil ?_
    exact stepQ_ok trivial (rfl)
   refine stepsD_cons rfl ?_ ?_
   ·intro X HD hleD _
    replace hs := hs.mono hleD; replace hLH := hLH.mono hleD; replace hpX := hpX.mono hleD; replace hdX := hdX.mono hleD; replace hpY := hpY.mono hleD; replace hdY := hdY.mono hleD; replace hle0 := hle0.trans hleD; refine withPreds_cons rfl rfl ?_; rintro _ rfl; refine withPreds_nil rfl ?_; refine XO.sub (c := ((k : Nat) : Int)) rfl rfl ((wrap_i64 (by omega) (by omega)).trans (by omega)) rfl ?_; refine XO.nil ?_
    exact stepQ_ok trivial (rfl)
   refine stepsD_cons rfl ?_ ?_
   ·intro X HD hleD _
    replace hs := hs.mono hleD; replace hLH := hLH.mono hleD; replace hpX := hpX.mono hleD; replace hdX := hdX.mono hleD; replace hpY := hpY.mono hleD; replace hdY := hdY.mono hleD; replace hle0 := hle0.trans hleD; refine withPreds_cons rfl rfl ?_; rintro _ rfl; refine withPreds_cons rfl rfl ?_; rintro _ rfl; refine withPreds_nil rfl ?_; refine XO.indexE rfl rfl Try.underlying22 ty_50 (by omega) (by omega) rfl ?_; refine XO.nil ?_
    exact stepQ_ok trivial (rfl)
   refine stepsD_cons rfl ?_ ?_
   ·intro X HD hleD _
    replace hs := hs.mono hleD; replace hLH := hLH.mono hleD; replace hpX := hpX.mono hleD; replace hdX := hdX.mono hleD; replace hpY := hpY.mono hleD; replace hdY := hdY.mono hleD; replace hle0 := hle0.trans hleD; refine withPreds_cons rfl rfl ?_; rintro _ rfl; refine withPreds_nil rfl ?_; refine XO.loadH rfl (by assumption) ty_50 rfl rfl rfl ?_; refine XO.nil ?_
    exact stepQ_ok trivial (rfl)
   refine stepsD_cons rfl ?_ ?_
   ·intro X HD hleD _
    replace hs := hs.mono hleD; replace hLH := hLH.mono hleD; replace hpX := hpX.mono hleD; replace hdX := hdX.mono hleD; replace hpY := hpY.mono hleD; replace hdY := hdY.mono hleD; replace hle0 := hle0.trans hleD; refine withPreds_nil rfl ?_; refine XO.move rfl rfl ?_; refine XO.nil ?_
    exact stepQ_ok trivial (rfl)
   refine stepsD_cons rfl ?_ ?_
   ·intro X HD hleD _
    replace hs := hs.mono hleD; replace hLH := hLH.mono hleD; replace hpX := hpX.mono hleD; replace hdX := hdX.mono hleD; replace hpY := hpY.mono hleD; replace hdY := hdY.mono hleD; replace hle0 := hle0.trans hleD; refine withPreds_nil rfl ?_; refine XO.move rfl rfl ?_; refine XO.nil ?_
    exact stepQ_ok trivial (rfl)
   refine stepsD_cons rfl ?_ ?_
   ·intro X HD hleD _
    replace hs := hs.mono hleD; replace hLH := hLH.mono hleD; replace hpX := hpX.mono hleD; replace hdX := hdX.mono hleD; replace hpY := hpY.mono hleD; replace hdY := hdY.mono hleD; replace hle0 := hle0.trans hleD; refine withPreds_cons rfl rfl ?_; rintro _ rfl; refine withPreds_cons rfl rfl ?_; rintro _ rfl; refine withPreds_nil rfl ?_; refine XO.indexE rfl rfl Try.underlying22 ty_50 (by omega) (by omega) rfl ?_; refine XO.nil ?_
    exact stepQ_ok trivial (rfl)
   refine stepsD_cons rfl ?_ ?_
   ·intro X HD hleD _
    replace hs := hs.mono hleD; replace hLH := hLH.mono hleD; replace hpX := hpX.mono hleD; replace hdX := hdX.mono hleD; replace hpY := hpY.mono hleD; replace hdY := hdY.mono hleD; replace hle0 := hle0.trans hleD; refine withPreds_cons rfl rfl ?_; rintro _ rfl; refine withPreds_nil rfl ?_; refine XO.loadH rfl (by assumption) ty_50 rfl rfl rfl ?_; refine XO.nil ?_
    exact stepQ_ok trivial (rfl)
   exact stepsD_end rfl
  case tail2 =>
   intro HD hleD _
   replace hs := hs.mono hleD; replace hLH := hLH.mono hleD; replace hpX := hpX.mono hleD; replace hdX := hdX.mono hleD; replace hpY := hpY.mono hleD; replace hdY := hdY.mono hleD; replace hle0 := hle0.trans hleD; refine withPreds_cons rfl rfl ?_; rintro _ rfl; refine withPreds_cons rfl rfl ?_; rintro _ rfl; refine withPreds_cons rfl rfl ?_; rintro _ rfl; refine withPreds_cons rfl rfl ?_; rintro _ rfl; refine withPreds_cons rfl rfl ?_; rintro _ rfl; refine withPreds_cons rfl rfl ?_; rintro _ rfl; refine withPreds_cons rfl rfl ?_; rintro _ rfl; refine withPreds_cons rfl rfl ?_; rintro _ rfl; refine withPreds_cons rfl rfl ?_; rintro _ rfl; refine withPreds_cons rfl rfl ?_; rintro _ rfl; refine withPreds_nil rfl ?_; refine XO.callVH rfl trivial rfl (hg xX xY _ _ _ _ _ hLH (List.mem_of_getElem? hxX) (List.mem_of_getElem? hxY) hdX hdY) rfl ?_; rintro _ HN oN hleN rfl; replace hs := hs.mono hleN; replace hLH := hLH.mono hleN; replace hpX := hpX.mono hleN; replace hdX := hdX.mono hleN; replace hpY := hpY.mono hleN; replace hdY := hdY.mono hleN; replace hle0 := hle0.trans hleN; refine XO.geq rfl rfl rfl ?_; refine XO.nil ?_; refine XC.seq2 ?_; refine XC.cond rfl (fun c1_6 => ?_) (fun c1_6 => ?_)
   ·refine XC.seq ?_; refine XC.region ?_; refine XO.assign rfl rfl ?_; refine XO.nil ?_; refine XC.seq2 ?_; refine XC.ret ?_; refine blockR ?_; refine seqX_ret ?_; refine loopX_ret ?_; refine blockR ?_; refine seqX_ret ?_; refine ⟨rfl, _, [], rfl, (by repeat (first | exact List.Sublist.refl _ | apply List.Sublist.cons)), RetR.mk ?_⟩
    first | exact congrArg Value.bool (rise_n hr hxX hxY (by omega)) | exact congrArg Value.bool (rise_e hr (by omega))
   ·refine XC.skip ?_; refine blockN ?_; refine XC.seq2 ?_; refine XC.region ?_; refine XO.move rfl rfl ?_; refine XO.add rfl rfl (wrap_i64 (by omega) (by omega)) rfl ?_; refine XO.assign rfl rfl ?_; refine XO.nil ?_; refine loop_next (k + 1) (by show (l.length + 1) - (k + 1) < (l.length + 1) - k; omega) (prov_cons (rfl) (prov_cons (rfl) (prov_cons (rfl) prov_nil))) (⟨by show k + 1 ≤ (l.length + 1); omega, rfl, rise_y hr hxX hxY (by omega), hLH⟩) (by repeat (first | exact List.Sublist.refl _ | apply List.Sublist.cons_cons | apply List.Sublist.cons)) (hle0)
 ·skip
  refine XC.exit ?_; refine seqX_exit ?_; refine loopX_exit ?_; refine blockHit rfl ?_; refine XC.seq2 ?_; refine XC.seq ?_; refine XC.region ?_; refine XO.assign rfl rfl ?_; refine XO.nil ?_; refine XC.seq2 ?_; refine XC.ret ?_; refine ⟨rfl, _, [], rfl, (by repeat (first | exact List.Sublist.refl _ | apply List.Sublist.cons)), RetR.mk ?_⟩
  first | exact congrArg Value.bool (rise_n hr hxX hxY (by omega)) | exact congrArg Value.bool (rise_e hr (by omega))

theorem check_b (a : Option Addr) (c : Nat) (l : Box) (H : Hp) (hs : SlR (slR cardR) H a c l) (hl : l.length < 9223372036854775808) (hlx : ∀ x ∈ l, x.length < 9223372036854775808) (hlc : ∀ x ∈ l, ∀ s ∈ x, s.C.length < 9223372036854775808) : FnC Try.prog 13 #[.slice a l.length c] H [] (RetR (fun v _ _ => v = .int .i64 (chkB l))) := by
 refine FnC.intro (args := [.slice a l.length c]) Try.func13 rfl rfl Try.ntmps13 rfl rfl rfl fun G rest => ?_
 refine XC.seq ?_; refine XC.region ?_; refine XO.assign rfl rfl ?_; refine XO.nil ?_; refine XC.seq2 ?_; refine XC.seq ?_; refine XC.seq ?_; refine XC.region ?_; refine XO.move rfl rfl ?_; refine XO.lenS (ts := #[]) rfl Try.underlying22 rfl ?_; refine XO.gtr rfl rfl rfl ?_; refine XO.nil ?_; refine XC.seq2 ?_; refine XC.cond rfl (fun c0_1 => ?_) (fun c0_1 => ?_)
 ·refine XC.seq ?_; refine XC.region ?_; refine XO.assign rfl rfl ?_; refine XO.nil ?_; refine XC.seq2 ?_; refine XC.ret ?_; refine seqX_ret ?_; refine ⟨rfl, _, [], rfl, (by repeat (first | exact List.Sublist.refl _ | apply List.Sublist.cons)), RetR.mk ?_⟩
  first | exact congrArg (Value.int .i64) (bchk_2 (by omega)).symm | exact congrArg (Value.int .i64) (bchk_s (by omega) (List.mem_of_getElem? hx14) (slot_nl (by omega))).symm | exact congrArg (Value.int .i64) (bchk_s (by omega) (List.mem_of_getElem? hx14) (slot_nc (List.mem_of_getElem? hx31) hok)).symm | exact congrArg (Value.int .i64) (bchk_s (by omega) (List.mem_of_getElem? hx14) (slot_np (List.mem_of_getElem? hx31) (by assumption))).symm | exact congrArg (Value.int .i64) (bchk_s (by omega) (List.mem_of_getElem? hx14) (slot_nr (by simpa using (show (!riseG ordC x14) = true by assumption)))).symm | exact congrArg (Value.int .i64) (bchk_r (by omega) (by simpa using (show (!riseG plq l) = true by assumption))).symm | exact congrArg (Value.int .i64) (bchk_0 (by omega) hall (by simpa using (show (!riseG plq l) = false by assumption))).symm
 ·refine XC.skip ?_; refine XC.seq2 ?_; refine XC.seq ?_; refine XC.seq ?_; refine XC.region ?_; refine XO.move rfl rfl ?_; refine XO.lenS (ts := #[]) rfl Try.underlying22 rfl ?_; refine XO.move rfl rfl ?_; refine XO.nil ?_; refine XC.seq2 ?_; refine XC.block ?_; refine XC.keep [12, 0, 10, 11] rfl ?_; refine XC.loop (base := [(0, _), (10, _), (11, _)]) (fun ζ : Nat => [(12, .int .i64 (ζ : Nat))]) (fun ζ Hl own => ζ ≤ l.length ∧ rest = own ∧ ((l.take (ζ)).all slotB = true)) (fun ζ => l.length - ζ) 0 (prov_cons (rfl) (prov_cons (rfl) (prov_cons (rfl) (prov_cons (rfl) prov_nil)))) (by repeat (first | exact List.Sublist.refl _ | apply List.Sublist.cons_cons | apply List.Sublist.cons)) ⟨Nat.zero_le _, rfl, rfl⟩ ?_; rintro i Hl0 _ hle0 ⟨hki, rfl, hall⟩; replace hs := hs.mono hle0
  try dsimp only at ⊢
  refine XC.seq ?_; refine XC.region ?_; refine XO.lss rfl rfl rfl ?_; refine XO.nil ?_; refine XC.seq2 ?_; refine XC.seq ?_; refine XC.cond rfl (fun c1_2 => ?_) (fun c1_2 => ?_)
  ·refine XC.skip ?_; refine XC.seq2 ?_; refine XC.seq ?_; refine XC.block ?_; refine XC.seq ?_; refine XC.region ?_; refine XO.indexN rfl hs rfl Try.underlying22 ty_50 (by omega) rfl ?_; rintro eb14 eo14 _ x14 hx14 ⟨ax14, cx14, rfl, hd14⟩ hp14; refine XO.loadH rfl (by assumption) ty_50 rfl rfl rfl ?_; refine XO.alloc ze_50 rfl (fun b4 => ?_); refine XO.storeO 0 rfl rfl rfl rfl ty_50 rfl rfl rfl rfl rfl ?_; refine XO.nil ?_; refine XC.seq2 ?_; refine XC.seq ?_; refine XC.seq ?_; refine XC.region ?_; refine XO.fieldAddr rfl fa_50_0 rfl ?_; refine XO.loadO 0 rfl rfl ty_31 rfl rfl rfl ?_; refine XO.lenS (ts := #[]) rfl Try.underlying31 rfl ?_; refine XO.lss rfl rfl rfl ?_; refine XO.move rfl rfl ?_; refine XO.guardC rfl rfl rfl rfl (fun g4 => ?_) (fun g4 => ?_)
   ·have g4p := of_decide_eq_false g4
    refine XO.fieldAddr rfl fa_50_0 rfl ?_; refine XO.guardT rfl rfl (g4) rfl ?_; refine XO.loadO 0 rfl rfl ty_31 rfl rfl rfl ?_; refine XO.guardT rfl rfl (g4) rfl ?_; refine XO.lenS (ts := #[]) rfl Try.underlying31 rfl ?_; refine XO.guardT rfl rfl (g4) rfl ?_; refine XO.gtr rfl rfl rfl ?_; refine XO.pickF rfl (g4) rfl rfl ?_; refine XO.nil ?_; refine XC.seq2 ?_; refine XC.cond rfl (fun c2_5 => ?_) (fun c2_5 => ?_)
    ·refine XC.seq ?_; refine XC.region ?_; refine XO.assign rfl rfl ?_; refine XO.nil ?_; refine XC.seq2 ?_; refine XC.ret ?_; refine seqX_ret ?_; refine blockR ?_; refine seqX_ret ?_; refine loopX_ret ?_; refine blockR ?_; refine seqX_ret ?_; refine ⟨rfl, _, [], rfl, (by repeat (first | exact List.Sublist.refl _ | apply List.Sublist.cons)), RetR.mk ?_⟩
     first | exact congrArg (Value.int .i64) (bchk_2 (by omega)).symm | exact congrArg (Value.int .i64) (bchk_s (by omega) (List.mem_of_getElem? hx14) (slot_nl (by omega))).symm | exact congrArg (Value.int .i64) (bchk_s (by omega) (List.mem_of_getElem? hx14) (slot_nc (List.mem_of_getElem? hx31) hok)).symm | exact congrArg (Value.int .i64) (bchk_s (by omega) (List.mem_of_getElem? hx14) (slot_np (List.mem_of_getElem? hx31) (by assumption))).symm | exact congrArg (Value.int .i64) (bchk_s (by omega) (List.mem_of_getElem? hx14) (slot_nr (by simpa using (show (!riseG ordC x14) = true by assumption)))).symm | exact congrArg (Value.int .i64) (bchk_r (by omega) (by simpa using (show (!riseG plq l) = true by assumption))).symm | exact congrArg (Value.int .i64) (bchk_0 (by omega) hall (by simpa using (show (!riseG plq l) = false by assumption))).symm
    ·refine XC.skip ?_; refine XC.seq2 ?_; refine XC.seq ?_; refine XC.seq ?_; refine XC.region ?_; refine XO.fieldAddr rfl fa_50_0 rfl ?_; refine XO.loadO 0 rfl rfl ty_31 rfl rfl rfl ?_; refine XO.lenS (ts := #[]) rfl Try.underlying31 rfl ?_; refine XO.move rfl rfl ?_; refine XO.nil ?_; refine XC.seq2 ?_; refine XC.block ?_; refine XC.keep [29, 0, 4, 10, 11, 12, 27, 28] rfl ?_; refine XC.loop (base := [(0, _), (4, _), (10, _), (11, _), (12, _), (27, _), (28, _)]) (fun ζ : Nat => [(29, .int .i64 (ζ : Nat))]) (fun ζ Hl own => ζ ≤ x14.length ∧ (b4, .cells 50 [.slice ax14 x14.length cx14]) :: rest = own ∧ (∀ s ∈ x14.take (ζ), okC s ∧ plcL s = plcL (hd x14))) (fun ζ => x14.length - ζ) 0 (prov_cons (rfl) (prov_cons (rfl) (prov_cons (rfl) (prov_cons (rfl) (prov_cons (rfl) (prov_cons (rfl) (prov_cons (rfl) (prov_cons (rfl) prov_nil)))))))) (by repeat (first | exact List.Sublist.refl _ | apply List.Sublist.cons_cons | apply List.Sublist.cons)) ⟨Nat.zero_le _, rfl, by simp⟩ ?_; rintro j Hl1 _ hle1 ⟨hkj, rfl, hcs⟩; replace hs := hs.mono hle1; replace hp14 := hp14.mono hle1; replace hd14 := hd14.mono hle1; replace hle0 := hle0.trans hle1
     try dsimp only at ⊢
     refine XC.seq ?_; refine XC.region ?_; refine XO.lss rfl rfl rfl ?_; refine XO.nil ?_; refine XC.seq2 ?_; refine XC.seq ?_; refine XC.cond rfl (fun c3_6 => ?_) (fun c3_6 => ?_)
     ·refine XC.skip ?_; refine XC.seq2 ?_; refine XC.seq ?_; refine XC.block ?_; refine XC.seq ?_; refine XC.region ?_; refine XO.indexN rfl hd14 rfl Try.underlying31 ty_27 (by omega) rfl ?_; rintro eb31 eo31 _ x31 hx31 ⟨ax31, cx31, rfl, hd31, hD31⟩ hp31; refine XO.loadH rfl (by assumption) ty_27 rfl rfl rfl ?_; refine XO.alloc ze_27 rfl (fun b6 => ?_); refine XO.storeO 0 rfl rfl rfl rfl ty_27 rfl rfl rfl rfl rfl ?_; refine XO.nil ?_; refine XC.seq2 ?_; refine XC.seq ?_
      by_cases hok : okC x31
      ·skip
       refine XC.keep [0, 4, 6, 10, 11, 12, 27, 28, 29] rfl ?_; obtain ⟨bEH, oEH, rfl⟩ := hd14.addr (by omega); obtain ⟨_, xH, hxH, ⟨axH, cxH, rfl, hdH, hDH⟩, hpH⟩ := hd14.elem (0) (by omega); obtain rfl := hd_at hxH
       apply XC.drawH (fun _ => True) trivial [] (by decide) (fun _ _ _ _ => True) (fun _ _ _ _ _ _ h => h) 10 [eqF _, eqF _, eqF _, eqF _, eqF _, eqF _, eqF _, eqF _, eqF _, eqF _] follows (by kernel_rfl) ⟨eqF_mono _, eqF_mono _, eqF_mono _, eqF_mono _, eqF_mono _, eqF_mono _, eqF_mono _, eqF_mono _, eqF_mono _, eqF_mono _, trivial⟩ (by decide) ?steps8 ?tail8
       case steps8 =>
        refine stepsH_cons rfl ?_ ?_
        ·intro X ext HD hleD _
         replace hs := hs.mono hleD; replace hp14 := hp14.mono hleD; replace hd14 := hd14.mono hleD; replace hp31 := hp31.mono hleD; replace hd31 := hd31.mono hleD; replace hpH := hpH.mono hleD; replace hdH := hdH.mono hleD; replace hle0 := hle0.trans hleD; replace hle1 := hle1.trans hleD; refine withP_nil rfl ?_; refine XO.loadO 0 rfl rfl ty_27 rfl rfl rfl ?_; refine XO.nil ?_; exact stepQN_ok rfl trivial (rfl)
        refine stepsH_cons rfl ?_ ?_
        ·intro X ext HD hleD _
         replace hs := hs.mono hleD; replace hp14 := hp14.mono hleD; replace hd14 := hd14.mono hleD; replace hp31 := hp31.mono hleD; replace hd31 := hd31.mono hleD; replace hpH := hpH.mono hleD; replace hdH := hdH.mono hleD; replace hle0 := hle0.trans hleD; replace hle1 := hle1.trans hleD; refine withP_cons rfl rfl ?_; rintro _ rfl; refine withP_nil rfl ?_; refine XO.callV rfl (selcheck_fn x31 _ _ _ hd31 hD31 (hlc _ (List.mem_of_getElem? hx14) _ (List.mem_of_getElem? hx31))) rfl ?_; refine XO.nil ?_; exact stepQN_ok rfl trivial (rfl)
        refine stepsH_cons rfl ?_ ?_
        ·intro X ext HD hleD _
         replace hs := hs.mono hleD; replace hp14 := hp14.mono hleD; replace hd14 := hd14.mono hleD; replace hp31 := hp31.mono hleD; replace hd31 := hd31.mono hleD; replace hpH := hpH.mono hleD; replace hdH := hdH.mono hleD; replace hle0 := hle0.trans hleD; replace hle1 := hle1.trans hleD; refine withP_cons rfl rfl ?_; rintro _ rfl; refine withP_nil rfl ?_; refine XO.neq rfl rfl rfl ?_; refine XO.nil ?_; exact stepQN_ok rfl trivial (rfl)
        refine stepsH_cons rfl ?_ ?_
        ·intro X ext HD hleD _
         replace hs := hs.mono hleD; replace hp14 := hp14.mono hleD; replace hd14 := hd14.mono hleD; replace hp31 := hp31.mono hleD; replace hd31 := hd31.mono hleD; replace hpH := hpH.mono hleD; replace hdH := hdH.mono hleD; replace hle0 := hle0.trans hleD; replace hle1 := hle1.trans hleD; refine withP_cons rfl rfl ?_; rintro _ rfl; refine withP_nil rfl ?_; refine XO.move rfl rfl ?_; refine XO.nil ?_; exact stepQN_ok rfl trivial (rfl)
        refine stepsH_cons rfl ?_ ?_
        ·intro X ext HD hleD _
         replace hs := hs.mono hleD; replace hp14 := hp14.mono hleD; replace hd14 := hd14.mono hleD; replace hp31 := hp31.mono hleD; replace hd31 := hd31.mono hleD; replace hpH := hpH.mono hleD; replace hdH := hdH.mono hleD; replace hle0 := hle0.trans hleD; replace hle1 := hle1.trans hleD; refine withP_cons rfl rfl ?_; rintro _ rfl; refine withP_nil rfl ?_; refine XO.guardT rfl rfl (decide_eq_false (fun h => h (sel_iff.2 hok))) rfl ?_; refine XO.loadO 0 rfl rfl ty_27 rfl rfl rfl ?_; refine XO.nil ?_; exact stepQN_ok rfl trivial (rfl)
        refine stepsH_cons rfl ?_ ?_
        ·intro X ext HD hleD _
         replace hs := hs.mono hleD; replace hp14 := hp14.mono hleD; replace hd14 := hd14.mono hleD; replace hp31 := hp31.mono hleD; replace hd31 := hd31.mono hleD; replace hpH := hpH.mono hleD; replace hdH := hdH.mono hleD; replace hle0 := hle0.trans hleD; replace hle1 := hle1.trans hleD; refine withP_cons rfl rfl ?_; rintro _ rfl; refine withP_cons rfl rfl ?_; rintro _ rfl; refine withP_nil rfl ?_; refine XO.guardT rfl rfl (decide_eq_false (fun h => h (sel_iff.2 hok))) rfl ?_; refine XO.callV rfl (at_fn x31 _ _ _ hd31 hD31) rfl ?_; refine XO.nil ?_; exact stepQN_ok rfl trivial (rfl)
        refine stepsH_cons rfl ?_ ?_
        ·intro X ext HD hleD _
         replace hs := hs.mono hleD; replace hp14 := hp14.mono hleD; replace hd14 := hd14.mono hleD; replace hp31 := hp31.mono hleD; replace hd31 := hd31.mono hleD; replace hpH := hpH.mono hleD; replace hdH := hdH.mono hleD; replace hle0 := hle0.trans hleD; replace hle1 := hle1.trans hleD; refine withP_cons rfl rfl ?_; rintro _ rfl; refine withP_nil rfl ?_; refine XO.guardT rfl rfl (decide_eq_false (fun h => h (sel_iff.2 hok))) rfl ?_; refine XO.fieldAddr rfl fa_50_0 rfl ?_; refine XO.nil ?_; exact stepQN_ok rfl trivial (rfl)
        refine stepsH_cons rfl ?_ ?_
        ·intro X ext HD hleD _
         replace hs := hs.mono hleD; replace hp14 := hp14.mono hleD; replace hd14 := hd14.mono hleD; replace hp31 := hp31.mono hleD; replace hd31 := hd31.mono hleD; replace hpH := hpH.mono hleD; replace hdH := hdH.mono hleD; replace hle0 := hle0.trans hleD; replace hle1 := hle1.trans hleD; refine withP_cons rfl rfl ?_; rintro _ rfl; refine withP_cons rfl rfl ?_; rintro _ rfl; refine withP_nil rfl ?_; refine XO.guardT rfl rfl (decide_eq_false (fun h => h (sel_iff.2 hok))) rfl ?_; refine XO.loadO 1 rfl rfl ty_31 rfl rfl rfl ?_; refine XO.nil ?_; exact stepQN_ok rfl trivial (rfl)
        refine stepsH_cons rfl ?_ ?_
        ·intro X ext HD hleD _
         replace hs := hs.mono hleD; replace hp14 := hp14.mono hleD; replace hd14 := hd14.mono hleD; replace hp31 := hp31.mono hleD; replace hd31 := hd31.mono hleD; replace hpH := hpH.mono hleD; replace hdH := hdH.mono hleD; replace hle0 := hle0.trans hleD; replace hle1 := hle1.trans hleD; refine withP_cons rfl rfl ?_; rintro _ rfl; refine withP_cons rfl rfl ?_; rintro _ rfl; refine withP_nil rfl ?_; refine XO.guardT rfl rfl (decide_eq_false (fun h => h (sel_iff.2 hok))) rfl ?_; refine XO.indexE rfl rfl Try.underlying31 ty_27 (by omega) (by omega) rfl ?_; refine XO.nil ?_; exact stepQN_ok rfl trivial (rfl)
        refine stepsH_cons rfl ?_ ?_
        ·intro X ext HD hleD _
         replace hs := hs.mono hleD; replace hp14 := hp14.mono hleD; replace hd14 := hd14.mono hleD; replace hp31 := hp31.mono hleD; replace hd31 := hd31.mono hleD; replace hpH := hpH.mono hleD; replace hdH := hdH.mono hleD; replace hle0 := hle0.trans hleD; replace hle1 := hle1.trans hleD; refine withP_cons rfl rfl ?_; rintro _ rfl; refine withP_cons rfl rfl ?_; rintro _ rfl; refine withP_nil rfl ?_; refine XO.guardT rfl rfl (decide_eq_false (fun h => h (sel_iff.2 hok))) rfl ?_; refine XO.loadH rfl (by assumption) ty_27 rfl rfl rfl ?_; refine XO.nil ?_; exact stepQN_ok rfl trivial (rfl)
        exact stepsH_end rfl
       case tail8 =>
        intro HD hleD _
        replace hs := hs.mono hleD; replace hp14 := hp14.mono hleD; replace hd14 := hd14.mono hleD; replace hp31 := hp31.mono hleD; replace hd31 := hd31.mono hleD; replace hpH := hpH.mono hleD; replace hdH := hdH.mono hleD; replace hle0 := hle0.trans hleD; replace hle1 := hle1.trans hleD; refine withP_cons rfl rfl ?_; rintro _ rfl; refine withP_cons rfl rfl ?_; rintro _ rfl; refine withP_cons rfl rfl ?_; rintro _ rfl; refine withP_cons rfl rfl ?_; rintro _ rfl; refine withP_cons rfl rfl ?_; rintro _ rfl; refine withP_cons rfl rfl ?_; rintro _ rfl; refine withP_cons rfl rfl ?_; rintro _ rfl; refine withP_cons rfl rfl ?_; rintro _ rfl; refine withP_cons rfl rfl ?_; rintro _ rfl; refine withP_cons rfl rfl ?_; rintro _ rfl; refine withP_nil rfl ?_; refine withEnts_nil ?_; refine XO.guardT rfl rfl (decide_eq_false (fun h => h (sel_iff.2 hok))) rfl ?_; refine XO.callV rfl (at_fn (hd x14) _ _ _ hdH hDH) rfl ?_; refine XO.guardT rfl rfl (decide_eq_false (fun h => h (sel_iff.2 hok))) rfl ?_; refine XO.neqAr (l := plcL x31) (m := plcL (hd x14)) rfl rfl rfl rfl rfl rfl Try.underlying55 eg_55 Try.underlying3 ty_3 rfl ?_; refine XO.pickF rfl (decide_eq_false (fun h => h (sel_iff.2 hok))) rfl rfl ?_; refine XO.nil ?_; refine XC.seq2 ?_; refine XC.cond rfl (fun c4_14 => ?_) (fun c4_14 => ?_)
        ·refine XC.seq ?_; refine XC.region ?_; refine XO.assign rfl rfl ?_; refine XO.nil ?_; refine XC.seq2 ?_; refine XC.ret ?_; refine blockR ?_; refine seqX_ret ?_; refine loopX_ret ?_; refine blockR ?_; refine seqX_ret ?_; refine blockR ?_; refine seqX_ret ?_; refine loopX_ret ?_; refine blockR ?_; refine seqX_ret ?_; refine ⟨rfl, _, [], rfl, (by repeat (first | exact List.Sublist.refl _ | apply List.Sublist.cons)), RetR.mk ?_⟩
         first | exact congrArg (Value.int .i64) (bchk_2 (by omega)).symm | exact congrArg (Value.int .i64) (bchk_s (by omega) (List.mem_of_getElem? hx14) (slot_nl (by omega))).symm | exact congrArg (Value.int .i64) (bchk_s (by omega) (List.mem_of_getElem? hx14) (slot_nc (List.mem_of_getElem? hx31) hok)).symm | exact congrArg (Value.int .i64) (bchk_s (by omega) (List.mem_of_getElem? hx14) (slot_np (List.mem_of_getElem? hx31) (by assumption))).symm | exact congrArg (Value.int .i64) (bchk_s (by omega) (List.mem_of_getElem? hx14) (slot_nr (by simpa using (show (!riseG ordC x14) = true by assumption)))).symm | exact congrArg (Value.int .i64) (bchk_r (by omega) (by simpa using (show (!riseG plq l) = true by assumption))).symm | exact congrArg (Value.int .i64) (bchk_0 (by omega) hall (by simpa using (show (!riseG plq l) = false by assumption))).symm
        ·refine XC.skip ?_; refine blockN ?_; refine XC.seq2 ?_; refine XC.region ?_; refine XO.add rfl rfl (wrap_i64 (by omega) (by omega)) rfl ?_; refine XO.move rfl rfl ?_; refine XO.nil ?_; refine loop_next (j + 1) (by show x14.length - (j + 1) < x14.length - j; omega) (prov_cons (rfl) (prov_cons (rfl) (prov_cons (rfl) (prov_cons (rfl) (prov_cons (rfl) (prov_cons (rfl) (prov_cons (rfl) (prov_cons (rfl) prov_nil)))))))) (⟨by show j + 1 ≤ x14.length; omega, rfl, all_snocP (p := fun s => okC s ∧ plcL s = plcL (hd x14)) hcs hx31 ⟨hok, Decidable.not_not.1 (by assumption)⟩⟩) (by repeat (first | exact List.Sublist.refl _ | apply List.Sublist.cons_cons | apply List.Sublist.cons)) (hle1)
      ·skip
       refine XC.keep [0, 4, 6, 10, 11, 12, 27, 28, 29] rfl ?_
       apply XC.drawH (fun _ => True) trivial [] (by decide) (fun _ _ _ _ => True) (fun _ _ _ _ _ _ h => h) 10 [eqF _, eqF _, eqF _, eqF _, eqF _, eqF _, eqF _, eqF _, eqF _, eqF _] follows (by kernel_rfl) ⟨eqF_mono _, eqF_mono _, eqF_mono _, eqF_mono _, eqF_mono _, eqF_mono _, eqF_mono _, eqF_mono _, eqF_mono _, eqF_mono _, trivial⟩ (by decide) ?steps15 ?tail15
       case steps15 =>
        refine stepsH_cons rfl ?_ ?_
        ·intro X ext HD hleD _
         replace hs := hs.mono hleD; replace hp14 := hp14.mono hleD; replace hd14 := hd14.mono hleD; replace hp31 := hp31.mono hleD; replace hd31 := hd31.mono hleD; replace hle0 := hle0.trans hleD; replace hle1 := hle1.trans hleD; refine withP_nil rfl ?_; refine XO.loadO 0 rfl rfl ty_27 rfl rfl rfl ?_; refine XO.nil ?_; exact stepQN_ok rfl trivial (rfl)
        refine stepsH_cons rfl ?_ ?_
        ·intro X ext HD hleD _
         replace hs := hs.mono hleD; replace hp14 := hp14.mono hleD; replace hd14 := hd14.mono hleD; replace hp31 := hp31.mono hleD; replace hd31 := hd31.mono hleD; replace hle0 := hle0.trans hleD; replace hle1 := hle1.trans hleD; refine withP_cons rfl rfl ?_; rintro _ rfl; refine withP_nil rfl ?_; refine XO.callV rfl (selcheck_fn x31 _ _ _ hd31 hD31 (hlc _ (List.mem_of_getElem? hx14) _ (List.mem_of_getElem? hx31))) rfl ?_; refine XO.nil ?_; exact stepQN_ok rfl trivial (rfl)
        refine stepsH_cons rfl ?_ ?_
        ·intro X ext HD hleD _
         replace hs := hs.mono hleD; replace hp14 := hp14.mono hleD; replace hd14 := hd14.mono hleD; replace hp31 := hp31.mono hleD; replace hd31 := hd31.mono hleD; replace hle0 := hle0.trans hleD; replace hle1 := hle1.trans hleD; refine withP_cons rfl rfl ?_; rintro _ rfl; refine withP_nil rfl ?_; refine XO.neq rfl rfl rfl ?_; refine XO.nil ?_; exact stepQN_ok rfl trivial (rfl)
        refine stepsH_cons rfl ?_ ?_
        ·intro X ext HD hleD _
         replace hs := hs.mono hleD; replace hp14 := hp14.mono hleD; replace hd14 := hd14.mono hleD; replace hp31 := hp31.mono hleD; replace hd31 := hd31.mono hleD; replace hle0 := hle0.trans hleD; replace hle1 := hle1.trans hleD; refine withP_cons rfl rfl ?_; rintro _ rfl; refine withP_nil rfl ?_; refine XO.move rfl rfl ?_; refine XO.nil ?_; exact stepQN_ok rfl trivial (rfl)
        refine stepsH_cons rfl ?_ ?_
        ·intro X ext HD hleD _
         replace hs := hs.mono hleD; replace hp14 := hp14.mono hleD; replace hd14 := hd14.mono hleD; replace hp31 := hp31.mono hleD; replace hd31 := hd31.mono hleD; replace hle0 := hle0.trans hleD; replace hle1 := hle1.trans hleD; refine withP_cons rfl rfl ?_; rintro _ rfl; refine withP_nil rfl ?_; refine XO.guardF rfl rfl (decide_eq_true (fun h => hok (sel_iff.1 h))) rfl rfl ?_; refine XO.nil ?_; exact stepQN_ok rfl trivial (rfl)
        refine stepsH_cons rfl ?_ ?_
        ·intro X ext HD hleD _
         replace hs := hs.mono hleD; replace hp14 := hp14.mono hleD; replace hd14 := hd14.mono hleD; replace hp31 := hp31.mono hleD; replace hd31 := hd31.mono hleD; replace hle0 := hle0.trans hleD; replace hle1 := hle1.trans hleD; refine withP_cons rfl rfl ?_; rintro _ rfl; refine withP_cons rfl rfl ?_; rintro _ rfl; refine withP_nil rfl ?_; refine XO.guardF rfl rfl (decide_eq_true (fun h => hok (sel_iff.1 h))) rfl rfl ?_; refine XO.nil ?_; exact stepQN_ok rfl trivial (rfl)
        refine stepsH_cons rfl ?_ ?_
        ·intro X ext HD hleD _
         replace hs := hs.mono hleD; replace hp14 := hp14.mono hleD; replace hd14 := hd14.mono hleD; replace hp31 := hp31.mono hleD; replace hd31 := hd31.mono hleD; replace hle0 := hle0.trans hleD; replace hle1 := hle1.trans hleD; refine withP_cons rfl rfl ?_; rintro _ rfl; refine withP_nil rfl ?_; refine XO.guardF rfl rfl (decide_eq_true (fun h => hok (sel_iff.1 h))) rfl rfl ?_; refine XO.nil ?_; exact stepQN_ok rfl trivial (rfl)
        refine stepsH_cons rfl ?_ ?_
        ·intro X ext HD hleD _
         replace hs := hs.mono hleD; replace hp14 := hp14.mono hleD; replace hd14 := hd14.mono hleD; replace hp31 := hp31.mono hleD; replace hd31 := hd31.mono hleD; replace hle0 := hle0.trans hleD; replace hle1 := hle1.trans hleD; refine withP_cons rfl rfl ?_; rintro _ rfl; refine withP_cons rfl rfl ?_; rintro _ rfl; refine withP_nil rfl ?_; refine XO.guardF rfl rfl (decide_eq_true (fun h => hok (sel_iff.1 h))) rfl rfl ?_; refine XO.nil ?_; exact stepQN_ok rfl trivial (rfl)
        refine stepsH_cons rfl ?_ ?_
        ·intro X ext HD hleD _
         replace hs := hs.mono hleD; replace hp14 := hp14.mono hleD; replace hd14 := hd14.mono hleD; replace hp31 := hp31.mono hleD; replace hd31 := hd31.mono hleD; replace hle0 := hle0.trans hleD; replace hle1 := hle1.trans hleD; refine withP_cons rfl rfl ?_; rintro _ rfl; refine withP_cons rfl rfl ?_; rintro _ rfl; refine withP_nil rfl ?_; refine XO.guardF rfl rfl (decide_eq_true (fun h => hok (sel_iff.1 h))) rfl rfl ?_; refine XO.nil ?_; exact stepQN_ok rfl trivial (rfl)
        refine stepsH_cons rfl ?_ ?_
        ·intro X ext HD hleD _
         replace hs := hs.mono hleD; replace hp14 := hp14.mono hleD; replace hd14 := hd14.mono hleD; replace hp31 := hp31.mono hleD; replace hd31 := hd31.mono hleD; replace hle0 := hle0.trans hleD; replace hle1 := hle1.trans hleD; refine withP_cons rfl rfl ?_; rintro _ rfl; refine withP_cons rfl rfl ?_; rintro _ rfl; refine withP_nil rfl ?_; refine XO.guardF rfl rfl (decide_eq_true (fun h => hok (sel_iff.1 h))) rfl rfl ?_; refine XO.nil ?_; exact stepQN_ok rfl trivial (rfl)
        exact stepsH_end rfl
       case tail15 =>
        intro HD hleD _
        replace hs := hs.mono hleD; replace hp14 := hp14.mono hleD; replace hd14 := hd14.mono hleD; replace hp31 := hp31.mono hleD; replace hd31 := hd31.mono hleD; replace hle0 := hle0.trans hleD; replace hle1 := hle1.trans hleD; refine withP_cons rfl rfl ?_; rintro _ rfl; refine withP_cons rfl rfl ?_; rintro _ rfl; refine withP_cons rfl rfl ?_; rintro _ rfl; refine withP_cons rfl rfl ?_; rintro _ rfl; refine withP_cons rfl rfl ?_; rintro _ rfl; refine withP_cons rfl rfl ?_; rintro _ rfl; refine withP_cons rfl rfl ?_; rintro _ rfl; refine withP_cons rfl rfl ?_; rintro _ rfl; refine withP_cons rfl rfl ?_; rintro _ rfl; refine withP_cons rfl rfl ?_; rintro _ rfl; refine withP_nil rfl ?_; refine withEnts_nil ?_; refine XO.guardF rfl rfl (decide_eq_true (fun h => hok (sel_iff.1 h))) rfl rfl ?_; refine XO.guardF rfl rfl (decide_eq_true (fun h => hok (sel_iff.1 h))) rfl rfl ?_; refine XO.pickT rfl (decide_eq_true (fun h => hok (sel_iff.1 h))) rfl rfl ?_; refine XO.nil ?_; refine XC.seq2 ?_; refine XC.condT rfl (rfl) ?_; refine XC.seq ?_; refine XC.region ?_; refine XO.assign rfl rfl ?_; refine XO.nil ?_; refine XC.seq2 ?_; refine XC.ret ?_; refine blockR ?_; refine seqX_ret ?_; refine loopX_ret ?_; refine blockR ?_; refine seqX_ret ?_; refine blockR ?_; refine seqX_ret ?_; refine loopX_ret ?_; refine blockR ?_; refine seqX_ret ?_; refine ⟨rfl, _, [], rfl, (by repeat (first | exact List.Sublist.refl _ | apply List.Sublist.cons)), RetR.mk ?_⟩
        first | exact congrArg (Value.int .i64) (bchk_2 (by omega)).symm | exact congrArg (Value.int .i64) (bchk_s (by omega) (List.mem_of_getElem? hx14) (slot_nl (by omega))).symm | exact congrArg (Value.int .i64) (bchk_s (by omega) (List.mem_of_getElem? hx14) (slot_nc (List.mem_of_getElem? hx31) hok)).symm | exact congrArg (Value.int .i64) (bchk_s (by omega) (List.mem_of_getElem? hx14) (slot_np (List.mem_of_getElem? hx31) (by assumption))).symm | exact congrArg (Value.int .i64) (bchk_s (by omega) (List.mem_of_getElem? hx14) (slot_nr (by simpa using (show (!riseG ordC x14) = true by assumption)))).symm | exact congrArg (Value.int .i64) (bchk_r (by omega) (by simpa using (show (!riseG plq l) = true by assumption))).symm | exact congrArg (Value.int .i64) (bchk_0 (by omega) hall (by simpa using (show (!riseG plq l) = false by assumption))).symm
     ·obtain rfl : j = x14.length := by omega
      rw [List.take_length] at hcs
      refine XC.exit ?_; refine seqX_exit ?_; refine loopX_exit ?_; refine blockHit rfl ?_; refine XC.seq2 ?_; refine XC.seq ?_; refine XC.region ?_; refine XO.fieldAddr rfl fa_50_0 rfl ?_; refine XO.loadO 0 rfl rfl ty_31 rfl rfl rfl ?_; refine XO.callH rfl (riseC_fn _ _ x14 _ hd14 (by omega) (.func (.func 31) #[] #[]) (fun x y ax ay cx cy H2 hle hx hy h1 h2 h3 h4 => (FnV.of_fn (cap := []) (args := [_, _]) (order_fn x y _ _ _ _ H2 h1 h2 h3 h4 (hcs x hx).1 (hcs y hy).1)))) rfl ?_; rintro _ HN49 hleN49 rfl; replace hs := hs.mono hleN49; replace hp14 := hp14.mono hleN49; replace hd14 := hd14.mono hleN49; replace hle0 := hle0.trans hleN49; replace hle1 := hle1.trans hleN49; refine XO.notB rfl rfl ?_; refine XO.nil ?_; refine XC.seq2 ?_; refine XC.condB rfl (fun c5_18 => ?_) (fun c5_18 => ?_)
      ·refine XC.seq ?_; refine XC.region ?_; refine XO.assign rfl rfl ?_; refine XO.nil ?_; refine XC.seq2 ?_; refine XC.ret ?_; refine blockR ?_; refine seqX_ret ?_; refine loopX_ret ?_; refine blockR ?_; refine seqX_ret ?_; refine ⟨rfl, _, [], rfl, (by repeat (first | exact List.Sublist.refl _ | apply List.Sublist.cons)), RetR.mk ?_⟩
       first | exact congrArg (Value.int .i64) (bchk_2 (by omega)).symm | exact congrArg (Value.int .i64) (bchk_s (by omega) (List.mem_of_getElem? hx14) (slot_nl (by omega))).symm | exact congrArg (Value.int .i64) (bchk_s (by omega) (List.mem_of_getElem? hx14) (slot_nc (List.mem_of_getElem? hx31) hok)).symm | exact congrArg (Value.int .i64) (bchk_s (by omega) (List.mem_of_getElem? hx14) (slot_np (List.mem_of_getElem? hx31) (by assumption))).symm | exact congrArg (Value.int .i64) (bchk_s (by omega) (List.mem_of_getElem? hx14) (slot_nr (by simpa using (show (!riseG ordC x14) = true by assumption)))).symm | exact congrArg (Value.int .i64) (bchk_r (by omega) (by simpa using (show (!riseG plq l) = true by assumption))).symm | exact congrArg (Value.int .i64) (bchk_0 (by omega) hall (by simpa using (show (!riseG plq l) = false by assumption))).symm
      ·refine XC.skip ?_; refine blockN ?_; refine XC.seq2 ?_; refine XC.region ?_; refine XO.add rfl rfl (wrap_i64 (by omega) (by omega)) rfl ?_; refine XO.move rfl rfl ?_; refine XO.nil ?_; refine loop_next (i + 1) (by show l.length - (i + 1) < l.length - i; omega) (prov_cons (rfl) (prov_cons (rfl) (prov_cons (rfl) (prov_cons (rfl) prov_nil)))) (⟨by show i + 1 ≤ l.length; omega, rfl, all_take hx14 hall (slot_y (by omega) hcs (by simpa using (show (!riseG ordC x14) = false by assumption)))⟩) (by repeat (first | exact List.Sublist.refl _ | apply List.Sublist.cons_cons | apply List.Sublist.cons)) (hle0)
   ·have g4p := of_decide_eq_true g4
    refine XO.guardF rfl rfl (g4) rfl rfl ?_; refine XO.guardF rfl rfl (g4) rfl rfl ?_; refine XO.guardF rfl rfl (g4) rfl rfl ?_; refine XO.pickT rfl (g4) rfl rfl ?_; refine XO.nil ?_; refine XC.seq2 ?_; refine XC.condT rfl (rfl) ?_; refine XC.seq ?_; refine XC.region ?_; refine XO.assign rfl rfl ?_; refine XO.nil ?_; refine XC.seq2 ?_; refine XC.ret ?_; refine seqX_ret ?_; refine blockR ?_; refine seqX_ret ?_; refine loopX_ret ?_; refine blockR ?_; refine seqX_ret ?_; refine ⟨rfl, _, [], rfl, (by repeat (first | exact List.Sublist.refl _ | apply List.Sublist.cons)), RetR.mk ?_⟩
    first | exact congrArg (Value.int .i64) (bchk_2 (by omega)).symm | exact congrArg (Value.int .i64) (bchk_s (by omega) (List.mem_of_getElem? hx14) (slot_nl (by omega))).symm | exact congrArg (Value.int .i64) (bchk_s (by omega) (List.mem_of_getElem? hx14) (slot_nc (List.mem_of_getElem? hx31) hok)).symm | exact congrArg (Value.int .i64) (bchk_s (by omega) (List.mem_of_getElem? hx14) (slot_np (List.mem_of_getElem? hx31) (by assumption))).symm | exact congrArg (Value.int .i64) (bchk_s (by omega) (List.mem_of_getElem? hx14) (slot_nr (by simpa using (show (!riseG ordC x14) = true by assumption)))).symm | exact congrArg (Value.int .i64) (bchk_r (by omega) (by simpa using (show (!riseG plq l) = true by assumption))).symm | exact congrArg (Value.int .i64) (bchk_0 (by omega) hall (by simpa using (show (!riseG plq l) = false by assumption))).symm
  ·obtain rfl : i = l.length := by omega
   rw [List.take_length] at hall
   refine XC.exit ?_; refine seqX_exit ?_; refine loopX_exit ?_; refine blockHit rfl ?_; refine XC.seq2 ?_; refine XC.seq ?_; refine XC.seq ?_; refine XC.region ?_; refine XO.move rfl rfl ?_; refine XO.callH rfl (riseB_fn _ _ l _ hs hl (.func (.func 33) #[] #[]) (fun x y ax ay cx cy H2 hle hx hy h1 h2 => FnV.of_fn (cap := []) (args := [_, _]) (slotcmp_fn x y _ _ _ _ H2 h1 h2 (pos_of (List.all_eq_true.1 hall x hx)) (pos_of (List.all_eq_true.1 hall y hy))))) rfl ?_; rintro _ HN53 hleN53 rfl; replace hs := hs.mono hleN53; replace hle0 := hle0.trans hleN53; refine XO.notB rfl rfl ?_; refine XO.nil ?_; refine XC.seq2 ?_; refine XC.condB rfl (fun c6_20 => ?_) (fun c6_20 => ?_)
   ·refine XC.seq ?_; refine XC.region ?_; refine XO.assign rfl rfl ?_; refine XO.nil ?_; refine XC.seq2 ?_; refine XC.ret ?_; refine seqX_ret ?_; refine ⟨rfl, _, [], rfl, (by repeat (first | exact List.Sublist.refl _ | apply List.Sublist.cons)), RetR.mk ?_⟩
    first | exact congrArg (Value.int .i64) (bchk_2 (by omega)).symm | exact congrArg (Value.int .i64) (bchk_s (by omega) (List.mem_of_getElem? hx14) (slot_nl (by omega))).symm | exact congrArg (Value.int .i64) (bchk_s (by omega) (List.mem_of_getElem? hx14) (slot_nc (List.mem_of_getElem? hx31) hok)).symm | exact congrArg (Value.int .i64) (bchk_s (by omega) (List.mem_of_getElem? hx14) (slot_np (List.mem_of_getElem? hx31) (by assumption))).symm | exact congrArg (Value.int .i64) (bchk_s (by omega) (List.mem_of_getElem? hx14) (slot_nr (by simpa using (show (!riseG ordC x14) = true by assumption)))).symm | exact congrArg (Value.int .i64) (bchk_r (by omega) (by simpa using (show (!riseG plq l) = true by assumption))).symm | exact congrArg (Value.int .i64) (bchk_0 (by omega) hall (by simpa using (show (!riseG plq l) = false by assumption))).symm
   ·refine XC.skip ?_; refine XC.seq2 ?_; refine XC.seq ?_; refine XC.region ?_; refine XO.assign rfl rfl ?_; refine XO.nil ?_; refine XC.seq2 ?_; refine XC.ret ?_; refine ⟨rfl, _, [], rfl, (by repeat (first | exact List.Sublist.refl _ | apply List.Sublist.cons)), RetR.mk ?_⟩
    first | exact congrArg (Value.int .i64) (bchk_2 (by omega)).symm | exact congrArg (Value.int .i64) (bchk_s (by omega) (List.mem_of_getElem? hx14) (slot_nl (by omega))).symm | exact congrArg (Value.int .i64) (bchk_s (by omega) (List.mem_of_getElem? hx14) (slot_nc (List.mem_of_getElem? hx31) hok)).symm | exact congrArg (Value.int .i64) (bchk_s (by omega) (List.mem_of_getElem? hx14) (slot_np (List.mem_of_getElem? hx31) (by assumption))).symm | exact congrArg (Value.int .i64) (bchk_s (by omega) (List.mem_of_getElem? hx14) (slot_nr (by simpa using (show (!riseG ordC x14) = true by assumption)))).symm | exact congrArg (Value.int .i64) (bchk_r (by omega) (by simpa using (show (!riseG plq l) = true by assumption))).symm | exact congrArg (Value.int .i64) (bchk_0 (by omega) hall (by simpa using (show (!riseG plq l) = false by assumption))).symm

end Go.Proofs
