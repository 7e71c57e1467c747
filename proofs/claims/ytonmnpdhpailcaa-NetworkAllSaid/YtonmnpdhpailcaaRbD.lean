/- The walks of the functions of the links: what each of them computes, at any input. -/
import Derived.Test.YtonmnpdhpailcaaRbC
set_option autoImplicit false
set_option linter.unusedVariables false
set_option linter.unusedSimpArgs false
namespace Go.Proofs
open Go.XL

theorem ty_5 : tyF Try.prog 5 1 false = true := by kernel_rfl
theorem ze_5 : zeroC Try.prog 5 = some [.int .u8 0] := by kernel_rfl

set_option maxRecDepth 100000 in
set_option maxHeartbeats 1600000 in
theorem sane06 (H : Hp) : FnC Try.prog 9 #[] H [] (RetR fun v _ _ => v = .bool true) := by
  refine FnC.intro (args := []) Try.func9 rfl rfl Try.ntmps9 rfl rfl rfl fun G rest => ?_
  refine XC.seq ?_
  refine XC.region ?_
  refine XO.assign rfl rfl ?_
  refine XO.nil ?_
  refine XC.seq2 ?_
  refine XC.seq ?_
  refine XC.region ?_
  refine XO.callV rfl (new_fn _) rfl ?_
  refine XO.alloc ze_25 rfl (fun b1 => ?_)
  refine XO.storeO 0 rfl rfl rfl rfl ty_25 rfl rfl rfl rfl rfl ?_
  refine XO.nil ?_
  refine XC.seq2 ?_
  refine XC.seq ?_
  refine XC.region ?_
  refine XO.loadO 0 rfl rfl ty_25 rfl rfl rfl ?_
  refine XO.callH rfl (deliver_fn none none 0 0 ⟨[], []⟩ 0 _ (SlR.nil0 _ _) (SlR.nil0 _ _) (by decide) (by decide)) rfl ?_
  rintro _ HD25 hleD25 ⟨_, _, rfl, ⟨a25, c25, rfl, h25⟩, ⟨d25, e25, f25, g25, rfl, i25, j25⟩⟩
  refine XO.move rfl rfl ?_
  refine XO.extract rfl rfl rfl ?_
  refine XO.extract rfl rfl rfl ?_
  refine XO.extract rfl rfl rfl ?_
  refine XO.alloc ze_28 rfl (fun b2 => ?_)
  refine XO.alloc ze_25 rfl (fun b3 => ?_)
  refine XO.storeO 1 rfl rfl rfl rfl ty_28 rfl rfl rfl rfl rfl ?_
  refine XO.storeO 0 rfl rfl rfl rfl ty_25 rfl rfl rfl rfl rfl ?_
  refine XO.assign rfl rfl ?_
  refine XO.nil ?_
  refine XC.seq2 ?_
  refine XC.seq ?_
  refine XC.region ?_
  refine XO.loadO 2 rfl rfl ty_25 rfl rfl rfl ?_
  refine XO.build bk_28 bf_28 ze_28 rfl rfl rfl ?_
  refine XO.callH rfl (send_fn none none 0 0 ⟨[], []⟩ ⟨3, 3, []⟩ none 0 _ (SlR.nil0 _ _) (SlR.nil0 _ _) (by decide) (by decide) (SlR.nil0 _ _)) rfl ?_
  rintro _ HD32 hleD32 ⟨_, rfl, ⟨d32, e32, f32, g32, rfl, i32, j32⟩⟩
  replace h25 := h25.mono hleD32
  replace i25 := i25.mono hleD32
  replace j25 := j25.mono hleD32
  refine XO.move rfl rfl ?_
  refine XO.extract rfl rfl rfl ?_
  refine XO.extract rfl rfl rfl ?_
  refine XO.alloc ze_25 rfl (fun b5 => ?_)
  refine XO.storeO 0 rfl rfl rfl rfl ty_25 rfl rfl rfl rfl rfl ?_
  refine XO.assign rfl rfl ?_
  refine XO.nil ?_
  refine XC.seq2 ?_
  refine XC.seq ?_
  refine XC.region ?_
  refine XO.loadO 3 rfl rfl ty_25 rfl rfl rfl ?_
  refine XO.callH rfl (cut_fn none none 0 0 ⟨[], []⟩ 2 2 true _ (SlR.nil0 _ _) (SlR.nil0 _ _) (by decide) (by decide)) rfl ?_
  rintro _ HD37 hleD37 ⟨_, rfl, ⟨d37, e37, f37, g37, rfl, i37, j37⟩⟩
  replace h25 := h25.mono hleD37
  replace i25 := i25.mono hleD37
  replace j25 := j25.mono hleD37
  replace i32 := i32.mono hleD37
  replace j32 := j32.mono hleD37
  refine XO.move rfl rfl ?_
  refine XO.extract rfl rfl rfl ?_
  refine XO.extract rfl rfl rfl ?_
  refine XO.alloc ze_25 rfl (fun b7 => ?_)
  refine XO.storeO 0 rfl rfl rfl rfl ty_25 rfl rfl rfl rfl rfl ?_
  refine XO.assign rfl rfl ?_
  refine XO.nil ?_
  refine XC.seq2 ?_
  refine XC.seq ?_
  refine XC.region ?_
  refine XO.buildSlice rfl Try.underlying26 ty_5 ze_5 rfl rfl rfl (fun b40 => ?_)
  refine XO.publish 0 rfl rfl rfl (fun HP40 oP40 hleP40 hbP40 hoP40 => ?_)
  have hsl40 := SlR.lit (ρ := u8R) (l := [7]) hbP40 hoP40 (RowsR.one1 rfl)
  replace h25 := h25.mono hleP40
  replace i25 := i25.mono hleP40
  replace j25 := j25.mono hleP40
  replace i32 := i32.mono hleP40
  replace j32 := j32.mono hleP40
  replace i37 := i37.mono hleP40
  replace j37 := j37.mono hleP40
  refine XO.build bk_28 bf_28 ze_28 rfl rfl rfl ?_
  refine XO.alloc ze_28 rfl (fun b9 => ?_)
  refine XO.storeO 0 rfl rfl rfl rfl ty_28 rfl rfl rfl rfl rfl ?_
  refine XO.nil ?_
  refine XC.seq2 ?_
  refine XC.seq ?_
  refine XC.region ?_
  refine XO.loadO 5 rfl rfl ty_25 rfl rfl rfl ?_
  refine XO.loadO 0 rfl rfl ty_28 rfl rfl rfl ?_
  refine XO.callH rfl (send_fn none none 0 0 ⟨[], []⟩ ⟨1, 3, [7]⟩ _ _ _ (SlR.nil0 _ _) (SlR.nil0 _ _) (by decide) (by decide) hsl40) rfl ?_
  rintro _ HD45 hleD45 ⟨_, rfl, ⟨d45, e45, f45, g45, rfl, i45, j45⟩⟩
  replace h25 := h25.mono hleD45
  replace i25 := i25.mono hleD45
  replace j25 := j25.mono hleD45
  replace i32 := i32.mono hleD45
  replace j32 := j32.mono hleD45
  replace i37 := i37.mono hleD45
  replace j37 := j37.mono hleD45
  replace hsl40 := hsl40.mono hleD45
  refine XO.move rfl rfl ?_
  refine XO.extract rfl rfl rfl ?_
  refine XO.extract rfl rfl rfl ?_
  refine XO.alloc ze_25 rfl (fun b10 => ?_)
  refine XO.storeO 0 rfl rfl rfl rfl ty_25 rfl rfl rfl rfl rfl ?_
  refine XO.assign rfl rfl ?_
  refine XO.nil ?_
  refine XC.seq2 ?_
  refine XC.seq ?_
  refine XC.region ?_
  refine XO.loadO 0 rfl rfl ty_25 rfl rfl rfl ?_
  refine XO.callH rfl (repeat_fn _ _ _ _ (sendV ⟨[], []⟩ ⟨1, 3, [7]⟩).1 0 _ i45 j45 (by decide +kernel) (by decide +kernel)) rfl ?_
  rintro _ HD50 hleD50 ⟨_, rfl, ⟨d50, e50, f50, g50, rfl, i50, j50⟩⟩
  replace h25 := h25.mono hleD50
  replace i25 := i25.mono hleD50
  replace j25 := j25.mono hleD50
  replace i32 := i32.mono hleD50
  replace j32 := j32.mono hleD50
  replace i37 := i37.mono hleD50
  replace j37 := j37.mono hleD50
  replace hsl40 := hsl40.mono hleD50
  replace i45 := i45.mono hleD50
  replace j45 := j45.mono hleD50
  refine XO.move rfl rfl ?_
  refine XO.extract rfl rfl rfl ?_
  refine XO.extract rfl rfl rfl ?_
  refine XO.alloc ze_25 rfl (fun b12 => ?_)
  refine XO.storeO 0 rfl rfl rfl rfl ty_25 rfl rfl rfl rfl rfl ?_
  refine XO.assign rfl rfl ?_
  refine XO.nil ?_
  refine XC.seq2 ?_
  refine XC.seq ?_
  refine XC.region ?_
  refine XO.loadO 0 rfl rfl ty_25 rfl rfl rfl ?_
  refine XO.callH rfl (cut_fn _ _ _ _ (repV (sendV ⟨[], []⟩ ⟨1, 3, [7]⟩).1 0).1 3 1 true _ i50 j50 (by decide +kernel) (by decide +kernel)) rfl ?_
  rintro _ HD55 hleD55 ⟨_, rfl, ⟨d55, e55, f55, g55, rfl, i55, j55⟩⟩
  replace h25 := h25.mono hleD55
  replace i25 := i25.mono hleD55
  replace j25 := j25.mono hleD55
  replace i32 := i32.mono hleD55
  replace j32 := j32.mono hleD55
  replace i37 := i37.mono hleD55
  replace j37 := j37.mono hleD55
  replace hsl40 := hsl40.mono hleD55
  replace i45 := i45.mono hleD55
  replace j45 := j45.mono hleD55
  replace i50 := i50.mono hleD55
  replace j50 := j50.mono hleD55
  refine XO.move rfl rfl ?_
  refine XO.extract rfl rfl rfl ?_
  refine XO.extract rfl rfl rfl ?_
  refine XO.alloc ze_25 rfl (fun b14 => ?_)
  refine XO.storeO 0 rfl rfl rfl rfl ty_25 rfl rfl rfl rfl rfl ?_
  refine XO.assign rfl rfl ?_
  refine XO.nil ?_
  refine XC.seq2 ?_
  refine XC.seq ?_
  refine XC.region ?_
  refine XO.loadO 1 rfl rfl ty_25 rfl rfl rfl ?_
  refine XO.callH rfl (deliver_fn _ _ _ _ (repV (sendV ⟨[], []⟩ ⟨1, 3, [7]⟩).1 0).1 0 _ i50 j50 (by decide +kernel) (by decide +kernel)) rfl ?_
  rintro _ HD60 hleD60 ⟨_, _, rfl, ⟨a60, c60, rfl, h60⟩, ⟨d60, e60, f60, g60, rfl, i60, j60⟩⟩
  replace h25 := h25.mono hleD60
  replace i25 := i25.mono hleD60
  replace j25 := j25.mono hleD60
  replace i32 := i32.mono hleD60
  replace j32 := j32.mono hleD60
  replace i37 := i37.mono hleD60
  replace j37 := j37.mono hleD60
  replace hsl40 := hsl40.mono hleD60
  replace i45 := i45.mono hleD60
  replace j45 := j45.mono hleD60
  replace i50 := i50.mono hleD60
  replace j50 := j50.mono hleD60
  replace i55 := i55.mono hleD60
  replace j55 := j55.mono hleD60
  refine XO.move rfl rfl ?_
  refine XO.extract rfl rfl rfl ?_
  refine XO.extract rfl rfl rfl ?_
  refine XO.extract rfl rfl rfl ?_
  refine XO.alloc ze_28 rfl (fun b16 => ?_)
  refine XO.alloc ze_25 rfl (fun b17 => ?_)
  refine XO.storeO 1 rfl rfl rfl rfl ty_28 rfl rfl rfl rfl rfl ?_
  refine XO.storeO 0 rfl rfl rfl rfl ty_25 rfl rfl rfl rfl rfl ?_
  refine XO.assign rfl rfl ?_
  refine XO.nil ?_
  refine XC.seq2 ?_
  refine XC.seq ?_
  refine XC.region ?_
  refine XO.loadO 2 rfl rfl ty_25 rfl rfl rfl ?_
  refine XO.callH rfl (deliver_fn _ _ _ _ (cutN (repV (sendV ⟨[], []⟩ ⟨1, 3, [7]⟩).1 0).1 3 1 true) 1 _ i55 j55 (by decide +kernel) (by decide +kernel)) rfl ?_
  rintro _ HD66 hleD66 ⟨_, _, rfl, ⟨a66, c66, rfl, h66⟩, ⟨d66, e66, f66, g66, rfl, i66, j66⟩⟩
  replace h25 := h25.mono hleD66
  replace i25 := i25.mono hleD66
  replace j25 := j25.mono hleD66
  replace i32 := i32.mono hleD66
  replace j32 := j32.mono hleD66
  replace i37 := i37.mono hleD66
  replace j37 := j37.mono hleD66
  replace hsl40 := hsl40.mono hleD66
  replace i45 := i45.mono hleD66
  replace j45 := j45.mono hleD66
  replace i50 := i50.mono hleD66
  replace j50 := j50.mono hleD66
  replace i55 := i55.mono hleD66
  replace j55 := j55.mono hleD66
  replace h60 := h60.mono hleD66
  replace i60 := i60.mono hleD66
  replace j60 := j60.mono hleD66
  refine XO.move rfl rfl ?_
  refine XO.extract rfl rfl rfl ?_
  refine XO.extract rfl rfl rfl ?_
  refine XO.extract rfl rfl rfl ?_
  refine XO.alloc ze_28 rfl (fun b19 => ?_)
  refine XO.alloc ze_25 rfl (fun b20 => ?_)
  refine XO.storeO 1 rfl rfl rfl rfl ty_28 rfl rfl rfl rfl rfl ?_
  refine XO.storeO 0 rfl rfl rfl rfl ty_25 rfl rfl rfl rfl rfl ?_
  refine XO.assign rfl rfl ?_
  refine XO.nil ?_
  refine XC.seq2 ?_
  refine XC.seq ?_
  refine XC.region ?_
  refine XO.loadO 12 rfl rfl ty_25 rfl rfl rfl ?_
  refine XO.callV rfl (check_fn none none 0 0 ⟨[], []⟩ _ (SlR.nil0 _ _) (SlR.nil0 _ _) (by decide) (by decide)) rfl ?_
  refine XO.eql rfl rfl rfl ?_
  refine XO.move rfl rfl ?_
  refine XO.guardT rfl rfl (by decide +kernel) rfl ?_
  refine XO.move rfl rfl ?_
  refine XO.guardT rfl rfl (by decide +kernel) rfl ?_
  refine XO.eql rfl rfl rfl ?_
  refine XO.pickT rfl (by decide +kernel) rfl rfl ?_
  refine XO.move rfl rfl ?_
  refine XO.guardT rfl rfl (by decide +kernel) rfl ?_
  refine XO.move rfl rfl ?_
  refine XO.guardT rfl rfl (by decide +kernel) rfl ?_
  refine XO.eql rfl rfl rfl ?_
  refine XO.pickT rfl (by decide +kernel) rfl rfl ?_
  refine XO.move rfl rfl ?_
  refine XO.guardT rfl rfl (by decide +kernel) rfl ?_
  refine XO.move rfl rfl ?_
  refine XO.guardT rfl rfl (by decide +kernel) rfl ?_
  refine XO.eql rfl rfl rfl ?_
  refine XO.pickT rfl (by decide +kernel) rfl rfl ?_
  refine XO.move rfl rfl ?_
  refine XO.guardT rfl rfl (by decide +kernel) rfl ?_
  refine XO.move rfl rfl ?_
  refine XO.guardT rfl rfl (by decide +kernel) rfl ?_
  refine XO.eql rfl rfl rfl ?_
  refine XO.pickT rfl (by decide +kernel) rfl rfl ?_
  refine XO.move rfl rfl ?_
  refine XO.guardT rfl rfl (by decide +kernel) rfl ?_
  refine XO.move rfl rfl ?_
  refine XO.guardT rfl rfl (by decide +kernel) rfl ?_
  refine XO.eql rfl rfl rfl ?_
  refine XO.pickT rfl (by decide +kernel) rfl rfl ?_
  refine XO.move rfl rfl ?_
  refine XO.guardT rfl rfl (by decide +kernel) rfl ?_
  refine XO.move rfl rfl ?_
  refine XO.guardT rfl rfl (by decide +kernel) rfl ?_
  refine XO.eql rfl rfl rfl ?_
  refine XO.pickT rfl (by decide +kernel) rfl rfl ?_
  refine XO.move rfl rfl ?_
  refine XO.guardT rfl rfl (by decide +kernel) rfl ?_
  refine XO.move rfl rfl ?_
  refine XO.guardT rfl rfl (by decide +kernel) rfl ?_
  refine XO.eql rfl rfl rfl ?_
  refine XO.pickT rfl (by decide +kernel) rfl rfl ?_
  refine XO.move rfl rfl ?_
  refine XO.guardT rfl rfl (by decide +kernel) rfl ?_
  refine XO.move rfl rfl ?_
  refine XO.guardT rfl rfl (by decide +kernel) rfl ?_
  refine XO.eql rfl rfl rfl ?_
  refine XO.pickT rfl (by decide +kernel) rfl rfl ?_
  refine XO.move rfl rfl ?_
  refine XO.guardT rfl rfl (by decide +kernel) rfl ?_
  refine XO.loadO 7 rfl rfl ty_28 rfl rfl rfl ?_
  refine XO.guardT rfl rfl (by decide +kernel) rfl ?_
  refine XO.loadO 3 rfl rfl ty_28 rfl rfl rfl ?_
  refine XO.guardT rfl rfl (by decide +kernel) rfl ?_
  refine XO.callV rfl (samep_fn ⟨1, 3, [7]⟩ (delP (repV (sendV ⟨[], []⟩ ⟨1, 3, [7]⟩).1 0).1 0) _ _ _ _ _ hsl40 h60) rfl ?_
  refine XO.pickT rfl (by decide +kernel) rfl rfl ?_
  refine XO.move rfl rfl ?_
  refine XO.guardT rfl rfl (by decide +kernel) rfl ?_
  refine XO.loadO 1 rfl rfl ty_28 rfl rfl rfl ?_
  refine XO.guardT rfl rfl (by decide +kernel) rfl ?_
  refine XO.build bk_28 bf_28 ze_28 rfl rfl rfl ?_
  refine XO.guardT rfl rfl (by decide +kernel) rfl ?_
  refine XO.callV rfl (samep_fn (delP (cutN (repV (sendV ⟨[], []⟩ ⟨1, 3, [7]⟩).1 0).1 3 1 true) 1) pk0 _ none _ 0 _ h66 (SlR.nil0 _ _)) rfl ?_
  refine XO.pickT rfl (by decide +kernel) rfl rfl ?_
  refine XO.move rfl rfl ?_
  refine XO.guardT rfl rfl (by decide +kernel) rfl ?_
  refine XO.loadO 2 rfl rfl ty_25 rfl rfl rfl ?_
  refine XO.guardT rfl rfl (by decide +kernel) rfl ?_
  refine XO.loadO 6 rfl rfl ty_25 rfl rfl rfl ?_
  refine XO.guardT rfl rfl (by decide +kernel) rfl ?_
  refine XO.callV rfl (same_fn _ _ _ _ _ _ _ _ (delN (repV (sendV ⟨[], []⟩ ⟨1, 3, [7]⟩).1 0).1 0) (sendV ⟨[], []⟩ ⟨1, 3, [7]⟩).1 _ i60 j60 (by decide +kernel) (by decide +kernel) i45 j45) rfl ?_
  refine XO.pickT rfl (by decide +kernel) rfl rfl ?_
  refine XO.move rfl rfl ?_
  refine XO.guardT rfl rfl (by decide +kernel) rfl ?_
  refine XO.fieldAddr rfl fa_25_1 rfl ?_
  refine XO.guardT rfl rfl (by decide +kernel) rfl ?_
  refine XO.loadO 4 rfl rfl ty_23 rfl rfl rfl ?_
  refine XO.guardT rfl rfl (by decide +kernel) rfl ?_
  refine XO.lenS (ts := #[]) rfl Try.underlying23 rfl ?_
  refine XO.guardT rfl rfl (by decide +kernel) rfl ?_
  refine XO.eql rfl rfl rfl ?_
  refine XO.pickT rfl (by decide +kernel) rfl rfl ?_
  refine XO.move rfl rfl ?_
  refine XO.guardT rfl rfl (by decide +kernel) rfl ?_
  refine XO.fieldAddr rfl fa_25_1 rfl ?_
  refine XO.guardT rfl rfl (by decide +kernel) rfl ?_
  refine XO.loadO 4 rfl rfl ty_23 rfl rfl rfl ?_
  refine XO.guardT rfl rfl (by decide +kernel) rfl ?_
  refine XO.indexN (i := 0) rfl (by assumption) rfl Try.underlying23 ty_55 (by decide +kernel) rfl ?_
  rintro eb129 eo129 _ x129 hx129 rfl hp129
  refine XO.guardT rfl rfl (by decide +kernel) rfl ?_
  refine XO.loadH rfl (by assumption) ty_55 rfl rfl rfl ?_
  refine XO.guardT rfl rfl (by decide +kernel) rfl ?_
  refine XO.buildArr Try.underlying55 ty_3 ze_55 rfl rfl rfl ?_
  refine XO.guardT rfl rfl (by decide +kernel) rfl ?_
  refine XO.eqlA2 rfl rfl Try.underlying55 eg_55 Try.underlying3 ty_3 rfl ?_
  refine XO.pickT rfl (by decide +kernel) rfl rfl ?_
  refine XO.move rfl rfl ?_
  refine XO.guardT rfl rfl (decide_eq_true (by obtain rfl := Option.some.inj (hx129.symm.trans (show (cutN (repV (sendV ⟨[], []⟩ ⟨1, 3, [7]⟩).1 0).1 3 1 true).ap[0]? = some (1, 3) by decide +kernel)); rfl)) rfl ?_
  refine XO.fieldAddr rfl fa_25_0 rfl ?_
  refine XO.guardT rfl rfl (decide_eq_true (by obtain rfl := Option.some.inj (hx129.symm.trans (show (cutN (repV (sendV ⟨[], []⟩ ⟨1, 3, [7]⟩).1 0).1 3 1 true).ap[0]? = some (1, 3) by decide +kernel)); rfl)) rfl ?_
  refine XO.loadO 4 rfl rfl ty_22 rfl rfl rfl ?_
  refine XO.guardT rfl rfl (decide_eq_true (by obtain rfl := Option.some.inj (hx129.symm.trans (show (cutN (repV (sendV ⟨[], []⟩ ⟨1, 3, [7]⟩).1 0).1 3 1 true).ap[0]? = some (1, 3) by decide +kernel)); rfl)) rfl ?_
  refine XO.lenS (ts := #[]) rfl Try.underlying22 rfl ?_
  refine XO.guardT rfl rfl (decide_eq_true (by obtain rfl := Option.some.inj (hx129.symm.trans (show (cutN (repV (sendV ⟨[], []⟩ ⟨1, 3, [7]⟩).1 0).1 3 1 true).ap[0]? = some (1, 3) by decide +kernel)); rfl)) rfl ?_
  refine XO.eql rfl rfl rfl ?_
  refine XO.pickT rfl (decide_eq_true (by obtain rfl := Option.some.inj (hx129.symm.trans (show (cutN (repV (sendV ⟨[], []⟩ ⟨1, 3, [7]⟩).1 0).1 3 1 true).ap[0]? = some (1, 3) by decide +kernel)); rfl)) rfl rfl ?_
  refine XO.assign rfl rfl ?_
  refine XO.nil ?_
  refine XC.seq2 ?_
  refine XC.ret ?_
  refine ⟨rfl, _, [], rfl, (by repeat (first | exact List.Sublist.refl _ | apply List.Sublist.cons)), RetR.mk ?_⟩
  exact congrArg Value.bool (by decide +kernel)

end Go.Proofs
