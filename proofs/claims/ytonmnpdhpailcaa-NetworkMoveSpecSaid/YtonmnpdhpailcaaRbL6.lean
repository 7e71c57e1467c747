/- The law NetworkMoveSpec: it returns true, whatever the input, and what it was handed reads as before. No condition. -/
import Derived.Test.YtonmnpdhpailcaaRbO
import Derived.Test.YtonmnpdhpailcaaRbD
import Derived.Test.YtonmnpdhpailcaaXLt
import Derived.Test.YtonmnpdhpailcaaRbN
import Derived.Test.YtonmnpdhpailcaaRows
import Derived.WalkKit
import Derived.ProofKit
import Derived.OpenShut
import Derived.ShutString
import Derived.ChangeOld
import Derived.Below
set_option autoImplicit false
set_option linter.unusedVariables false
set_option linter.unusedSimpArgs false
namespace Go.Proofs.Ytonmnpdhpailcaa
open Go.XL

theorem by_3 : Nat.ble (Try.prog.bytesOf 3) 4096 = true := by kernel_rfl
theorem ze_3 : zeroC Try.prog 3 = some [.int .i64 0] := by kernel_rfl

set_option maxRecDepth 100000 in
set_option maxHeartbeats 1600000 in
theorem networkMoveSpec_fn (aq ap : Option Addr) (cq cp : Nat) (n : Nt) (i a b : Int) (on : Bool) (H : Hp) (hq : SlR pkR H aq cq n.q) (hp : SlR pairR H ap cp n.ap) : FnC Try.prog 6 #[.agg ⟨[.slice aq n.q.length cq, .slice ap n.ap.length cp]⟩, .int .i64 i, .int .i64 a, .int .i64 b, .bool on] H [] (RetR fun v _ _ => v = .bool true) := by
  refine FnC.intro (args := [.agg ⟨[.slice aq n.q.length cq, .slice ap n.ap.length cp]⟩, .int .i64 i, .int .i64 a, .int .i64 b, .bool on]) Try.func6 rfl rfl Try.ntmps6 rfl rfl rfl fun G rest => ?_
  refine XC.seq ?_
  refine XC.region ?_
  refine XO.box rfl rfl rfl (fun b5 => ?_)
  refine XO.assign rfl rfl ?_
  refine XO.nil ?_
  refine XC.seq2 ?_
  refine XC.seq ?_
  refine XC.seq ?_
  refine XC.region ?_
  refine XO.callV rfl (sane06 _) rfl ?_
  refine XO.notB rfl rfl ?_
  refine XO.nil ?_
  refine XC.seq2 ?_
  refine XC.condF rfl (rfl) ?_
  refine XC.skip ?_
  refine XC.seq2 ?_
  refine XC.seq ?_
  refine XC.seq ?_
  refine XC.region ?_
  refine XO.loadO 0 rfl rfl ty_25 rfl rfl rfl ?_
  refine XO.callV rfl (few_fn _ _ _ _ _ _) rfl ?_
  refine XO.not rfl rfl ?_
  refine XO.nil ?_
  refine XC.seq2 ?_
  refine XC.cond rfl (fun c1_3 => ?_) (fun c1_3 => ?_)
  · refine XC.seq ?_
    refine XC.region ?_
    refine XO.assign rfl rfl ?_
    refine XO.nil ?_
    refine XC.seq2 ?_
    refine XC.ret ?_
    refine seqX_ret ?_
    refine ⟨rfl, _, [], rfl, (by repeat (first | exact List.Sublist.refl _ | apply List.Sublist.cons)), RetR.mk ?_⟩
    rfl
  · have hfew : n.q.length ≤ 40 ∧ n.ap.length ≤ 40 := Decidable.not_not.1 (by assumption)
    have hlq : n.q.length < 4611686018427387904 := by omega
    have hlp : n.ap.length < 4611686018427387904 := by omega
    have q1 := cut_len n a b on
    refine XC.skip ?_
    refine XC.seq2 ?_
    refine XC.seq ?_
    refine XC.region ?_
    refine XO.loadO 0 rfl rfl ty_25 rfl rfl rfl ?_
    refine XO.move rfl rfl ?_
    refine XO.move rfl rfl ?_
    refine XO.move rfl rfl ?_
    refine XO.callH rfl (cut_fn _ _ _ _ n a b on _ hq hp hlq hlp) rfl ?_
    rintro _ HD35 hleD35 ⟨_, rfl, ⟨d35, e35, f35, g35, rfl, i35, j35⟩⟩
    replace hq := hq.mono hleD35
    replace hp := hp.mono hleD35
    refine XO.move rfl rfl ?_
    refine XO.extract rfl rfl rfl ?_
    refine XO.extract rfl rfl rfl ?_
    refine XO.alloc ze_25 rfl (fun b11 => ?_)
    refine XO.storeO 0 rfl rfl rfl rfl ty_25 rfl rfl rfl rfl rfl ?_
    refine XO.assign rfl rfl ?_
    refine XO.nil ?_
    refine XC.seq2 ?_
    refine XC.seq ?_
    refine XC.region ?_
    refine XO.loadO 1 rfl rfl ty_25 rfl rfl rfl ?_
    refine XO.move rfl rfl ?_
    refine XO.move rfl rfl ?_
    refine XO.move rfl rfl ?_
    refine XO.callH rfl (rcut_fn _ _ _ _ n a b on _ hq hp hlq hlp) rfl ?_
    rintro _ HD43 hleD43 ⟨_, rfl, ⟨d43, e43, f43, g43, rfl, i43, j43⟩⟩
    replace hq := hq.mono hleD43
    replace hp := hp.mono hleD43
    replace i35 := i35.mono hleD43
    replace j35 := j35.mono hleD43
    refine XO.move rfl rfl ?_
    refine XO.extract rfl rfl rfl ?_
    refine XO.extract rfl rfl rfl ?_
    refine XO.alloc ze_25 rfl (fun b13 => ?_)
    refine XO.storeO 0 rfl rfl rfl rfl ty_25 rfl rfl rfl rfl rfl ?_
    refine XO.assign rfl rfl ?_
    refine XO.nil ?_
    refine XC.seq2 ?_
    refine XC.seq ?_
    refine XC.seq ?_
    refine XC.region ?_
    refine XO.loadO 1 rfl rfl ty_25 rfl rfl rfl ?_
    refine XO.loadO 0 rfl rfl ty_25 rfl rfl rfl ?_
    refine XO.callV rfl (same_fn _ _ _ _ _ _ _ _ (cutN n a b on) (cutN n a b on) _ i35 j35 (by omega) (by omega) i43 j43) rfl ?_
    refine XO.not rfl rfl ?_
    refine XO.move rfl rfl ?_
    refine XO.guardT rfl rfl (decide_eq_false (fun h => h rfl)) rfl ?_
    refine XO.move rfl rfl ?_
    refine XO.guardT rfl rfl (decide_eq_false (fun h => h rfl)) rfl ?_
    refine XO.move rfl rfl ?_
    refine XO.guardT rfl rfl (decide_eq_false (fun h => h rfl)) rfl ?_
    refine XO.neq rfl rfl rfl ?_
    refine XO.pickF rfl (decide_eq_false (fun h => h rfl)) rfl rfl ?_
    refine XO.nil ?_
    refine XC.seq2 ?_
    refine XC.condF rfl (decide_eq_false (fun h => h rfl)) ?_
    refine XC.skip ?_
    refine XC.seq2 ?_
    refine XC.seq ?_
    refine XC.region ?_
    refine XO.move rfl rfl ?_
    refine XO.buildRow (ρ := (intR .i64)) (l := [_]) rfl Try.underlying45 ty_3 ze_3 rfl rfl rfl (RowsR.one1 rfl) rfl (fun p56 a56 c56 hacc56 => ?_)
    refine XO.assign rfl rfl ?_
    refine XO.nil ?_
    refine XC.seq2 ?_
    refine XC.seq ?_
    refine XC.seq ?_
    refine XC.region ?_
    refine XO.assign rfl rfl ?_
    refine XO.nil ?_
    refine XC.seq2 ?_
    refine XC.block ?_
    refine XC.keep [15, 16, 5] rfl ?_
    refine XC.loop (base := [(5, _)]) (fun ζ : Nat × ((Nat × SObj) × Option Addr × Nat) => [(15, .slice ζ.2.2.1 (mvL i (ζ.1)).length ζ.2.2.2), (16, .int .i64 (ζ.1 : Nat))]) (fun ζ Hl own => ζ.1 ≤ (min n.q.length 3) ∧ ζ.2.1 :: (b5, .cells 25 [.slice aq n.q.length cq, .slice ap n.ap.length cp]) :: rest = own ∧ Acc (intR .i64) 3 Hl ζ.2.1 ζ.2.2.1 ζ.2.2.2 (mvL i (ζ.1))) (fun ζ => (min n.q.length 3) - ζ.1) (0, (p56, a56, c56)) (prov_cons (rfl) (prov_cons (rfl) (prov_cons (rfl) prov_nil))) (by repeat (first | exact List.Sublist.refl _ | apply List.Sublist.cons_cons | apply List.Sublist.cons)) ⟨Nat.zero_le _, rfl, hacc56⟩ ?_
    rintro ⟨x, ⟨po, ao, co⟩⟩ Hl0 _ hle0 ⟨hkx, rfl, hacco⟩
    replace hq := hq.mono hle0
    replace hp := hp.mono hle0
    replace i35 := i35.mono hle0
    replace j35 := j35.mono hle0
    replace i43 := i43.mono hle0
    replace j43 := j43.mono hle0
    try dsimp only at hkx hacco ⊢
    refine XC.seq ?_
    refine XC.seq ?_
    refine XC.region ?_
    refine XO.move rfl rfl ?_
    refine XO.fieldAddr rfl fa_25_0 rfl ?_
    refine XO.loadO 1 rfl rfl ty_22 rfl rfl rfl ?_
    refine XO.lenS (ts := #[]) rfl Try.underlying22 rfl ?_
    refine XO.lss rfl rfl rfl ?_
    refine XO.move rfl rfl ?_
    refine XO.guardC rfl rfl rfl rfl (fun g7 => ?_) (fun g7 => ?_)
    · have g7p := of_decide_eq_true g7
      refine XO.move rfl rfl ?_
      refine XO.guardT rfl rfl (g7) rfl ?_
      refine XO.lss rfl rfl rfl ?_
      refine XO.pickT rfl (g7) rfl rfl ?_
      refine XO.nil ?_
      refine XC.seq2 ?_
      refine XC.cond rfl (fun c3_8 => ?_) (fun c3_8 => ?_)
      · refine XC.skip ?_
        refine XC.seq2 ?_
        refine XC.seq ?_
        refine XC.block ?_
        refine XC.region ?_
        refine XO.move rfl rfl ?_
        refine XO.move rfl rfl ?_
        refine XO.buildSlice rfl Try.underlying45 ty_3 ze_3 rfl rfl rfl (fun b70 => ?_)
        refine XO.publish 0 rfl rfl rfl (fun HP70 oP70 hleP70 hbP70 hoP70 => ?_)
        have hsl70 := SlR.lit (ρ := (intR .i64)) (l := [_]) hbP70 hoP70 (RowsR.one1 rfl)
        replace hq := hq.mono hleP70
        replace hp := hp.mono hleP70
        replace i35 := i35.mono hleP70
        replace j35 := j35.mono hleP70
        replace i43 := i43.mono hleP70
        replace j43 := j43.mono hleP70
        replace hacco := hacco.mono hleP70
        replace hle0 := hle0.trans hleP70
        refine XO.appendA 0 rfl rfl hacco rfl rfl hsl70 rfl Try.underlying45 ty_3 ze_3 rfl by_3 (by rw [mvL_len]; simp only [List.length_cons, List.length_nil]; omega) rfl (fun p71 a71 c71 hacc71 => ?_)
        refine XO.assign rfl rfl ?_
        refine XO.nil ?_
        refine blockN ?_
        refine XC.seq2 ?_
        refine XC.region ?_
        refine XO.move rfl rfl ?_
        refine XO.add rfl rfl (wrap_i64 (by omega) (by omega)) rfl ?_
        refine XO.assign rfl rfl ?_
        refine XO.nil ?_
        refine loop_next ((x + 1, (p71, a71, c71))) (by show (min n.q.length 3) - (x + 1) < (min n.q.length 3) - x; omega) (prov_cons (by first | rfl | (rw [mvL_succ]; rfl)) (prov_cons (rfl) (prov_cons (rfl) prov_nil))) (⟨by show x + 1 ≤ (min n.q.length 3); omega, rfl, by first | (exact hacc71) | (rw [mvL_succ]; exact hacc71)⟩) (by repeat (first | exact List.Sublist.refl _ | apply List.Sublist.cons_cons | apply List.Sublist.cons)) (hle0)
      · refine XC.exit ?_
        refine seqX_exit ?_
        refine loopX_exit ?_
        refine blockHit rfl ?_
        refine XC.seq2 ?_
        refine XC.seq ?_
        refine XC.seq ?_
        refine XC.region ?_
        refine XO.publishA 0 rfl hacco rfl (fun HQ10 hleQ10 hsQ10 => ?_)
        replace hq := hq.mono hleQ10
        replace hp := hp.mono hleQ10
        replace i35 := i35.mono hleQ10
        replace j35 := j35.mono hleQ10
        replace i43 := i43.mono hleQ10
        replace j43 := j43.mono hleQ10
        replace hle0 := hle0.trans hleQ10
        refine XO.move rfl rfl ?_
        refine XO.lenS (ts := #[]) rfl Try.underlying45 rfl ?_
        refine XO.move rfl rfl ?_
        refine XO.nil ?_
        refine XC.seq2 ?_
        refine XC.block ?_
        refine XC.keep [74, 5, 72, 73] rfl ?_
        refine XC.loop (base := [(5, _), (72, _), (73, _)]) (fun ζ : Nat => [(74, .int .i64 (ζ : Nat))]) (fun ζ Hl own => ζ ≤ (mvL i x).length ∧ (b5, .cells 25 [.slice aq n.q.length cq, .slice ap n.ap.length cp]) :: rest = own) (fun ζ => (mvL i x).length - ζ) 0 (prov_cons (rfl) (prov_cons (rfl) (prov_cons (rfl) (prov_cons (rfl) prov_nil)))) (by repeat (first | exact List.Sublist.refl _ | apply List.Sublist.cons_cons | apply List.Sublist.cons)) ⟨Nat.zero_le _, rfl⟩ ?_
        rintro k Hl1 _ hle1 ⟨hkk, rfl⟩
        replace hq := hq.mono hle1
        replace hp := hp.mono hle1
        replace i35 := i35.mono hle1
        replace j35 := j35.mono hle1
        replace i43 := i43.mono hle1
        replace j43 := j43.mono hle1
        replace hsQ10 := hsQ10.mono hle1
        replace hle0 := hle0.trans hle1
        try dsimp only at ⊢
        refine XC.seq ?_
        refine XC.region ?_
        refine XO.lss rfl rfl rfl ?_
        refine XO.nil ?_
        refine XC.seq2 ?_
        refine XC.seq ?_
        refine XC.cond rfl (fun c4_11 => ?_) (fun c4_11 => ?_)
        · refine XC.skip ?_
          refine XC.seq2 ?_
          refine XC.seq ?_
          refine XC.block ?_
          refine XC.seq ?_
          refine XC.region ?_
          refine XO.indexN rfl hsQ10 rfl Try.underlying45 ty_3 (by omega) rfl ?_
          rintro eb76 eo76 _ x76 hx76 rfl hp76
          refine XO.loadH rfl (by assumption) ty_3 rfl rfl rfl ?_
          refine XO.assign rfl rfl ?_
          refine XO.nil ?_
          refine XC.seq2 ?_
          refine XC.seq ?_
          refine XC.region ?_
          have hml := mvL_len i x
          have hdl := del_len n x76
          have hrl := rep_len n x76
          refine XO.loadO 0 rfl rfl ty_25 rfl rfl rfl ?_
          refine XO.move rfl rfl ?_
          refine XO.callH rfl (deliver_fn _ _ _ _ n x76 _ hq hp hlq hlp) rfl ?_
          rintro _ HD81 hleD81 ⟨_, _, rfl, ⟨a81, c81, rfl, h81⟩, ⟨d81, e81, f81, g81, rfl, i81, j81⟩⟩
          replace hq := hq.mono hleD81
          replace hp := hp.mono hleD81
          replace i35 := i35.mono hleD81
          replace j35 := j35.mono hleD81
          replace i43 := i43.mono hleD81
          replace j43 := j43.mono hleD81
          replace hsQ10 := hsQ10.mono hleD81
          replace hp76 := hp76.mono hleD81
          replace hle0 := hle0.trans hleD81
          replace hle1 := hle1.trans hleD81
          refine XO.move rfl rfl ?_
          refine XO.extract rfl rfl rfl ?_
          refine XO.extract rfl rfl rfl ?_
          refine XO.extract rfl rfl rfl ?_
          refine XO.alloc ze_28 rfl (fun b19 => ?_)
          refine XO.alloc ze_25 rfl (fun b20 => ?_)
          refine XO.storeO 1 rfl rfl rfl rfl ty_28 rfl rfl rfl rfl rfl ?_
          refine XO.storeO 0 rfl rfl rfl rfl ty_25 rfl rfl rfl rfl rfl ?_
          refine XO.assign rfl rfl ?_
          refine XO.nil ?_
          refine XC.seq2 ?_
          refine XC.seq ?_
          refine XC.region ?_
          refine XO.loadO 2 rfl rfl ty_25 rfl rfl rfl ?_
          refine XO.move rfl rfl ?_
          refine XO.callH rfl (rdeliver_fn _ _ _ _ n x76 _ hq hp hlq hlp) rfl ?_
          rintro _ HD88 hleD88 ⟨_, _, rfl, ⟨a88, c88, rfl, h88⟩, ⟨d88, e88, f88, g88, rfl, i88, j88⟩⟩
          replace hq := hq.mono hleD88
          replace hp := hp.mono hleD88
          replace i35 := i35.mono hleD88
          replace j35 := j35.mono hleD88
          replace i43 := i43.mono hleD88
          replace j43 := j43.mono hleD88
          replace hsQ10 := hsQ10.mono hleD88
          replace hp76 := hp76.mono hleD88
          replace h81 := h81.mono hleD88
          replace i81 := i81.mono hleD88
          replace j81 := j81.mono hleD88
          replace hle0 := hle0.trans hleD88
          replace hle1 := hle1.trans hleD88
          refine XO.move rfl rfl ?_
          refine XO.extract rfl rfl rfl ?_
          refine XO.extract rfl rfl rfl ?_
          refine XO.extract rfl rfl rfl ?_
          refine XO.alloc ze_28 rfl (fun b22 => ?_)
          refine XO.alloc ze_25 rfl (fun b23 => ?_)
          refine XO.storeO 1 rfl rfl rfl rfl ty_28 rfl rfl rfl rfl rfl ?_
          refine XO.storeO 0 rfl rfl rfl rfl ty_25 rfl rfl rfl rfl rfl ?_
          refine XO.assign rfl rfl ?_
          refine XO.nil ?_
          refine XC.seq2 ?_
          refine XC.seq ?_
          refine XC.seq ?_
          refine XC.region ?_
          refine XO.loadO 3 rfl rfl ty_28 rfl rfl rfl ?_
          refine XO.loadO 1 rfl rfl ty_28 rfl rfl rfl ?_
          refine XO.callV rfl (samep_fn (delP n x76) (delP n x76) _ _ _ _ _ h81 h88) rfl ?_
          refine XO.not rfl rfl ?_
          refine XO.move rfl rfl ?_
          refine XO.guardT rfl rfl (decide_eq_false (fun h => h rfl)) rfl ?_
          refine XO.loadO 2 rfl rfl ty_25 rfl rfl rfl ?_
          refine XO.guardT rfl rfl (decide_eq_false (fun h => h rfl)) rfl ?_
          refine XO.loadO 0 rfl rfl ty_25 rfl rfl rfl ?_
          refine XO.guardT rfl rfl (decide_eq_false (fun h => h rfl)) rfl ?_
          refine XO.callV rfl (same_fn _ _ _ _ _ _ _ _ (delN n x76) (delN n x76) _ i81 j81 (by omega) (by omega) i88 j88) rfl ?_
          refine XO.guardT rfl rfl (decide_eq_false (fun h => h rfl)) rfl ?_
          refine XO.not rfl rfl ?_
          refine XO.pickF rfl (decide_eq_false (fun h => h rfl)) rfl rfl ?_
          refine XO.move rfl rfl ?_
          refine XO.guardT rfl rfl (decide_eq_false (fun h => h rfl)) rfl ?_
          refine XO.move rfl rfl ?_
          refine XO.guardT rfl rfl (decide_eq_false (fun h => h rfl)) rfl ?_
          refine XO.move rfl rfl ?_
          refine XO.guardT rfl rfl (decide_eq_false (fun h => h rfl)) rfl ?_
          refine XO.neq rfl rfl rfl ?_
          refine XO.pickF rfl (decide_eq_false (fun h => h rfl)) rfl rfl ?_
          refine XO.nil ?_
          refine XC.seq2 ?_
          refine XC.condF rfl (decide_eq_false (fun h => h rfl)) ?_
          refine XC.skip ?_
          refine XC.seq2 ?_
          refine XC.seq ?_
          refine XC.region ?_
          refine XO.loadO 4 rfl rfl ty_25 rfl rfl rfl ?_
          refine XO.move rfl rfl ?_
          refine XO.callH rfl (lose_fn _ _ _ _ n x76 _ hq hp hlq hlp) rfl ?_
          rintro _ HD110 hleD110 ⟨_, rfl, ⟨d110, e110, f110, g110, rfl, i110, j110⟩⟩
          replace hq := hq.mono hleD110
          replace hp := hp.mono hleD110
          replace i35 := i35.mono hleD110
          replace j35 := j35.mono hleD110
          replace i43 := i43.mono hleD110
          replace j43 := j43.mono hleD110
          replace hsQ10 := hsQ10.mono hleD110
          replace hp76 := hp76.mono hleD110
          replace h81 := h81.mono hleD110
          replace i81 := i81.mono hleD110
          replace j81 := j81.mono hleD110
          replace h88 := h88.mono hleD110
          replace i88 := i88.mono hleD110
          replace j88 := j88.mono hleD110
          replace hle0 := hle0.trans hleD110
          replace hle1 := hle1.trans hleD110
          refine XO.move rfl rfl ?_
          refine XO.extract rfl rfl rfl ?_
          refine XO.extract rfl rfl rfl ?_
          refine XO.storeO 2 rfl rfl rfl rfl ty_25 rfl rfl rfl rfl rfl ?_
          refine XO.assign rfl rfl ?_
          refine XO.nil ?_
          refine XC.seq2 ?_
          refine XC.seq ?_
          refine XC.region ?_
          refine XO.loadO 4 rfl rfl ty_25 rfl rfl rfl ?_
          refine XO.move rfl rfl ?_
          refine XO.callH rfl (rlose_fn _ _ _ _ n x76 _ hq hp hlq hlp) rfl ?_
          rintro _ HD116 hleD116 ⟨_, rfl, ⟨d116, e116, f116, g116, rfl, i116, j116⟩⟩
          replace hq := hq.mono hleD116
          replace hp := hp.mono hleD116
          replace i35 := i35.mono hleD116
          replace j35 := j35.mono hleD116
          replace i43 := i43.mono hleD116
          replace j43 := j43.mono hleD116
          replace hsQ10 := hsQ10.mono hleD116
          replace hp76 := hp76.mono hleD116
          replace h81 := h81.mono hleD116
          replace i81 := i81.mono hleD116
          replace j81 := j81.mono hleD116
          replace h88 := h88.mono hleD116
          replace i88 := i88.mono hleD116
          replace j88 := j88.mono hleD116
          replace i110 := i110.mono hleD116
          replace j110 := j110.mono hleD116
          replace hle0 := hle0.trans hleD116
          replace hle1 := hle1.trans hleD116
          refine XO.move rfl rfl ?_
          refine XO.extract rfl rfl rfl ?_
          refine XO.extract rfl rfl rfl ?_
          refine XO.storeO 0 rfl rfl rfl rfl ty_25 rfl rfl rfl rfl rfl ?_
          refine XO.assign rfl rfl ?_
          refine XO.nil ?_
          refine XC.seq2 ?_
          refine XC.seq ?_
          refine XC.seq ?_
          refine XC.region ?_
          refine XO.loadO 2 rfl rfl ty_25 rfl rfl rfl ?_
          refine XO.loadO 0 rfl rfl ty_25 rfl rfl rfl ?_
          refine XO.callV rfl (same_fn _ _ _ _ _ _ _ _ (delN n x76) (delN n x76) _ i110 j110 (by omega) (by omega) i116 j116) rfl ?_
          refine XO.not rfl rfl ?_
          refine XO.move rfl rfl ?_
          refine XO.guardT rfl rfl (decide_eq_false (fun h => h rfl)) rfl ?_
          refine XO.move rfl rfl ?_
          refine XO.guardT rfl rfl (decide_eq_false (fun h => h rfl)) rfl ?_
          refine XO.move rfl rfl ?_
          refine XO.guardT rfl rfl (decide_eq_false (fun h => h rfl)) rfl ?_
          refine XO.neq rfl rfl rfl ?_
          refine XO.pickF rfl (decide_eq_false (fun h => h rfl)) rfl rfl ?_
          refine XO.nil ?_
          refine XC.seq2 ?_
          refine XC.condF rfl (decide_eq_false (fun h => h rfl)) ?_
          refine XC.skip ?_
          refine XC.seq2 ?_
          refine XC.seq ?_
          refine XC.region ?_
          refine XO.loadO 4 rfl rfl ty_25 rfl rfl rfl ?_
          refine XO.move rfl rfl ?_
          refine XO.callH rfl (repeat_fn _ _ _ _ n x76 _ hq hp hlq hlp) rfl ?_
          rintro _ HD131 hleD131 ⟨_, rfl, ⟨d131, e131, f131, g131, rfl, i131, j131⟩⟩
          replace hq := hq.mono hleD131
          replace hp := hp.mono hleD131
          replace i35 := i35.mono hleD131
          replace j35 := j35.mono hleD131
          replace i43 := i43.mono hleD131
          replace j43 := j43.mono hleD131
          replace hsQ10 := hsQ10.mono hleD131
          replace hp76 := hp76.mono hleD131
          replace h81 := h81.mono hleD131
          replace i81 := i81.mono hleD131
          replace j81 := j81.mono hleD131
          replace h88 := h88.mono hleD131
          replace i88 := i88.mono hleD131
          replace j88 := j88.mono hleD131
          replace i110 := i110.mono hleD131
          replace j110 := j110.mono hleD131
          replace i116 := i116.mono hleD131
          replace j116 := j116.mono hleD131
          replace hle0 := hle0.trans hleD131
          replace hle1 := hle1.trans hleD131
          refine XO.move rfl rfl ?_
          refine XO.extract rfl rfl rfl ?_
          refine XO.extract rfl rfl rfl ?_
          refine XO.storeO 2 rfl rfl rfl rfl ty_25 rfl rfl rfl rfl rfl ?_
          refine XO.assign rfl rfl ?_
          refine XO.nil ?_
          refine XC.seq2 ?_
          refine XC.seq ?_
          refine XC.region ?_
          refine XO.loadO 4 rfl rfl ty_25 rfl rfl rfl ?_
          refine XO.move rfl rfl ?_
          refine XO.callH rfl (rrepeat_fn _ _ _ _ n x76 _ hq hp hlq hlp) rfl ?_
          rintro _ HD137 hleD137 ⟨_, rfl, ⟨d137, e137, f137, g137, rfl, i137, j137⟩⟩
          replace hq := hq.mono hleD137
          replace hp := hp.mono hleD137
          replace i35 := i35.mono hleD137
          replace j35 := j35.mono hleD137
          replace i43 := i43.mono hleD137
          replace j43 := j43.mono hleD137
          replace hsQ10 := hsQ10.mono hleD137
          replace hp76 := hp76.mono hleD137
          replace h81 := h81.mono hleD137
          replace i81 := i81.mono hleD137
          replace j81 := j81.mono hleD137
          replace h88 := h88.mono hleD137
          replace i88 := i88.mono hleD137
          replace j88 := j88.mono hleD137
          replace i110 := i110.mono hleD137
          replace j110 := j110.mono hleD137
          replace i116 := i116.mono hleD137
          replace j116 := j116.mono hleD137
          replace i131 := i131.mono hleD137
          replace j131 := j131.mono hleD137
          replace hle0 := hle0.trans hleD137
          replace hle1 := hle1.trans hleD137
          refine XO.move rfl rfl ?_
          refine XO.extract rfl rfl rfl ?_
          refine XO.extract rfl rfl rfl ?_
          refine XO.storeO 0 rfl rfl rfl rfl ty_25 rfl rfl rfl rfl rfl ?_
          refine XO.assign rfl rfl ?_
          refine XO.nil ?_
          refine XC.seq2 ?_
          refine XC.seq ?_
          refine XC.region ?_
          refine XO.loadO 2 rfl rfl ty_25 rfl rfl rfl ?_
          refine XO.loadO 0 rfl rfl ty_25 rfl rfl rfl ?_
          refine XO.callV rfl (same_fn _ _ _ _ _ _ _ _ (repV n x76).1 (repV n x76).1 _ i131 j131 (by omega) (by omega) i137 j137) rfl ?_
          refine XO.not rfl rfl ?_
          refine XO.move rfl rfl ?_
          refine XO.guardT rfl rfl (decide_eq_false (fun h => h rfl)) rfl ?_
          refine XO.move rfl rfl ?_
          refine XO.guardT rfl rfl (decide_eq_false (fun h => h rfl)) rfl ?_
          refine XO.move rfl rfl ?_
          refine XO.guardT rfl rfl (decide_eq_false (fun h => h rfl)) rfl ?_
          refine XO.neq rfl rfl rfl ?_
          refine XO.pickF rfl (decide_eq_false (fun h => h rfl)) rfl rfl ?_
          refine XO.nil ?_
          refine XC.seq2 ?_
          refine XC.condF rfl (decide_eq_false (fun h => h rfl)) ?_
          refine XC.skip ?_
          refine blockN ?_
          refine XC.seq2 ?_
          refine XC.region ?_
          refine XO.add rfl rfl (wrap_i64 (by omega) (by omega)) rfl ?_
          refine XO.move rfl rfl ?_
          refine XO.nil ?_
          refine loop_next (k + 1) (by show (mvL i x).length - (k + 1) < (mvL i x).length - k; omega) (prov_cons (rfl) (prov_cons (rfl) (prov_cons (rfl) (prov_cons (rfl) prov_nil)))) (⟨by show k + 1 ≤ (mvL i x).length; omega, rfl⟩) (by repeat (first | exact List.Sublist.refl _ | apply List.Sublist.cons_cons | apply List.Sublist.cons)) (hle1)
        · refine XC.exit ?_
          refine seqX_exit ?_
          refine loopX_exit ?_
          refine blockHit rfl ?_
          refine XC.seq2 ?_
          refine XC.seq ?_
          refine XC.region ?_
          refine XO.assign rfl rfl ?_
          refine XO.nil ?_
          refine XC.seq2 ?_
          refine XC.ret ?_
          refine ⟨rfl, _, [], rfl, (by repeat (first | exact List.Sublist.refl _ | apply List.Sublist.cons)), RetR.mk ?_⟩
          rfl
    · have g7p := of_decide_eq_false g7
      refine XO.guardF rfl rfl (g7) rfl rfl ?_
      refine XO.pickF rfl (g7) rfl rfl ?_
      refine XO.nil ?_
      refine XC.seq2 ?_
      refine XC.condF rfl (rfl) ?_
      refine XC.exit ?_
      refine seqX_exit ?_
      refine loopX_exit ?_
      refine blockHit rfl ?_
      refine XC.seq2 ?_
      refine XC.seq ?_
      refine XC.seq ?_
      refine XC.region ?_
      refine XO.publishA 0 rfl hacco rfl (fun HQ23 hleQ23 hsQ23 => ?_)
      replace hq := hq.mono hleQ23
      replace hp := hp.mono hleQ23
      replace i35 := i35.mono hleQ23
      replace j35 := j35.mono hleQ23
      replace i43 := i43.mono hleQ23
      replace j43 := j43.mono hleQ23
      replace hle0 := hle0.trans hleQ23
      refine XO.move rfl rfl ?_
      refine XO.lenS (ts := #[]) rfl Try.underlying45 rfl ?_
      refine XO.move rfl rfl ?_
      refine XO.nil ?_
      refine XC.seq2 ?_
      refine XC.block ?_
      refine XC.keep [74, 5, 72, 73] rfl ?_
      refine XC.loop (base := [(5, _), (72, _), (73, _)]) (fun ζ : Nat => [(74, .int .i64 (ζ : Nat))]) (fun ζ Hl own => ζ ≤ (mvL i x).length ∧ (b5, .cells 25 [.slice aq n.q.length cq, .slice ap n.ap.length cp]) :: rest = own) (fun ζ => (mvL i x).length - ζ) 0 (prov_cons (rfl) (prov_cons (rfl) (prov_cons (rfl) (prov_cons (rfl) prov_nil)))) (by repeat (first | exact List.Sublist.refl _ | apply List.Sublist.cons_cons | apply List.Sublist.cons)) ⟨Nat.zero_le _, rfl⟩ ?_
      rintro k Hl1 _ hle1 ⟨hkk, rfl⟩
      replace hq := hq.mono hle1
      replace hp := hp.mono hle1
      replace i35 := i35.mono hle1
      replace j35 := j35.mono hle1
      replace i43 := i43.mono hle1
      replace j43 := j43.mono hle1
      replace hsQ23 := hsQ23.mono hle1
      replace hle0 := hle0.trans hle1
      try dsimp only at ⊢
      refine XC.seq ?_
      refine XC.region ?_
      refine XO.lss rfl rfl rfl ?_
      refine XO.nil ?_
      refine XC.seq2 ?_
      refine XC.seq ?_
      refine XC.cond rfl (fun c4_24 => ?_) (fun c4_24 => ?_)
      · refine XC.skip ?_
        refine XC.seq2 ?_
        refine XC.seq ?_
        refine XC.block ?_
        refine XC.seq ?_
        refine XC.region ?_
        refine XO.indexN rfl hsQ23 rfl Try.underlying45 ty_3 (by omega) rfl ?_
        rintro eb76 eo76 _ x76 hx76 rfl hp76
        refine XO.loadH rfl (by assumption) ty_3 rfl rfl rfl ?_
        refine XO.assign rfl rfl ?_
        refine XO.nil ?_
        refine XC.seq2 ?_
        refine XC.seq ?_
        refine XC.region ?_
        have hml := mvL_len i x
        have hdl := del_len n x76
        have hrl := rep_len n x76
        refine XO.loadO 0 rfl rfl ty_25 rfl rfl rfl ?_
        refine XO.move rfl rfl ?_
        refine XO.callH rfl (deliver_fn _ _ _ _ n x76 _ hq hp hlq hlp) rfl ?_
        rintro _ HD81 hleD81 ⟨_, _, rfl, ⟨a81, c81, rfl, h81⟩, ⟨d81, e81, f81, g81, rfl, i81, j81⟩⟩
        replace hq := hq.mono hleD81
        replace hp := hp.mono hleD81
        replace i35 := i35.mono hleD81
        replace j35 := j35.mono hleD81
        replace i43 := i43.mono hleD81
        replace j43 := j43.mono hleD81
        replace hsQ23 := hsQ23.mono hleD81
        replace hp76 := hp76.mono hleD81
        replace hle0 := hle0.trans hleD81
        replace hle1 := hle1.trans hleD81
        refine XO.move rfl rfl ?_
        refine XO.extract rfl rfl rfl ?_
        refine XO.extract rfl rfl rfl ?_
        refine XO.extract rfl rfl rfl ?_
        refine XO.alloc ze_28 rfl (fun b19 => ?_)
        refine XO.alloc ze_25 rfl (fun b20 => ?_)
        refine XO.storeO 1 rfl rfl rfl rfl ty_28 rfl rfl rfl rfl rfl ?_
        refine XO.storeO 0 rfl rfl rfl rfl ty_25 rfl rfl rfl rfl rfl ?_
        refine XO.assign rfl rfl ?_
        refine XO.nil ?_
        refine XC.seq2 ?_
        refine XC.seq ?_
        refine XC.region ?_
        refine XO.loadO 2 rfl rfl ty_25 rfl rfl rfl ?_
        refine XO.move rfl rfl ?_
        refine XO.callH rfl (rdeliver_fn _ _ _ _ n x76 _ hq hp hlq hlp) rfl ?_
        rintro _ HD88 hleD88 ⟨_, _, rfl, ⟨a88, c88, rfl, h88⟩, ⟨d88, e88, f88, g88, rfl, i88, j88⟩⟩
        replace hq := hq.mono hleD88
        replace hp := hp.mono hleD88
        replace i35 := i35.mono hleD88
        replace j35 := j35.mono hleD88
        replace i43 := i43.mono hleD88
        replace j43 := j43.mono hleD88
        replace hsQ23 := hsQ23.mono hleD88
        replace hp76 := hp76.mono hleD88
        replace h81 := h81.mono hleD88
        replace i81 := i81.mono hleD88
        replace j81 := j81.mono hleD88
        replace hle0 := hle0.trans hleD88
        replace hle1 := hle1.trans hleD88
        refine XO.move rfl rfl ?_
        refine XO.extract rfl rfl rfl ?_
        refine XO.extract rfl rfl rfl ?_
        refine XO.extract rfl rfl rfl ?_
        refine XO.alloc ze_28 rfl (fun b22 => ?_)
        refine XO.alloc ze_25 rfl (fun b23 => ?_)
        refine XO.storeO 1 rfl rfl rfl rfl ty_28 rfl rfl rfl rfl rfl ?_
        refine XO.storeO 0 rfl rfl rfl rfl ty_25 rfl rfl rfl rfl rfl ?_
        refine XO.assign rfl rfl ?_
        refine XO.nil ?_
        refine XC.seq2 ?_
        refine XC.seq ?_
        refine XC.seq ?_
        refine XC.region ?_
        refine XO.loadO 3 rfl rfl ty_28 rfl rfl rfl ?_
        refine XO.loadO 1 rfl rfl ty_28 rfl rfl rfl ?_
        refine XO.callV rfl (samep_fn (delP n x76) (delP n x76) _ _ _ _ _ h81 h88) rfl ?_
        refine XO.not rfl rfl ?_
        refine XO.move rfl rfl ?_
        refine XO.guardT rfl rfl (decide_eq_false (fun h => h rfl)) rfl ?_
        refine XO.loadO 2 rfl rfl ty_25 rfl rfl rfl ?_
        refine XO.guardT rfl rfl (decide_eq_false (fun h => h rfl)) rfl ?_
        refine XO.loadO 0 rfl rfl ty_25 rfl rfl rfl ?_
        refine XO.guardT rfl rfl (decide_eq_false (fun h => h rfl)) rfl ?_
        refine XO.callV rfl (same_fn _ _ _ _ _ _ _ _ (delN n x76) (delN n x76) _ i81 j81 (by omega) (by omega) i88 j88) rfl ?_
        refine XO.guardT rfl rfl (decide_eq_false (fun h => h rfl)) rfl ?_
        refine XO.not rfl rfl ?_
        refine XO.pickF rfl (decide_eq_false (fun h => h rfl)) rfl rfl ?_
        refine XO.move rfl rfl ?_
        refine XO.guardT rfl rfl (decide_eq_false (fun h => h rfl)) rfl ?_
        refine XO.move rfl rfl ?_
        refine XO.guardT rfl rfl (decide_eq_false (fun h => h rfl)) rfl ?_
        refine XO.move rfl rfl ?_
        refine XO.guardT rfl rfl (decide_eq_false (fun h => h rfl)) rfl ?_
        refine XO.neq rfl rfl rfl ?_
        refine XO.pickF rfl (decide_eq_false (fun h => h rfl)) rfl rfl ?_
        refine XO.nil ?_
        refine XC.seq2 ?_
        refine XC.condF rfl (decide_eq_false (fun h => h rfl)) ?_
        refine XC.skip ?_
        refine XC.seq2 ?_
        refine XC.seq ?_
        refine XC.region ?_
        refine XO.loadO 4 rfl rfl ty_25 rfl rfl rfl ?_
        refine XO.move rfl rfl ?_
        refine XO.callH rfl (lose_fn _ _ _ _ n x76 _ hq hp hlq hlp) rfl ?_
        rintro _ HD110 hleD110 ⟨_, rfl, ⟨d110, e110, f110, g110, rfl, i110, j110⟩⟩
        replace hq := hq.mono hleD110
        replace hp := hp.mono hleD110
        replace i35 := i35.mono hleD110
        replace j35 := j35.mono hleD110
        replace i43 := i43.mono hleD110
        replace j43 := j43.mono hleD110
        replace hsQ23 := hsQ23.mono hleD110
        replace hp76 := hp76.mono hleD110
        replace h81 := h81.mono hleD110
        replace i81 := i81.mono hleD110
        replace j81 := j81.mono hleD110
        replace h88 := h88.mono hleD110
        replace i88 := i88.mono hleD110
        replace j88 := j88.mono hleD110
        replace hle0 := hle0.trans hleD110
        replace hle1 := hle1.trans hleD110
        refine XO.move rfl rfl ?_
        refine XO.extract rfl rfl rfl ?_
        refine XO.extract rfl rfl rfl ?_
        refine XO.storeO 2 rfl rfl rfl rfl ty_25 rfl rfl rfl rfl rfl ?_
        refine XO.assign rfl rfl ?_
        refine XO.nil ?_
        refine XC.seq2 ?_
        refine XC.seq ?_
        refine XC.region ?_
        refine XO.loadO 4 rfl rfl ty_25 rfl rfl rfl ?_
        refine XO.move rfl rfl ?_
        refine XO.callH rfl (rlose_fn _ _ _ _ n x76 _ hq hp hlq hlp) rfl ?_
        rintro _ HD116 hleD116 ⟨_, rfl, ⟨d116, e116, f116, g116, rfl, i116, j116⟩⟩
        replace hq := hq.mono hleD116
        replace hp := hp.mono hleD116
        replace i35 := i35.mono hleD116
        replace j35 := j35.mono hleD116
        replace i43 := i43.mono hleD116
        replace j43 := j43.mono hleD116
        replace hsQ23 := hsQ23.mono hleD116
        replace hp76 := hp76.mono hleD116
        replace h81 := h81.mono hleD116
        replace i81 := i81.mono hleD116
        replace j81 := j81.mono hleD116
        replace h88 := h88.mono hleD116
        replace i88 := i88.mono hleD116
        replace j88 := j88.mono hleD116
        replace i110 := i110.mono hleD116
        replace j110 := j110.mono hleD116
        replace hle0 := hle0.trans hleD116
        replace hle1 := hle1.trans hleD116
        refine XO.move rfl rfl ?_
        refine XO.extract rfl rfl rfl ?_
        refine XO.extract rfl rfl rfl ?_
        refine XO.storeO 0 rfl rfl rfl rfl ty_25 rfl rfl rfl rfl rfl ?_
        refine XO.assign rfl rfl ?_
        refine XO.nil ?_
        refine XC.seq2 ?_
        refine XC.seq ?_
        refine XC.seq ?_
        refine XC.region ?_
        refine XO.loadO 2 rfl rfl ty_25 rfl rfl rfl ?_
        refine XO.loadO 0 rfl rfl ty_25 rfl rfl rfl ?_
        refine XO.callV rfl (same_fn _ _ _ _ _ _ _ _ (delN n x76) (delN n x76) _ i110 j110 (by omega) (by omega) i116 j116) rfl ?_
        refine XO.not rfl rfl ?_
        refine XO.move rfl rfl ?_
        refine XO.guardT rfl rfl (decide_eq_false (fun h => h rfl)) rfl ?_
        refine XO.move rfl rfl ?_
        refine XO.guardT rfl rfl (decide_eq_false (fun h => h rfl)) rfl ?_
        refine XO.move rfl rfl ?_
        refine XO.guardT rfl rfl (decide_eq_false (fun h => h rfl)) rfl ?_
        refine XO.neq rfl rfl rfl ?_
        refine XO.pickF rfl (decide_eq_false (fun h => h rfl)) rfl rfl ?_
        refine XO.nil ?_
        refine XC.seq2 ?_
        refine XC.condF rfl (decide_eq_false (fun h => h rfl)) ?_
        refine XC.skip ?_
        refine XC.seq2 ?_
        refine XC.seq ?_
        refine XC.region ?_
        refine XO.loadO 4 rfl rfl ty_25 rfl rfl rfl ?_
        refine XO.move rfl rfl ?_
        refine XO.callH rfl (repeat_fn _ _ _ _ n x76 _ hq hp hlq hlp) rfl ?_
        rintro _ HD131 hleD131 ⟨_, rfl, ⟨d131, e131, f131, g131, rfl, i131, j131⟩⟩
        replace hq := hq.mono hleD131
        replace hp := hp.mono hleD131
        replace i35 := i35.mono hleD131
        replace j35 := j35.mono hleD131
        replace i43 := i43.mono hleD131
        replace j43 := j43.mono hleD131
        replace hsQ23 := hsQ23.mono hleD131
        replace hp76 := hp76.mono hleD131
        replace h81 := h81.mono hleD131
        replace i81 := i81.mono hleD131
        replace j81 := j81.mono hleD131
        replace h88 := h88.mono hleD131
        replace i88 := i88.mono hleD131
        replace j88 := j88.mono hleD131
        replace i110 := i110.mono hleD131
        replace j110 := j110.mono hleD131
        replace i116 := i116.mono hleD131
        replace j116 := j116.mono hleD131
        replace hle0 := hle0.trans hleD131
        replace hle1 := hle1.trans hleD131
        refine XO.move rfl rfl ?_
        refine XO.extract rfl rfl rfl ?_
        refine XO.extract rfl rfl rfl ?_
        refine XO.storeO 2 rfl rfl rfl rfl ty_25 rfl rfl rfl rfl rfl ?_
        refine XO.assign rfl rfl ?_
        refine XO.nil ?_
        refine XC.seq2 ?_
        refine XC.seq ?_
        refine XC.region ?_
        refine XO.loadO 4 rfl rfl ty_25 rfl rfl rfl ?_
        refine XO.move rfl rfl ?_
        refine XO.callH rfl (rrepeat_fn _ _ _ _ n x76 _ hq hp hlq hlp) rfl ?_
        rintro _ HD137 hleD137 ⟨_, rfl, ⟨d137, e137, f137, g137, rfl, i137, j137⟩⟩
        replace hq := hq.mono hleD137
        replace hp := hp.mono hleD137
        replace i35 := i35.mono hleD137
        replace j35 := j35.mono hleD137
        replace i43 := i43.mono hleD137
        replace j43 := j43.mono hleD137
        replace hsQ23 := hsQ23.mono hleD137
        replace hp76 := hp76.mono hleD137
        replace h81 := h81.mono hleD137
        replace i81 := i81.mono hleD137
        replace j81 := j81.mono hleD137
        replace h88 := h88.mono hleD137
        replace i88 := i88.mono hleD137
        replace j88 := j88.mono hleD137
        replace i110 := i110.mono hleD137
        replace j110 := j110.mono hleD137
        replace i116 := i116.mono hleD137
        replace j116 := j116.mono hleD137
        replace i131 := i131.mono hleD137
        replace j131 := j131.mono hleD137
        replace hle0 := hle0.trans hleD137
        replace hle1 := hle1.trans hleD137
        refine XO.move rfl rfl ?_
        refine XO.extract rfl rfl rfl ?_
        refine XO.extract rfl rfl rfl ?_
        refine XO.storeO 0 rfl rfl rfl rfl ty_25 rfl rfl rfl rfl rfl ?_
        refine XO.assign rfl rfl ?_
        refine XO.nil ?_
        refine XC.seq2 ?_
        refine XC.seq ?_
        refine XC.region ?_
        refine XO.loadO 2 rfl rfl ty_25 rfl rfl rfl ?_
        refine XO.loadO 0 rfl rfl ty_25 rfl rfl rfl ?_
        refine XO.callV rfl (same_fn _ _ _ _ _ _ _ _ (repV n x76).1 (repV n x76).1 _ i131 j131 (by omega) (by omega) i137 j137) rfl ?_
        refine XO.not rfl rfl ?_
        refine XO.move rfl rfl ?_
        refine XO.guardT rfl rfl (decide_eq_false (fun h => h rfl)) rfl ?_
        refine XO.move rfl rfl ?_
        refine XO.guardT rfl rfl (decide_eq_false (fun h => h rfl)) rfl ?_
        refine XO.move rfl rfl ?_
        refine XO.guardT rfl rfl (decide_eq_false (fun h => h rfl)) rfl ?_
        refine XO.neq rfl rfl rfl ?_
        refine XO.pickF rfl (decide_eq_false (fun h => h rfl)) rfl rfl ?_
        refine XO.nil ?_
        refine XC.seq2 ?_
        refine XC.condF rfl (decide_eq_false (fun h => h rfl)) ?_
        refine XC.skip ?_
        refine blockN ?_
        refine XC.seq2 ?_
        refine XC.region ?_
        refine XO.add rfl rfl (wrap_i64 (by omega) (by omega)) rfl ?_
        refine XO.move rfl rfl ?_
        refine XO.nil ?_
        refine loop_next (k + 1) (by show (mvL i x).length - (k + 1) < (mvL i x).length - k; omega) (prov_cons (rfl) (prov_cons (rfl) (prov_cons (rfl) (prov_cons (rfl) prov_nil)))) (⟨by show k + 1 ≤ (mvL i x).length; omega, rfl⟩) (by repeat (first | exact List.Sublist.refl _ | apply List.Sublist.cons_cons | apply List.Sublist.cons)) (hle1)
      · refine XC.exit ?_
        refine seqX_exit ?_
        refine loopX_exit ?_
        refine blockHit rfl ?_
        refine XC.seq2 ?_
        refine XC.seq ?_
        refine XC.region ?_
        refine XO.assign rfl rfl ?_
        refine XO.nil ?_
        refine XC.seq2 ?_
        refine XC.ret ?_
        refine ⟨rfl, _, [], rfl, (by repeat (first | exact List.Sublist.refl _ | apply List.Sublist.cons)), RetR.mk ?_⟩
        rfl

namespace networkMoveSpec
open Go.ChangeShapes Go.WideShapes Go.ChangeAt Go.RowKit
open Go.ChangeMaps (open_string shut_string)
theorem own : ownKnob Try.prog.godebug = none := by kernel_rfl
theorem laidOut : laidOutB Try.prog = true := by kernel_rfl
set_option maxRecDepth 100000 in
theorem lifted (os : Os) (started : os.Started) (H : Type) (enc : TypeId × Value → H) :
    ReturnsInHanded {} Try.checked os 6 .any (Rows.networkMoveSpecSpec.pre6 enc Try.prog Try.f6 Rows.networkMoveSpecRow.domain false) (Rows.networkMoveSpecSpec.post enc Try.prog Try.f6 false true false false) := by
  refine returnsInHanded_of_change (C := Try.checked) own started (by kernel_rfl) Try.func6
    (ChangeSpec.witness6 (enc := enc) (C := Try.checked) false ⟨#[], #[.agg ⟨[.slice none 0 0, .slice none 0 0]⟩, .int .i64 0, .int .i64 0, .int .i64 0, .bool false], []⟩ 8 (by kernel_rfl) (by kernel_rfl) (by kernel_rfl) (by kernel_rfl)) ?_
  intro W base args ds gs before hval0 hW hcnd _
  have hval : ∀ (j : Nat) t v, Try.f6.params[j]? = some t → args[j]? = some v → Value.okWide Try.prog W .any base t v := hval0
  have hW' := hW
  obtain ⟨p, q, hA0, hV, rfl, hfz, hnd⟩ := hW
  have hA : DataW.TrodAll enc Try.prog W 0 (fun _ => true) true Try.f6.params.toList args.toList ds p := hA0
  rw [Try.params6] at hA hval
  obtain ⟨v0, vs0, d0, ds0, p0, q0, hargs, rfl, rfl, h0, r0⟩ := trodAll_cons hA
  obtain ⟨v1, vs1, d1, ds1, p1, q1, rfl, rfl, rfl, h1, r1⟩ := trodAll_cons r0
  obtain ⟨v2, vs2, d2, ds2, p2, q2, rfl, rfl, rfl, h2, r2⟩ := trodAll_cons r1
  obtain ⟨v3, vs3, d3, ds3, p3, q3, rfl, rfl, rfl, h3, r3⟩ := trodAll_cons r2
  obtain ⟨v4, vs4, d4, ds4, p4, q4, rfl, rfl, rfl, h4, r4⟩ := trodAll_cons r3
  obtain ⟨rfl, rfl, rfl⟩ := trodAll_nil r4
  obtain rfl : args = #[v0, v1, v2, v3, v4] := by cases args; simp_all
  obtain ⟨rfl, rfl⟩ := trodVars_none hV
  have k0 := h0
  have lt0 : ∀ x ∈ p0, x.block < W.heap.size := by obtain ⟨m, hm⟩ := k0; exact DataW.trod_lt m _ _ _ hm
  obtain ⟨fuel0, hf0⟩ := h0
  obtain ⟨l0, cl0, rfl, hR0, hw0⟩ := open_agg opens_net Try.underlying25 (hval 0 25 v0 rfl rfl) hf0
  obtain ⟨aq0, cq0, ap0, cp0, rfl, hq0, hp0⟩ := hR0
  obtain ⟨a1, rfl, rfl, rfl, w1⟩ := open_int Try.underlying3 (hval 1 3 v1 rfl rfl) h1
  obtain ⟨a2, rfl, rfl, rfl, w2⟩ := open_int Try.underlying3 (hval 2 3 v2 rfl rfl) h2
  obtain ⟨a3, rfl, rfl, rfl, w3⟩ := open_int Try.underlying3 (hval 3 3 v3 rfl rfl) h3
  obtain ⟨a4, rfl, rfl, rfl⟩ := open_bool Try.underlying4 (hval 4 4 v4 rfl rfl) h4
  clear hA0 hval0
  refine (networkMoveSpec_fn _ _ _ _ l0 a1 a2 a3 a4 (hpOf W) hq0 hp0).below.mono fun e W' ⟨he, bel⟩ => ?_
  subst he
  exact ⟨_, rfl, _, _, _, [], _, [], hW', trodAll_mk1 (shut_bool Try.underlying4 _), (trodAll_cons_mk (Below.trod laidOut (by kernel_rfl) (of_decide_eq_true (by kernel_rfl)) k0 bel lt0) (trodAll_cons_mk (shut_int Try.underlying3 w1) (trodAll_cons_mk (shut_int Try.underlying3 w2) (trodAll_cons_mk (shut_int Try.underlying3 w3) (trodAll_cons_mk (shut_bool Try.underlying4 _) trodAll_mk0))))), rfl, bel.frame _, fun h => by cases h⟩
theorem over : Rows.networkMoveSpecRow.holds Try.pinned (OpenSpec.ofChange Rows.networkMoveSpecSpec) :=
  OpenClaim.holds_of_wide 6 Try.f6 rfl rfl rfl rfl rfl rfl rfl ⟨rfl, rfl, rfl, rfl, rfl⟩ rfl rfl rfl rfl rfl (by kernel_rfl) Try.func6 (by kernel_rfl)
    (of_decide_eq_true (by kernel_rfl)) (by unfold Func.isWrapper; first | (rw [if_pos (by decide +kernel)]; kernel_rfl) | (rw [if_neg (by decide +kernel)]; exact ⟨rfl, rfl⟩))
    (fun os started H enc _ => lifted os started H enc)
/-- The given statement. -/
theorem proved : Rows.NetworkMoveSpecSaid := over
#print axioms proved
end networkMoveSpec
end Go.Proofs.Ytonmnpdhpailcaa
