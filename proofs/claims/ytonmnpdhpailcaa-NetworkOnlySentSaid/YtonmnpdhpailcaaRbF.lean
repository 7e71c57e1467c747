/- The walks of the functions of the links: what each of them computes, at any input. -/
import Derived.Test.YtonmnpdhpailcaaRbD
import Derived.Test.YtonmnpdhpailcaaRbE
set_option autoImplicit false
set_option linter.unusedVariables false
set_option linter.unusedSimpArgs false
namespace Go.Proofs
open Go.XL

theorem fa_52_0 : fieldF Try.prog 52 0 = some 0 := by kernel_rfl
theorem fa_52_1 : fieldF Try.prog 52 1 = some 1 := by kernel_rfl
theorem fa_52_2 : fieldF Try.prog 52 2 = some 2 := by kernel_rfl
theorem fa_52_3 : fieldF Try.prog 52 3 = some 3 := by kernel_rfl
theorem fa_52_4 : fieldF Try.prog 52 4 = some 4 := by kernel_rfl

set_option maxRecDepth 100000 in
set_option maxHeartbeats 1600000 in
theorem happens_fn (aq ap : Option Addr) (cq cp : Nat) (n : Nt) (e : Ev) (H : Hp) (hq : SlR pkR H aq cq n.q) (hp : SlR pairR H ap cp n.ap) (hlq : n.q.length < 4611686018427387904) (hlp : n.ap.length < 4611686018427387904) : FnC Try.prog 27 #[.agg ⟨[.slice aq n.q.length cq, .slice ap n.ap.length cp]⟩, .agg ⟨[.int .u8 (e.K.toNat : Nat), .int .u8 (e.A.toNat : Nat), .int .u8 (e.F.toNat : Nat), .int .u8 (e.T.toNat : Nat), .int .u8 (e.D.toNat : Nat)]⟩] H [] (RetR fun v H _ => ∃ v1 v2, v = .tuple #[v1, v2, .int .i64 (hapE n e)] ∧ NtV H v1 (hapN n e) ∧ PkV H v2 (hapP n e)) := by
  have hbK := e.K.toNat_lt
  have hbA := e.A.toNat_lt
  have hbF := e.F.toNat_lt
  have hbT := e.T.toNat_lt
  have hr4 := rep_len n (evI n e)
  refine FnC.introC (args := [.agg ⟨[.slice aq n.q.length cq, .slice ap n.ap.length cp]⟩, .agg ⟨[.int .u8 (e.K.toNat : Nat), .int .u8 (e.A.toNat : Nat), .int .u8 (e.F.toNat : Nat), .int .u8 (e.T.toNat : Nat), .int .u8 (e.D.toNat : Nat)]⟩]) Try.func27 rfl rfl Try.ntmps27 rfl rfl rfl fun G rest => ?_
  refine XC.seq ?_
  refine XC.region ?_
  refine XO.box rfl rfl rfl (fun b2 => ?_)
  refine XO.box rfl rfl rfl (fun b3 => ?_)
  refine XO.alloc ze_25 rfl (fun b4 => ?_)
  refine XO.alloc ze_28 rfl (fun b5 => ?_)
  refine XO.assign rfl rfl ?_
  refine XO.nil ?_
  refine XC.seq2 ?_
  refine XC.seq ?_
  refine XC.region ?_
  refine XO.assign rfl rfl ?_
  refine XO.nil ?_
  refine XC.seq2 ?_
  refine XC.seq ?_
  refine XC.seq ?_
  refine XC.region ?_
  refine XO.fieldAddr rfl fa_25_0 rfl ?_
  refine XO.loadO 3 rfl rfl ty_22 rfl rfl rfl ?_
  refine XO.lenS (ts := #[]) rfl Try.underlying22 rfl ?_
  refine XO.gtr rfl rfl rfl ?_
  refine XO.nil ?_
  refine XC.seq2 ?_
  refine XC.cond rfl (fun c0_1 => ?_) (fun c0_1 => ?_)
  · have hi : evI n e = (e.A.toNat : Int) % (n.q.length : Int) := if_pos (by omega)
    refine XC.region ?_
    refine XO.fieldAddr rfl fa_52_1 rfl ?_
    refine XO.loadO 2 rfl rfl ty_5 rfl rfl rfl ?_
    refine XO.convI rfl Try.underlying5 Try.underlying3 (wrap_i64 (by omega) (by omega)) rfl ?_
    refine XO.fieldAddr rfl fa_25_0 rfl ?_
    refine XO.loadO 3 rfl rfl ty_22 rfl rfl rfl ?_
    refine XO.lenS (ts := #[]) rfl Try.underlying22 rfl ?_
    refine XO.rem rfl rfl (by omega) (rem_nn (by omega)) rfl ?_
    refine XO.assign rfl rfl ?_
    refine XO.nil ?_
    refine XC.seq2 ?_
    refine XC.seq ?_
    refine XC.keep [2, 3, 4, 5, 6, 7] rfl ?_
    apply XC.draw 9 [eqF _, eqF _, eqF _, eqF _, eqF _, eqF _, eqF _, eqF _, eqF _] follows (by kernel_rfl) (by kernel_rfl) ⟨eqF_mono _, eqF_mono _, eqF_mono _, eqF_mono _, eqF_mono _, eqF_mono _, eqF_mono _, eqF_mono _, eqF_mono _, trivial⟩ ?steps2 ?tail2
    case steps2 =>
      refine stepsK_cons rfl ?_ ?_
      · intro X
        refine withPreds_nil rfl ?_
        refine XO.fieldAddr rfl fa_52_2 rfl ?_
        refine XO.nil ?_
        exact stepQ_ok rfl (rfl)
      refine stepsK_cons rfl ?_ ?_
      · intro X
        refine withPreds_cons rfl rfl ?_
        rintro _ rfl
        refine withPreds_nil rfl ?_
        refine XO.loadO 2 rfl rfl ty_5 rfl rfl rfl ?_
        refine XO.nil ?_
        exact stepQ_ok rfl (rfl)
      refine stepsK_cons rfl ?_ ?_
      · intro X
        refine withPreds_cons rfl rfl ?_
        rintro _ rfl
        refine withPreds_nil rfl ?_
        refine XO.convI rfl Try.underlying5 Try.underlying3 (wrap_i64 (by omega) (by omega)) rfl ?_
        refine XO.nil ?_
        exact stepQ_ok rfl (rfl)
      refine stepsK_cons rfl ?_ ?_
      · intro X
        refine withPreds_cons rfl rfl ?_
        rintro _ rfl
        refine withPreds_nil rfl ?_
        refine XO.rem rfl rfl (by omega) (rem_nn (by omega)) rfl ?_
        refine XO.nil ?_
        exact stepQ_ok rfl (rfl)
      refine stepsK_cons rfl ?_ ?_
      · intro X
        refine withPreds_nil rfl ?_
        refine XO.fieldAddr rfl fa_52_3 rfl ?_
        refine XO.nil ?_
        exact stepQ_ok rfl (rfl)
      refine stepsK_cons rfl ?_ ?_
      · intro X
        refine withPreds_cons rfl rfl ?_
        rintro _ rfl
        refine withPreds_nil rfl ?_
        refine XO.loadO 2 rfl rfl ty_5 rfl rfl rfl ?_
        refine XO.nil ?_
        exact stepQ_ok rfl (rfl)
      refine stepsK_cons rfl ?_ ?_
      · intro X
        refine withPreds_cons rfl rfl ?_
        rintro _ rfl
        refine withPreds_nil rfl ?_
        refine XO.convI rfl Try.underlying5 Try.underlying3 (wrap_i64 (by omega) (by omega)) rfl ?_
        refine XO.nil ?_
        exact stepQ_ok rfl (rfl)
      refine stepsK_cons rfl ?_ ?_
      · intro X
        refine withPreds_cons rfl rfl ?_
        rintro _ rfl
        refine withPreds_nil rfl ?_
        refine XO.rem rfl rfl (by omega) (rem_nn (by omega)) rfl ?_
        refine XO.nil ?_
        exact stepQ_ok rfl (rfl)
      refine stepsK_cons rfl ?_ ?_
      · intro X
        refine withPreds_cons rfl rfl ?_
        rintro _ rfl
        refine withPreds_nil rfl ?_
        refine XO.assign rfl rfl ?_
        refine XO.nil ?_
        exact stepQ_ok rfl (rfl)
      exact stepsD_end rfl
    case tail2 =>
      refine withPreds_cons rfl rfl ?_
      rintro _ rfl
      refine withPreds_cons rfl rfl ?_
      rintro _ rfl
      refine withPreds_cons rfl rfl ?_
      rintro _ rfl
      refine withPreds_cons rfl rfl ?_
      rintro _ rfl
      refine withPreds_cons rfl rfl ?_
      rintro _ rfl
      refine withPreds_cons rfl rfl ?_
      rintro _ rfl
      refine withPreds_cons rfl rfl ?_
      rintro _ rfl
      refine withPreds_cons rfl rfl ?_
      rintro _ rfl
      refine withPreds_cons rfl rfl ?_
      rintro _ rfl
      refine withPreds_nil rfl ?_
      refine XO.assign rfl rfl ?_
      refine XO.nil ?_
      refine XC.seq2 ?_
      refine XC.seq ?_
      refine XC.seq ?_
      refine XC.region ?_
      refine XO.fieldAddr rfl fa_52_0 rfl ?_
      refine XO.loadO 2 rfl rfl ty_5 rfl rfl rfl ?_
      refine XO.rem rfl rfl (by omega) (rem_nn (by omega)) rfl ?_
      refine XO.nil ?_
      refine XC.seq2 ?_
      refine XC.block ?_
      refine XC.seq ?_
      refine XC.region ?_
      refine XO.eql rfl rfl rfl ?_
      refine XO.assign rfl rfl ?_
      refine XO.nil ?_
      refine XC.seq2 ?_
      refine XC.cond rfl (fun c1_3 => ?_) (fun c1_3 => ?_)
      · have hh := hap0 (n := n) (e := e) (by omega)
        refine XC.region ?_
        refine XO.loadO 3 rfl rfl ty_25 rfl rfl rfl ?_
        refine XO.move rfl rfl ?_
        refine XO.move rfl rfl ?_
        refine XO.fieldAddr rfl fa_52_4 rfl ?_
        refine XO.loadO 2 rfl rfl ty_5 rfl rfl rfl ?_
        refine XO.buildSlice rfl Try.underlying26 ty_5 ze_5 rfl rfl rfl (fun b40 => ?_)
        refine XO.publish 0 rfl rfl rfl (fun HP40 oP40 hleP40 hbP40 hoP40 => ?_)
        have hsl40 := SlR.lit (ρ := u8R) (l := [e.D]) hbP40 hoP40 (RowsR.one1 rfl)
        replace hq := hq.mono hleP40
        replace hp := hp.mono hleP40
        refine XO.build bk_28 bf_28 ze_28 rfl rfl rfl ?_
        refine XO.callH rfl (send_fn _ _ _ _ n (evP e) _ _ _ hq hp hlq hlp hsl40) rfl ?_
        rintro _ HD42 hleD42 ⟨_, rfl, ⟨d42, e42, f42, g42, rfl, i42, j42⟩⟩
        replace hq := hq.mono hleD42
        replace hp := hp.mono hleD42
        replace hsl40 := hsl40.mono hleD42
        refine XO.move rfl rfl ?_
        refine XO.extract rfl rfl rfl ?_
        refine XO.extract rfl rfl rfl ?_
        refine XO.storeO 1 rfl rfl rfl rfl ty_25 rfl rfl rfl rfl rfl ?_
        refine XO.assign rfl rfl ?_
        refine XO.nil ?_
        refine blockN ?_
        refine XC.seq2 ?_
        refine XC.seq ?_
        refine XC.keep [4, 5, 6] rfl ?_
        apply XC.drawH (fun _ => True) trivial [] (by decide) (fun _ _ _ _ => True) (fun _ _ _ _ _ _ h => h) 5 [eqF _, eqF _, eqF _, anyF, anyF] follows (by kernel_rfl) ⟨eqF_mono _, eqF_mono _, eqF_mono _, anyF_mono, anyF_mono, trivial⟩ (by decide) ?steps5 ?tail5
        case steps5 =>
          refine stepsH_cons rfl ?_ ?_
          · intro X ext HD hleD _
            replace hq := hq.mono hleD
            replace hp := hp.mono hleD
            replace hsl40 := hsl40.mono hleD
            replace i42 := i42.mono hleD
            replace j42 := j42.mono hleD
            refine withP_nil rfl ?_
            refine XO.loadO 1 rfl rfl ty_25 rfl rfl rfl ?_
            refine XO.nil ?_
            exact stepQN_ok rfl trivial (rfl)
          refine stepsH_cons rfl ?_ ?_
          · intro X ext HD hleD _
            replace hq := hq.mono hleD
            replace hp := hp.mono hleD
            replace hsl40 := hsl40.mono hleD
            replace i42 := i42.mono hleD
            replace j42 := j42.mono hleD
            refine withP_nil rfl ?_
            refine XO.loadO 0 rfl rfl ty_28 rfl rfl rfl ?_
            refine XO.nil ?_
            exact stepQN_ok rfl trivial (rfl)
          refine stepsH_cons rfl ?_ ?_
          · intro X ext HD hleD _
            replace hq := hq.mono hleD
            replace hp := hp.mono hleD
            replace hsl40 := hsl40.mono hleD
            replace i42 := i42.mono hleD
            replace j42 := j42.mono hleD
            refine withP_nil rfl ?_
            refine XO.move rfl rfl ?_
            refine XO.nil ?_
            exact stepQN_ok rfl trivial (rfl)
          refine stepsH_cons rfl ?_ ?_
          · intro X ext HD hleD _
            replace hq := hq.mono hleD
            replace hp := hp.mono hleD
            replace hsl40 := hsl40.mono hleD
            replace i42 := i42.mono hleD
            replace j42 := j42.mono hleD
            refine withP_cons rfl rfl ?_
            rintro _ rfl
            refine withP_nil rfl ?_
            refine XO.storeO 1 rfl rfl rfl rfl ty_25 rfl rfl rfl rfl rfl ?_
            refine XO.nil ?_
            exact stepQN_ok rfl trivial (trivial)
          refine stepsH_cons rfl ?_ ?_
          · intro X ext HD hleD _
            replace hq := hq.mono hleD
            replace hp := hp.mono hleD
            replace hsl40 := hsl40.mono hleD
            replace i42 := i42.mono hleD
            replace j42 := j42.mono hleD
            refine withP_cons rfl rfl ?_
            rintro _ rfl
            refine withP_nil rfl ?_
            refine XO.storeO 0 rfl rfl rfl rfl ty_28 rfl rfl rfl rfl rfl ?_
            refine XO.nil ?_
            exact stepQN_ok rfl trivial (trivial)
          exact stepsH_end rfl
        case tail5 =>
          intro HD hleD _
          replace hq := hq.mono hleD
          replace hp := hp.mono hleD
          replace hsl40 := hsl40.mono hleD
          replace i42 := i42.mono hleD
          replace j42 := j42.mono hleD
          refine withP_cons rfl rfl ?_
          rintro _ rfl
          refine withP_cons rfl rfl ?_
          rintro _ rfl
          refine withP_cons rfl rfl ?_
          rintro _ rfl
          refine withP_skip rfl rfl ?_
          refine withP_skip rfl rfl ?_
          refine withP_nil rfl ?_
          refine withEnts_nil ?_
          refine XO.assign rfl rfl ?_
          refine XO.nil ?_
          refine XC.seq2 ?_
          refine XC.ret ?_
          refine ⟨rfl, _, [], (resC_cell 1 rfl rfl ty_25 rfl rfl (resC_cell 0 rfl rfl ty_28 rfl rfl (resC_tmp rfl resC_nil))), (by repeat (first | exact List.Sublist.refl _ | apply List.Sublist.cons)), RetR.mk ?_⟩
          rw [hh.1, hh.2.1, hh.2.2]
          try rw [hi]
          first | exact ⟨_, _, rfl, ⟨_, _, _, _, rfl, i42, j42⟩, PkV.nil _⟩ | exact ⟨_, _, rfl, ⟨_, _, _, _, rfl, i50, j50⟩, ⟨_, _, rfl, h50⟩⟩ | exact ⟨_, _, rfl, ⟨_, _, _, _, rfl, i59, j59⟩, PkV.nil _⟩ | exact ⟨_, _, rfl, ⟨_, _, _, _, rfl, i67, j67⟩, PkV.nil _⟩ | exact ⟨_, _, rfl, ⟨_, _, _, _, rfl, i76, j76⟩, PkV.nil _⟩ | exact ⟨_, _, rfl, ⟨_, _, _, _, rfl, i85, j85⟩, PkV.nil _⟩
      · refine XC.seq ?_
        refine XC.region ?_
        refine XO.eql rfl rfl rfl ?_
        refine XO.assign rfl rfl ?_
        refine XO.nil ?_
        refine XC.seq2 ?_
        refine XC.cond rfl (fun c2_6 => ?_) (fun c2_6 => ?_)
        · have hh := hap1 (n := n) (e := e) (by omega)
          refine XC.region ?_
          refine XO.loadO 3 rfl rfl ty_25 rfl rfl rfl ?_
          refine XO.move rfl rfl ?_
          refine XO.callH rfl (deliver_fn _ _ _ _ n _ _ hq hp hlq hlp) rfl ?_
          rintro _ HD50 hleD50 ⟨_, _, rfl, ⟨a50, c50, rfl, h50⟩, ⟨d50, e50, f50, g50, rfl, i50, j50⟩⟩
          replace hq := hq.mono hleD50
          replace hp := hp.mono hleD50
          refine XO.move rfl rfl ?_
          refine XO.extract rfl rfl rfl ?_
          refine XO.extract rfl rfl rfl ?_
          refine XO.extract rfl rfl rfl ?_
          refine XO.storeO 0 rfl rfl rfl rfl ty_28 rfl rfl rfl rfl rfl ?_
          refine XO.storeO 1 rfl rfl rfl rfl ty_25 rfl rfl rfl rfl rfl ?_
          refine XO.assign rfl rfl ?_
          refine XO.nil ?_
          refine blockN ?_
          refine XC.seq2 ?_
          refine XC.seq ?_
          refine XC.keep [4, 5, 6] rfl ?_
          apply XC.drawH (fun _ => True) trivial [] (by decide) (fun _ _ _ _ => True) (fun _ _ _ _ _ _ h => h) 5 [eqF _, eqF _, eqF _, anyF, anyF] follows (by kernel_rfl) ⟨eqF_mono _, eqF_mono _, eqF_mono _, anyF_mono, anyF_mono, trivial⟩ (by decide) ?steps8 ?tail8
          case steps8 =>
            refine stepsH_cons rfl ?_ ?_
            · intro X ext HD hleD _
              replace hq := hq.mono hleD
              replace hp := hp.mono hleD
              replace h50 := h50.mono hleD
              replace i50 := i50.mono hleD
              replace j50 := j50.mono hleD
              refine withP_nil rfl ?_
              refine XO.loadO 1 rfl rfl ty_25 rfl rfl rfl ?_
              refine XO.nil ?_
              exact stepQN_ok rfl trivial (rfl)
            refine stepsH_cons rfl ?_ ?_
            · intro X ext HD hleD _
              replace hq := hq.mono hleD
              replace hp := hp.mono hleD
              replace h50 := h50.mono hleD
              replace i50 := i50.mono hleD
              replace j50 := j50.mono hleD
              refine withP_nil rfl ?_
              refine XO.loadO 0 rfl rfl ty_28 rfl rfl rfl ?_
              refine XO.nil ?_
              exact stepQN_ok rfl trivial (rfl)
            refine stepsH_cons rfl ?_ ?_
            · intro X ext HD hleD _
              replace hq := hq.mono hleD
              replace hp := hp.mono hleD
              replace h50 := h50.mono hleD
              replace i50 := i50.mono hleD
              replace j50 := j50.mono hleD
              refine withP_nil rfl ?_
              refine XO.move rfl rfl ?_
              refine XO.nil ?_
              exact stepQN_ok rfl trivial (rfl)
            refine stepsH_cons rfl ?_ ?_
            · intro X ext HD hleD _
              replace hq := hq.mono hleD
              replace hp := hp.mono hleD
              replace h50 := h50.mono hleD
              replace i50 := i50.mono hleD
              replace j50 := j50.mono hleD
              refine withP_cons rfl rfl ?_
              rintro _ rfl
              refine withP_nil rfl ?_
              refine XO.storeO 1 rfl rfl rfl rfl ty_25 rfl rfl rfl rfl rfl ?_
              refine XO.nil ?_
              exact stepQN_ok rfl trivial (trivial)
            refine stepsH_cons rfl ?_ ?_
            · intro X ext HD hleD _
              replace hq := hq.mono hleD
              replace hp := hp.mono hleD
              replace h50 := h50.mono hleD
              replace i50 := i50.mono hleD
              replace j50 := j50.mono hleD
              refine withP_cons rfl rfl ?_
              rintro _ rfl
              refine withP_nil rfl ?_
              refine XO.storeO 0 rfl rfl rfl rfl ty_28 rfl rfl rfl rfl rfl ?_
              refine XO.nil ?_
              exact stepQN_ok rfl trivial (trivial)
            exact stepsH_end rfl
          case tail8 =>
            intro HD hleD _
            replace hq := hq.mono hleD
            replace hp := hp.mono hleD
            replace h50 := h50.mono hleD
            replace i50 := i50.mono hleD
            replace j50 := j50.mono hleD
            refine withP_cons rfl rfl ?_
            rintro _ rfl
            refine withP_cons rfl rfl ?_
            rintro _ rfl
            refine withP_cons rfl rfl ?_
            rintro _ rfl
            refine withP_skip rfl rfl ?_
            refine withP_skip rfl rfl ?_
            refine withP_nil rfl ?_
            refine withEnts_nil ?_
            refine XO.assign rfl rfl ?_
            refine XO.nil ?_
            refine XC.seq2 ?_
            refine XC.ret ?_
            refine ⟨rfl, _, [], (resC_cell 1 rfl rfl ty_25 rfl rfl (resC_cell 0 rfl rfl ty_28 rfl rfl (resC_tmp rfl resC_nil))), (by repeat (first | exact List.Sublist.refl _ | apply List.Sublist.cons)), RetR.mk ?_⟩
            rw [hh.1, hh.2.1, hh.2.2]
            try rw [hi]
            first | exact ⟨_, _, rfl, ⟨_, _, _, _, rfl, i42, j42⟩, PkV.nil _⟩ | exact ⟨_, _, rfl, ⟨_, _, _, _, rfl, i50, j50⟩, ⟨_, _, rfl, h50⟩⟩ | exact ⟨_, _, rfl, ⟨_, _, _, _, rfl, i59, j59⟩, PkV.nil _⟩ | exact ⟨_, _, rfl, ⟨_, _, _, _, rfl, i67, j67⟩, PkV.nil _⟩ | exact ⟨_, _, rfl, ⟨_, _, _, _, rfl, i76, j76⟩, PkV.nil _⟩ | exact ⟨_, _, rfl, ⟨_, _, _, _, rfl, i85, j85⟩, PkV.nil _⟩
        · refine XC.seq ?_
          refine XC.region ?_
          refine XO.eql rfl rfl rfl ?_
          refine XO.assign rfl rfl ?_
          refine XO.nil ?_
          refine XC.seq2 ?_
          refine XC.cond rfl (fun c3_9 => ?_) (fun c3_9 => ?_)
          · have hh := hap2 (n := n) (e := e) (by omega)
            refine XC.region ?_
            refine XO.loadO 3 rfl rfl ty_25 rfl rfl rfl ?_
            refine XO.move rfl rfl ?_
            refine XO.callH rfl (lose_fn _ _ _ _ n _ _ hq hp hlq hlp) rfl ?_
            rintro _ HD59 hleD59 ⟨_, rfl, ⟨d59, e59, f59, g59, rfl, i59, j59⟩⟩
            replace hq := hq.mono hleD59
            replace hp := hp.mono hleD59
            refine XO.move rfl rfl ?_
            refine XO.extract rfl rfl rfl ?_
            refine XO.extract rfl rfl rfl ?_
            refine XO.storeO 1 rfl rfl rfl rfl ty_25 rfl rfl rfl rfl rfl ?_
            refine XO.assign rfl rfl ?_
            refine XO.nil ?_
            refine blockN ?_
            refine XC.seq2 ?_
            refine XC.seq ?_
            refine XC.keep [4, 5, 6] rfl ?_
            apply XC.drawH (fun _ => True) trivial [] (by decide) (fun _ _ _ _ => True) (fun _ _ _ _ _ _ h => h) 5 [eqF _, eqF _, eqF _, anyF, anyF] follows (by kernel_rfl) ⟨eqF_mono _, eqF_mono _, eqF_mono _, anyF_mono, anyF_mono, trivial⟩ (by decide) ?steps11 ?tail11
            case steps11 =>
              refine stepsH_cons rfl ?_ ?_
              · intro X ext HD hleD _
                replace hq := hq.mono hleD
                replace hp := hp.mono hleD
                replace i59 := i59.mono hleD
                replace j59 := j59.mono hleD
                refine withP_nil rfl ?_
                refine XO.loadO 1 rfl rfl ty_25 rfl rfl rfl ?_
                refine XO.nil ?_
                exact stepQN_ok rfl trivial (rfl)
              refine stepsH_cons rfl ?_ ?_
              · intro X ext HD hleD _
                replace hq := hq.mono hleD
                replace hp := hp.mono hleD
                replace i59 := i59.mono hleD
                replace j59 := j59.mono hleD
                refine withP_nil rfl ?_
                refine XO.loadO 0 rfl rfl ty_28 rfl rfl rfl ?_
                refine XO.nil ?_
                exact stepQN_ok rfl trivial (rfl)
              refine stepsH_cons rfl ?_ ?_
              · intro X ext HD hleD _
                replace hq := hq.mono hleD
                replace hp := hp.mono hleD
                replace i59 := i59.mono hleD
                replace j59 := j59.mono hleD
                refine withP_nil rfl ?_
                refine XO.move rfl rfl ?_
                refine XO.nil ?_
                exact stepQN_ok rfl trivial (rfl)
              refine stepsH_cons rfl ?_ ?_
              · intro X ext HD hleD _
                replace hq := hq.mono hleD
                replace hp := hp.mono hleD
                replace i59 := i59.mono hleD
                replace j59 := j59.mono hleD
                refine withP_cons rfl rfl ?_
                rintro _ rfl
                refine withP_nil rfl ?_
                refine XO.storeO 1 rfl rfl rfl rfl ty_25 rfl rfl rfl rfl rfl ?_
                refine XO.nil ?_
                exact stepQN_ok rfl trivial (trivial)
              refine stepsH_cons rfl ?_ ?_
              · intro X ext HD hleD _
                replace hq := hq.mono hleD
                replace hp := hp.mono hleD
                replace i59 := i59.mono hleD
                replace j59 := j59.mono hleD
                refine withP_cons rfl rfl ?_
                rintro _ rfl
                refine withP_nil rfl ?_
                refine XO.storeO 0 rfl rfl rfl rfl ty_28 rfl rfl rfl rfl rfl ?_
                refine XO.nil ?_
                exact stepQN_ok rfl trivial (trivial)
              exact stepsH_end rfl
            case tail11 =>
              intro HD hleD _
              replace hq := hq.mono hleD
              replace hp := hp.mono hleD
              replace i59 := i59.mono hleD
              replace j59 := j59.mono hleD
              refine withP_cons rfl rfl ?_
              rintro _ rfl
              refine withP_cons rfl rfl ?_
              rintro _ rfl
              refine withP_cons rfl rfl ?_
              rintro _ rfl
              refine withP_skip rfl rfl ?_
              refine withP_skip rfl rfl ?_
              refine withP_nil rfl ?_
              refine withEnts_nil ?_
              refine XO.assign rfl rfl ?_
              refine XO.nil ?_
              refine XC.seq2 ?_
              refine XC.ret ?_
              refine ⟨rfl, _, [], (resC_cell 1 rfl rfl ty_25 rfl rfl (resC_cell 0 rfl rfl ty_28 rfl rfl (resC_tmp rfl resC_nil))), (by repeat (first | exact List.Sublist.refl _ | apply List.Sublist.cons)), RetR.mk ?_⟩
              rw [hh.1, hh.2.1, hh.2.2]
              try rw [hi]
              first | exact ⟨_, _, rfl, ⟨_, _, _, _, rfl, i42, j42⟩, PkV.nil _⟩ | exact ⟨_, _, rfl, ⟨_, _, _, _, rfl, i50, j50⟩, ⟨_, _, rfl, h50⟩⟩ | exact ⟨_, _, rfl, ⟨_, _, _, _, rfl, i59, j59⟩, PkV.nil _⟩ | exact ⟨_, _, rfl, ⟨_, _, _, _, rfl, i67, j67⟩, PkV.nil _⟩ | exact ⟨_, _, rfl, ⟨_, _, _, _, rfl, i76, j76⟩, PkV.nil _⟩ | exact ⟨_, _, rfl, ⟨_, _, _, _, rfl, i85, j85⟩, PkV.nil _⟩
          · refine XC.seq ?_
            refine XC.region ?_
            refine XO.eql rfl rfl rfl ?_
            refine XO.assign rfl rfl ?_
            refine XO.nil ?_
            refine XC.seq2 ?_
            refine XC.cond rfl (fun c4_12 => ?_) (fun c4_12 => ?_)
            · have hh := hap3 (n := n) (e := e) (by omega)
              refine XC.region ?_
              refine XO.loadO 3 rfl rfl ty_25 rfl rfl rfl ?_
              refine XO.move rfl rfl ?_
              refine XO.callH rfl (repeat_fn _ _ _ _ n _ _ hq hp hlq hlp) rfl ?_
              rintro _ HD67 hleD67 ⟨_, rfl, ⟨d67, e67, f67, g67, rfl, i67, j67⟩⟩
              replace hq := hq.mono hleD67
              replace hp := hp.mono hleD67
              refine XO.move rfl rfl ?_
              refine XO.extract rfl rfl rfl ?_
              refine XO.extract rfl rfl rfl ?_
              refine XO.storeO 1 rfl rfl rfl rfl ty_25 rfl rfl rfl rfl rfl ?_
              refine XO.assign rfl rfl ?_
              refine XO.nil ?_
              refine blockN ?_
              refine XC.seq2 ?_
              refine XC.seq ?_
              refine XC.keep [4, 5, 6] rfl ?_
              apply XC.drawH (fun _ => True) trivial [] (by decide) (fun _ _ _ _ => True) (fun _ _ _ _ _ _ h => h) 5 [eqF _, eqF _, eqF _, anyF, anyF] follows (by kernel_rfl) ⟨eqF_mono _, eqF_mono _, eqF_mono _, anyF_mono, anyF_mono, trivial⟩ (by decide) ?steps14 ?tail14
              case steps14 =>
                refine stepsH_cons rfl ?_ ?_
                · intro X ext HD hleD _
                  replace hq := hq.mono hleD
                  replace hp := hp.mono hleD
                  replace i67 := i67.mono hleD
                  replace j67 := j67.mono hleD
                  refine withP_nil rfl ?_
                  refine XO.loadO 1 rfl rfl ty_25 rfl rfl rfl ?_
                  refine XO.nil ?_
                  exact stepQN_ok rfl trivial (rfl)
                refine stepsH_cons rfl ?_ ?_
                · intro X ext HD hleD _
                  replace hq := hq.mono hleD
                  replace hp := hp.mono hleD
                  replace i67 := i67.mono hleD
                  replace j67 := j67.mono hleD
                  refine withP_nil rfl ?_
                  refine XO.loadO 0 rfl rfl ty_28 rfl rfl rfl ?_
                  refine XO.nil ?_
                  exact stepQN_ok rfl trivial (rfl)
                refine stepsH_cons rfl ?_ ?_
                · intro X ext HD hleD _
                  replace hq := hq.mono hleD
                  replace hp := hp.mono hleD
                  replace i67 := i67.mono hleD
                  replace j67 := j67.mono hleD
                  refine withP_nil rfl ?_
                  refine XO.move rfl rfl ?_
                  refine XO.nil ?_
                  exact stepQN_ok rfl trivial (rfl)
                refine stepsH_cons rfl ?_ ?_
                · intro X ext HD hleD _
                  replace hq := hq.mono hleD
                  replace hp := hp.mono hleD
                  replace i67 := i67.mono hleD
                  replace j67 := j67.mono hleD
                  refine withP_cons rfl rfl ?_
                  rintro _ rfl
                  refine withP_nil rfl ?_
                  refine XO.storeO 1 rfl rfl rfl rfl ty_25 rfl rfl rfl rfl rfl ?_
                  refine XO.nil ?_
                  exact stepQN_ok rfl trivial (trivial)
                refine stepsH_cons rfl ?_ ?_
                · intro X ext HD hleD _
                  replace hq := hq.mono hleD
                  replace hp := hp.mono hleD
                  replace i67 := i67.mono hleD
                  replace j67 := j67.mono hleD
                  refine withP_cons rfl rfl ?_
                  rintro _ rfl
                  refine withP_nil rfl ?_
                  refine XO.storeO 0 rfl rfl rfl rfl ty_28 rfl rfl rfl rfl rfl ?_
                  refine XO.nil ?_
                  exact stepQN_ok rfl trivial (trivial)
                exact stepsH_end rfl
              case tail14 =>
                intro HD hleD _
                replace hq := hq.mono hleD
                replace hp := hp.mono hleD
                replace i67 := i67.mono hleD
                replace j67 := j67.mono hleD
                refine withP_cons rfl rfl ?_
                rintro _ rfl
                refine withP_cons rfl rfl ?_
                rintro _ rfl
                refine withP_cons rfl rfl ?_
                rintro _ rfl
                refine withP_skip rfl rfl ?_
                refine withP_skip rfl rfl ?_
                refine withP_nil rfl ?_
                refine withEnts_nil ?_
                refine XO.assign rfl rfl ?_
                refine XO.nil ?_
                refine XC.seq2 ?_
                refine XC.ret ?_
                refine ⟨rfl, _, [], (resC_cell 1 rfl rfl ty_25 rfl rfl (resC_cell 0 rfl rfl ty_28 rfl rfl (resC_tmp rfl resC_nil))), (by repeat (first | exact List.Sublist.refl _ | apply List.Sublist.cons)), RetR.mk ?_⟩
                rw [hh.1, hh.2.1, hh.2.2]
                try rw [hi]
                first | exact ⟨_, _, rfl, ⟨_, _, _, _, rfl, i42, j42⟩, PkV.nil _⟩ | exact ⟨_, _, rfl, ⟨_, _, _, _, rfl, i50, j50⟩, ⟨_, _, rfl, h50⟩⟩ | exact ⟨_, _, rfl, ⟨_, _, _, _, rfl, i59, j59⟩, PkV.nil _⟩ | exact ⟨_, _, rfl, ⟨_, _, _, _, rfl, i67, j67⟩, PkV.nil _⟩ | exact ⟨_, _, rfl, ⟨_, _, _, _, rfl, i76, j76⟩, PkV.nil _⟩ | exact ⟨_, _, rfl, ⟨_, _, _, _, rfl, i85, j85⟩, PkV.nil _⟩
            · refine XC.seq ?_
              refine XC.region ?_
              refine XO.eql rfl rfl rfl ?_
              refine XO.assign rfl rfl ?_
              refine XO.nil ?_
              refine XC.seq2 ?_
              refine XC.cond rfl (fun c5_15 => ?_) (fun c5_15 => ?_)
              · have hh := hap4 (n := n) (e := e) (by omega)
                refine XC.region ?_
                refine XO.loadO 3 rfl rfl ty_25 rfl rfl rfl ?_
                refine XO.move rfl rfl ?_
                refine XO.move rfl rfl ?_
                refine XO.callH rfl (cut_fn _ _ _ _ n (evF e) (evT e) true _ hq hp hlq hlp) rfl ?_
                rintro _ HD76 hleD76 ⟨_, rfl, ⟨d76, e76, f76, g76, rfl, i76, j76⟩⟩
                replace hq := hq.mono hleD76
                replace hp := hp.mono hleD76
                refine XO.move rfl rfl ?_
                refine XO.extract rfl rfl rfl ?_
                refine XO.extract rfl rfl rfl ?_
                refine XO.storeO 1 rfl rfl rfl rfl ty_25 rfl rfl rfl rfl rfl ?_
                refine XO.assign rfl rfl ?_
                refine XO.nil ?_
                refine blockN ?_
                refine XC.seq2 ?_
                refine XC.seq ?_
                refine XC.keep [4, 5, 6] rfl ?_
                apply XC.drawH (fun _ => True) trivial [] (by decide) (fun _ _ _ _ => True) (fun _ _ _ _ _ _ h => h) 5 [eqF _, eqF _, eqF _, anyF, anyF] follows (by kernel_rfl) ⟨eqF_mono _, eqF_mono _, eqF_mono _, anyF_mono, anyF_mono, trivial⟩ (by decide) ?steps17 ?tail17
                case steps17 =>
                  refine stepsH_cons rfl ?_ ?_
                  · intro X ext HD hleD _
                    replace hq := hq.mono hleD
                    replace hp := hp.mono hleD
                    replace i76 := i76.mono hleD
                    replace j76 := j76.mono hleD
                    refine withP_nil rfl ?_
                    refine XO.loadO 1 rfl rfl ty_25 rfl rfl rfl ?_
                    refine XO.nil ?_
                    exact stepQN_ok rfl trivial (rfl)
                  refine stepsH_cons rfl ?_ ?_
                  · intro X ext HD hleD _
                    replace hq := hq.mono hleD
                    replace hp := hp.mono hleD
                    replace i76 := i76.mono hleD
                    replace j76 := j76.mono hleD
                    refine withP_nil rfl ?_
                    refine XO.loadO 0 rfl rfl ty_28 rfl rfl rfl ?_
                    refine XO.nil ?_
                    exact stepQN_ok rfl trivial (rfl)
                  refine stepsH_cons rfl ?_ ?_
                  · intro X ext HD hleD _
                    replace hq := hq.mono hleD
                    replace hp := hp.mono hleD
                    replace i76 := i76.mono hleD
                    replace j76 := j76.mono hleD
                    refine withP_nil rfl ?_
                    refine XO.move rfl rfl ?_
                    refine XO.nil ?_
                    exact stepQN_ok rfl trivial (rfl)
                  refine stepsH_cons rfl ?_ ?_
                  · intro X ext HD hleD _
                    replace hq := hq.mono hleD
                    replace hp := hp.mono hleD
                    replace i76 := i76.mono hleD
                    replace j76 := j76.mono hleD
                    refine withP_cons rfl rfl ?_
                    rintro _ rfl
                    refine withP_nil rfl ?_
                    refine XO.storeO 1 rfl rfl rfl rfl ty_25 rfl rfl rfl rfl rfl ?_
                    refine XO.nil ?_
                    exact stepQN_ok rfl trivial (trivial)
                  refine stepsH_cons rfl ?_ ?_
                  · intro X ext HD hleD _
                    replace hq := hq.mono hleD
                    replace hp := hp.mono hleD
                    replace i76 := i76.mono hleD
                    replace j76 := j76.mono hleD
                    refine withP_cons rfl rfl ?_
                    rintro _ rfl
                    refine withP_nil rfl ?_
                    refine XO.storeO 0 rfl rfl rfl rfl ty_28 rfl rfl rfl rfl rfl ?_
                    refine XO.nil ?_
                    exact stepQN_ok rfl trivial (trivial)
                  exact stepsH_end rfl
                case tail17 =>
                  intro HD hleD _
                  replace hq := hq.mono hleD
                  replace hp := hp.mono hleD
                  replace i76 := i76.mono hleD
                  replace j76 := j76.mono hleD
                  refine withP_cons rfl rfl ?_
                  rintro _ rfl
                  refine withP_cons rfl rfl ?_
                  rintro _ rfl
                  refine withP_cons rfl rfl ?_
                  rintro _ rfl
                  refine withP_skip rfl rfl ?_
                  refine withP_skip rfl rfl ?_
                  refine withP_nil rfl ?_
                  refine withEnts_nil ?_
                  refine XO.assign rfl rfl ?_
                  refine XO.nil ?_
                  refine XC.seq2 ?_
                  refine XC.ret ?_
                  refine ⟨rfl, _, [], (resC_cell 1 rfl rfl ty_25 rfl rfl (resC_cell 0 rfl rfl ty_28 rfl rfl (resC_tmp rfl resC_nil))), (by repeat (first | exact List.Sublist.refl _ | apply List.Sublist.cons)), RetR.mk ?_⟩
                  rw [hh.1, hh.2.1, hh.2.2]
                  try rw [hi]
                  first | exact ⟨_, _, rfl, ⟨_, _, _, _, rfl, i42, j42⟩, PkV.nil _⟩ | exact ⟨_, _, rfl, ⟨_, _, _, _, rfl, i50, j50⟩, ⟨_, _, rfl, h50⟩⟩ | exact ⟨_, _, rfl, ⟨_, _, _, _, rfl, i59, j59⟩, PkV.nil _⟩ | exact ⟨_, _, rfl, ⟨_, _, _, _, rfl, i67, j67⟩, PkV.nil _⟩ | exact ⟨_, _, rfl, ⟨_, _, _, _, rfl, i76, j76⟩, PkV.nil _⟩ | exact ⟨_, _, rfl, ⟨_, _, _, _, rfl, i85, j85⟩, PkV.nil _⟩
              · refine XC.seq ?_
                refine XC.region ?_
                refine XO.eql rfl rfl rfl ?_
                refine XO.assign rfl rfl ?_
                refine XO.nil ?_
                refine XC.seq2 ?_
                refine XC.cond rfl (fun c6_18 => ?_) (fun c6_18 => ?_)
                · have hh := hap5 (n := n) (e := e) (by omega)
                  refine XC.region ?_
                  refine XO.loadO 3 rfl rfl ty_25 rfl rfl rfl ?_
                  refine XO.move rfl rfl ?_
                  refine XO.move rfl rfl ?_
                  refine XO.callH rfl (cut_fn _ _ _ _ n (evF e) (evT e) false _ hq hp hlq hlp) rfl ?_
                  rintro _ HD85 hleD85 ⟨_, rfl, ⟨d85, e85, f85, g85, rfl, i85, j85⟩⟩
                  replace hq := hq.mono hleD85
                  replace hp := hp.mono hleD85
                  refine XO.move rfl rfl ?_
                  refine XO.extract rfl rfl rfl ?_
                  refine XO.extract rfl rfl rfl ?_
                  refine XO.storeO 1 rfl rfl rfl rfl ty_25 rfl rfl rfl rfl rfl ?_
                  refine XO.assign rfl rfl ?_
                  refine XO.nil ?_
                  refine blockN ?_
                  refine XC.seq2 ?_
                  refine XC.seq ?_
                  refine XC.keep [4, 5, 6] rfl ?_
                  apply XC.drawH (fun _ => True) trivial [] (by decide) (fun _ _ _ _ => True) (fun _ _ _ _ _ _ h => h) 5 [eqF _, eqF _, eqF _, anyF, anyF] follows (by kernel_rfl) ⟨eqF_mono _, eqF_mono _, eqF_mono _, anyF_mono, anyF_mono, trivial⟩ (by decide) ?steps20 ?tail20
                  case steps20 =>
                    refine stepsH_cons rfl ?_ ?_
                    · intro X ext HD hleD _
                      replace hq := hq.mono hleD
                      replace hp := hp.mono hleD
                      replace i85 := i85.mono hleD
                      replace j85 := j85.mono hleD
                      refine withP_nil rfl ?_
                      refine XO.loadO 1 rfl rfl ty_25 rfl rfl rfl ?_
                      refine XO.nil ?_
                      exact stepQN_ok rfl trivial (rfl)
                    refine stepsH_cons rfl ?_ ?_
                    · intro X ext HD hleD _
                      replace hq := hq.mono hleD
                      replace hp := hp.mono hleD
                      replace i85 := i85.mono hleD
                      replace j85 := j85.mono hleD
                      refine withP_nil rfl ?_
                      refine XO.loadO 0 rfl rfl ty_28 rfl rfl rfl ?_
                      refine XO.nil ?_
                      exact stepQN_ok rfl trivial (rfl)
                    refine stepsH_cons rfl ?_ ?_
                    · intro X ext HD hleD _
                      replace hq := hq.mono hleD
                      replace hp := hp.mono hleD
                      replace i85 := i85.mono hleD
                      replace j85 := j85.mono hleD
                      refine withP_nil rfl ?_
                      refine XO.move rfl rfl ?_
                      refine XO.nil ?_
                      exact stepQN_ok rfl trivial (rfl)
                    refine stepsH_cons rfl ?_ ?_
                    · intro X ext HD hleD _
                      replace hq := hq.mono hleD
                      replace hp := hp.mono hleD
                      replace i85 := i85.mono hleD
                      replace j85 := j85.mono hleD
                      refine withP_cons rfl rfl ?_
                      rintro _ rfl
                      refine withP_nil rfl ?_
                      refine XO.storeO 1 rfl rfl rfl rfl ty_25 rfl rfl rfl rfl rfl ?_
                      refine XO.nil ?_
                      exact stepQN_ok rfl trivial (trivial)
                    refine stepsH_cons rfl ?_ ?_
                    · intro X ext HD hleD _
                      replace hq := hq.mono hleD
                      replace hp := hp.mono hleD
                      replace i85 := i85.mono hleD
                      replace j85 := j85.mono hleD
                      refine withP_cons rfl rfl ?_
                      rintro _ rfl
                      refine withP_nil rfl ?_
                      refine XO.storeO 0 rfl rfl rfl rfl ty_28 rfl rfl rfl rfl rfl ?_
                      refine XO.nil ?_
                      exact stepQN_ok rfl trivial (trivial)
                    exact stepsH_end rfl
                  case tail20 =>
                    intro HD hleD _
                    replace hq := hq.mono hleD
                    replace hp := hp.mono hleD
                    replace i85 := i85.mono hleD
                    replace j85 := j85.mono hleD
                    refine withP_cons rfl rfl ?_
                    rintro _ rfl
                    refine withP_cons rfl rfl ?_
                    rintro _ rfl
                    refine withP_cons rfl rfl ?_
                    rintro _ rfl
                    refine withP_skip rfl rfl ?_
                    refine withP_skip rfl rfl ?_
                    refine withP_nil rfl ?_
                    refine withEnts_nil ?_
                    refine XO.assign rfl rfl ?_
                    refine XO.nil ?_
                    refine XC.seq2 ?_
                    refine XC.ret ?_
                    refine ⟨rfl, _, [], (resC_cell 1 rfl rfl ty_25 rfl rfl (resC_cell 0 rfl rfl ty_28 rfl rfl (resC_tmp rfl resC_nil))), (by repeat (first | exact List.Sublist.refl _ | apply List.Sublist.cons)), RetR.mk ?_⟩
                    rw [hh.1, hh.2.1, hh.2.2]
                    try rw [hi]
                    first | exact ⟨_, _, rfl, ⟨_, _, _, _, rfl, i42, j42⟩, PkV.nil _⟩ | exact ⟨_, _, rfl, ⟨_, _, _, _, rfl, i50, j50⟩, ⟨_, _, rfl, h50⟩⟩ | exact ⟨_, _, rfl, ⟨_, _, _, _, rfl, i59, j59⟩, PkV.nil _⟩ | exact ⟨_, _, rfl, ⟨_, _, _, _, rfl, i67, j67⟩, PkV.nil _⟩ | exact ⟨_, _, rfl, ⟨_, _, _, _, rfl, i76, j76⟩, PkV.nil _⟩ | exact ⟨_, _, rfl, ⟨_, _, _, _, rfl, i85, j85⟩, PkV.nil _⟩
                · omega
  · have hi : evI n e = 0 := if_neg (by omega)
    refine XC.skip ?_
    refine XC.seq2 ?_
    refine XC.seq ?_
    refine XC.keep [2, 3, 4, 5, 6, 7] rfl ?_
    apply XC.draw 9 [eqF _, eqF _, eqF _, eqF _, eqF _, eqF _, eqF _, eqF _, eqF _] follows (by kernel_rfl) (by kernel_rfl) ⟨eqF_mono _, eqF_mono _, eqF_mono _, eqF_mono _, eqF_mono _, eqF_mono _, eqF_mono _, eqF_mono _, eqF_mono _, trivial⟩ ?steps21 ?tail21
    case steps21 =>
      refine stepsK_cons rfl ?_ ?_
      · intro X
        refine withPreds_nil rfl ?_
        refine XO.fieldAddr rfl fa_52_2 rfl ?_
        refine XO.nil ?_
        exact stepQ_ok rfl (rfl)
      refine stepsK_cons rfl ?_ ?_
      · intro X
        refine withPreds_cons rfl rfl ?_
        rintro _ rfl
        refine withPreds_nil rfl ?_
        refine XO.loadO 2 rfl rfl ty_5 rfl rfl rfl ?_
        refine XO.nil ?_
        exact stepQ_ok rfl (rfl)
      refine stepsK_cons rfl ?_ ?_
      · intro X
        refine withPreds_cons rfl rfl ?_
        rintro _ rfl
        refine withPreds_nil rfl ?_
        refine XO.convI rfl Try.underlying5 Try.underlying3 (wrap_i64 (by omega) (by omega)) rfl ?_
        refine XO.nil ?_
        exact stepQ_ok rfl (rfl)
      refine stepsK_cons rfl ?_ ?_
      · intro X
        refine withPreds_cons rfl rfl ?_
        rintro _ rfl
        refine withPreds_nil rfl ?_
        refine XO.rem rfl rfl (by omega) (rem_nn (by omega)) rfl ?_
        refine XO.nil ?_
        exact stepQ_ok rfl (rfl)
      refine stepsK_cons rfl ?_ ?_
      · intro X
        refine withPreds_nil rfl ?_
        refine XO.fieldAddr rfl fa_52_3 rfl ?_
        refine XO.nil ?_
        exact stepQ_ok rfl (rfl)
      refine stepsK_cons rfl ?_ ?_
      · intro X
        refine withPreds_cons rfl rfl ?_
        rintro _ rfl
        refine withPreds_nil rfl ?_
        refine XO.loadO 2 rfl rfl ty_5 rfl rfl rfl ?_
        refine XO.nil ?_
        exact stepQ_ok rfl (rfl)
      refine stepsK_cons rfl ?_ ?_
      · intro X
        refine withPreds_cons rfl rfl ?_
        rintro _ rfl
        refine withPreds_nil rfl ?_
        refine XO.convI rfl Try.underlying5 Try.underlying3 (wrap_i64 (by omega) (by omega)) rfl ?_
        refine XO.nil ?_
        exact stepQ_ok rfl (rfl)
      refine stepsK_cons rfl ?_ ?_
      · intro X
        refine withPreds_cons rfl rfl ?_
        rintro _ rfl
        refine withPreds_nil rfl ?_
        refine XO.rem rfl rfl (by omega) (rem_nn (by omega)) rfl ?_
        refine XO.nil ?_
        exact stepQ_ok rfl (rfl)
      refine stepsK_cons rfl ?_ ?_
      · intro X
        refine withPreds_cons rfl rfl ?_
        rintro _ rfl
        refine withPreds_nil rfl ?_
        refine XO.assign rfl rfl ?_
        refine XO.nil ?_
        exact stepQ_ok rfl (rfl)
      exact stepsD_end rfl
    case tail21 =>
      refine withPreds_cons rfl rfl ?_
      rintro _ rfl
      refine withPreds_cons rfl rfl ?_
      rintro _ rfl
      refine withPreds_cons rfl rfl ?_
      rintro _ rfl
      refine withPreds_cons rfl rfl ?_
      rintro _ rfl
      refine withPreds_cons rfl rfl ?_
      rintro _ rfl
      refine withPreds_cons rfl rfl ?_
      rintro _ rfl
      refine withPreds_cons rfl rfl ?_
      rintro _ rfl
      refine withPreds_cons rfl rfl ?_
      rintro _ rfl
      refine withPreds_cons rfl rfl ?_
      rintro _ rfl
      refine withPreds_nil rfl ?_
      refine XO.assign rfl rfl ?_
      refine XO.nil ?_
      refine XC.seq2 ?_
      refine XC.seq ?_
      refine XC.seq ?_
      refine XC.region ?_
      refine XO.fieldAddr rfl fa_52_0 rfl ?_
      refine XO.loadO 2 rfl rfl ty_5 rfl rfl rfl ?_
      refine XO.rem rfl rfl (by omega) (rem_nn (by omega)) rfl ?_
      refine XO.nil ?_
      refine XC.seq2 ?_
      refine XC.block ?_
      refine XC.seq ?_
      refine XC.region ?_
      refine XO.eql rfl rfl rfl ?_
      refine XO.assign rfl rfl ?_
      refine XO.nil ?_
      refine XC.seq2 ?_
      refine XC.cond rfl (fun c1_22 => ?_) (fun c1_22 => ?_)
      · have hh := hap0 (n := n) (e := e) (by omega)
        refine XC.region ?_
        refine XO.loadO 3 rfl rfl ty_25 rfl rfl rfl ?_
        refine XO.move rfl rfl ?_
        refine XO.move rfl rfl ?_
        refine XO.fieldAddr rfl fa_52_4 rfl ?_
        refine XO.loadO 2 rfl rfl ty_5 rfl rfl rfl ?_
        refine XO.buildSlice rfl Try.underlying26 ty_5 ze_5 rfl rfl rfl (fun b40 => ?_)
        refine XO.publish 0 rfl rfl rfl (fun HP40 oP40 hleP40 hbP40 hoP40 => ?_)
        have hsl40 := SlR.lit (ρ := u8R) (l := [e.D]) hbP40 hoP40 (RowsR.one1 rfl)
        replace hq := hq.mono hleP40
        replace hp := hp.mono hleP40
        refine XO.build bk_28 bf_28 ze_28 rfl rfl rfl ?_
        refine XO.callH rfl (send_fn _ _ _ _ n (evP e) _ _ _ hq hp hlq hlp hsl40) rfl ?_
        rintro _ HD42 hleD42 ⟨_, rfl, ⟨d42, e42, f42, g42, rfl, i42, j42⟩⟩
        replace hq := hq.mono hleD42
        replace hp := hp.mono hleD42
        replace hsl40 := hsl40.mono hleD42
        refine XO.move rfl rfl ?_
        refine XO.extract rfl rfl rfl ?_
        refine XO.extract rfl rfl rfl ?_
        refine XO.storeO 1 rfl rfl rfl rfl ty_25 rfl rfl rfl rfl rfl ?_
        refine XO.assign rfl rfl ?_
        refine XO.nil ?_
        refine blockN ?_
        refine XC.seq2 ?_
        refine XC.seq ?_
        refine XC.keep [4, 5, 6] rfl ?_
        apply XC.drawH (fun _ => True) trivial [] (by decide) (fun _ _ _ _ => True) (fun _ _ _ _ _ _ h => h) 5 [eqF _, eqF _, eqF _, anyF, anyF] follows (by kernel_rfl) ⟨eqF_mono _, eqF_mono _, eqF_mono _, anyF_mono, anyF_mono, trivial⟩ (by decide) ?steps24 ?tail24
        case steps24 =>
          refine stepsH_cons rfl ?_ ?_
          · intro X ext HD hleD _
            replace hq := hq.mono hleD
            replace hp := hp.mono hleD
            replace hsl40 := hsl40.mono hleD
            replace i42 := i42.mono hleD
            replace j42 := j42.mono hleD
            refine withP_nil rfl ?_
            refine XO.loadO 1 rfl rfl ty_25 rfl rfl rfl ?_
            refine XO.nil ?_
            exact stepQN_ok rfl trivial (rfl)
          refine stepsH_cons rfl ?_ ?_
          · intro X ext HD hleD _
            replace hq := hq.mono hleD
            replace hp := hp.mono hleD
            replace hsl40 := hsl40.mono hleD
            replace i42 := i42.mono hleD
            replace j42 := j42.mono hleD
            refine withP_nil rfl ?_
            refine XO.loadO 0 rfl rfl ty_28 rfl rfl rfl ?_
            refine XO.nil ?_
            exact stepQN_ok rfl trivial (rfl)
          refine stepsH_cons rfl ?_ ?_
          · intro X ext HD hleD _
            replace hq := hq.mono hleD
            replace hp := hp.mono hleD
            replace hsl40 := hsl40.mono hleD
            replace i42 := i42.mono hleD
            replace j42 := j42.mono hleD
            refine withP_nil rfl ?_
            refine XO.move rfl rfl ?_
            refine XO.nil ?_
            exact stepQN_ok rfl trivial (rfl)
          refine stepsH_cons rfl ?_ ?_
          · intro X ext HD hleD _
            replace hq := hq.mono hleD
            replace hp := hp.mono hleD
            replace hsl40 := hsl40.mono hleD
            replace i42 := i42.mono hleD
            replace j42 := j42.mono hleD
            refine withP_cons rfl rfl ?_
            rintro _ rfl
            refine withP_nil rfl ?_
            refine XO.storeO 1 rfl rfl rfl rfl ty_25 rfl rfl rfl rfl rfl ?_
            refine XO.nil ?_
            exact stepQN_ok rfl trivial (trivial)
          refine stepsH_cons rfl ?_ ?_
          · intro X ext HD hleD _
            replace hq := hq.mono hleD
            replace hp := hp.mono hleD
            replace hsl40 := hsl40.mono hleD
            replace i42 := i42.mono hleD
            replace j42 := j42.mono hleD
            refine withP_cons rfl rfl ?_
            rintro _ rfl
            refine withP_nil rfl ?_
            refine XO.storeO 0 rfl rfl rfl rfl ty_28 rfl rfl rfl rfl rfl ?_
            refine XO.nil ?_
            exact stepQN_ok rfl trivial (trivial)
          exact stepsH_end rfl
        case tail24 =>
          intro HD hleD _
          replace hq := hq.mono hleD
          replace hp := hp.mono hleD
          replace hsl40 := hsl40.mono hleD
          replace i42 := i42.mono hleD
          replace j42 := j42.mono hleD
          refine withP_cons rfl rfl ?_
          rintro _ rfl
          refine withP_cons rfl rfl ?_
          rintro _ rfl
          refine withP_cons rfl rfl ?_
          rintro _ rfl
          refine withP_skip rfl rfl ?_
          refine withP_skip rfl rfl ?_
          refine withP_nil rfl ?_
          refine withEnts_nil ?_
          refine XO.assign rfl rfl ?_
          refine XO.nil ?_
          refine XC.seq2 ?_
          refine XC.ret ?_
          refine ⟨rfl, _, [], (resC_cell 1 rfl rfl ty_25 rfl rfl (resC_cell 0 rfl rfl ty_28 rfl rfl (resC_tmp rfl resC_nil))), (by repeat (first | exact List.Sublist.refl _ | apply List.Sublist.cons)), RetR.mk ?_⟩
          rw [hh.1, hh.2.1, hh.2.2]
          try rw [hi]
          first | exact ⟨_, _, rfl, ⟨_, _, _, _, rfl, i42, j42⟩, PkV.nil _⟩ | exact ⟨_, _, rfl, ⟨_, _, _, _, rfl, i50, j50⟩, ⟨_, _, rfl, h50⟩⟩ | exact ⟨_, _, rfl, ⟨_, _, _, _, rfl, i59, j59⟩, PkV.nil _⟩ | exact ⟨_, _, rfl, ⟨_, _, _, _, rfl, i67, j67⟩, PkV.nil _⟩ | exact ⟨_, _, rfl, ⟨_, _, _, _, rfl, i76, j76⟩, PkV.nil _⟩ | exact ⟨_, _, rfl, ⟨_, _, _, _, rfl, i85, j85⟩, PkV.nil _⟩
      · refine XC.seq ?_
        refine XC.region ?_
        refine XO.eql rfl rfl rfl ?_
        refine XO.assign rfl rfl ?_
        refine XO.nil ?_
        refine XC.seq2 ?_
        refine XC.cond rfl (fun c2_25 => ?_) (fun c2_25 => ?_)
        · have hh := hap1 (n := n) (e := e) (by omega)
          refine XC.region ?_
          refine XO.loadO 3 rfl rfl ty_25 rfl rfl rfl ?_
          refine XO.move rfl rfl ?_
          refine XO.callH rfl (deliver_fn _ _ _ _ n _ _ hq hp hlq hlp) rfl ?_
          rintro _ HD50 hleD50 ⟨_, _, rfl, ⟨a50, c50, rfl, h50⟩, ⟨d50, e50, f50, g50, rfl, i50, j50⟩⟩
          replace hq := hq.mono hleD50
          replace hp := hp.mono hleD50
          refine XO.move rfl rfl ?_
          refine XO.extract rfl rfl rfl ?_
          refine XO.extract rfl rfl rfl ?_
          refine XO.extract rfl rfl rfl ?_
          refine XO.storeO 0 rfl rfl rfl rfl ty_28 rfl rfl rfl rfl rfl ?_
          refine XO.storeO 1 rfl rfl rfl rfl ty_25 rfl rfl rfl rfl rfl ?_
          refine XO.assign rfl rfl ?_
          refine XO.nil ?_
          refine blockN ?_
          refine XC.seq2 ?_
          refine XC.seq ?_
          refine XC.keep [4, 5, 6] rfl ?_
          apply XC.drawH (fun _ => True) trivial [] (by decide) (fun _ _ _ _ => True) (fun _ _ _ _ _ _ h => h) 5 [eqF _, eqF _, eqF _, anyF, anyF] follows (by kernel_rfl) ⟨eqF_mono _, eqF_mono _, eqF_mono _, anyF_mono, anyF_mono, trivial⟩ (by decide) ?steps27 ?tail27
          case steps27 =>
            refine stepsH_cons rfl ?_ ?_
            · intro X ext HD hleD _
              replace hq := hq.mono hleD
              replace hp := hp.mono hleD
              replace h50 := h50.mono hleD
              replace i50 := i50.mono hleD
              replace j50 := j50.mono hleD
              refine withP_nil rfl ?_
              refine XO.loadO 1 rfl rfl ty_25 rfl rfl rfl ?_
              refine XO.nil ?_
              exact stepQN_ok rfl trivial (rfl)
            refine stepsH_cons rfl ?_ ?_
            · intro X ext HD hleD _
              replace hq := hq.mono hleD
              replace hp := hp.mono hleD
              replace h50 := h50.mono hleD
              replace i50 := i50.mono hleD
              replace j50 := j50.mono hleD
              refine withP_nil rfl ?_
              refine XO.loadO 0 rfl rfl ty_28 rfl rfl rfl ?_
              refine XO.nil ?_
              exact stepQN_ok rfl trivial (rfl)
            refine stepsH_cons rfl ?_ ?_
            · intro X ext HD hleD _
              replace hq := hq.mono hleD
              replace hp := hp.mono hleD
              replace h50 := h50.mono hleD
              replace i50 := i50.mono hleD
              replace j50 := j50.mono hleD
              refine withP_nil rfl ?_
              refine XO.move rfl rfl ?_
              refine XO.nil ?_
              exact stepQN_ok rfl trivial (rfl)
            refine stepsH_cons rfl ?_ ?_
            · intro X ext HD hleD _
              replace hq := hq.mono hleD
              replace hp := hp.mono hleD
              replace h50 := h50.mono hleD
              replace i50 := i50.mono hleD
              replace j50 := j50.mono hleD
              refine withP_cons rfl rfl ?_
              rintro _ rfl
              refine withP_nil rfl ?_
              refine XO.storeO 1 rfl rfl rfl rfl ty_25 rfl rfl rfl rfl rfl ?_
              refine XO.nil ?_
              exact stepQN_ok rfl trivial (trivial)
            refine stepsH_cons rfl ?_ ?_
            · intro X ext HD hleD _
              replace hq := hq.mono hleD
              replace hp := hp.mono hleD
              replace h50 := h50.mono hleD
              replace i50 := i50.mono hleD
              replace j50 := j50.mono hleD
              refine withP_cons rfl rfl ?_
              rintro _ rfl
              refine withP_nil rfl ?_
              refine XO.storeO 0 rfl rfl rfl rfl ty_28 rfl rfl rfl rfl rfl ?_
              refine XO.nil ?_
              exact stepQN_ok rfl trivial (trivial)
            exact stepsH_end rfl
          case tail27 =>
            intro HD hleD _
            replace hq := hq.mono hleD
            replace hp := hp.mono hleD
            replace h50 := h50.mono hleD
            replace i50 := i50.mono hleD
            replace j50 := j50.mono hleD
            refine withP_cons rfl rfl ?_
            rintro _ rfl
            refine withP_cons rfl rfl ?_
            rintro _ rfl
            refine withP_cons rfl rfl ?_
            rintro _ rfl
            refine withP_skip rfl rfl ?_
            refine withP_skip rfl rfl ?_
            refine withP_nil rfl ?_
            refine withEnts_nil ?_
            refine XO.assign rfl rfl ?_
            refine XO.nil ?_
            refine XC.seq2 ?_
            refine XC.ret ?_
            refine ⟨rfl, _, [], (resC_cell 1 rfl rfl ty_25 rfl rfl (resC_cell 0 rfl rfl ty_28 rfl rfl (resC_tmp rfl resC_nil))), (by repeat (first | exact List.Sublist.refl _ | apply List.Sublist.cons)), RetR.mk ?_⟩
            rw [hh.1, hh.2.1, hh.2.2]
            try rw [hi]
            first | exact ⟨_, _, rfl, ⟨_, _, _, _, rfl, i42, j42⟩, PkV.nil _⟩ | exact ⟨_, _, rfl, ⟨_, _, _, _, rfl, i50, j50⟩, ⟨_, _, rfl, h50⟩⟩ | exact ⟨_, _, rfl, ⟨_, _, _, _, rfl, i59, j59⟩, PkV.nil _⟩ | exact ⟨_, _, rfl, ⟨_, _, _, _, rfl, i67, j67⟩, PkV.nil _⟩ | exact ⟨_, _, rfl, ⟨_, _, _, _, rfl, i76, j76⟩, PkV.nil _⟩ | exact ⟨_, _, rfl, ⟨_, _, _, _, rfl, i85, j85⟩, PkV.nil _⟩
        · refine XC.seq ?_
          refine XC.region ?_
          refine XO.eql rfl rfl rfl ?_
          refine XO.assign rfl rfl ?_
          refine XO.nil ?_
          refine XC.seq2 ?_
          refine XC.cond rfl (fun c3_28 => ?_) (fun c3_28 => ?_)
          · have hh := hap2 (n := n) (e := e) (by omega)
            refine XC.region ?_
            refine XO.loadO 3 rfl rfl ty_25 rfl rfl rfl ?_
            refine XO.move rfl rfl ?_
            refine XO.callH rfl (lose_fn _ _ _ _ n _ _ hq hp hlq hlp) rfl ?_
            rintro _ HD59 hleD59 ⟨_, rfl, ⟨d59, e59, f59, g59, rfl, i59, j59⟩⟩
            replace hq := hq.mono hleD59
            replace hp := hp.mono hleD59
            refine XO.move rfl rfl ?_
            refine XO.extract rfl rfl rfl ?_
            refine XO.extract rfl rfl rfl ?_
            refine XO.storeO 1 rfl rfl rfl rfl ty_25 rfl rfl rfl rfl rfl ?_
            refine XO.assign rfl rfl ?_
            refine XO.nil ?_
            refine blockN ?_
            refine XC.seq2 ?_
            refine XC.seq ?_
            refine XC.keep [4, 5, 6] rfl ?_
            apply XC.drawH (fun _ => True) trivial [] (by decide) (fun _ _ _ _ => True) (fun _ _ _ _ _ _ h => h) 5 [eqF _, eqF _, eqF _, anyF, anyF] follows (by kernel_rfl) ⟨eqF_mono _, eqF_mono _, eqF_mono _, anyF_mono, anyF_mono, trivial⟩ (by decide) ?steps30 ?tail30
            case steps30 =>
              refine stepsH_cons rfl ?_ ?_
              · intro X ext HD hleD _
                replace hq := hq.mono hleD
                replace hp := hp.mono hleD
                replace i59 := i59.mono hleD
                replace j59 := j59.mono hleD
                refine withP_nil rfl ?_
                refine XO.loadO 1 rfl rfl ty_25 rfl rfl rfl ?_
                refine XO.nil ?_
                exact stepQN_ok rfl trivial (rfl)
              refine stepsH_cons rfl ?_ ?_
              · intro X ext HD hleD _
                replace hq := hq.mono hleD
                replace hp := hp.mono hleD
                replace i59 := i59.mono hleD
                replace j59 := j59.mono hleD
                refine withP_nil rfl ?_
                refine XO.loadO 0 rfl rfl ty_28 rfl rfl rfl ?_
                refine XO.nil ?_
                exact stepQN_ok rfl trivial (rfl)
              refine stepsH_cons rfl ?_ ?_
              · intro X ext HD hleD _
                replace hq := hq.mono hleD
                replace hp := hp.mono hleD
                replace i59 := i59.mono hleD
                replace j59 := j59.mono hleD
                refine withP_nil rfl ?_
                refine XO.move rfl rfl ?_
                refine XO.nil ?_
                exact stepQN_ok rfl trivial (rfl)
              refine stepsH_cons rfl ?_ ?_
              · intro X ext HD hleD _
                replace hq := hq.mono hleD
                replace hp := hp.mono hleD
                replace i59 := i59.mono hleD
                replace j59 := j59.mono hleD
                refine withP_cons rfl rfl ?_
                rintro _ rfl
                refine withP_nil rfl ?_
                refine XO.storeO 1 rfl rfl rfl rfl ty_25 rfl rfl rfl rfl rfl ?_
                refine XO.nil ?_
                exact stepQN_ok rfl trivial (trivial)
              refine stepsH_cons rfl ?_ ?_
              · intro X ext HD hleD _
                replace hq := hq.mono hleD
                replace hp := hp.mono hleD
                replace i59 := i59.mono hleD
                replace j59 := j59.mono hleD
                refine withP_cons rfl rfl ?_
                rintro _ rfl
                refine withP_nil rfl ?_
                refine XO.storeO 0 rfl rfl rfl rfl ty_28 rfl rfl rfl rfl rfl ?_
                refine XO.nil ?_
                exact stepQN_ok rfl trivial (trivial)
              exact stepsH_end rfl
            case tail30 =>
              intro HD hleD _
              replace hq := hq.mono hleD
              replace hp := hp.mono hleD
              replace i59 := i59.mono hleD
              replace j59 := j59.mono hleD
              refine withP_cons rfl rfl ?_
              rintro _ rfl
              refine withP_cons rfl rfl ?_
              rintro _ rfl
              refine withP_cons rfl rfl ?_
              rintro _ rfl
              refine withP_skip rfl rfl ?_
              refine withP_skip rfl rfl ?_
              refine withP_nil rfl ?_
              refine withEnts_nil ?_
              refine XO.assign rfl rfl ?_
              refine XO.nil ?_
              refine XC.seq2 ?_
              refine XC.ret ?_
              refine ⟨rfl, _, [], (resC_cell 1 rfl rfl ty_25 rfl rfl (resC_cell 0 rfl rfl ty_28 rfl rfl (resC_tmp rfl resC_nil))), (by repeat (first | exact List.Sublist.refl _ | apply List.Sublist.cons)), RetR.mk ?_⟩
              rw [hh.1, hh.2.1, hh.2.2]
              try rw [hi]
              first | exact ⟨_, _, rfl, ⟨_, _, _, _, rfl, i42, j42⟩, PkV.nil _⟩ | exact ⟨_, _, rfl, ⟨_, _, _, _, rfl, i50, j50⟩, ⟨_, _, rfl, h50⟩⟩ | exact ⟨_, _, rfl, ⟨_, _, _, _, rfl, i59, j59⟩, PkV.nil _⟩ | exact ⟨_, _, rfl, ⟨_, _, _, _, rfl, i67, j67⟩, PkV.nil _⟩ | exact ⟨_, _, rfl, ⟨_, _, _, _, rfl, i76, j76⟩, PkV.nil _⟩ | exact ⟨_, _, rfl, ⟨_, _, _, _, rfl, i85, j85⟩, PkV.nil _⟩
          · refine XC.seq ?_
            refine XC.region ?_
            refine XO.eql rfl rfl rfl ?_
            refine XO.assign rfl rfl ?_
            refine XO.nil ?_
            refine XC.seq2 ?_
            refine XC.cond rfl (fun c4_31 => ?_) (fun c4_31 => ?_)
            · have hh := hap3 (n := n) (e := e) (by omega)
              refine XC.region ?_
              refine XO.loadO 3 rfl rfl ty_25 rfl rfl rfl ?_
              refine XO.move rfl rfl ?_
              refine XO.callH rfl (repeat_fn _ _ _ _ n _ _ hq hp hlq hlp) rfl ?_
              rintro _ HD67 hleD67 ⟨_, rfl, ⟨d67, e67, f67, g67, rfl, i67, j67⟩⟩
              replace hq := hq.mono hleD67
              replace hp := hp.mono hleD67
              refine XO.move rfl rfl ?_
              refine XO.extract rfl rfl rfl ?_
              refine XO.extract rfl rfl rfl ?_
              refine XO.storeO 1 rfl rfl rfl rfl ty_25 rfl rfl rfl rfl rfl ?_
              refine XO.assign rfl rfl ?_
              refine XO.nil ?_
              refine blockN ?_
              refine XC.seq2 ?_
              refine XC.seq ?_
              refine XC.keep [4, 5, 6] rfl ?_
              apply XC.drawH (fun _ => True) trivial [] (by decide) (fun _ _ _ _ => True) (fun _ _ _ _ _ _ h => h) 5 [eqF _, eqF _, eqF _, anyF, anyF] follows (by kernel_rfl) ⟨eqF_mono _, eqF_mono _, eqF_mono _, anyF_mono, anyF_mono, trivial⟩ (by decide) ?steps33 ?tail33
              case steps33 =>
                refine stepsH_cons rfl ?_ ?_
                · intro X ext HD hleD _
                  replace hq := hq.mono hleD
                  replace hp := hp.mono hleD
                  replace i67 := i67.mono hleD
                  replace j67 := j67.mono hleD
                  refine withP_nil rfl ?_
                  refine XO.loadO 1 rfl rfl ty_25 rfl rfl rfl ?_
                  refine XO.nil ?_
                  exact stepQN_ok rfl trivial (rfl)
                refine stepsH_cons rfl ?_ ?_
                · intro X ext HD hleD _
                  replace hq := hq.mono hleD
                  replace hp := hp.mono hleD
                  replace i67 := i67.mono hleD
                  replace j67 := j67.mono hleD
                  refine withP_nil rfl ?_
                  refine XO.loadO 0 rfl rfl ty_28 rfl rfl rfl ?_
                  refine XO.nil ?_
                  exact stepQN_ok rfl trivial (rfl)
                refine stepsH_cons rfl ?_ ?_
                · intro X ext HD hleD _
                  replace hq := hq.mono hleD
                  replace hp := hp.mono hleD
                  replace i67 := i67.mono hleD
                  replace j67 := j67.mono hleD
                  refine withP_nil rfl ?_
                  refine XO.move rfl rfl ?_
                  refine XO.nil ?_
                  exact stepQN_ok rfl trivial (rfl)
                refine stepsH_cons rfl ?_ ?_
                · intro X ext HD hleD _
                  replace hq := hq.mono hleD
                  replace hp := hp.mono hleD
                  replace i67 := i67.mono hleD
                  replace j67 := j67.mono hleD
                  refine withP_cons rfl rfl ?_
                  rintro _ rfl
                  refine withP_nil rfl ?_
                  refine XO.storeO 1 rfl rfl rfl rfl ty_25 rfl rfl rfl rfl rfl ?_
                  refine XO.nil ?_
                  exact stepQN_ok rfl trivial (trivial)
                refine stepsH_cons rfl ?_ ?_
                · intro X ext HD hleD _
                  replace hq := hq.mono hleD
                  replace hp := hp.mono hleD
                  replace i67 := i67.mono hleD
                  replace j67 := j67.mono hleD
                  refine withP_cons rfl rfl ?_
                  rintro _ rfl
                  refine withP_nil rfl ?_
                  refine XO.storeO 0 rfl rfl rfl rfl ty_28 rfl rfl rfl rfl rfl ?_
                  refine XO.nil ?_
                  exact stepQN_ok rfl trivial (trivial)
                exact stepsH_end rfl
              case tail33 =>
                intro HD hleD _
                replace hq := hq.mono hleD
                replace hp := hp.mono hleD
                replace i67 := i67.mono hleD
                replace j67 := j67.mono hleD
                refine withP_cons rfl rfl ?_
                rintro _ rfl
                refine withP_cons rfl rfl ?_
                rintro _ rfl
                refine withP_cons rfl rfl ?_
                rintro _ rfl
                refine withP_skip rfl rfl ?_
                refine withP_skip rfl rfl ?_
                refine withP_nil rfl ?_
                refine withEnts_nil ?_
                refine XO.assign rfl rfl ?_
                refine XO.nil ?_
                refine XC.seq2 ?_
                refine XC.ret ?_
                refine ⟨rfl, _, [], (resC_cell 1 rfl rfl ty_25 rfl rfl (resC_cell 0 rfl rfl ty_28 rfl rfl (resC_tmp rfl resC_nil))), (by repeat (first | exact List.Sublist.refl _ | apply List.Sublist.cons)), RetR.mk ?_⟩
                rw [hh.1, hh.2.1, hh.2.2]
                try rw [hi]
                first | exact ⟨_, _, rfl, ⟨_, _, _, _, rfl, i42, j42⟩, PkV.nil _⟩ | exact ⟨_, _, rfl, ⟨_, _, _, _, rfl, i50, j50⟩, ⟨_, _, rfl, h50⟩⟩ | exact ⟨_, _, rfl, ⟨_, _, _, _, rfl, i59, j59⟩, PkV.nil _⟩ | exact ⟨_, _, rfl, ⟨_, _, _, _, rfl, i67, j67⟩, PkV.nil _⟩ | exact ⟨_, _, rfl, ⟨_, _, _, _, rfl, i76, j76⟩, PkV.nil _⟩ | exact ⟨_, _, rfl, ⟨_, _, _, _, rfl, i85, j85⟩, PkV.nil _⟩
            · refine XC.seq ?_
              refine XC.region ?_
              refine XO.eql rfl rfl rfl ?_
              refine XO.assign rfl rfl ?_
              refine XO.nil ?_
              refine XC.seq2 ?_
              refine XC.cond rfl (fun c5_34 => ?_) (fun c5_34 => ?_)
              · have hh := hap4 (n := n) (e := e) (by omega)
                refine XC.region ?_
                refine XO.loadO 3 rfl rfl ty_25 rfl rfl rfl ?_
                refine XO.move rfl rfl ?_
                refine XO.move rfl rfl ?_
                refine XO.callH rfl (cut_fn _ _ _ _ n (evF e) (evT e) true _ hq hp hlq hlp) rfl ?_
                rintro _ HD76 hleD76 ⟨_, rfl, ⟨d76, e76, f76, g76, rfl, i76, j76⟩⟩
                replace hq := hq.mono hleD76
                replace hp := hp.mono hleD76
                refine XO.move rfl rfl ?_
                refine XO.extract rfl rfl rfl ?_
                refine XO.extract rfl rfl rfl ?_
                refine XO.storeO 1 rfl rfl rfl rfl ty_25 rfl rfl rfl rfl rfl ?_
                refine XO.assign rfl rfl ?_
                refine XO.nil ?_
                refine blockN ?_
                refine XC.seq2 ?_
                refine XC.seq ?_
                refine XC.keep [4, 5, 6] rfl ?_
                apply XC.drawH (fun _ => True) trivial [] (by decide) (fun _ _ _ _ => True) (fun _ _ _ _ _ _ h => h) 5 [eqF _, eqF _, eqF _, anyF, anyF] follows (by kernel_rfl) ⟨eqF_mono _, eqF_mono _, eqF_mono _, anyF_mono, anyF_mono, trivial⟩ (by decide) ?steps36 ?tail36
                case steps36 =>
                  refine stepsH_cons rfl ?_ ?_
                  · intro X ext HD hleD _
                    replace hq := hq.mono hleD
                    replace hp := hp.mono hleD
                    replace i76 := i76.mono hleD
                    replace j76 := j76.mono hleD
                    refine withP_nil rfl ?_
                    refine XO.loadO 1 rfl rfl ty_25 rfl rfl rfl ?_
                    refine XO.nil ?_
                    exact stepQN_ok rfl trivial (rfl)
                  refine stepsH_cons rfl ?_ ?_
                  · intro X ext HD hleD _
                    replace hq := hq.mono hleD
                    replace hp := hp.mono hleD
                    replace i76 := i76.mono hleD
                    replace j76 := j76.mono hleD
                    refine withP_nil rfl ?_
                    refine XO.loadO 0 rfl rfl ty_28 rfl rfl rfl ?_
                    refine XO.nil ?_
                    exact stepQN_ok rfl trivial (rfl)
                  refine stepsH_cons rfl ?_ ?_
                  · intro X ext HD hleD _
                    replace hq := hq.mono hleD
                    replace hp := hp.mono hleD
                    replace i76 := i76.mono hleD
                    replace j76 := j76.mono hleD
                    refine withP_nil rfl ?_
                    refine XO.move rfl rfl ?_
                    refine XO.nil ?_
                    exact stepQN_ok rfl trivial (rfl)
                  refine stepsH_cons rfl ?_ ?_
                  · intro X ext HD hleD _
                    replace hq := hq.mono hleD
                    replace hp := hp.mono hleD
                    replace i76 := i76.mono hleD
                    replace j76 := j76.mono hleD
                    refine withP_cons rfl rfl ?_
                    rintro _ rfl
                    refine withP_nil rfl ?_
                    refine XO.storeO 1 rfl rfl rfl rfl ty_25 rfl rfl rfl rfl rfl ?_
                    refine XO.nil ?_
                    exact stepQN_ok rfl trivial (trivial)
                  refine stepsH_cons rfl ?_ ?_
                  · intro X ext HD hleD _
                    replace hq := hq.mono hleD
                    replace hp := hp.mono hleD
                    replace i76 := i76.mono hleD
                    replace j76 := j76.mono hleD
                    refine withP_cons rfl rfl ?_
                    rintro _ rfl
                    refine withP_nil rfl ?_
                    refine XO.storeO 0 rfl rfl rfl rfl ty_28 rfl rfl rfl rfl rfl ?_
                    refine XO.nil ?_
                    exact stepQN_ok rfl trivial (trivial)
                  exact stepsH_end rfl
                case tail36 =>
                  intro HD hleD _
                  replace hq := hq.mono hleD
                  replace hp := hp.mono hleD
                  replace i76 := i76.mono hleD
                  replace j76 := j76.mono hleD
                  refine withP_cons rfl rfl ?_
                  rintro _ rfl
                  refine withP_cons rfl rfl ?_
                  rintro _ rfl
                  refine withP_cons rfl rfl ?_
                  rintro _ rfl
                  refine withP_skip rfl rfl ?_
                  refine withP_skip rfl rfl ?_
                  refine withP_nil rfl ?_
                  refine withEnts_nil ?_
                  refine XO.assign rfl rfl ?_
                  refine XO.nil ?_
                  refine XC.seq2 ?_
                  refine XC.ret ?_
                  refine ⟨rfl, _, [], (resC_cell 1 rfl rfl ty_25 rfl rfl (resC_cell 0 rfl rfl ty_28 rfl rfl (resC_tmp rfl resC_nil))), (by repeat (first | exact List.Sublist.refl _ | apply List.Sublist.cons)), RetR.mk ?_⟩
                  rw [hh.1, hh.2.1, hh.2.2]
                  try rw [hi]
                  first | exact ⟨_, _, rfl, ⟨_, _, _, _, rfl, i42, j42⟩, PkV.nil _⟩ | exact ⟨_, _, rfl, ⟨_, _, _, _, rfl, i50, j50⟩, ⟨_, _, rfl, h50⟩⟩ | exact ⟨_, _, rfl, ⟨_, _, _, _, rfl, i59, j59⟩, PkV.nil _⟩ | exact ⟨_, _, rfl, ⟨_, _, _, _, rfl, i67, j67⟩, PkV.nil _⟩ | exact ⟨_, _, rfl, ⟨_, _, _, _, rfl, i76, j76⟩, PkV.nil _⟩ | exact ⟨_, _, rfl, ⟨_, _, _, _, rfl, i85, j85⟩, PkV.nil _⟩
              · refine XC.seq ?_
                refine XC.region ?_
                refine XO.eql rfl rfl rfl ?_
                refine XO.assign rfl rfl ?_
                refine XO.nil ?_
                refine XC.seq2 ?_
                refine XC.cond rfl (fun c6_37 => ?_) (fun c6_37 => ?_)
                · have hh := hap5 (n := n) (e := e) (by omega)
                  refine XC.region ?_
                  refine XO.loadO 3 rfl rfl ty_25 rfl rfl rfl ?_
                  refine XO.move rfl rfl ?_
                  refine XO.move rfl rfl ?_
                  refine XO.callH rfl (cut_fn _ _ _ _ n (evF e) (evT e) false _ hq hp hlq hlp) rfl ?_
                  rintro _ HD85 hleD85 ⟨_, rfl, ⟨d85, e85, f85, g85, rfl, i85, j85⟩⟩
                  replace hq := hq.mono hleD85
                  replace hp := hp.mono hleD85
                  refine XO.move rfl rfl ?_
                  refine XO.extract rfl rfl rfl ?_
                  refine XO.extract rfl rfl rfl ?_
                  refine XO.storeO 1 rfl rfl rfl rfl ty_25 rfl rfl rfl rfl rfl ?_
                  refine XO.assign rfl rfl ?_
                  refine XO.nil ?_
                  refine blockN ?_
                  refine XC.seq2 ?_
                  refine XC.seq ?_
                  refine XC.keep [4, 5, 6] rfl ?_
                  apply XC.drawH (fun _ => True) trivial [] (by decide) (fun _ _ _ _ => True) (fun _ _ _ _ _ _ h => h) 5 [eqF _, eqF _, eqF _, anyF, anyF] follows (by kernel_rfl) ⟨eqF_mono _, eqF_mono _, eqF_mono _, anyF_mono, anyF_mono, trivial⟩ (by decide) ?steps39 ?tail39
                  case steps39 =>
                    refine stepsH_cons rfl ?_ ?_
                    · intro X ext HD hleD _
                      replace hq := hq.mono hleD
                      replace hp := hp.mono hleD
                      replace i85 := i85.mono hleD
                      replace j85 := j85.mono hleD
                      refine withP_nil rfl ?_
                      refine XO.loadO 1 rfl rfl ty_25 rfl rfl rfl ?_
                      refine XO.nil ?_
                      exact stepQN_ok rfl trivial (rfl)
                    refine stepsH_cons rfl ?_ ?_
                    · intro X ext HD hleD _
                      replace hq := hq.mono hleD
                      replace hp := hp.mono hleD
                      replace i85 := i85.mono hleD
                      replace j85 := j85.mono hleD
                      refine withP_nil rfl ?_
                      refine XO.loadO 0 rfl rfl ty_28 rfl rfl rfl ?_
                      refine XO.nil ?_
                      exact stepQN_ok rfl trivial (rfl)
                    refine stepsH_cons rfl ?_ ?_
                    · intro X ext HD hleD _
                      replace hq := hq.mono hleD
                      replace hp := hp.mono hleD
                      replace i85 := i85.mono hleD
                      replace j85 := j85.mono hleD
                      refine withP_nil rfl ?_
                      refine XO.move rfl rfl ?_
                      refine XO.nil ?_
                      exact stepQN_ok rfl trivial (rfl)
                    refine stepsH_cons rfl ?_ ?_
                    · intro X ext HD hleD _
                      replace hq := hq.mono hleD
                      replace hp := hp.mono hleD
                      replace i85 := i85.mono hleD
                      replace j85 := j85.mono hleD
                      refine withP_cons rfl rfl ?_
                      rintro _ rfl
                      refine withP_nil rfl ?_
                      refine XO.storeO 1 rfl rfl rfl rfl ty_25 rfl rfl rfl rfl rfl ?_
                      refine XO.nil ?_
                      exact stepQN_ok rfl trivial (trivial)
                    refine stepsH_cons rfl ?_ ?_
                    · intro X ext HD hleD _
                      replace hq := hq.mono hleD
                      replace hp := hp.mono hleD
                      replace i85 := i85.mono hleD
                      replace j85 := j85.mono hleD
                      refine withP_cons rfl rfl ?_
                      rintro _ rfl
                      refine withP_nil rfl ?_
                      refine XO.storeO 0 rfl rfl rfl rfl ty_28 rfl rfl rfl rfl rfl ?_
                      refine XO.nil ?_
                      exact stepQN_ok rfl trivial (trivial)
                    exact stepsH_end rfl
                  case tail39 =>
                    intro HD hleD _
                    replace hq := hq.mono hleD
                    replace hp := hp.mono hleD
                    replace i85 := i85.mono hleD
                    replace j85 := j85.mono hleD
                    refine withP_cons rfl rfl ?_
                    rintro _ rfl
                    refine withP_cons rfl rfl ?_
                    rintro _ rfl
                    refine withP_cons rfl rfl ?_
                    rintro _ rfl
                    refine withP_skip rfl rfl ?_
                    refine withP_skip rfl rfl ?_
                    refine withP_nil rfl ?_
                    refine withEnts_nil ?_
                    refine XO.assign rfl rfl ?_
                    refine XO.nil ?_
                    refine XC.seq2 ?_
                    refine XC.ret ?_
                    refine ⟨rfl, _, [], (resC_cell 1 rfl rfl ty_25 rfl rfl (resC_cell 0 rfl rfl ty_28 rfl rfl (resC_tmp rfl resC_nil))), (by repeat (first | exact List.Sublist.refl _ | apply List.Sublist.cons)), RetR.mk ?_⟩
                    rw [hh.1, hh.2.1, hh.2.2]
                    try rw [hi]
                    first | exact ⟨_, _, rfl, ⟨_, _, _, _, rfl, i42, j42⟩, PkV.nil _⟩ | exact ⟨_, _, rfl, ⟨_, _, _, _, rfl, i50, j50⟩, ⟨_, _, rfl, h50⟩⟩ | exact ⟨_, _, rfl, ⟨_, _, _, _, rfl, i59, j59⟩, PkV.nil _⟩ | exact ⟨_, _, rfl, ⟨_, _, _, _, rfl, i67, j67⟩, PkV.nil _⟩ | exact ⟨_, _, rfl, ⟨_, _, _, _, rfl, i76, j76⟩, PkV.nil _⟩ | exact ⟨_, _, rfl, ⟨_, _, _, _, rfl, i85, j85⟩, PkV.nil _⟩
                · omega

end Go.Proofs
