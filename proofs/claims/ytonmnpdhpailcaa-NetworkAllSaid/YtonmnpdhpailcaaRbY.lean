/- The walks of the functions of the links: what each of them computes, at any input. -/
import Derived.Test.YtonmnpdhpailcaaRbX
set_option autoImplicit false
set_option linter.unusedVariables false
set_option linter.unusedSimpArgs false
namespace Go.Proofs
open Go.XL



theorem rsend_fn (aq ap : Option Addr) (cq cp : Nat) (n : Nt) (p : Pk) (ad : Option Addr) (cd : Nat) (H : Hp) (hq : SlR pkR H aq cq n.q) (hp : SlR pairR H ap cp n.ap) (hlq : n.q.length < 4611686018427387904) (hlp : n.ap.length < 4611686018427387904) (hd : SlR u8R H ad cd p.Data) : FnC Try.prog 12 #[.agg ⟨[.slice aq n.q.length cq, .slice ap n.ap.length cp]⟩, .agg ⟨[.int .i64 p.From, .int .i64 p.To, .slice ad p.Data.length cd]⟩] H [] (RetR fun v H _ => ∃ v1, v = .tuple #[v1, .int .i64 (sendV n p).2] ∧ NtV H v1 (sendV n p).1) := by
  refine FnC.introC (args := [.agg ⟨[.slice aq n.q.length cq, .slice ap n.ap.length cp]⟩, .agg ⟨[.int .i64 p.From, .int .i64 p.To, .slice ad p.Data.length cd]⟩]) Try.func12 rfl rfl Try.ntmps12 rfl rfl rfl fun G rest => ?_
  refine XC.seq ?_
  refine XC.region ?_
  refine XO.box rfl rfl rfl (fun b2 => ?_)
  refine XO.box rfl rfl rfl (fun b3 => ?_)
  refine XO.alloc ze_25 rfl (fun b4 => ?_)
  refine XO.assign rfl rfl ?_
  refine XO.nil ?_
  refine XC.seq2 ?_
  refine XC.seq ?_
  refine XC.seq ?_
  refine XC.region ?_
  refine XO.loadO 2 rfl rfl ty_25 rfl rfl rfl ?_
  refine XO.callV rfl (rcheck_fn _ _ _ _ _ _ (by assumption) (by assumption) (by omega) (by omega)) rfl ?_
  refine XO.neq rfl rfl rfl ?_
  refine XO.move rfl rfl ?_
  refine XO.guardC rfl rfl rfl rfl (fun g2 => ?_) (fun g2 => ?_)
  · have g2p := of_decide_eq_false g2
    refine XO.loadO 1 rfl rfl ty_28 rfl rfl rfl ?_
    refine XO.guardT rfl rfl (g2) rfl ?_
    refine XO.callV rfl (rpacket_fn p _ _ _) rfl ?_
    refine XO.guardT rfl rfl (g2) rfl ?_
    refine XO.not rfl rfl ?_
    refine XO.pickF rfl (g2) rfl rfl ?_
    refine XO.nil ?_
    refine XC.seq2 ?_
    refine XC.cond rfl (fun c0_4 => ?_) (fun c0_4 => ?_)
    · refine XC.seq ?_
      refine XC.region ?_
      refine XO.build bk_25 bf_25 ze_25 rfl rfl rfl ?_
      refine XO.storeO 0 rfl rfl rfl rfl ty_25 rfl rfl rfl rfl rfl ?_
      refine XO.assign rfl rfl ?_
      refine XO.nil ?_
      refine XC.seq2 ?_
      refine XC.ret ?_
      refine seqX_ret ?_
      refine ⟨rfl, _, [], (resC_cell 0 rfl rfl ty_25 rfl rfl (resC_tmp rfl resC_nil)), (by repeat (first | exact List.Sublist.refl _ | apply List.Sublist.cons)), RetR.mk ?_⟩
      rw [show sendV n p = (⟨[], []⟩, 60) from if_pos (fun h => absurd h.2 (by assumption))]
      exact ⟨_, rfl, NtV.nil _⟩
    · have hnet : netOk n := chk_eq.1 (by omega)
      have hok : pkOk p := Decidable.not_not.1 (by assumption)
      have hlen := hnet.1
      have hqle := hq.le
      refine XC.skip ?_
      refine XC.seq2 ?_
      refine XC.seq ?_
      refine XC.seq ?_
      refine XC.region ?_
      refine XO.fieldAddr rfl fa_25_0 rfl ?_
      refine XO.loadO 2 rfl rfl ty_22 rfl rfl rfl ?_
      refine XO.lenS (ts := #[]) rfl Try.underlying22 rfl ?_
      refine XO.eql rfl rfl rfl ?_
      refine XO.nil ?_
      refine XC.seq2 ?_
      refine XC.cond rfl (fun c1_5 => ?_) (fun c1_5 => ?_)
      · refine XC.seq ?_
        refine XC.region ?_
        refine XO.build bk_25 bf_25 ze_25 rfl rfl rfl ?_
        refine XO.storeO 0 rfl rfl rfl rfl ty_25 rfl rfl rfl rfl rfl ?_
        refine XO.assign rfl rfl ?_
        refine XO.nil ?_
        refine XC.seq2 ?_
        refine XC.ret ?_
        refine seqX_ret ?_
        refine ⟨rfl, _, [], (resC_cell 0 rfl rfl ty_25 rfl rfl (resC_tmp rfl resC_nil)), (by repeat (first | exact List.Sublist.refl _ | apply List.Sublist.cons)), RetR.mk ?_⟩
        have hs : sendV n p = (⟨[], []⟩, 2) := by rw [sendV, if_neg (fun h => h ⟨hnet, hok⟩), if_pos (by omega)]
        rw [hs]
        exact ⟨_, rfl, NtV.nil _⟩
      · refine XC.skip ?_
        refine XC.seq2 ?_
        refine XC.seq ?_
        by_cases hq0 : n.q = []
        · skip
          refine XC.keep [2, 3, 4] rfl ?_
          apply XC.drawG (fun _ => True) trivial 6 [slCap pkR [], eqF _, eqF _, slCap pkR n.q, eqF _, slF pkR [p]] follows (by kernel_rfl) (by kernel_rfl) ⟨slCap_mono _ _, eqF_mono _, eqF_mono _, slCap_mono _ _, eqF_mono _, slF_mono _ _, trivial⟩ ?steps6 ?tail6
          case steps6 =>
            refine stepsD_cons rfl ?_ ?_
            · intro X HD hleD _
              replace hq := hq.mono hleD
              replace hp := hp.mono hleD
              replace hd := hd.mono hleD
              refine withPreds_nil rfl ?_
              refine XO.buildSlice rfl Try.underlying22 ty_28 ze_28 rfl rfl rfl (fun b20 => ?_)
              refine XO.publish 0 rfl rfl rfl (fun HP20 oP20 hleP20 hbP20 hoP20 => ?_)
              have hsl20 := SlR.lit (ρ := pkR) (l := []) hbP20 hoP20 rfl
              replace hq := hq.mono hleP20
              replace hp := hp.mono hleP20
              replace hd := hd.mono hleP20
              refine XO.nil ?_
              exact stepQ_ok trivial (⟨_, _, rfl, hsl20, by simp⟩)
            refine stepsD_cons rfl ?_ ?_
            · intro X HD hleD _
              replace hq := hq.mono hleD
              replace hp := hp.mono hleD
              replace hd := hd.mono hleD
              refine withPreds_nil rfl ?_
              refine XO.fieldAddr rfl fa_25_0 rfl ?_
              refine XO.nil ?_
              exact stepQ_ok trivial (rfl)
            refine stepsD_cons rfl ?_ ?_
            · intro X HD hleD _
              replace hq := hq.mono hleD
              replace hp := hp.mono hleD
              replace hd := hd.mono hleD
              refine withPreds_cons rfl rfl ?_
              rintro _ rfl
              refine withPreds_nil rfl ?_
              refine XO.loadO 2 rfl rfl ty_22 rfl rfl rfl ?_
              refine XO.nil ?_
              exact stepQ_ok trivial (rfl)
            refine stepsD_cons rfl ?_ ?_
            · intro X HD hleD _
              replace hq := hq.mono hleD
              replace hp := hp.mono hleD
              replace hd := hd.mono hleD
              refine withPreds_cons rfl rfl ?_
              rintro _ ⟨a20, c20, rfl, hsl20, hcap20⟩
              refine withPreds_cons rfl rfl ?_
              rintro _ rfl
              refine withPreds_nil rfl ?_
              refine XO.append0 rfl rfl (by rw [hq0]; rfl) hsl20.le Try.underlying22 ty_28 rfl ?_
              refine XO.nil ?_
              exact stepQ_ok trivial (⟨_, _, by rw [hq0], by rw [hq0]; exact hsl20, by rw [hq0]; exact hcap20⟩)
            refine stepsD_cons rfl ?_ ?_
            · intro X HD hleD _
              replace hq := hq.mono hleD
              replace hp := hp.mono hleD
              replace hd := hd.mono hleD
              refine withPreds_nil rfl ?_
              refine XO.loadO 1 rfl rfl ty_28 rfl rfl rfl ?_
              refine XO.nil ?_
              exact stepQ_ok trivial (rfl)
            refine stepsD_cons rfl ?_ ?_
            · intro X HD hleD _
              replace hq := hq.mono hleD
              replace hp := hp.mono hleD
              replace hd := hd.mono hleD
              refine withPreds_cons rfl rfl ?_
              rintro _ rfl
              refine withPreds_nil rfl ?_
              refine XO.buildSlice rfl Try.underlying22 ty_28 ze_28 rfl rfl rfl (fun b25 => ?_)
              refine XO.publish 0 rfl rfl rfl (fun HP25 oP25 hleP25 hbP25 hoP25 => ?_)
              replace hq := hq.mono hleP25
              replace hp := hp.mono hleP25
              replace hd := hd.mono hleP25
              have hsl25 := SlR.lit (ρ := pkR) (l := [p]) hbP25 hoP25 (RowsR.one1 ⟨_, _, rfl, hd⟩)
              refine XO.nil ?_
              exact stepQ_ok trivial (⟨_, rfl, hsl25⟩)
            exact stepsD_end rfl
          case tail6 =>
            intro HD hleD _
            replace hq := hq.mono hleD
            replace hp := hp.mono hleD
            replace hd := hd.mono hleD
            refine withPreds_cons rfl rfl ?_
            rintro _ ⟨a20, c20, rfl, hsl20, hcap20⟩
            refine withPreds_cons rfl rfl ?_
            rintro _ rfl
            refine withPreds_cons rfl rfl ?_
            rintro _ rfl
            refine withPreds_cons rfl rfl ?_
            rintro _ ⟨a23, c23, rfl, hsl23, hcap23⟩
            refine withPreds_cons rfl rfl ?_
            rintro _ rfl
            refine withPreds_cons rfl rfl ?_
            rintro _ ⟨bs25, rfl, hsl25⟩
            refine withPreds_nil rfl ?_
            refine XO.appendP rfl hsl23 rfl rfl hsl25 rfl (by exact hcap23) Try.underlying22 ty_28 ze_28 rfl by_28 (by simp; omega) rfl (fun HA26 aA26 cA26 hleA26 hsA26 => ?_)
            replace hq := hq.mono hleA26
            replace hp := hp.mono hleA26
            replace hd := hd.mono hleA26
            replace hsl20 := hsl20.mono hleA26
            replace hsl23 := hsl23.mono hleA26
            replace hsl25 := hsl25.mono hleA26
            refine XO.fieldAddr rfl fa_25_0 rfl ?_
            refine XO.storeO 2 rfl rfl rfl rfl ty_22 rfl rfl rfl rfl rfl ?_
            refine XO.nil ?_
            refine XC.seq2 ?_
            refine XC.seq ?_
            refine XC.region ?_
            refine XO.loadO 2 rfl rfl ty_25 rfl rfl rfl ?_
            refine XO.storeO 0 rfl rfl rfl rfl ty_25 rfl rfl rfl rfl rfl ?_
            refine XO.assign rfl rfl ?_
            refine XO.nil ?_
            refine XC.seq2 ?_
            refine XC.ret ?_
            refine ⟨rfl, _, [], (resC_cell 0 rfl rfl ty_25 rfl rfl (resC_tmp rfl resC_nil)), (by repeat (first | exact List.Sublist.refl _ | apply List.Sublist.cons)), RetR.mk ?_⟩
            have hs : sendV n p = (⟨n.q ++ [p], n.ap⟩, 0) := by rw [sendV, if_neg (fun h => h ⟨hnet, hok⟩), if_neg (by omega)]
            rw [hs]
            exact ⟨_, rfl, _, _, _, _, rfl, by assumption, by assumption⟩
        · skip
          refine XC.keep [2, 3, 4] rfl ?_
          apply XC.drawH (fun _ => True) trivial [3] (by decide) (ownF pkR 28 n.q) (ownF_mono _ _ _) 6 [slF pkR [], eqF _, eqF _, anyF, eqF _, slF pkR [p]] follows (by kernel_rfl) ⟨slF_mono _ _, eqF_mono _, eqF_mono _, anyF_mono, eqF_mono _, slF_mono _ _, trivial⟩ (by decide) ?steps9 ?tail9
          case steps9 =>
            refine stepsH_cons rfl ?_ ?_
            · intro X ext HD hleD _
              replace hq := hq.mono hleD
              replace hp := hp.mono hleD
              replace hd := hd.mono hleD
              refine withP_nil rfl ?_
              refine XO.buildSlice rfl Try.underlying22 ty_28 ze_28 rfl rfl rfl (fun b20 => ?_)
              refine XO.publish 0 rfl rfl rfl (fun HP20 oP20 hleP20 hbP20 hoP20 => ?_)
              have hsl20 := SlR.lit (ρ := pkR) (l := []) hbP20 hoP20 rfl
              replace hq := hq.mono hleP20
              replace hp := hp.mono hleP20
              replace hd := hd.mono hleP20
              refine XO.nil ?_
              exact stepQN_ok rfl trivial (⟨_, rfl, hsl20⟩)
            refine stepsH_cons rfl ?_ ?_
            · intro X ext HD hleD _
              replace hq := hq.mono hleD
              replace hp := hp.mono hleD
              replace hd := hd.mono hleD
              refine withP_nil rfl ?_
              refine XO.fieldAddr rfl fa_25_0 rfl ?_
              refine XO.nil ?_
              exact stepQN_ok rfl trivial (rfl)
            refine stepsH_cons rfl ?_ ?_
            · intro X ext HD hleD _
              replace hq := hq.mono hleD
              replace hp := hp.mono hleD
              replace hd := hd.mono hleD
              refine withP_cons rfl rfl ?_
              rintro _ rfl
              refine withP_nil rfl ?_
              refine XO.loadO 2 rfl rfl ty_22 rfl rfl rfl ?_
              refine XO.nil ?_
              exact stepQN_ok rfl trivial (rfl)
            refine stepsH_cons rfl ?_ ?_
            · intro X ext HD hleD _
              replace hq := hq.mono hleD
              replace hp := hp.mono hleD
              replace hd := hd.mono hleD
              refine withP_cons rfl rfl ?_
              rintro _ ⟨bs20, rfl, hsl20⟩
              refine withP_cons rfl rfl ?_
              rintro _ rfl
              refine withP_nil rfl ?_
              refine XO.appendN rfl hsl20 rfl rfl hq rfl (by have := List.length_pos_iff.2 hq0; simp; omega) Try.underlying22 ty_28 ze_28 rfl by_28 (by simp; omega) rfl (fun pe ae ce hacc => ?_)
              refine XO.nil ?_
              exact stepQN_new rfl trivial trivial (⟨_, _, rfl, hacc⟩)
            refine stepsH_cons rfl ?_ ?_
            · intro X ext HD hleD _
              replace hq := hq.mono hleD
              replace hp := hp.mono hleD
              replace hd := hd.mono hleD
              refine withP_nil rfl ?_
              refine XO.loadO 1 rfl rfl ty_28 rfl rfl rfl ?_
              refine XO.nil ?_
              exact stepQN_ok rfl trivial (rfl)
            refine stepsH_cons rfl ?_ ?_
            · intro X ext HD hleD _
              replace hq := hq.mono hleD
              replace hp := hp.mono hleD
              replace hd := hd.mono hleD
              refine withP_cons rfl rfl ?_
              rintro _ rfl
              refine withP_nil rfl ?_
              refine XO.buildSlice rfl Try.underlying22 ty_28 ze_28 rfl rfl rfl (fun b25 => ?_)
              refine XO.publish 0 rfl rfl rfl (fun HP25 oP25 hleP25 hbP25 hoP25 => ?_)
              replace hq := hq.mono hleP25
              replace hp := hp.mono hleP25
              replace hd := hd.mono hleP25
              have hsl25 := SlR.lit (ρ := pkR) (l := [p]) hbP25 hoP25 (RowsR.one1 ⟨_, _, rfl, hd⟩)
              refine XO.nil ?_
              exact stepQN_ok rfl trivial (⟨_, rfl, hsl25⟩)
            exact stepsH_end rfl
          case tail9 =>
            intro HD hleD _
            replace hq := hq.mono hleD
            replace hp := hp.mono hleD
            replace hd := hd.mono hleD
            refine withP_cons rfl rfl ?_
            rintro _ ⟨bs20, rfl, hsl20⟩
            refine withP_cons rfl rfl ?_
            rintro _ rfl
            refine withP_cons rfl rfl ?_
            rintro _ rfl
            refine withP_cons rfl rfl ?_
            rintro _ _
            refine withP_cons rfl rfl ?_
            rintro _ rfl
            refine withP_cons rfl rfl ?_
            rintro _ ⟨bs25, rfl, hsl25⟩
            refine withP_nil rfl ?_
            refine withEnts_cons ?_
            intro pe hpe
            obtain ⟨ae, ce, rfl, hacce⟩ := hpe _ ⟨_, rfl, rfl⟩
            refine withEnts_nil ?_
            refine XO.appendA 0 rfl rfl hacce rfl rfl hsl25 rfl Try.underlying22 ty_28 ze_28 rfl by_28 (by simp; omega) rfl (fun p26 a26 c26 hacc26 => ?_)
            refine XO.fieldAddr rfl fa_25_0 rfl ?_
            refine XO.storeO 3 rfl rfl rfl rfl ty_22 rfl rfl rfl rfl rfl ?_
            refine XO.nil ?_
            refine XC.seq2 ?_
            refine XC.seq ?_
            refine XC.region ?_
            refine XO.publishA 0 rfl hacc26 rfl (fun HQ12 hleQ12 hsQ12 => ?_)
            replace hq := hq.mono hleQ12
            replace hp := hp.mono hleQ12
            replace hd := hd.mono hleQ12
            replace hsl20 := hsl20.mono hleQ12
            replace hsl25 := hsl25.mono hleQ12
            refine XO.loadO 2 rfl rfl ty_25 rfl rfl rfl ?_
            refine XO.storeO 0 rfl rfl rfl rfl ty_25 rfl rfl rfl rfl rfl ?_
            refine XO.assign rfl rfl ?_
            refine XO.nil ?_
            refine XC.seq2 ?_
            refine XC.ret ?_
            refine ⟨rfl, _, [], (resC_cell 0 rfl rfl ty_25 rfl rfl (resC_tmp rfl resC_nil)), (by repeat (first | exact List.Sublist.refl _ | apply List.Sublist.cons)), RetR.mk ?_⟩
            have hs : sendV n p = (⟨n.q ++ [p], n.ap⟩, 0) := by rw [sendV, if_neg (fun h => h ⟨hnet, hok⟩), if_neg (by omega)]
            rw [hs]
            exact ⟨_, rfl, _, _, _, _, rfl, by assumption, by assumption⟩
  · have g2p := of_decide_eq_true g2
    refine XO.guardF rfl rfl (g2) rfl rfl ?_
    refine XO.guardF rfl rfl (g2) rfl rfl ?_
    refine XO.pickT rfl (g2) rfl rfl ?_
    refine XO.nil ?_
    refine XC.seq2 ?_
    refine XC.condT rfl (rfl) ?_
    refine XC.seq ?_
    refine XC.region ?_
    refine XO.build bk_25 bf_25 ze_25 rfl rfl rfl ?_
    refine XO.storeO 0 rfl rfl rfl rfl ty_25 rfl rfl rfl rfl rfl ?_
    refine XO.assign rfl rfl ?_
    refine XO.nil ?_
    refine XC.seq2 ?_
    refine XC.ret ?_
    refine seqX_ret ?_
    refine ⟨rfl, _, [], (resC_cell 0 rfl rfl ty_25 rfl rfl (resC_tmp rfl resC_nil)), (by repeat (first | exact List.Sublist.refl _ | apply List.Sublist.cons)), RetR.mk ?_⟩
    rw [show sendV n p = (⟨[], []⟩, 60) from if_pos (fun h => absurd (chk_ok h.1) (by assumption))]
    exact ⟨_, rfl, NtV.nil _⟩

theorem at_fn (aq ap : Option Addr) (cq cp : Nat) (n : Nt) (i : Int) (H : Hp) (hq : SlR pkR H aq cq n.q) (hp : SlR pairR H ap cp n.ap) (hlq : n.q.length < 4611686018427387904) (hlp : n.ap.length < 4611686018427387904) : FnC Try.prog 35 #[.agg ⟨[.slice aq n.q.length cq, .slice ap n.ap.length cp]⟩, .int .i64 i] H [] (RetR fun v H _ => ∃ v1, v = .tuple #[v1, .int .i64 (askE n i)] ∧ PkV H v1 (atR n i)) := by
  refine FnC.introC (args := [.agg ⟨[.slice aq n.q.length cq, .slice ap n.ap.length cp]⟩, .int .i64 i]) Try.func35 rfl rfl Try.ntmps35 rfl rfl rfl fun G rest => ?_
  refine XC.seq ?_
  refine XC.region ?_
  refine XO.box rfl rfl rfl (fun b2 => ?_)
  refine XO.alloc ze_28 rfl (fun b4 => ?_)
  refine XO.assign rfl rfl ?_
  refine XO.nil ?_
  refine XC.seq2 ?_
  refine XC.seq ?_
  refine XC.seq ?_
  refine XC.region ?_
  refine XO.loadO 1 rfl rfl ty_25 rfl rfl rfl ?_
  refine XO.callV rfl (check_fn _ _ _ _ _ _ (by assumption) (by assumption) (by omega) (by omega)) rfl ?_
  refine XO.neq rfl rfl rfl ?_
  refine XO.nil ?_
  refine XC.seq2 ?_
  refine XC.cond rfl (fun c0_2 => ?_) (fun c0_2 => ?_)
  · refine XC.seq ?_
    refine XC.region ?_
    refine XO.loadO 0 rfl rfl ty_28 rfl rfl rfl ?_
    refine XO.storeO 0 rfl rfl rfl rfl ty_28 rfl rfl rfl rfl rfl ?_
    refine XO.assign rfl rfl ?_
    refine XO.nil ?_
    refine XC.seq2 ?_
    refine XC.ret ?_
    refine seqX_ret ?_
    refine ⟨rfl, _, [], (resC_cell 0 rfl rfl ty_28 rfl rfl (resC_tmp rfl resC_nil)), (by repeat (first | exact List.Sublist.refl _ | apply List.Sublist.cons)), RetR.mk ?_⟩
    have hask : askE n i = 60 := ask_net (fun h => absurd (chk_ok h) (by assumption))
    rw [atR, hask, if_pos (by decide)]
    exact ⟨_, rfl, PkV.nil _⟩
  · have hnet : netOk n := chk_eq.1 (by omega)
    refine XC.skip ?_
    refine XC.seq2 ?_
    refine XC.seq ?_
    refine XC.seq ?_
    refine XC.region ?_
    refine XO.move rfl rfl ?_
    refine XO.lss rfl rfl rfl ?_
    refine XO.move rfl rfl ?_
    refine XO.guardC rfl rfl rfl rfl (fun g3 => ?_) (fun g3 => ?_)
    · have g3p := of_decide_eq_false g3
      refine XO.move rfl rfl ?_
      refine XO.guardT rfl rfl (g3) rfl ?_
      refine XO.fieldAddr rfl fa_25_0 rfl ?_
      refine XO.guardT rfl rfl (g3) rfl ?_
      refine XO.loadO 1 rfl rfl ty_22 rfl rfl rfl ?_
      refine XO.guardT rfl rfl (g3) rfl ?_
      refine XO.lenS (ts := #[]) rfl Try.underlying22 rfl ?_
      refine XO.guardT rfl rfl (g3) rfl ?_
      refine XO.geq rfl rfl rfl ?_
      refine XO.pickF rfl (g3) rfl rfl ?_
      refine XO.nil ?_
      refine XC.seq2 ?_
      refine XC.cond rfl (fun c1_4 => ?_) (fun c1_4 => ?_)
      · refine XC.seq ?_
        refine XC.region ?_
        refine XO.loadO 0 rfl rfl ty_28 rfl rfl rfl ?_
        refine XO.storeO 0 rfl rfl rfl rfl ty_28 rfl rfl rfl rfl rfl ?_
        refine XO.assign rfl rfl ?_
        refine XO.nil ?_
        refine XC.seq2 ?_
        refine XC.ret ?_
        refine seqX_ret ?_
        refine ⟨rfl, _, [], (resC_cell 0 rfl rfl ty_28 rfl rfl (resC_tmp rfl resC_nil)), (by repeat (first | exact List.Sublist.refl _ | apply List.Sublist.cons)), RetR.mk ?_⟩
        have hask : askE n i = 1 := ask_arg hnet (by omega)
        rw [atR, hask, if_pos (by decide)]
        exact ⟨_, rfl, PkV.nil _⟩
      · obtain ⟨k, rfl⟩ : ∃ k : Nat, i = k := ⟨i.toNat, by omega⟩
        refine XC.skip ?_
        refine XC.seq2 ?_
        refine XC.seq ?_
        refine XC.region ?_
        refine XO.fieldAddr rfl fa_25_0 rfl ?_
        refine XO.loadO 1 rfl rfl ty_22 rfl rfl rfl ?_
        refine XO.move rfl rfl ?_
        refine XO.indexN rfl (by assumption) rfl Try.underlying22 ty_28 (by omega) rfl ?_
        rintro eb23 eo23 _ x23 hx23 ⟨ax23, cx23, rfl, hd23⟩ hp23
        refine XO.loadH rfl (by assumption) ty_28 rfl rfl rfl ?_
        refine XO.storeO 0 rfl rfl rfl rfl ty_28 rfl rfl rfl rfl rfl ?_
        refine XO.assign rfl rfl ?_
        refine XO.nil ?_
        refine XC.seq2 ?_
        refine XC.ret ?_
        refine ⟨rfl, _, [], (resC_cell 0 rfl rfl ty_28 rfl rfl (resC_tmp rfl resC_nil)), (by repeat (first | exact List.Sublist.refl _ | apply List.Sublist.cons)), RetR.mk ?_⟩
        have hask : askE n (k : Int) = 0 := ask_ok hnet (by omega)
        rw [atR, hask, if_neg (by decide), atP_get hx23]
        exact ⟨_, rfl, _, _, rfl, hd23⟩
    · have g3p := of_decide_eq_true g3
      refine XO.guardF rfl rfl (g3) rfl rfl ?_
      refine XO.guardF rfl rfl (g3) rfl rfl ?_
      refine XO.guardF rfl rfl (g3) rfl rfl ?_
      refine XO.guardF rfl rfl (g3) rfl rfl ?_
      refine XO.pickT rfl (g3) rfl rfl ?_
      refine XO.nil ?_
      refine XC.seq2 ?_
      refine XC.condT rfl (rfl) ?_
      refine XC.seq ?_
      refine XC.region ?_
      refine XO.loadO 0 rfl rfl ty_28 rfl rfl rfl ?_
      refine XO.storeO 0 rfl rfl rfl rfl ty_28 rfl rfl rfl rfl rfl ?_
      refine XO.assign rfl rfl ?_
      refine XO.nil ?_
      refine XC.seq2 ?_
      refine XC.ret ?_
      refine seqX_ret ?_
      refine ⟨rfl, _, [], (resC_cell 0 rfl rfl ty_28 rfl rfl (resC_tmp rfl resC_nil)), (by repeat (first | exact List.Sublist.refl _ | apply List.Sublist.cons)), RetR.mk ?_⟩
      have hask : askE n i = 1 := ask_arg hnet (by omega)
      rw [atR, hask, if_pos (by decide)]
      exact ⟨_, rfl, PkV.nil _⟩

theorem indexp_fn (a : Option Addr) (c : Nat) (l : List (Int × Int)) (x : Int × Int) (H : Hp) (hs : SlR pairR H a c l) (hl : l.length < 4611686018427387904) : FnC Try.prog 45 #[.slice a l.length c, .agg ⟨[.int .i64 x.1, .int .i64 x.2]⟩] H [] (RetR fun v _ _ => ∃ i : Int, v = .int .i64 i ∧ (0 ≤ i ↔ x ∈ l)) := by
  refine FnC.intro (args := [.slice a l.length c, .agg ⟨[.int .i64 x.1, .int .i64 x.2]⟩]) Try.func45 rfl rfl Try.ntmps45 rfl rfl rfl fun G rest => ?_
  refine XC.seq ?_
  refine XC.region ?_
  refine XO.box rfl rfl rfl (fun b3 => ?_)
  refine XO.assign rfl rfl ?_
  refine XO.nil ?_
  refine XC.seq2 ?_
  refine XC.seq ?_
  refine XC.seq ?_
  refine XC.region ?_
  refine XO.move rfl rfl ?_
  refine XO.lenS (ts := #[]) rfl Try.underlying23 rfl ?_
  refine XO.move rfl rfl ?_
  refine XO.nil ?_
  refine XC.seq2 ?_
  refine XC.block ?_
  refine XC.keep [8, 0, 3, 7] rfl ?_
  refine XC.loop (base := [(0, _), (3, _), (7, _)]) (fun ζ : Nat => [(8, .int .i64 (ζ : Nat))]) (fun ζ Hl own => ζ ≤ l.length ∧ (b3, .cells 55 [.int .i64 x.1, .int .i64 x.2]) :: rest = own ∧ (∀ z ∈ l.take ζ, z ≠ x)) (fun ζ => l.length - ζ) 0 (prov_cons (rfl) (prov_cons (rfl) (prov_cons (rfl) (prov_cons (rfl) prov_nil)))) (by repeat (first | exact List.Sublist.refl _ | apply List.Sublist.cons_cons | apply List.Sublist.cons)) ⟨Nat.zero_le _, rfl, by simp⟩ ?_
  rintro k Hl0 _ hle0 ⟨hkk, rfl, hno⟩
  replace hs := hs.mono hle0
  try dsimp only at ⊢
  refine XC.seq ?_
  refine XC.region ?_
  refine XO.lss rfl rfl rfl ?_
  refine XO.nil ?_
  refine XC.seq2 ?_
  refine XC.seq ?_
  refine XC.cond rfl (fun c0_1 => ?_) (fun c0_1 => ?_)
  · refine XC.skip ?_
    refine XC.seq2 ?_
    refine XC.seq ?_
    refine XC.block ?_
    refine XC.seq ?_
    refine XC.region ?_
    refine XO.move rfl rfl ?_
    refine XO.assign rfl rfl ?_
    refine XO.nil ?_
    refine XC.seq2 ?_
    refine XC.seq ?_
    refine XC.keep [0, 3, 5, 7, 8] rfl ?_
    obtain ⟨bE1, oE1, rfl⟩ := hs.addr (by omega)
    obtain ⟨_, x1, hx1, rfl, hp1⟩ := hs.elem (k) (by omega)
    apply XC.draw 5 [eqF _, eqF _, eqF _, eqF _, eqF _] follows (by kernel_rfl) (by kernel_rfl) ⟨eqF_mono _, eqF_mono _, eqF_mono _, eqF_mono _, eqF_mono _, trivial⟩ ?steps2 ?tail2
    case steps2 =>
      refine stepsK_cons rfl ?_ ?_
      · intro X
        refine withPreds_nil rfl ?_
        refine XO.loadO 0 rfl rfl ty_55 rfl rfl rfl ?_
        refine XO.nil ?_
        exact stepQ_ok rfl (rfl)
      refine stepsK_cons rfl ?_ ?_
      · intro X
        refine withPreds_nil rfl ?_
        refine XO.move rfl rfl ?_
        refine XO.nil ?_
        exact stepQ_ok rfl (rfl)
      refine stepsK_cons rfl ?_ ?_
      · intro X
        refine withPreds_nil rfl ?_
        refine XO.move rfl rfl ?_
        refine XO.nil ?_
        exact stepQ_ok rfl (rfl)
      refine stepsK_cons rfl ?_ ?_
      · intro X
        refine withPreds_cons rfl rfl ?_
        rintro _ rfl
        refine withPreds_cons rfl rfl ?_
        rintro _ rfl
        refine withPreds_nil rfl ?_
        refine XO.indexE rfl rfl Try.underlying23 ty_55 (by omega) (by omega) rfl ?_
        refine XO.nil ?_
        exact stepQ_ok rfl (rfl)
      refine stepsK_cons rfl ?_ ?_
      · intro X
        refine withPreds_cons rfl rfl ?_
        rintro _ rfl
        refine withPreds_nil rfl ?_
        refine XO.loadH rfl (by assumption) ty_55 rfl rfl rfl ?_
        refine XO.nil ?_
        exact stepQ_ok rfl (rfl)
      exact stepsD_end rfl
    case tail2 =>
      refine withPreds_cons rfl rfl ?_
      rintro _ rfl
      refine withPreds_cons rfl rfl ?_
      rintro _ rfl
      refine withPreds_cons rfl rfl ?_
      rintro _ rfl
      refine withPreds_cons rfl rfl ?_
      rintro _ rfl
      refine withPreds_cons rfl rfl ?_
      rintro _ rfl
      refine withPreds_nil rfl ?_
      refine XO.eqlA2 rfl rfl Try.underlying55 eg_55 Try.underlying3 ty_3 rfl ?_
      refine XO.nil ?_
      refine XC.seq2 ?_
      refine XC.cond rfl (fun c1_4 => ?_) (fun c1_4 => ?_)
      · refine XC.seq ?_
        refine XC.region ?_
        refine XO.move rfl rfl ?_
        refine XO.assign rfl rfl ?_
        refine XO.nil ?_
        refine XC.seq2 ?_
        refine XC.ret ?_
        refine blockR ?_
        refine seqX_ret ?_
        refine loopX_ret ?_
        refine blockR ?_
        refine seqX_ret ?_
        refine ⟨rfl, _, [], rfl, (by repeat (first | exact List.Sublist.refl _ | apply List.Sublist.cons)), RetR.mk ?_⟩
        exact ⟨_, rfl, ⟨fun _ => by have e : (x.1, x.2) = (x1.1, x1.2) := (by assumption); rw [show x = x1 from Prod.ext (congrArg Prod.fst e) (congrArg Prod.snd e)]; exact List.mem_of_getElem? hx1, fun _ => by omega⟩⟩
      · refine XC.skip ?_
        refine blockN ?_
        refine XC.seq2 ?_
        refine XC.region ?_
        refine XO.add rfl rfl (wrap_i64 (by omega) (by omega)) rfl ?_
        refine XO.move rfl rfl ?_
        refine XO.nil ?_
        refine loop_next (k + 1) (by show l.length - (k + 1) < l.length - k; omega) (prov_cons (rfl) (prov_cons (rfl) (prov_cons (rfl) (prov_cons (rfl) prov_nil)))) (⟨by show k + 1 ≤ l.length; omega, rfl, mem_take_snoc hno hx1 (fun e => by subst e; simp_all)⟩) (by repeat (first | exact List.Sublist.refl _ | apply List.Sublist.cons_cons | apply List.Sublist.cons)) (hle0)
  · obtain rfl : k = l.length := by omega
    rw [List.take_length] at hno
    refine XC.exit ?_
    refine seqX_exit ?_
    refine loopX_exit ?_
    refine blockHit rfl ?_
    refine XC.seq2 ?_
    refine XC.seq ?_
    refine XC.region ?_
    refine XO.assign rfl rfl ?_
    refine XO.nil ?_
    refine XC.seq2 ?_
    refine XC.ret ?_
    refine ⟨rfl, _, [], rfl, (by repeat (first | exact List.Sublist.refl _ | apply List.Sublist.cons)), RetR.mk ?_⟩
    exact ⟨-1, rfl, ⟨fun h => absurd h (by decide), fun h => absurd rfl (hno x h)⟩⟩

theorem containsp_fn (a : Option Addr) (c : Nat) (l : List (Int × Int)) (x : Int × Int) (H : Hp) (hs : SlR pairR H a c l) (hl : l.length < 4611686018427387904) : FnC Try.prog 36 #[.slice a l.length c, .agg ⟨[.int .i64 x.1, .int .i64 x.2]⟩] H [] (RetR fun v _ _ => v = .bool (decide (x ∈ l))) := by
  refine FnC.intro (args := [.slice a l.length c, .agg ⟨[.int .i64 x.1, .int .i64 x.2]⟩]) Try.func36 rfl rfl Try.ntmps36 rfl rfl rfl fun G rest => ?_
  refine XC.seq ?_
  refine XC.region ?_
  refine XO.box rfl rfl rfl (fun b3 => ?_)
  refine XO.assign rfl rfl ?_
  refine XO.nil ?_
  refine XC.seq2 ?_
  refine XC.seq ?_
  refine XC.region ?_
  refine XO.move rfl rfl ?_
  refine XO.loadO 0 rfl rfl ty_55 rfl rfl rfl ?_
  refine XO.callK rfl (indexp_fn _ _ _ x _ hs hl) rfl ?_
  rintro _ ⟨iX, rfl, hX⟩
  refine XO.geq rfl rfl rfl ?_
  refine XO.assign rfl rfl ?_
  refine XO.nil ?_
  refine XC.seq2 ?_
  refine XC.ret ?_
  refine ⟨rfl, _, [], rfl, (by repeat (first | exact List.Sublist.refl _ | apply List.Sublist.cons)), RetR.mk ?_⟩
  exact congrArg Value.bool (by rw [decide_eq_decide]; exact hX)

theorem without_fn (aq ap : Option Addr) (cq cp : Nat) (n : Nt) (k : Nat) (H : Hp) (hq : SlR pkR H aq cq n.q) (hp : SlR pairR H ap cp n.ap) (hlq : n.q.length < 4611686018427387904) (hlp : n.ap.length < 4611686018427387904) (hk : k < n.q.length) (hk2 : n.q.length ≤ 4096) : FnC Try.prog 38 #[.agg ⟨[.slice aq n.q.length cq, .slice ap n.ap.length cp]⟩, .int .i64 (k : Nat)] H [] (RetR fun v H _ => NtV H v ⟨withoutL n.q k, n.ap⟩) := by
  refine FnC.introC (args := [.agg ⟨[.slice aq n.q.length cq, .slice ap n.ap.length cp]⟩, .int .i64 (k : Nat)]) Try.func38 rfl rfl Try.ntmps38 rfl rfl rfl fun G rest => ?_
  have hqle := hq.le
  refine XC.seq ?_
  refine XC.region ?_
  refine XO.box rfl rfl rfl (fun b2 => ?_)
  refine XO.alloc ze_25 rfl (fun b4 => ?_)
  refine XO.nil ?_
  refine XC.seq2 ?_
  refine XC.seq ?_
  refine XC.keep [1, 2, 4] rfl ?_
  apply XC.draw 10 [eqF _, eqF _, eqF _, eqF _, slCap pkR (n.q.take k), eqF _, eqF _, eqF _, eqF _, slG pkR (n.q.drop (k + 1))] follows (by kernel_rfl) (by kernel_rfl) ⟨eqF_mono _, eqF_mono _, eqF_mono _, eqF_mono _, slCap_mono _ _, eqF_mono _, eqF_mono _, eqF_mono _, eqF_mono _, slG_mono _ _, trivial⟩ ?steps1 ?tail1
  case steps1 =>
    refine stepsK_cons rfl ?_ ?_
    · intro X
      refine withPreds_nil rfl ?_
      refine XO.fieldAddr rfl fa_25_0 rfl ?_
      refine XO.nil ?_
      exact stepQ_ok rfl (rfl)
    refine stepsK_cons rfl ?_ ?_
    · intro X
      refine withPreds_cons rfl rfl ?_
      rintro _ rfl
      refine withPreds_nil rfl ?_
      refine XO.loadO 1 rfl rfl ty_22 rfl rfl rfl ?_
      refine XO.nil ?_
      exact stepQ_ok rfl (rfl)
    refine stepsK_cons rfl ?_ ?_
    · intro X
      refine withPreds_nil rfl ?_
      refine XO.move rfl rfl ?_
      refine XO.nil ?_
      exact stepQ_ok rfl (rfl)
    refine stepsK_cons rfl ?_ ?_
    · intro X
      refine withPreds_nil rfl ?_
      refine XO.move rfl rfl ?_
      refine XO.nil ?_
      exact stepQ_ok rfl (rfl)
    refine stepsK_cons rfl ?_ ?_
    · intro X
      refine withPreds_cons rfl rfl ?_
      rintro _ rfl
      refine withPreds_cons rfl rfl ?_
      rintro _ rfl
      refine withPreds_cons rfl rfl ?_
      rintro _ rfl
      refine withPreds_nil rfl ?_
      refine XO.slice (lo' := 0) (hi' := (k : Int)) (m' := (k : Int)) rfl (by assumption) ev?_none (ev?_some rfl) (ev?_some rfl) (by simp) (by omega) (by omega) (by omega) (by omega) (by omega) Try.underlying22 ty_28 rfl (fun as9 ls9 hls9 hss9 => ?_)
      obtain rfl : ls9 = n.q.take k := by first | (rw [hls9]; simp; done) | (rw [hls9]; simp; rw [List.take_of_length_le (by simp)])
      refine XO.nil ?_
      exact stepQ_ok rfl (⟨_, _, rfl, hss9, by simp; omega⟩)
    refine stepsK_cons rfl ?_ ?_
    · intro X
      refine withPreds_nil rfl ?_
      refine XO.fieldAddr rfl fa_25_0 rfl ?_
      refine XO.nil ?_
      exact stepQ_ok rfl (rfl)
    refine stepsK_cons rfl ?_ ?_
    · intro X
      refine withPreds_cons rfl rfl ?_
      rintro _ rfl
      refine withPreds_nil rfl ?_
      refine XO.loadO 1 rfl rfl ty_22 rfl rfl rfl ?_
      refine XO.nil ?_
      exact stepQ_ok rfl (rfl)
    refine stepsK_cons rfl ?_ ?_
    · intro X
      refine withPreds_nil rfl ?_
      refine XO.move rfl rfl ?_
      refine XO.nil ?_
      exact stepQ_ok rfl (rfl)
    refine stepsK_cons rfl ?_ ?_
    · intro X
      refine withPreds_cons rfl rfl ?_
      rintro _ rfl
      refine withPreds_nil rfl ?_
      refine XO.add rfl rfl (wrap_i64 (by omega) (by omega)) rfl ?_
      refine XO.nil ?_
      exact stepQ_ok rfl (rfl)
    refine stepsK_cons rfl ?_ ?_
    · intro X
      refine withPreds_cons rfl rfl ?_
      rintro _ rfl
      refine withPreds_cons rfl rfl ?_
      rintro _ rfl
      refine withPreds_nil rfl ?_
      refine XO.slice (lo' := (k : Int) + 1) (hi' := (n.q.length : Int)) (m' := (cq : Int)) rfl (by assumption) (ev?_some rfl) ev?_none ev?_none (by simp) (by omega) (by omega) (by omega) (by omega) (by omega) Try.underlying22 ty_28 rfl (fun as14 ls14 hls14 hss14 => ?_)
      obtain rfl : ls14 = n.q.drop (k + 1) := by first | (rw [hls14]; simp; done) | (rw [hls14]; simp; rw [List.take_of_length_le (by simp)])
      refine XO.nil ?_
      exact stepQ_ok rfl (⟨_, _, rfl, hss14⟩)
    exact stepsD_end rfl
  case tail1 =>
    refine withPreds_cons rfl rfl ?_
    rintro _ rfl
    refine withPreds_cons rfl rfl ?_
    rintro _ rfl
    refine withPreds_cons rfl rfl ?_
    rintro _ rfl
    refine withPreds_cons rfl rfl ?_
    rintro _ rfl
    refine withPreds_cons rfl rfl ?_
    rintro _ ⟨a9, c9, rfl, hsl9, hcap9⟩
    refine withPreds_cons rfl rfl ?_
    rintro _ rfl
    refine withPreds_cons rfl rfl ?_
    rintro _ rfl
    refine withPreds_cons rfl rfl ?_
    rintro _ rfl
    refine withPreds_cons rfl rfl ?_
    rintro _ rfl
    refine withPreds_cons rfl rfl ?_
    rintro _ ⟨a14, c14, rfl, hsl14⟩
    refine withPreds_nil rfl ?_
    refine XO.appendP rfl hsl9 rfl rfl hsl14 rfl (by exact hcap9) Try.underlying22 ty_28 ze_28 rfl by_28 (by simp; omega) rfl (fun HA15 aA15 cA15 hleA15 hsA15 => ?_)
    replace hq := hq.mono hleA15
    replace hp := hp.mono hleA15
    replace hsl9 := hsl9.mono hleA15
    replace hsl14 := hsl14.mono hleA15
    refine XO.fieldAddr rfl fa_25_0 rfl ?_
    refine XO.storeO 1 rfl rfl rfl rfl ty_22 rfl rfl rfl rfl rfl ?_
    refine XO.nil ?_
    refine XC.seq2 ?_
    refine XC.seq ?_
    refine XC.region ?_
    refine XO.loadO 1 rfl rfl ty_25 rfl rfl rfl ?_
    refine XO.storeO 0 rfl rfl rfl rfl ty_25 rfl rfl rfl rfl rfl ?_
    refine XO.nil ?_
    refine XC.seq2 ?_
    refine XC.ret ?_
    refine ⟨rfl, _, [], (resC_cell 0 rfl rfl ty_25 rfl rfl resC_nil), (by repeat (first | exact List.Sublist.refl _ | apply List.Sublist.cons)), RetR.mk ?_⟩
    exact ⟨_, _, _, _, rfl, by assumption, by assumption⟩

theorem asked_fn (aq ap : Option Addr) (cq cp : Nat) (n : Nt) (i : Int) (H : Hp) (hq : SlR pkR H aq cq n.q) (hp : SlR pairR H ap cp n.ap) (hlq : n.q.length < 4611686018427387904) (hlp : n.ap.length < 4611686018427387904) : FnC Try.prog 41 #[.agg ⟨[.slice aq n.q.length cq, .slice ap n.ap.length cp]⟩, .int .i64 i] H [] (RetR fun v _ _ => v = .int .i64 (askE n i)) := by
  refine FnC.intro (args := [.agg ⟨[.slice aq n.q.length cq, .slice ap n.ap.length cp]⟩, .int .i64 i]) Try.func41 rfl rfl Try.ntmps41 rfl rfl rfl fun G rest => ?_
  refine XC.seq ?_
  refine XC.region ?_
  refine XO.box rfl rfl rfl (fun b2 => ?_)
  refine XO.assign rfl rfl ?_
  refine XO.nil ?_
  refine XC.seq2 ?_
  refine XC.seq ?_
  refine XC.seq ?_
  refine XC.region ?_
  refine XO.loadO 0 rfl rfl ty_25 rfl rfl rfl ?_
  refine XO.callV rfl (rcheck_fn _ _ _ _ _ _ (by assumption) (by assumption) (by omega) (by omega)) rfl ?_
  refine XO.neq rfl rfl rfl ?_
  refine XO.nil ?_
  refine XC.seq2 ?_
  refine XC.cond rfl (fun c0_2 => ?_) (fun c0_2 => ?_)
  · refine XC.seq ?_
    refine XC.region ?_
    refine XO.assign rfl rfl ?_
    refine XO.nil ?_
    refine XC.seq2 ?_
    refine XC.ret ?_
    refine seqX_ret ?_
    refine ⟨rfl, _, [], rfl, (by repeat (first | exact List.Sublist.refl _ | apply List.Sublist.cons)), RetR.mk ?_⟩
    have hask : askE n i = 60 := ask_net (fun h => absurd (chk_ok h) (by assumption))
    rw [hask]; rfl
  · have hnet : netOk n := chk_eq.1 (by omega)
    refine XC.skip ?_
    refine XC.seq2 ?_
    refine XC.seq ?_
    refine XC.seq ?_
    refine XC.region ?_
    refine XO.move rfl rfl ?_
    refine XO.lss rfl rfl rfl ?_
    refine XO.move rfl rfl ?_
    refine XO.guardC rfl rfl rfl rfl (fun g3 => ?_) (fun g3 => ?_)
    · have g3p := of_decide_eq_false g3
      refine XO.move rfl rfl ?_
      refine XO.guardT rfl rfl (g3) rfl ?_
      refine XO.fieldAddr rfl fa_25_0 rfl ?_
      refine XO.guardT rfl rfl (g3) rfl ?_
      refine XO.loadO 0 rfl rfl ty_22 rfl rfl rfl ?_
      refine XO.guardT rfl rfl (g3) rfl ?_
      refine XO.lenS (ts := #[]) rfl Try.underlying22 rfl ?_
      refine XO.guardT rfl rfl (g3) rfl ?_
      refine XO.geq rfl rfl rfl ?_
      refine XO.pickF rfl (g3) rfl rfl ?_
      refine XO.nil ?_
      refine XC.seq2 ?_
      refine XC.cond rfl (fun c1_4 => ?_) (fun c1_4 => ?_)
      · refine XC.seq ?_
        refine XC.region ?_
        refine XO.assign rfl rfl ?_
        refine XO.nil ?_
        refine XC.seq2 ?_
        refine XC.ret ?_
        refine seqX_ret ?_
        refine ⟨rfl, _, [], rfl, (by repeat (first | exact List.Sublist.refl _ | apply List.Sublist.cons)), RetR.mk ?_⟩
        have hask : askE n i = 1 := ask_arg hnet (by omega)
        rw [hask]; rfl
      · refine XC.skip ?_
        refine XC.seq2 ?_
        refine XC.seq ?_
        refine XC.region ?_
        refine XO.assign rfl rfl ?_
        refine XO.nil ?_
        refine XC.seq2 ?_
        refine XC.ret ?_
        refine ⟨rfl, _, [], rfl, (by repeat (first | exact List.Sublist.refl _ | apply List.Sublist.cons)), RetR.mk ?_⟩
        obtain ⟨k, rfl⟩ : ∃ k : Nat, i = k := ⟨i.toNat, by omega⟩
        have hask : askE n (k : Int) = 0 := ask_ok hnet (by omega)
        rw [hask]; rfl
    · have g3p := of_decide_eq_true g3
      refine XO.guardF rfl rfl (g3) rfl rfl ?_
      refine XO.guardF rfl rfl (g3) rfl rfl ?_
      refine XO.guardF rfl rfl (g3) rfl rfl ?_
      refine XO.guardF rfl rfl (g3) rfl rfl ?_
      refine XO.pickT rfl (g3) rfl rfl ?_
      refine XO.nil ?_
      refine XC.seq2 ?_
      refine XC.condT rfl (rfl) ?_
      refine XC.seq ?_
      refine XC.region ?_
      refine XO.assign rfl rfl ?_
      refine XO.nil ?_
      refine XC.seq2 ?_
      refine XC.ret ?_
      refine seqX_ret ?_
      refine ⟨rfl, _, [], rfl, (by repeat (first | exact List.Sublist.refl _ | apply List.Sublist.cons)), RetR.mk ?_⟩
      have hask : askE n i = 1 := ask_arg hnet (by omega)
      rw [hask]; rfl

theorem isCut_fn (aq ap : Option Addr) (cq cp : Nat) (n : Nt) (a b : Int) (H : Hp) (hq : SlR pkR H aq cq n.q) (hp : SlR pairR H ap cp n.ap) (hlq : n.q.length < 4611686018427387904) (hlp : n.ap.length < 4611686018427387904) : FnC Try.prog 40 #[.agg ⟨[.slice aq n.q.length cq, .slice ap n.ap.length cp]⟩, .int .i64 a, .int .i64 b] H [] (RetR fun v _ _ => v = .bool (isCut n a b)) := by
  refine FnC.intro (args := [.agg ⟨[.slice aq n.q.length cq, .slice ap n.ap.length cp]⟩, .int .i64 a, .int .i64 b]) Try.func40 rfl rfl Try.ntmps40 rfl rfl rfl fun G rest => ?_
  refine XC.seq ?_
  refine XC.region ?_
  refine XO.box rfl rfl rfl (fun b3 => ?_)
  refine XO.assign rfl rfl ?_
  refine XO.nil ?_
  refine XC.seq2 ?_
  refine XC.seq ?_
  refine XC.seq ?_
  refine XC.region ?_
  refine XO.assign rfl rfl ?_
  refine XO.nil ?_
  refine XC.seq2 ?_
  refine XC.block ?_
  refine XC.keep [7, 1, 2, 3] rfl ?_
  refine XC.loop (base := [(1, _), (2, _), (3, _)]) (fun ζ : Nat => [(7, .int .i64 (ζ : Nat))]) (fun ζ Hl own => ζ ≤ n.ap.length ∧ (b3, .cells 25 [.slice aq n.q.length cq, .slice ap n.ap.length cp]) :: rest = own ∧ (∀ z ∈ n.ap.take ζ, z ≠ lnk a b)) (fun ζ => n.ap.length - ζ) 0 (prov_cons (rfl) (prov_cons (rfl) (prov_cons (rfl) (prov_cons (rfl) prov_nil)))) (by repeat (first | exact List.Sublist.refl _ | apply List.Sublist.cons_cons | apply List.Sublist.cons)) ⟨Nat.zero_le _, rfl, by simp⟩ ?_
  rintro k Hl0 _ hle0 ⟨hkk, rfl, hno⟩
  replace hq := hq.mono hle0
  replace hp := hp.mono hle0
  try dsimp only at ⊢
  refine XC.seq ?_
  refine XC.seq ?_
  refine XC.region ?_
  refine XO.move rfl rfl ?_
  refine XO.fieldAddr rfl fa_25_1 rfl ?_
  refine XO.loadO 0 rfl rfl ty_23 rfl rfl rfl ?_
  refine XO.lenS (ts := #[]) rfl Try.underlying23 rfl ?_
  refine XO.lss rfl rfl rfl ?_
  refine XO.nil ?_
  refine XC.seq2 ?_
  refine XC.cond rfl (fun c0_1 => ?_) (fun c0_1 => ?_)
  · refine XC.skip ?_
    refine XC.seq2 ?_
    refine XC.seq ?_
    refine XC.block ?_
    refine XC.seq ?_
    refine XC.region ?_
    refine XO.fieldAddr rfl fa_25_1 rfl ?_
    refine XO.loadO 0 rfl rfl ty_23 rfl rfl rfl ?_
    refine XO.move rfl rfl ?_
    refine XO.indexN rfl (by assumption) rfl Try.underlying23 ty_55 (by omega) rfl ?_
    rintro eb18 eo18 _ x18 hx18 rfl hp18
    refine XO.indexArr rfl rfl Try.underlying55 ty_3 (by first | decide | omega) (by first | decide | omega) rfl ?_
    refine XO.loadHF rfl (by assumption) ty_3 rfl rfl rfl ?_
    refine XO.move rfl rfl ?_
    refine XO.move rfl rfl ?_
    refine XO.minI2 rfl rfl rfl ?_
    refine XO.eql rfl rfl rfl ?_
    refine XO.move rfl rfl ?_
    refine XO.guardC rfl rfl rfl rfl (fun g3 => ?_) (fun g3 => ?_)
    · have g3p := of_decide_eq_true g3
      refine XO.fieldAddr rfl fa_25_1 rfl ?_
      refine XO.guardT rfl rfl (g3) rfl ?_
      refine XO.loadO 0 rfl rfl ty_23 rfl rfl rfl ?_
      refine XO.guardT rfl rfl (g3) rfl ?_
      refine XO.move rfl rfl ?_
      refine XO.guardT rfl rfl (g3) rfl ?_
      refine XO.indexN rfl (by assumption) rfl Try.underlying23 ty_55 (by omega) rfl ?_
      rintro eb29 eo29 _ x29 hx29 rfl hp29
      refine XO.guardT rfl rfl (g3) rfl ?_
      refine XO.indexArr rfl rfl Try.underlying55 ty_3 (by first | decide | omega) (by first | decide | omega) rfl ?_
      refine XO.guardT rfl rfl (g3) rfl ?_
      refine XO.loadHF rfl (by assumption) ty_3 rfl rfl rfl ?_
      refine XO.guardT rfl rfl (g3) rfl ?_
      refine XO.move rfl rfl ?_
      refine XO.guardT rfl rfl (g3) rfl ?_
      refine XO.move rfl rfl ?_
      refine XO.guardT rfl rfl (g3) rfl ?_
      refine XO.maxI2 rfl rfl rfl ?_
      refine XO.guardT rfl rfl (g3) rfl ?_
      refine XO.eql rfl rfl rfl ?_
      refine XO.pickT rfl (g3) rfl rfl ?_
      refine XO.nil ?_
      refine XC.seq2 ?_
      refine XC.cond rfl (fun c1_5 => ?_) (fun c1_5 => ?_)
      · refine XC.seq ?_
        refine XC.region ?_
        refine XO.assign rfl rfl ?_
        refine XO.nil ?_
        refine XC.seq2 ?_
        refine XC.ret ?_
        refine blockR ?_
        refine seqX_ret ?_
        refine loopX_ret ?_
        refine blockR ?_
        refine seqX_ret ?_
        refine ⟨rfl, _, [], rfl, (by repeat (first | exact List.Sublist.refl _ | apply List.Sublist.cons)), RetR.mk ?_⟩
        exact congrArg Value.bool (decide_eq_true (by obtain rfl := Option.some.inj (hx18.symm.trans hx29); rw [show lnk a b = x18 from Prod.ext (by simp only [lnk]; omega) (by simp only [lnk]; omega)]; exact List.mem_of_getElem? hx18)).symm
      · refine XC.skip ?_
        refine blockN ?_
        refine XC.seq2 ?_
        refine XC.region ?_
        refine XO.move rfl rfl ?_
        refine XO.add rfl rfl (wrap_i64 (by omega) (by omega)) rfl ?_
        refine XO.assign rfl rfl ?_
        refine XO.nil ?_
        refine loop_next (k + 1) (by show n.ap.length - (k + 1) < n.ap.length - k; omega) (prov_cons (rfl) (prov_cons (rfl) (prov_cons (rfl) (prov_cons (rfl) prov_nil)))) (⟨by show k + 1 ≤ n.ap.length; omega, rfl, mem_take_snoc hno hx18 (fun e => by have e1 := congrArg Prod.fst e; have e2 := congrArg Prod.snd e; simp only [lnk] at e1 e2; first | omega | (obtain rfl := Option.some.inj (hx18.symm.trans hx29); omega))⟩) (by repeat (first | exact List.Sublist.refl _ | apply List.Sublist.cons_cons | apply List.Sublist.cons)) (hle0)
    · have g3p := of_decide_eq_false g3
      refine XO.guardF rfl rfl (g3) rfl rfl ?_
      refine XO.guardF rfl rfl (g3) rfl rfl ?_
      refine XO.guardF rfl rfl (g3) rfl rfl ?_
      refine XO.guardF rfl rfl (g3) rfl rfl ?_
      refine XO.guardF rfl rfl (g3) rfl rfl ?_
      refine XO.guardF rfl rfl (g3) rfl rfl ?_
      refine XO.guardF rfl rfl (g3) rfl rfl ?_
      refine XO.guardF rfl rfl (g3) rfl rfl ?_
      refine XO.guardF rfl rfl (g3) rfl rfl ?_
      refine XO.pickF rfl (g3) rfl rfl ?_
      refine XO.nil ?_
      refine XC.seq2 ?_
      refine XC.condF rfl (rfl) ?_
      refine XC.skip ?_
      refine blockN ?_
      refine XC.seq2 ?_
      refine XC.region ?_
      refine XO.move rfl rfl ?_
      refine XO.add rfl rfl (wrap_i64 (by omega) (by omega)) rfl ?_
      refine XO.assign rfl rfl ?_
      refine XO.nil ?_
      refine loop_next (k + 1) (by show n.ap.length - (k + 1) < n.ap.length - k; omega) (prov_cons (rfl) (prov_cons (rfl) (prov_cons (rfl) (prov_cons (rfl) prov_nil)))) (⟨by show k + 1 ≤ n.ap.length; omega, rfl, mem_take_snoc hno hx18 (fun e => by have e1 := congrArg Prod.fst e; have e2 := congrArg Prod.snd e; simp only [lnk] at e1 e2; first | omega | (obtain rfl := Option.some.inj (hx18.symm.trans hx29); omega))⟩) (by repeat (first | exact List.Sublist.refl _ | apply List.Sublist.cons_cons | apply List.Sublist.cons)) (hle0)
  · obtain rfl : k = n.ap.length := by omega
    rw [List.take_length] at hno
    refine XC.exit ?_
    refine seqX_exit ?_
    refine loopX_exit ?_
    refine blockHit rfl ?_
    refine XC.seq2 ?_
    refine XC.seq ?_
    refine XC.region ?_
    refine XO.assign rfl rfl ?_
    refine XO.nil ?_
    refine XC.seq2 ?_
    refine XC.ret ?_
    refine ⟨rfl, _, [], rfl, (by repeat (first | exact List.Sublist.refl _ | apply List.Sublist.cons)), RetR.mk ?_⟩
    exact congrArg Value.bool (decide_eq_false (fun h => hno _ h rfl)).symm

end Go.Proofs
