/- The walks of the functions of the links: what each of them computes, at any input. -/
import Derived.Test.YtonmnpdhpailcaaRbY
set_option autoImplicit false
set_option linter.unusedVariables false
set_option linter.unusedSimpArgs false
namespace Go.Proofs
open Go.XL

theorem bf_28 : structF Try.prog 28 = some [(0, 1), (1, 1), (2, 1)] := by kernel_rfl
theorem bk_28 : structK Try.prog 28 = true := by kernel_rfl

theorem rwithout_fn (aq ap : Option Addr) (cq cp : Nat) (n : Nt) (k : Nat) (H : Hp) (hq : SlR pkR H aq cq n.q) (hp : SlR pairR H ap cp n.ap) (hlq : n.q.length < 4611686018427387904) (hlp : n.ap.length < 4611686018427387904) (hk : k < n.q.length) (hk2 : n.q.length ≤ 4096) : FnC Try.prog 42 #[.agg ⟨[.slice aq n.q.length cq, .slice ap n.ap.length cp]⟩, .int .i64 (k : Nat)] H [] (RetR fun v H _ => NtV H v ⟨withoutL n.q k, n.ap⟩) := by
  refine FnC.introC (args := [.agg ⟨[.slice aq n.q.length cq, .slice ap n.ap.length cp]⟩, .int .i64 (k : Nat)]) Try.func42 rfl rfl Try.ntmps42 rfl rfl rfl fun G rest => ?_
  have hqle := hq.le
  refine XC.seq ?_
  refine XC.region ?_
  refine XO.box rfl rfl rfl (fun b2 => ?_)
  refine XO.alloc ze_25 rfl (fun b4 => ?_)
  refine XO.nil ?_
  refine XC.seq2 ?_
  refine XC.seq ?_
  by_cases hk0 : k = 0
  · skip
    refine XC.keep [1, 2, 4] rfl ?_
    apply XC.drawG (fun _ => True) trivial 11 [slCap pkR [], eqF _, eqF _, eqF _, slG pkR (n.q.take k), slCap pkR (n.q.take k), eqF _, eqF _, eqF _, eqF _, slG pkR (n.q.drop (k + 1))] follows (by kernel_rfl) (by kernel_rfl) ⟨slCap_mono _ _, eqF_mono _, eqF_mono _, eqF_mono _, slG_mono _ _, slCap_mono _ _, eqF_mono _, eqF_mono _, eqF_mono _, eqF_mono _, slG_mono _ _, trivial⟩ ?steps1 ?tail1
    case steps1 =>
      refine stepsD_cons rfl ?_ ?_
      · intro X HD hleD _
        replace hq := hq.mono hleD
        replace hp := hp.mono hleD
        refine withPreds_nil rfl ?_
        refine XO.buildSlice rfl Try.underlying22 ty_28 ze_28 rfl rfl rfl (fun b5 => ?_)
        refine XO.publish 0 rfl rfl rfl (fun HP5 oP5 hleP5 hbP5 hoP5 => ?_)
        have hsl5 := SlR.lit (ρ := pkR) (l := []) hbP5 hoP5 rfl
        replace hq := hq.mono hleP5
        replace hp := hp.mono hleP5
        refine XO.nil ?_
        exact stepQ_ok trivial (⟨_, _, rfl, hsl5, by simp⟩)
      refine stepsD_cons rfl ?_ ?_
      · intro X HD hleD _
        replace hq := hq.mono hleD
        replace hp := hp.mono hleD
        refine withPreds_nil rfl ?_
        refine XO.fieldAddr rfl fa_25_0 rfl ?_
        refine XO.nil ?_
        exact stepQ_ok trivial (rfl)
      refine stepsD_cons rfl ?_ ?_
      · intro X HD hleD _
        replace hq := hq.mono hleD
        replace hp := hp.mono hleD
        refine withPreds_cons rfl rfl ?_
        rintro _ rfl
        refine withPreds_nil rfl ?_
        refine XO.loadO 1 rfl rfl ty_22 rfl rfl rfl ?_
        refine XO.nil ?_
        exact stepQ_ok trivial (rfl)
      refine stepsD_cons rfl ?_ ?_
      · intro X HD hleD _
        replace hq := hq.mono hleD
        replace hp := hp.mono hleD
        refine withPreds_nil rfl ?_
        refine XO.move rfl rfl ?_
        refine XO.nil ?_
        exact stepQ_ok trivial (rfl)
      refine stepsD_cons rfl ?_ ?_
      · intro X HD hleD _
        replace hq := hq.mono hleD
        replace hp := hp.mono hleD
        refine withPreds_cons rfl rfl ?_
        rintro _ rfl
        refine withPreds_cons rfl rfl ?_
        rintro _ rfl
        refine withPreds_nil rfl ?_
        refine XO.slice (lo' := 0) (hi' := (k : Int)) (m' := (cq : Int)) rfl (by assumption) ev?_none (ev?_some rfl) ev?_none (by simp) (by omega) (by omega) (by omega) (by omega) (by omega) Try.underlying22 ty_28 rfl (fun as9 ls9 hls9 hss9 => ?_)
        obtain rfl : ls9 = n.q.take k := by first | (rw [hls9]; simp; done) | (rw [hls9]; simp; rw [List.take_of_length_le (by simp)])
        refine XO.nil ?_
        exact stepQ_ok trivial (⟨_, _, rfl, hss9⟩)
      refine stepsD_cons rfl ?_ ?_
      · intro X HD hleD _
        replace hq := hq.mono hleD
        replace hp := hp.mono hleD
        refine withPreds_cons rfl rfl ?_
        rintro _ ⟨a5, c5, rfl, hsl5, hcap5⟩
        refine withPreds_cons rfl rfl ?_
        rintro _ ⟨a9, c9, rfl, hsl9⟩
        refine withPreds_nil rfl ?_
        refine XO.append0 rfl rfl (by rw [hk0]; rfl) hsl5.le Try.underlying22 ty_28 rfl ?_
        refine XO.nil ?_
        exact stepQ_ok trivial (⟨_, _, by rw [hk0]; rfl, by rw [hk0]; exact hsl5, by rw [hk0]; exact hcap5⟩)
      refine stepsD_cons rfl ?_ ?_
      · intro X HD hleD _
        replace hq := hq.mono hleD
        replace hp := hp.mono hleD
        refine withPreds_nil rfl ?_
        refine XO.fieldAddr rfl fa_25_0 rfl ?_
        refine XO.nil ?_
        exact stepQ_ok trivial (rfl)
      refine stepsD_cons rfl ?_ ?_
      · intro X HD hleD _
        replace hq := hq.mono hleD
        replace hp := hp.mono hleD
        refine withPreds_cons rfl rfl ?_
        rintro _ rfl
        refine withPreds_nil rfl ?_
        refine XO.loadO 1 rfl rfl ty_22 rfl rfl rfl ?_
        refine XO.nil ?_
        exact stepQ_ok trivial (rfl)
      refine stepsD_cons rfl ?_ ?_
      · intro X HD hleD _
        replace hq := hq.mono hleD
        replace hp := hp.mono hleD
        refine withPreds_nil rfl ?_
        refine XO.move rfl rfl ?_
        refine XO.nil ?_
        exact stepQ_ok trivial (rfl)
      refine stepsD_cons rfl ?_ ?_
      · intro X HD hleD _
        replace hq := hq.mono hleD
        replace hp := hp.mono hleD
        refine withPreds_cons rfl rfl ?_
        rintro _ rfl
        refine withPreds_nil rfl ?_
        refine XO.add rfl rfl (wrap_i64 (by omega) (by omega)) rfl ?_
        refine XO.nil ?_
        exact stepQ_ok trivial (rfl)
      refine stepsD_cons rfl ?_ ?_
      · intro X HD hleD _
        replace hq := hq.mono hleD
        replace hp := hp.mono hleD
        refine withPreds_cons rfl rfl ?_
        rintro _ rfl
        refine withPreds_cons rfl rfl ?_
        rintro _ rfl
        refine withPreds_nil rfl ?_
        refine XO.slice (lo' := (k : Int) + 1) (hi' := (n.q.length : Int)) (m' := (cq : Int)) rfl (by assumption) (ev?_some rfl) ev?_none ev?_none (by simp) (by omega) (by omega) (by omega) (by omega) (by omega) Try.underlying22 ty_28 rfl (fun as15 ls15 hls15 hss15 => ?_)
        obtain rfl : ls15 = n.q.drop (k + 1) := by first | (rw [hls15]; simp; done) | (rw [hls15]; simp; rw [List.take_of_length_le (by simp)])
        refine XO.nil ?_
        exact stepQ_ok trivial (⟨_, _, rfl, hss15⟩)
      exact stepsD_end rfl
    case tail1 =>
      intro HD hleD _
      replace hq := hq.mono hleD
      replace hp := hp.mono hleD
      refine withPreds_cons rfl rfl ?_
      rintro _ ⟨a5, c5, rfl, hsl5, hcap5⟩
      refine withPreds_cons rfl rfl ?_
      rintro _ rfl
      refine withPreds_cons rfl rfl ?_
      rintro _ rfl
      refine withPreds_cons rfl rfl ?_
      rintro _ rfl
      refine withPreds_cons rfl rfl ?_
      rintro _ ⟨a9, c9, rfl, hsl9⟩
      refine withPreds_cons rfl rfl ?_
      rintro _ ⟨a10, c10, rfl, hsl10, hcap10⟩
      refine withPreds_cons rfl rfl ?_
      rintro _ rfl
      refine withPreds_cons rfl rfl ?_
      rintro _ rfl
      refine withPreds_cons rfl rfl ?_
      rintro _ rfl
      refine withPreds_cons rfl rfl ?_
      rintro _ rfl
      refine withPreds_cons rfl rfl ?_
      rintro _ ⟨a15, c15, rfl, hsl15⟩
      refine withPreds_nil rfl ?_
      refine XO.appendP rfl hsl10 rfl rfl hsl15 rfl (by exact hcap10) Try.underlying22 ty_28 ze_28 rfl by_28 (by simp; omega) rfl (fun HA16 aA16 cA16 hleA16 hsA16 => ?_)
      replace hq := hq.mono hleA16
      replace hp := hp.mono hleA16
      replace hsl5 := hsl5.mono hleA16
      replace hsl9 := hsl9.mono hleA16
      replace hsl10 := hsl10.mono hleA16
      replace hsl15 := hsl15.mono hleA16
      refine XO.fieldAddr rfl fa_25_0 rfl ?_
      refine XO.storeO 1 rfl rfl rfl rfl ty_22 rfl rfl rfl rfl rfl ?_
      refine XO.nil ?_
      refine XC.seq2 ?_
      refine XC.seq ?_
      refine XC.region ?_
      refine XO.loadO 1 rfl rfl ty_25 rfl rfl rfl ?_
      refine XO.storeO 0 rfl rfl rfl rfl ty_25 rfl rfl rfl rfl rfl ?_
      refine XO.nil ?_
      refine XC.seq2 ?_
      refine XC.ret ?_
      refine ⟨rfl, _, [], (resC_cell 0 rfl rfl ty_25 rfl rfl resC_nil), (by repeat (first | exact List.Sublist.refl _ | apply List.Sublist.cons)), RetR.mk ?_⟩
      exact ⟨_, _, _, _, rfl, by assumption, by assumption⟩
  · skip
    refine XC.keep [1, 2, 4] rfl ?_
    apply XC.drawH (fun _ => True) trivial [5] (by decide) (ownF pkR 28 (n.q.take k)) (ownF_mono _ _ _) 11 [slF pkR [], eqF _, eqF _, eqF _, slG pkR (n.q.take k), anyF, eqF _, eqF _, eqF _, eqF _, slG pkR (n.q.drop (k + 1))] follows (by kernel_rfl) ⟨slF_mono _ _, eqF_mono _, eqF_mono _, eqF_mono _, slG_mono _ _, anyF_mono, eqF_mono _, eqF_mono _, eqF_mono _, eqF_mono _, slG_mono _ _, trivial⟩ (by decide) ?steps4 ?tail4
    case steps4 =>
      refine stepsH_cons rfl ?_ ?_
      · intro X ext HD hleD _
        replace hq := hq.mono hleD
        replace hp := hp.mono hleD
        refine withP_nil rfl ?_
        refine XO.buildSlice rfl Try.underlying22 ty_28 ze_28 rfl rfl rfl (fun b5 => ?_)
        refine XO.publish 0 rfl rfl rfl (fun HP5 oP5 hleP5 hbP5 hoP5 => ?_)
        have hsl5 := SlR.lit (ρ := pkR) (l := []) hbP5 hoP5 rfl
        replace hq := hq.mono hleP5
        replace hp := hp.mono hleP5
        refine XO.nil ?_
        exact stepQN_ok rfl trivial (⟨_, rfl, hsl5⟩)
      refine stepsH_cons rfl ?_ ?_
      · intro X ext HD hleD _
        replace hq := hq.mono hleD
        replace hp := hp.mono hleD
        refine withP_nil rfl ?_
        refine XO.fieldAddr rfl fa_25_0 rfl ?_
        refine XO.nil ?_
        exact stepQN_ok rfl trivial (rfl)
      refine stepsH_cons rfl ?_ ?_
      · intro X ext HD hleD _
        replace hq := hq.mono hleD
        replace hp := hp.mono hleD
        refine withP_cons rfl rfl ?_
        rintro _ rfl
        refine withP_nil rfl ?_
        refine XO.loadO 1 rfl rfl ty_22 rfl rfl rfl ?_
        refine XO.nil ?_
        exact stepQN_ok rfl trivial (rfl)
      refine stepsH_cons rfl ?_ ?_
      · intro X ext HD hleD _
        replace hq := hq.mono hleD
        replace hp := hp.mono hleD
        refine withP_nil rfl ?_
        refine XO.move rfl rfl ?_
        refine XO.nil ?_
        exact stepQN_ok rfl trivial (rfl)
      refine stepsH_cons rfl ?_ ?_
      · intro X ext HD hleD _
        replace hq := hq.mono hleD
        replace hp := hp.mono hleD
        refine withP_cons rfl rfl ?_
        rintro _ rfl
        refine withP_cons rfl rfl ?_
        rintro _ rfl
        refine withP_nil rfl ?_
        refine XO.slice (lo' := 0) (hi' := (k : Int)) (m' := (cq : Int)) rfl (by assumption) ev?_none (ev?_some rfl) ev?_none (by simp) (by omega) (by omega) (by omega) (by omega) (by omega) Try.underlying22 ty_28 rfl (fun as9 ls9 hls9 hss9 => ?_)
        obtain rfl : ls9 = n.q.take k := by first | (rw [hls9]; simp; done) | (rw [hls9]; simp; rw [List.take_of_length_le (by simp)])
        refine XO.nil ?_
        exact stepQN_ok rfl trivial (⟨_, _, rfl, hss9⟩)
      refine stepsH_cons rfl ?_ ?_
      · intro X ext HD hleD _
        replace hq := hq.mono hleD
        replace hp := hp.mono hleD
        refine withP_cons rfl rfl ?_
        rintro _ ⟨bs5, rfl, hsl5⟩
        refine withP_cons rfl rfl ?_
        rintro _ ⟨a9, c9, rfl, hsl9⟩
        refine withP_nil rfl ?_
        refine XO.appendN rfl hsl5 rfl rfl hsl9 rfl (by simp; omega) Try.underlying22 ty_28 ze_28 rfl by_28 (by simp; omega) rfl (fun pe ae ce hacc => ?_)
        refine XO.nil ?_
        exact stepQN_new rfl trivial trivial (⟨_, _, rfl, hacc⟩)
      refine stepsH_cons rfl ?_ ?_
      · intro X ext HD hleD _
        replace hq := hq.mono hleD
        replace hp := hp.mono hleD
        refine withP_nil rfl ?_
        refine XO.fieldAddr rfl fa_25_0 rfl ?_
        refine XO.nil ?_
        exact stepQN_ok rfl trivial (rfl)
      refine stepsH_cons rfl ?_ ?_
      · intro X ext HD hleD _
        replace hq := hq.mono hleD
        replace hp := hp.mono hleD
        refine withP_cons rfl rfl ?_
        rintro _ rfl
        refine withP_nil rfl ?_
        refine XO.loadO 1 rfl rfl ty_22 rfl rfl rfl ?_
        refine XO.nil ?_
        exact stepQN_ok rfl trivial (rfl)
      refine stepsH_cons rfl ?_ ?_
      · intro X ext HD hleD _
        replace hq := hq.mono hleD
        replace hp := hp.mono hleD
        refine withP_nil rfl ?_
        refine XO.move rfl rfl ?_
        refine XO.nil ?_
        exact stepQN_ok rfl trivial (rfl)
      refine stepsH_cons rfl ?_ ?_
      · intro X ext HD hleD _
        replace hq := hq.mono hleD
        replace hp := hp.mono hleD
        refine withP_cons rfl rfl ?_
        rintro _ rfl
        refine withP_nil rfl ?_
        refine XO.add rfl rfl (wrap_i64 (by omega) (by omega)) rfl ?_
        refine XO.nil ?_
        exact stepQN_ok rfl trivial (rfl)
      refine stepsH_cons rfl ?_ ?_
      · intro X ext HD hleD _
        replace hq := hq.mono hleD
        replace hp := hp.mono hleD
        refine withP_cons rfl rfl ?_
        rintro _ rfl
        refine withP_cons rfl rfl ?_
        rintro _ rfl
        refine withP_nil rfl ?_
        refine XO.slice (lo' := (k : Int) + 1) (hi' := (n.q.length : Int)) (m' := (cq : Int)) rfl (by assumption) (ev?_some rfl) ev?_none ev?_none (by simp) (by omega) (by omega) (by omega) (by omega) (by omega) Try.underlying22 ty_28 rfl (fun as15 ls15 hls15 hss15 => ?_)
        obtain rfl : ls15 = n.q.drop (k + 1) := by first | (rw [hls15]; simp; done) | (rw [hls15]; simp; rw [List.take_of_length_le (by simp)])
        refine XO.nil ?_
        exact stepQN_ok rfl trivial (⟨_, _, rfl, hss15⟩)
      exact stepsH_end rfl
    case tail4 =>
      intro HD hleD _
      replace hq := hq.mono hleD
      replace hp := hp.mono hleD
      refine withP_cons rfl rfl ?_
      rintro _ ⟨bs5, rfl, hsl5⟩
      refine withP_cons rfl rfl ?_
      rintro _ rfl
      refine withP_cons rfl rfl ?_
      rintro _ rfl
      refine withP_cons rfl rfl ?_
      rintro _ rfl
      refine withP_cons rfl rfl ?_
      rintro _ ⟨a9, c9, rfl, hsl9⟩
      refine withP_cons rfl rfl ?_
      rintro _ _
      refine withP_cons rfl rfl ?_
      rintro _ rfl
      refine withP_cons rfl rfl ?_
      rintro _ rfl
      refine withP_cons rfl rfl ?_
      rintro _ rfl
      refine withP_cons rfl rfl ?_
      rintro _ rfl
      refine withP_cons rfl rfl ?_
      rintro _ ⟨a15, c15, rfl, hsl15⟩
      refine withP_nil rfl ?_
      refine withEnts_cons ?_
      intro pe hpe
      obtain ⟨ae, ce, rfl, hacce⟩ := hpe _ ⟨_, rfl, rfl⟩
      refine withEnts_nil ?_
      refine XO.appendA 0 rfl rfl hacce rfl rfl hsl15 rfl Try.underlying22 ty_28 ze_28 rfl by_28 (by simp; omega) rfl (fun p16 a16 c16 hacc16 => ?_)
      refine XO.fieldAddr rfl fa_25_0 rfl ?_
      refine XO.storeO 2 rfl rfl rfl rfl ty_22 rfl rfl rfl rfl rfl ?_
      refine XO.nil ?_
      refine XC.seq2 ?_
      refine XC.seq ?_
      refine XC.region ?_
      refine XO.publishA 0 rfl hacc16 rfl (fun HQ7 hleQ7 hsQ7 => ?_)
      replace hq := hq.mono hleQ7
      replace hp := hp.mono hleQ7
      replace hsl5 := hsl5.mono hleQ7
      replace hsl9 := hsl9.mono hleQ7
      replace hsl15 := hsl15.mono hleQ7
      refine XO.loadO 1 rfl rfl ty_25 rfl rfl rfl ?_
      refine XO.storeO 0 rfl rfl rfl rfl ty_25 rfl rfl rfl rfl rfl ?_
      refine XO.nil ?_
      refine XC.seq2 ?_
      refine XC.ret ?_
      refine ⟨rfl, _, [], (resC_cell 0 rfl rfl ty_25 rfl rfl resC_nil), (by repeat (first | exact List.Sublist.refl _ | apply List.Sublist.cons)), RetR.mk ?_⟩
      exact ⟨_, _, _, _, rfl, by assumption, by assumption⟩

theorem deliver_fn (aq ap : Option Addr) (cq cp : Nat) (n : Nt) (i : Int) (H : Hp) (hq : SlR pkR H aq cq n.q) (hp : SlR pairR H ap cp n.ap) (hlq : n.q.length < 4611686018427387904) (hlp : n.ap.length < 4611686018427387904) : FnC Try.prog 18 #[.agg ⟨[.slice aq n.q.length cq, .slice ap n.ap.length cp]⟩, .int .i64 i] H [] (RetR fun v H _ => ∃ v1 v2, v = .tuple #[v1, v2, .int .i64 (askE n i)] ∧ PkV H v1 (delP n i) ∧ NtV H v2 (delN n i)) := by
  refine FnC.introC (args := [.agg ⟨[.slice aq n.q.length cq, .slice ap n.ap.length cp]⟩, .int .i64 i]) Try.func18 rfl rfl Try.ntmps18 rfl rfl rfl fun G rest => ?_
  refine XC.seq ?_
  refine XC.region ?_
  refine XO.box rfl rfl rfl (fun b2 => ?_)
  refine XO.alloc ze_28 rfl (fun b4 => ?_)
  refine XO.alloc ze_25 rfl (fun b5 => ?_)
  refine XO.assign rfl rfl ?_
  refine XO.nil ?_
  refine XC.seq2 ?_
  refine XC.seq ?_
  refine XC.seq ?_
  refine XC.region ?_
  refine XO.loadO 2 rfl rfl ty_25 rfl rfl rfl ?_
  refine XO.move rfl rfl ?_
  refine XO.callH rfl (at_fn _ _ _ _ n i _ hq hp hlq hlp) rfl ?_
  rintro _ HN10 hleN10 ⟨vN10, rfl, aN10, cN10, rfl, hN10⟩
  replace hq := hq.mono hleN10
  replace hp := hp.mono hleN10
  refine XO.move rfl rfl ?_
  refine XO.extract rfl rfl rfl ?_
  refine XO.extract rfl rfl rfl ?_
  refine XO.storeO 1 rfl rfl rfl rfl ty_28 rfl rfl rfl rfl rfl ?_
  refine XO.assign rfl rfl ?_
  refine XO.nil ?_
  refine XC.seq2 ?_
  refine XC.seq ?_
  refine XC.region ?_
  refine XO.move rfl rfl ?_
  refine XO.neq rfl rfl rfl ?_
  refine XO.nil ?_
  refine XC.seq2 ?_
  refine XC.cond rfl (fun c0_2 => ?_) (fun c0_2 => ?_)
  · refine XC.seq ?_
    refine XC.keep [4, 5, 6] rfl ?_
    apply XC.drawH (fun _ => True) trivial [] (by decide) (fun _ _ _ _ => True) (fun _ _ _ _ _ _ h => h) 5 [eqF _, eqF _, eqF _, anyF, anyF] follows (by kernel_rfl) ⟨eqF_mono _, eqF_mono _, eqF_mono _, anyF_mono, anyF_mono, trivial⟩ (by decide) ?steps3 ?tail3
    case steps3 =>
      refine stepsH_cons rfl ?_ ?_
      · intro X ext HD hleD _
        replace hq := hq.mono hleD
        replace hp := hp.mono hleD
        replace hN10 := hN10.mono hleD
        refine withP_nil rfl ?_
        refine XO.loadO 1 rfl rfl ty_28 rfl rfl rfl ?_
        refine XO.nil ?_
        exact stepQN_ok rfl trivial (rfl)
      refine stepsH_cons rfl ?_ ?_
      · intro X ext HD hleD _
        replace hq := hq.mono hleD
        replace hp := hp.mono hleD
        replace hN10 := hN10.mono hleD
        refine withP_nil rfl ?_
        refine XO.loadO 0 rfl rfl ty_25 rfl rfl rfl ?_
        refine XO.nil ?_
        exact stepQN_ok rfl trivial (rfl)
      refine stepsH_cons rfl ?_ ?_
      · intro X ext HD hleD _
        replace hq := hq.mono hleD
        replace hp := hp.mono hleD
        replace hN10 := hN10.mono hleD
        refine withP_nil rfl ?_
        refine XO.move rfl rfl ?_
        refine XO.nil ?_
        exact stepQN_ok rfl trivial (rfl)
      refine stepsH_cons rfl ?_ ?_
      · intro X ext HD hleD _
        replace hq := hq.mono hleD
        replace hp := hp.mono hleD
        replace hN10 := hN10.mono hleD
        refine withP_cons rfl rfl ?_
        rintro _ rfl
        refine withP_nil rfl ?_
        refine XO.storeO 1 rfl rfl rfl rfl ty_28 rfl rfl rfl rfl rfl ?_
        refine XO.nil ?_
        exact stepQN_ok rfl trivial (trivial)
      refine stepsH_cons rfl ?_ ?_
      · intro X ext HD hleD _
        replace hq := hq.mono hleD
        replace hp := hp.mono hleD
        replace hN10 := hN10.mono hleD
        refine withP_cons rfl rfl ?_
        rintro _ rfl
        refine withP_nil rfl ?_
        refine XO.storeO 0 rfl rfl rfl rfl ty_25 rfl rfl rfl rfl rfl ?_
        refine XO.nil ?_
        exact stepQN_ok rfl trivial (trivial)
      exact stepsH_end rfl
    case tail3 =>
      intro HD hleD _
      replace hq := hq.mono hleD
      replace hp := hp.mono hleD
      replace hN10 := hN10.mono hleD
      refine withP_cons rfl rfl ?_
      rintro _ rfl
      refine withP_cons rfl rfl ?_
      rintro _ rfl
      refine withP_cons rfl rfl ?_
      rintro _ rfl
      refine withP_skip rfl rfl ?_
      refine withP_skip rfl rfl ?_
      refine withP_nil rfl ?_
      refine withEnts_nil ?_
      refine XO.assign rfl rfl ?_
      refine XO.nil ?_
      refine XC.seq2 ?_
      refine XC.ret ?_
      refine seqX_ret ?_
      refine ⟨rfl, _, [], (resC_cell 1 rfl rfl ty_28 rfl rfl (resC_cell 0 rfl rfl ty_25 rfl rfl (resC_tmp rfl resC_nil))), (by repeat (first | exact List.Sublist.refl _ | apply List.Sublist.cons)), RetR.mk ?_⟩
      obtain ⟨e1, e2, e3, _⟩ := at_bad (n := n) (i := i) (by assumption)
      rw [e2, e3, ← e1]
      exact ⟨_, _, rfl, ⟨_, _, rfl, by assumption⟩, NtV.nil _⟩
  · obtain ⟨hnet, k, rfl, hk⟩ := ask_inv (n := n) (i := i) (by omega)
    have hq4 := hnet.1
    obtain ⟨x, hx⟩ : ∃ x, n.q[k]? = some x := ⟨_, List.getElem?_eq_getElem hk⟩
    obtain ⟨ea, ep, en, er⟩ := del_eq hnet hx
    have hat := at_eq hnet hx
    rw [hat] at hN10 ⊢
    refine XC.skip ?_
    refine XC.seq2 ?_
    refine XC.seq ?_
    refine XC.seq ?_
    refine XC.keep [1, 2, 4, 5] rfl ?_
    apply XC.draw 7 [eqF _, eqF _, eqF _, eqF _, eqF _, eqF _, eqF _] follows (by kernel_rfl) (by kernel_rfl) ⟨eqF_mono _, eqF_mono _, eqF_mono _, eqF_mono _, eqF_mono _, eqF_mono _, eqF_mono _, trivial⟩ ?steps4 ?tail4
    case steps4 =>
      refine stepsK_cons rfl ?_ ?_
      · intro X
        refine withPreds_nil rfl ?_
        refine XO.fieldAddr rfl fa_25_1 rfl ?_
        refine XO.nil ?_
        exact stepQ_ok rfl (rfl)
      refine stepsK_cons rfl ?_ ?_
      · intro X
        refine withPreds_cons rfl rfl ?_
        rintro _ rfl
        refine withPreds_nil rfl ?_
        refine XO.loadO 2 rfl rfl ty_23 rfl rfl rfl ?_
        refine XO.nil ?_
        exact stepQ_ok rfl (rfl)
      refine stepsK_cons rfl ?_ ?_
      · intro X
        refine withPreds_nil rfl ?_
        refine XO.fieldAddr rfl fa_28_0 rfl ?_
        refine XO.nil ?_
        exact stepQ_ok rfl (rfl)
      refine stepsK_cons rfl ?_ ?_
      · intro X
        refine withPreds_cons rfl rfl ?_
        rintro _ rfl
        refine withPreds_nil rfl ?_
        refine XO.loadO 1 rfl rfl ty_3 rfl rfl rfl ?_
        refine XO.nil ?_
        exact stepQ_ok rfl (rfl)
      refine stepsK_cons rfl ?_ ?_
      · intro X
        refine withPreds_nil rfl ?_
        refine XO.fieldAddr rfl fa_28_1 rfl ?_
        refine XO.nil ?_
        exact stepQ_ok rfl (rfl)
      refine stepsK_cons rfl ?_ ?_
      · intro X
        refine withPreds_cons rfl rfl ?_
        rintro _ rfl
        refine withPreds_nil rfl ?_
        refine XO.loadO 1 rfl rfl ty_3 rfl rfl rfl ?_
        refine XO.nil ?_
        exact stepQ_ok rfl (rfl)
      refine stepsK_cons rfl ?_ ?_
      · intro X
        refine withPreds_cons rfl rfl ?_
        rintro _ rfl
        refine withPreds_cons rfl rfl ?_
        rintro _ rfl
        refine withPreds_nil rfl ?_
        refine XO.callV rfl (between_fn _ _ _) rfl ?_
        refine XO.nil ?_
        exact stepQ_ok rfl (rfl)
      exact stepsD_end rfl
    case tail4 =>
      refine withPreds_cons rfl rfl ?_
      rintro _ rfl
      refine withPreds_cons rfl rfl ?_
      rintro _ rfl
      refine withPreds_cons rfl rfl ?_
      rintro _ rfl
      refine withPreds_cons rfl rfl ?_
      rintro _ rfl
      refine withPreds_cons rfl rfl ?_
      rintro _ rfl
      refine withPreds_cons rfl rfl ?_
      rintro _ rfl
      refine withPreds_cons rfl rfl ?_
      rintro _ rfl
      refine withPreds_nil rfl ?_
      refine XO.callV rfl (containsp_fn _ _ _ (lnk _ _) _ hp hlp) rfl ?_
      refine XO.nil ?_
      refine XC.seq2 ?_
      refine XC.cond rfl (fun c1_7 => ?_) (fun c1_7 => ?_)
      · refine XC.region ?_
        refine XO.build bk_28 bf_28 ze_28 rfl rfl rfl ?_
        refine XO.storeO 1 rfl rfl rfl rfl ty_28 rfl rfl rfl rfl rfl ?_
        refine XO.nil ?_
        refine XC.seq2 ?_
        refine XC.seq ?_
        refine XC.keep [1, 2, 4, 5] rfl ?_
        apply XC.drawG (fun _ => True) trivial 4 [eqF _, eqF _, eqF _, fun v H => NtV H v ⟨withoutL n.q k, n.ap⟩] follows (by kernel_rfl) (by kernel_rfl) ⟨eqF_mono _, eqF_mono _, eqF_mono _, fun _ _ _ hle h => h.mono hle, trivial⟩ ?steps8 ?tail8
        case steps8 =>
          refine stepsD_cons rfl ?_ ?_
          · intro X HD hleD _
            replace hq := hq.mono hleD
            replace hp := hp.mono hleD
            replace hN10 := hN10.mono hleD
            refine withPreds_nil rfl ?_
            refine XO.loadO 1 rfl rfl ty_28 rfl rfl rfl ?_
            refine XO.nil ?_
            exact stepQ_ok trivial (rfl)
          refine stepsD_cons rfl ?_ ?_
          · intro X HD hleD _
            replace hq := hq.mono hleD
            replace hp := hp.mono hleD
            replace hN10 := hN10.mono hleD
            refine withPreds_nil rfl ?_
            refine XO.loadO 2 rfl rfl ty_25 rfl rfl rfl ?_
            refine XO.nil ?_
            exact stepQ_ok trivial (rfl)
          refine stepsD_cons rfl ?_ ?_
          · intro X HD hleD _
            replace hq := hq.mono hleD
            replace hp := hp.mono hleD
            replace hN10 := hN10.mono hleD
            refine withPreds_nil rfl ?_
            refine XO.move rfl rfl ?_
            refine XO.nil ?_
            exact stepQ_ok trivial (rfl)
          refine stepsD_cons rfl ?_ ?_
          · intro X HD hleD _
            replace hq := hq.mono hleD
            replace hp := hp.mono hleD
            replace hN10 := hN10.mono hleD
            refine withPreds_cons rfl rfl ?_
            rintro _ rfl
            refine withPreds_cons rfl rfl ?_
            rintro _ rfl
            refine withPreds_nil rfl ?_
            refine XO.callH rfl (without_fn _ _ _ _ n k _ hq hp hlq hlp (by omega) (by omega)) rfl ?_
            rintro _ HW30 hleW30 ⟨aW30, cW30, dW30, eW30, rfl, hW30, hX30⟩
            replace hq := hq.mono hleW30
            replace hp := hp.mono hleW30
            replace hN10 := hN10.mono hleW30
            refine XO.nil ?_
            exact stepQ_ok trivial (⟨_, _, _, _, rfl, hW30, hX30⟩)
          exact stepsD_end rfl
        case tail8 =>
          intro HD hleD _
          replace hq := hq.mono hleD
          replace hp := hp.mono hleD
          replace hN10 := hN10.mono hleD
          refine withPreds_cons rfl rfl ?_
          rintro _ rfl
          refine withPreds_cons rfl rfl ?_
          rintro _ rfl
          refine withPreds_cons rfl rfl ?_
          rintro _ rfl
          refine withPreds_cons rfl rfl ?_
          rintro _ ⟨aw, cw, aw2, cw2, rfl, hw1, hw2⟩
          refine withPreds_nil rfl ?_
          refine XO.storeO 1 rfl rfl rfl rfl ty_28 rfl rfl rfl rfl rfl ?_
          refine XO.storeO 0 rfl rfl rfl rfl ty_25 rfl rfl rfl rfl rfl ?_
          refine XO.assign rfl rfl ?_
          refine XO.nil ?_
          refine XC.seq2 ?_
          refine XC.ret ?_
          refine ⟨rfl, _, [], (resC_cell 1 rfl rfl ty_28 rfl rfl (resC_cell 0 rfl rfl ty_25 rfl rfl (resC_tmp rfl resC_nil))), (by repeat (first | exact List.Sublist.refl _ | apply List.Sublist.cons)), RetR.mk ?_⟩
          rw [ea, ep, en, if_pos (by assumption)]
          exact ⟨_, _, rfl, PkV.nil _, _, _, _, _, rfl, by assumption, by assumption⟩
      · refine XC.skip ?_
        refine XC.seq2 ?_
        refine XC.seq ?_
        refine XC.keep [1, 2, 4, 5] rfl ?_
        apply XC.drawG (fun _ => True) trivial 4 [eqF _, eqF _, eqF _, fun v H => NtV H v ⟨withoutL n.q k, n.ap⟩] follows (by kernel_rfl) (by kernel_rfl) ⟨eqF_mono _, eqF_mono _, eqF_mono _, fun _ _ _ hle h => h.mono hle, trivial⟩ ?steps10 ?tail10
        case steps10 =>
          refine stepsD_cons rfl ?_ ?_
          · intro X HD hleD _
            replace hq := hq.mono hleD
            replace hp := hp.mono hleD
            replace hN10 := hN10.mono hleD
            refine withPreds_nil rfl ?_
            refine XO.loadO 1 rfl rfl ty_28 rfl rfl rfl ?_
            refine XO.nil ?_
            exact stepQ_ok trivial (rfl)
          refine stepsD_cons rfl ?_ ?_
          · intro X HD hleD _
            replace hq := hq.mono hleD
            replace hp := hp.mono hleD
            replace hN10 := hN10.mono hleD
            refine withPreds_nil rfl ?_
            refine XO.loadO 2 rfl rfl ty_25 rfl rfl rfl ?_
            refine XO.nil ?_
            exact stepQ_ok trivial (rfl)
          refine stepsD_cons rfl ?_ ?_
          · intro X HD hleD _
            replace hq := hq.mono hleD
            replace hp := hp.mono hleD
            replace hN10 := hN10.mono hleD
            refine withPreds_nil rfl ?_
            refine XO.move rfl rfl ?_
            refine XO.nil ?_
            exact stepQ_ok trivial (rfl)
          refine stepsD_cons rfl ?_ ?_
          · intro X HD hleD _
            replace hq := hq.mono hleD
            replace hp := hp.mono hleD
            replace hN10 := hN10.mono hleD
            refine withPreds_cons rfl rfl ?_
            rintro _ rfl
            refine withPreds_cons rfl rfl ?_
            rintro _ rfl
            refine withPreds_nil rfl ?_
            refine XO.callH rfl (without_fn _ _ _ _ n k _ hq hp hlq hlp (by omega) (by omega)) rfl ?_
            rintro _ HW30 hleW30 ⟨aW30, cW30, dW30, eW30, rfl, hW30, hX30⟩
            replace hq := hq.mono hleW30
            replace hp := hp.mono hleW30
            replace hN10 := hN10.mono hleW30
            refine XO.nil ?_
            exact stepQ_ok trivial (⟨_, _, _, _, rfl, hW30, hX30⟩)
          exact stepsD_end rfl
        case tail10 =>
          intro HD hleD _
          replace hq := hq.mono hleD
          replace hp := hp.mono hleD
          replace hN10 := hN10.mono hleD
          refine withPreds_cons rfl rfl ?_
          rintro _ rfl
          refine withPreds_cons rfl rfl ?_
          rintro _ rfl
          refine withPreds_cons rfl rfl ?_
          rintro _ rfl
          refine withPreds_cons rfl rfl ?_
          rintro _ ⟨aw, cw, aw2, cw2, rfl, hw1, hw2⟩
          refine withPreds_nil rfl ?_
          refine XO.storeO 1 rfl rfl rfl rfl ty_28 rfl rfl rfl rfl rfl ?_
          refine XO.storeO 0 rfl rfl rfl rfl ty_25 rfl rfl rfl rfl rfl ?_
          refine XO.assign rfl rfl ?_
          refine XO.nil ?_
          refine XC.seq2 ?_
          refine XC.ret ?_
          refine ⟨rfl, _, [], (resC_cell 1 rfl rfl ty_28 rfl rfl (resC_cell 0 rfl rfl ty_25 rfl rfl (resC_tmp rfl resC_nil))), (by repeat (first | exact List.Sublist.refl _ | apply List.Sublist.cons)), RetR.mk ?_⟩
          rw [ea, ep, en, if_neg (by assumption)]
          exact ⟨_, _, rfl, ⟨_, _, rfl, by assumption⟩, _, _, _, _, rfl, by assumption, by assumption⟩

theorem rdeliver_fn (aq ap : Option Addr) (cq cp : Nat) (n : Nt) (i : Int) (H : Hp) (hq : SlR pkR H aq cq n.q) (hp : SlR pairR H ap cp n.ap) (hlq : n.q.length < 4611686018427387904) (hlp : n.ap.length < 4611686018427387904) : FnC Try.prog 22 #[.agg ⟨[.slice aq n.q.length cq, .slice ap n.ap.length cp]⟩, .int .i64 i] H [] (RetR fun v H _ => ∃ v1 v2, v = .tuple #[v1, v2, .int .i64 (askE n i)] ∧ PkV H v1 (delP n i) ∧ NtV H v2 (delN n i)) := by
  refine FnC.introC (args := [.agg ⟨[.slice aq n.q.length cq, .slice ap n.ap.length cp]⟩, .int .i64 i]) Try.func22 rfl rfl Try.ntmps22 rfl rfl rfl fun G rest => ?_
  refine XC.seq ?_
  refine XC.region ?_
  refine XO.box rfl rfl rfl (fun b2 => ?_)
  refine XO.alloc ze_28 rfl (fun b4 => ?_)
  refine XO.alloc ze_25 rfl (fun b5 => ?_)
  refine XO.assign rfl rfl ?_
  refine XO.nil ?_
  refine XC.seq2 ?_
  refine XC.seq ?_
  refine XC.region ?_
  refine XO.loadO 2 rfl rfl ty_25 rfl rfl rfl ?_
  refine XO.move rfl rfl ?_
  refine XO.callV rfl (asked_fn _ _ _ _ n i _ hq hp hlq hlp) rfl ?_
  refine XO.assign rfl rfl ?_
  refine XO.nil ?_
  refine XC.seq2 ?_
  refine XC.seq ?_
  refine XC.seq ?_
  refine XC.region ?_
  refine XO.move rfl rfl ?_
  refine XO.neq rfl rfl rfl ?_
  refine XO.nil ?_
  refine XC.seq2 ?_
  refine XC.cond rfl (fun c0_2 => ?_) (fun c0_2 => ?_)
  · refine XC.seq ?_
    refine XC.region ?_
    refine XO.build bk_28 bf_28 ze_28 rfl rfl rfl ?_
    refine XO.build bk_25 bf_25 ze_25 rfl rfl rfl ?_
    refine XO.move rfl rfl ?_
    refine XO.storeO 1 rfl rfl rfl rfl ty_28 rfl rfl rfl rfl rfl ?_
    refine XO.storeO 0 rfl rfl rfl rfl ty_25 rfl rfl rfl rfl rfl ?_
    refine XO.assign rfl rfl ?_
    refine XO.nil ?_
    refine XC.seq2 ?_
    refine XC.ret ?_
    refine seqX_ret ?_
    refine ⟨rfl, _, [], (resC_cell 1 rfl rfl ty_28 rfl rfl (resC_cell 0 rfl rfl ty_25 rfl rfl (resC_tmp rfl resC_nil))), (by repeat (first | exact List.Sublist.refl _ | apply List.Sublist.cons)), RetR.mk ?_⟩
    obtain ⟨e1, e2, e3, _⟩ := at_bad (n := n) (i := i) (by assumption)
    rw [e2, e3]
    exact ⟨_, _, rfl, PkV.nil _, NtV.nil _⟩
  · obtain ⟨hnet, k, rfl, hk⟩ := ask_inv (n := n) (i := i) (by omega)
    have hq4 := hnet.1
    obtain ⟨x, hx⟩ : ∃ x, n.q[k]? = some x := ⟨_, List.getElem?_eq_getElem hk⟩
    obtain ⟨ea, ep, en, er⟩ := del_eq hnet hx
    
    refine XC.skip ?_
    refine XC.seq2 ?_
    refine XC.seq ?_
    refine XC.region ?_
    refine XO.fieldAddr rfl fa_25_0 rfl ?_
    refine XO.loadO 2 rfl rfl ty_22 rfl rfl rfl ?_
    refine XO.move rfl rfl ?_
    refine XO.indexN rfl (by assumption) rfl Try.underlying22 ty_28 (by omega) rfl ?_
    rintro eb20 eo20 _ x20 hx20 ⟨ax20, cx20, rfl, hd20⟩ hp20
    obtain rfl := Option.some.inj (hx.symm.trans hx20)
    refine XO.loadH rfl (by assumption) ty_28 rfl rfl rfl ?_
    refine XO.alloc ze_28 rfl (fun b8 => ?_)
    refine XO.storeO 0 rfl rfl rfl rfl ty_28 rfl rfl rfl rfl rfl ?_
    refine XO.nil ?_
    refine XC.seq2 ?_
    refine XC.seq ?_
    refine XC.seq ?_
    refine XC.region ?_
    refine XO.loadO 3 rfl rfl ty_25 rfl rfl rfl ?_
    refine XO.fieldAddr rfl fa_28_0 rfl ?_
    refine XO.loadO 0 rfl rfl ty_3 rfl rfl rfl ?_
    refine XO.fieldAddr rfl fa_28_1 rfl ?_
    refine XO.loadO 0 rfl rfl ty_3 rfl rfl rfl ?_
    refine XO.callV rfl (isCut_fn _ _ _ _ n _ _ _ hq hp hlq hlp) rfl ?_
    refine XO.nil ?_
    refine XC.seq2 ?_
    refine XC.condB rfl (fun c1_5 => ?_) (fun c1_5 => ?_)
    · refine XC.region ?_
      refine XO.build bk_28 bf_28 ze_28 rfl rfl rfl ?_
      refine XO.storeO 0 rfl rfl rfl rfl ty_28 rfl rfl rfl rfl rfl ?_
      refine XO.nil ?_
      refine XC.seq2 ?_
      refine XC.seq ?_
      refine XC.keep [1, 2, 4, 5, 8] rfl ?_
      apply XC.drawG (fun _ => True) trivial 4 [eqF _, eqF _, eqF _, fun v H => NtV H v ⟨withoutL n.q k, n.ap⟩] follows (by kernel_rfl) (by kernel_rfl) ⟨eqF_mono _, eqF_mono _, eqF_mono _, fun _ _ _ hle h => h.mono hle, trivial⟩ ?steps6 ?tail6
      case steps6 =>
        refine stepsD_cons rfl ?_ ?_
        · intro X HD hleD _
          replace hq := hq.mono hleD
          replace hp := hp.mono hleD
          replace hp20 := hp20.mono hleD
          replace hd20 := hd20.mono hleD
          refine withPreds_nil rfl ?_
          refine XO.loadO 0 rfl rfl ty_28 rfl rfl rfl ?_
          refine XO.nil ?_
          exact stepQ_ok trivial (rfl)
        refine stepsD_cons rfl ?_ ?_
        · intro X HD hleD _
          replace hq := hq.mono hleD
          replace hp := hp.mono hleD
          replace hp20 := hp20.mono hleD
          replace hd20 := hd20.mono hleD
          refine withPreds_nil rfl ?_
          refine XO.loadO 3 rfl rfl ty_25 rfl rfl rfl ?_
          refine XO.nil ?_
          exact stepQ_ok trivial (rfl)
        refine stepsD_cons rfl ?_ ?_
        · intro X HD hleD _
          replace hq := hq.mono hleD
          replace hp := hp.mono hleD
          replace hp20 := hp20.mono hleD
          replace hd20 := hd20.mono hleD
          refine withPreds_nil rfl ?_
          refine XO.move rfl rfl ?_
          refine XO.nil ?_
          exact stepQ_ok trivial (rfl)
        refine stepsD_cons rfl ?_ ?_
        · intro X HD hleD _
          replace hq := hq.mono hleD
          replace hp := hp.mono hleD
          replace hp20 := hp20.mono hleD
          replace hd20 := hd20.mono hleD
          refine withPreds_cons rfl rfl ?_
          rintro _ rfl
          refine withPreds_cons rfl rfl ?_
          rintro _ rfl
          refine withPreds_nil rfl ?_
          refine XO.callH rfl (rwithout_fn _ _ _ _ n k _ hq hp hlq hlp (by omega) (by omega)) rfl ?_
          rintro _ HW32 hleW32 ⟨aW32, cW32, dW32, eW32, rfl, hW32, hX32⟩
          replace hq := hq.mono hleW32
          replace hp := hp.mono hleW32
          replace hp20 := hp20.mono hleW32
          replace hd20 := hd20.mono hleW32
          refine XO.nil ?_
          exact stepQ_ok trivial (⟨_, _, _, _, rfl, hW32, hX32⟩)
        exact stepsD_end rfl
      case tail6 =>
        intro HD hleD _
        replace hq := hq.mono hleD
        replace hp := hp.mono hleD
        replace hp20 := hp20.mono hleD
        replace hd20 := hd20.mono hleD
        refine withPreds_cons rfl rfl ?_
        rintro _ rfl
        refine withPreds_cons rfl rfl ?_
        rintro _ rfl
        refine withPreds_cons rfl rfl ?_
        rintro _ rfl
        refine withPreds_cons rfl rfl ?_
        rintro _ ⟨aw, cw, aw2, cw2, rfl, hw1, hw2⟩
        refine withPreds_nil rfl ?_
        refine XO.storeO 2 rfl rfl rfl rfl ty_28 rfl rfl rfl rfl rfl ?_
        refine XO.storeO 1 rfl rfl rfl rfl ty_25 rfl rfl rfl rfl rfl ?_
        refine XO.assign rfl rfl ?_
        refine XO.nil ?_
        refine XC.seq2 ?_
        refine XC.ret ?_
        refine ⟨rfl, _, [], (resC_cell 2 rfl rfl ty_28 rfl rfl (resC_cell 1 rfl rfl ty_25 rfl rfl (resC_tmp rfl resC_nil))), (by repeat (first | exact List.Sublist.refl _ | apply List.Sublist.cons)), RetR.mk ?_⟩
        rw [ea, ep, en, if_pos (of_decide_eq_true (by assumption))]
        exact ⟨_, _, rfl, PkV.nil _, _, _, _, _, rfl, by assumption, by assumption⟩
    · refine XC.skip ?_
      refine XC.seq2 ?_
      refine XC.seq ?_
      refine XC.keep [1, 2, 4, 5, 8] rfl ?_
      apply XC.drawG (fun _ => True) trivial 4 [eqF _, eqF _, eqF _, fun v H => NtV H v ⟨withoutL n.q k, n.ap⟩] follows (by kernel_rfl) (by kernel_rfl) ⟨eqF_mono _, eqF_mono _, eqF_mono _, fun _ _ _ hle h => h.mono hle, trivial⟩ ?steps8 ?tail8
      case steps8 =>
        refine stepsD_cons rfl ?_ ?_
        · intro X HD hleD _
          replace hq := hq.mono hleD
          replace hp := hp.mono hleD
          replace hp20 := hp20.mono hleD
          replace hd20 := hd20.mono hleD
          refine withPreds_nil rfl ?_
          refine XO.loadO 0 rfl rfl ty_28 rfl rfl rfl ?_
          refine XO.nil ?_
          exact stepQ_ok trivial (rfl)
        refine stepsD_cons rfl ?_ ?_
        · intro X HD hleD _
          replace hq := hq.mono hleD
          replace hp := hp.mono hleD
          replace hp20 := hp20.mono hleD
          replace hd20 := hd20.mono hleD
          refine withPreds_nil rfl ?_
          refine XO.loadO 3 rfl rfl ty_25 rfl rfl rfl ?_
          refine XO.nil ?_
          exact stepQ_ok trivial (rfl)
        refine stepsD_cons rfl ?_ ?_
        · intro X HD hleD _
          replace hq := hq.mono hleD
          replace hp := hp.mono hleD
          replace hp20 := hp20.mono hleD
          replace hd20 := hd20.mono hleD
          refine withPreds_nil rfl ?_
          refine XO.move rfl rfl ?_
          refine XO.nil ?_
          exact stepQ_ok trivial (rfl)
        refine stepsD_cons rfl ?_ ?_
        · intro X HD hleD _
          replace hq := hq.mono hleD
          replace hp := hp.mono hleD
          replace hp20 := hp20.mono hleD
          replace hd20 := hd20.mono hleD
          refine withPreds_cons rfl rfl ?_
          rintro _ rfl
          refine withPreds_cons rfl rfl ?_
          rintro _ rfl
          refine withPreds_nil rfl ?_
          refine XO.callH rfl (rwithout_fn _ _ _ _ n k _ hq hp hlq hlp (by omega) (by omega)) rfl ?_
          rintro _ HW32 hleW32 ⟨aW32, cW32, dW32, eW32, rfl, hW32, hX32⟩
          replace hq := hq.mono hleW32
          replace hp := hp.mono hleW32
          replace hp20 := hp20.mono hleW32
          replace hd20 := hd20.mono hleW32
          refine XO.nil ?_
          exact stepQ_ok trivial (⟨_, _, _, _, rfl, hW32, hX32⟩)
        exact stepsD_end rfl
      case tail8 =>
        intro HD hleD _
        replace hq := hq.mono hleD
        replace hp := hp.mono hleD
        replace hp20 := hp20.mono hleD
        replace hd20 := hd20.mono hleD
        refine withPreds_cons rfl rfl ?_
        rintro _ rfl
        refine withPreds_cons rfl rfl ?_
        rintro _ rfl
        refine withPreds_cons rfl rfl ?_
        rintro _ rfl
        refine withPreds_cons rfl rfl ?_
        rintro _ ⟨aw, cw, aw2, cw2, rfl, hw1, hw2⟩
        refine withPreds_nil rfl ?_
        refine XO.storeO 2 rfl rfl rfl rfl ty_28 rfl rfl rfl rfl rfl ?_
        refine XO.storeO 1 rfl rfl rfl rfl ty_25 rfl rfl rfl rfl rfl ?_
        refine XO.assign rfl rfl ?_
        refine XO.nil ?_
        refine XC.seq2 ?_
        refine XC.ret ?_
        refine ⟨rfl, _, [], (resC_cell 2 rfl rfl ty_28 rfl rfl (resC_cell 1 rfl rfl ty_25 rfl rfl (resC_tmp rfl resC_nil))), (by repeat (first | exact List.Sublist.refl _ | apply List.Sublist.cons)), RetR.mk ?_⟩
        rw [ea, ep, en, if_neg (of_decide_eq_false (by assumption))]
        exact ⟨_, _, rfl, ⟨_, _, rfl, by assumption⟩, _, _, _, _, rfl, by assumption, by assumption⟩

theorem lose_fn (aq ap : Option Addr) (cq cp : Nat) (n : Nt) (i : Int) (H : Hp) (hq : SlR pkR H aq cq n.q) (hp : SlR pairR H ap cp n.ap) (hlq : n.q.length < 4611686018427387904) (hlp : n.ap.length < 4611686018427387904) : FnC Try.prog 23 #[.agg ⟨[.slice aq n.q.length cq, .slice ap n.ap.length cp]⟩, .int .i64 i] H [] (RetR fun v H _ => ∃ v1, v = .tuple #[v1, .int .i64 (askE n i)] ∧ NtV H v1 (delN n i)) := by
  refine FnC.introC (args := [.agg ⟨[.slice aq n.q.length cq, .slice ap n.ap.length cp]⟩, .int .i64 i]) Try.func23 rfl rfl Try.ntmps23 rfl rfl rfl fun G rest => ?_
  refine XC.seq ?_
  refine XC.region ?_
  refine XO.box rfl rfl rfl (fun b2 => ?_)
  refine XO.alloc ze_25 rfl (fun b4 => ?_)
  refine XO.assign rfl rfl ?_
  refine XO.nil ?_
  refine XC.seq2 ?_
  refine XC.seq ?_
  refine XC.seq ?_
  refine XC.region ?_
  refine XO.loadO 1 rfl rfl ty_25 rfl rfl rfl ?_
  refine XO.move rfl rfl ?_
  refine XO.callH rfl (at_fn _ _ _ _ n i _ hq hp hlq hlp) rfl ?_
  rintro _ HN9 hleN9 ⟨vN9, rfl, aN9, cN9, rfl, hN9⟩
  replace hq := hq.mono hleN9
  replace hp := hp.mono hleN9
  refine XO.move rfl rfl ?_
  refine XO.extract rfl rfl rfl ?_
  refine XO.extract rfl rfl rfl ?_
  refine XO.assign rfl rfl ?_
  refine XO.nil ?_
  refine XC.seq2 ?_
  refine XC.seq ?_
  refine XC.region ?_
  refine XO.move rfl rfl ?_
  refine XO.neq rfl rfl rfl ?_
  refine XO.nil ?_
  refine XC.seq2 ?_
  refine XC.cond rfl (fun c0_2 => ?_) (fun c0_2 => ?_)
  · refine XC.seq ?_
    refine XC.region ?_
    refine XO.loadO 0 rfl rfl ty_25 rfl rfl rfl ?_
    refine XO.move rfl rfl ?_
    refine XO.storeO 0 rfl rfl rfl rfl ty_25 rfl rfl rfl rfl rfl ?_
    refine XO.assign rfl rfl ?_
    refine XO.nil ?_
    refine XC.seq2 ?_
    refine XC.ret ?_
    refine seqX_ret ?_
    refine ⟨rfl, _, [], (resC_cell 0 rfl rfl ty_25 rfl rfl (resC_tmp rfl resC_nil)), (by repeat (first | exact List.Sublist.refl _ | apply List.Sublist.cons)), RetR.mk ?_⟩
    obtain ⟨e1, e2, e3, _⟩ := at_bad (n := n) (i := i) (by assumption)
    rw [e3]
    exact ⟨_, rfl, NtV.nil _⟩
  · obtain ⟨hnet, k, rfl, hk⟩ := ask_inv (n := n) (i := i) (by omega)
    have hq4 := hnet.1
    obtain ⟨x, hx⟩ : ∃ x, n.q[k]? = some x := ⟨_, List.getElem?_eq_getElem hk⟩
    obtain ⟨ea, ep, en, er⟩ := del_eq hnet hx
    
    refine XC.skip ?_
    refine XC.seq2 ?_
    refine XC.seq ?_
    refine XC.region ?_
    refine XO.loadO 1 rfl rfl ty_25 rfl rfl rfl ?_
    refine XO.move rfl rfl ?_
    refine XO.callH rfl (without_fn _ _ _ _ n k _ hq hp hlq hlp (by omega) (by omega)) rfl ?_
    rintro _ HW18 hleW18 ⟨aW18, cW18, dW18, eW18, rfl, hW18, hX18⟩
    replace hq := hq.mono hleW18
    replace hp := hp.mono hleW18
    replace hN9 := hN9.mono hleW18
    refine XO.storeO 0 rfl rfl rfl rfl ty_25 rfl rfl rfl rfl rfl ?_
    refine XO.assign rfl rfl ?_
    refine XO.nil ?_
    refine XC.seq2 ?_
    refine XC.ret ?_
    refine ⟨rfl, _, [], (resC_cell 0 rfl rfl ty_25 rfl rfl (resC_tmp rfl resC_nil)), (by repeat (first | exact List.Sublist.refl _ | apply List.Sublist.cons)), RetR.mk ?_⟩
    rw [ea, en]
    exact ⟨_, rfl, _, _, _, _, rfl, by assumption, by assumption⟩

theorem rlose_fn (aq ap : Option Addr) (cq cp : Nat) (n : Nt) (i : Int) (H : Hp) (hq : SlR pkR H aq cq n.q) (hp : SlR pairR H ap cp n.ap) (hlq : n.q.length < 4611686018427387904) (hlp : n.ap.length < 4611686018427387904) : FnC Try.prog 24 #[.agg ⟨[.slice aq n.q.length cq, .slice ap n.ap.length cp]⟩, .int .i64 i] H [] (RetR fun v H _ => ∃ v1, v = .tuple #[v1, .int .i64 (askE n i)] ∧ NtV H v1 (delN n i)) := by
  refine FnC.introC (args := [.agg ⟨[.slice aq n.q.length cq, .slice ap n.ap.length cp]⟩, .int .i64 i]) Try.func24 rfl rfl Try.ntmps24 rfl rfl rfl fun G rest => ?_
  refine XC.seq ?_
  refine XC.region ?_
  refine XO.box rfl rfl rfl (fun b2 => ?_)
  refine XO.alloc ze_25 rfl (fun b4 => ?_)
  refine XO.assign rfl rfl ?_
  refine XO.nil ?_
  refine XC.seq2 ?_
  refine XC.seq ?_
  refine XC.region ?_
  refine XO.loadO 1 rfl rfl ty_25 rfl rfl rfl ?_
  refine XO.move rfl rfl ?_
  refine XO.callV rfl (asked_fn _ _ _ _ n i _ hq hp hlq hlp) rfl ?_
  refine XO.assign rfl rfl ?_
  refine XO.nil ?_
  refine XC.seq2 ?_
  refine XC.seq ?_
  refine XC.seq ?_
  refine XC.region ?_
  refine XO.move rfl rfl ?_
  refine XO.neq rfl rfl rfl ?_
  refine XO.nil ?_
  refine XC.seq2 ?_
  refine XC.cond rfl (fun c0_2 => ?_) (fun c0_2 => ?_)
  · refine XC.seq ?_
    refine XC.region ?_
    refine XO.build bk_25 bf_25 ze_25 rfl rfl rfl ?_
    refine XO.move rfl rfl ?_
    refine XO.storeO 0 rfl rfl rfl rfl ty_25 rfl rfl rfl rfl rfl ?_
    refine XO.assign rfl rfl ?_
    refine XO.nil ?_
    refine XC.seq2 ?_
    refine XC.ret ?_
    refine seqX_ret ?_
    refine ⟨rfl, _, [], (resC_cell 0 rfl rfl ty_25 rfl rfl (resC_tmp rfl resC_nil)), (by repeat (first | exact List.Sublist.refl _ | apply List.Sublist.cons)), RetR.mk ?_⟩
    obtain ⟨e1, e2, e3, _⟩ := at_bad (n := n) (i := i) (by assumption)
    rw [e3]
    exact ⟨_, rfl, NtV.nil _⟩
  · obtain ⟨hnet, k, rfl, hk⟩ := ask_inv (n := n) (i := i) (by omega)
    have hq4 := hnet.1
    obtain ⟨x, hx⟩ : ∃ x, n.q[k]? = some x := ⟨_, List.getElem?_eq_getElem hk⟩
    obtain ⟨ea, ep, en, er⟩ := del_eq hnet hx
    
    refine XC.skip ?_
    refine XC.seq2 ?_
    refine XC.seq ?_
    refine XC.region ?_
    refine XO.loadO 1 rfl rfl ty_25 rfl rfl rfl ?_
    refine XO.move rfl rfl ?_
    refine XO.callH rfl (rwithout_fn _ _ _ _ n k _ hq hp hlq hlp (by omega) (by omega)) rfl ?_
    rintro _ HW16 hleW16 ⟨aW16, cW16, dW16, eW16, rfl, hW16, hX16⟩
    replace hq := hq.mono hleW16
    replace hp := hp.mono hleW16
    refine XO.storeO 0 rfl rfl rfl rfl ty_25 rfl rfl rfl rfl rfl ?_
    refine XO.assign rfl rfl ?_
    refine XO.nil ?_
    refine XC.seq2 ?_
    refine XC.ret ?_
    refine ⟨rfl, _, [], (resC_cell 0 rfl rfl ty_25 rfl rfl (resC_tmp rfl resC_nil)), (by repeat (first | exact List.Sublist.refl _ | apply List.Sublist.cons)), RetR.mk ?_⟩
    rw [ea, en]
    exact ⟨_, rfl, _, _, _, _, rfl, by assumption, by assumption⟩

theorem repeat_fn (aq ap : Option Addr) (cq cp : Nat) (n : Nt) (i : Int) (H : Hp) (hq : SlR pkR H aq cq n.q) (hp : SlR pairR H ap cp n.ap) (hlq : n.q.length < 4611686018427387904) (hlp : n.ap.length < 4611686018427387904) : FnC Try.prog 25 #[.agg ⟨[.slice aq n.q.length cq, .slice ap n.ap.length cp]⟩, .int .i64 i] H [] (RetR fun v H _ => ∃ v1, v = .tuple #[v1, .int .i64 (repV n i).2] ∧ NtV H v1 (repV n i).1) := by
  refine FnC.introC (args := [.agg ⟨[.slice aq n.q.length cq, .slice ap n.ap.length cp]⟩, .int .i64 i]) Try.func25 rfl rfl Try.ntmps25 rfl rfl rfl fun G rest => ?_
  refine XC.seq ?_
  refine XC.region ?_
  refine XO.box rfl rfl rfl (fun b2 => ?_)
  refine XO.alloc ze_25 rfl (fun b4 => ?_)
  refine XO.assign rfl rfl ?_
  refine XO.nil ?_
  refine XC.seq2 ?_
  refine XC.seq ?_
  refine XC.region ?_
  refine XO.loadO 1 rfl rfl ty_25 rfl rfl rfl ?_
  refine XO.move rfl rfl ?_
  refine XO.callH rfl (at_fn _ _ _ _ n i _ hq hp hlq hlp) rfl ?_
  rintro _ HN10 hleN10 ⟨vN10, rfl, aN10, cN10, rfl, hN10⟩
  replace hq := hq.mono hleN10
  replace hp := hp.mono hleN10
  refine XO.move rfl rfl ?_
  refine XO.extract rfl rfl rfl ?_
  refine XO.extract rfl rfl rfl ?_
  refine XO.alloc ze_28 rfl (fun b6 => ?_)
  refine XO.storeO 0 rfl rfl rfl rfl ty_28 rfl rfl rfl rfl rfl ?_
  refine XO.assign rfl rfl ?_
  refine XO.nil ?_
  refine XC.seq2 ?_
  refine XC.seq ?_
  refine XC.seq ?_
  refine XC.region ?_
  refine XO.move rfl rfl ?_
  refine XO.neq rfl rfl rfl ?_
  refine XO.nil ?_
  refine XC.seq2 ?_
  refine XC.cond rfl (fun c0_2 => ?_) (fun c0_2 => ?_)
  · refine XC.seq ?_
    refine XC.region ?_
    refine XO.loadO 1 rfl rfl ty_25 rfl rfl rfl ?_
    refine XO.move rfl rfl ?_
    refine XO.storeO 1 rfl rfl rfl rfl ty_25 rfl rfl rfl rfl rfl ?_
    refine XO.assign rfl rfl ?_
    refine XO.nil ?_
    refine XC.seq2 ?_
    refine XC.ret ?_
    refine seqX_ret ?_
    refine ⟨rfl, _, [], (resC_cell 1 rfl rfl ty_25 rfl rfl (resC_tmp rfl resC_nil)), (by repeat (first | exact List.Sublist.refl _ | apply List.Sublist.cons)), RetR.mk ?_⟩
    obtain ⟨e1, e2, e3, e4⟩ := at_bad (n := n) (i := i) (by assumption)
    rw [e4]
    exact ⟨_, rfl, NtV.nil _⟩
  · obtain ⟨hnet, k, rfl, hk⟩ := ask_inv (n := n) (i := i) (by omega)
    have hq4 := hnet.1
    obtain ⟨x, hx⟩ : ∃ x, n.q[k]? = some x := ⟨_, List.getElem?_eq_getElem hk⟩
    obtain ⟨ea, ep, en, er⟩ := del_eq hnet hx
    have hat := at_eq hnet hx
    rw [hat] at hN10 ⊢
    refine XC.skip ?_
    refine XC.seq2 ?_
    refine XC.seq ?_
    refine XC.region ?_
    refine XO.loadO 2 rfl rfl ty_25 rfl rfl rfl ?_
    refine XO.loadO 0 rfl rfl ty_28 rfl rfl rfl ?_
    have hcall19 := send_fn _ _ _ _ n x _ _ _ hq hp hlq hlp hN10
    refine XO.callH rfl hcall19 rfl ?_
    rintro _ HN19 hleN19 ⟨vN19, rfl, aN19, cN19, bN19, dN19, rfl, hN19, kN19⟩
    replace hq := hq.mono hleN19
    replace hp := hp.mono hleN19
    replace hN10 := hN10.mono hleN19
    refine XO.extract rfl rfl rfl ?_
    refine XO.extract rfl rfl rfl ?_
    refine XO.storeO 1 rfl rfl rfl rfl ty_25 rfl rfl rfl rfl rfl ?_
    refine XO.assign rfl rfl ?_
    refine XO.nil ?_
    refine XC.seq2 ?_
    refine XC.ret ?_
    refine ⟨rfl, _, [], (resC_cell 1 rfl rfl ty_25 rfl rfl (resC_tmp rfl resC_nil)), (by repeat (first | exact List.Sublist.refl _ | apply List.Sublist.cons)), RetR.mk ?_⟩
    rw [er]
    exact ⟨_, rfl, _, _, _, _, rfl, by assumption, by assumption⟩

theorem rrepeat_fn (aq ap : Option Addr) (cq cp : Nat) (n : Nt) (i : Int) (H : Hp) (hq : SlR pkR H aq cq n.q) (hp : SlR pairR H ap cp n.ap) (hlq : n.q.length < 4611686018427387904) (hlp : n.ap.length < 4611686018427387904) : FnC Try.prog 26 #[.agg ⟨[.slice aq n.q.length cq, .slice ap n.ap.length cp]⟩, .int .i64 i] H [] (RetR fun v H _ => ∃ v1, v = .tuple #[v1, .int .i64 (repV n i).2] ∧ NtV H v1 (repV n i).1) := by
  refine FnC.introC (args := [.agg ⟨[.slice aq n.q.length cq, .slice ap n.ap.length cp]⟩, .int .i64 i]) Try.func26 rfl rfl Try.ntmps26 rfl rfl rfl fun G rest => ?_
  refine XC.seq ?_
  refine XC.region ?_
  refine XO.box rfl rfl rfl (fun b2 => ?_)
  refine XO.alloc ze_25 rfl (fun b4 => ?_)
  refine XO.assign rfl rfl ?_
  refine XO.nil ?_
  refine XC.seq2 ?_
  refine XC.seq ?_
  refine XC.region ?_
  refine XO.loadO 1 rfl rfl ty_25 rfl rfl rfl ?_
  refine XO.move rfl rfl ?_
  refine XO.callV rfl (asked_fn _ _ _ _ n i _ hq hp hlq hlp) rfl ?_
  refine XO.assign rfl rfl ?_
  refine XO.nil ?_
  refine XC.seq2 ?_
  refine XC.seq ?_
  refine XC.seq ?_
  refine XC.region ?_
  refine XO.move rfl rfl ?_
  refine XO.neq rfl rfl rfl ?_
  refine XO.nil ?_
  refine XC.seq2 ?_
  refine XC.cond rfl (fun c0_2 => ?_) (fun c0_2 => ?_)
  · refine XC.seq ?_
    refine XC.region ?_
    refine XO.build bk_25 bf_25 ze_25 rfl rfl rfl ?_
    refine XO.move rfl rfl ?_
    refine XO.storeO 0 rfl rfl rfl rfl ty_25 rfl rfl rfl rfl rfl ?_
    refine XO.assign rfl rfl ?_
    refine XO.nil ?_
    refine XC.seq2 ?_
    refine XC.ret ?_
    refine seqX_ret ?_
    refine ⟨rfl, _, [], (resC_cell 0 rfl rfl ty_25 rfl rfl (resC_tmp rfl resC_nil)), (by repeat (first | exact List.Sublist.refl _ | apply List.Sublist.cons)), RetR.mk ?_⟩
    obtain ⟨e1, e2, e3, e4⟩ := at_bad (n := n) (i := i) (by assumption)
    rw [e4]
    exact ⟨_, rfl, NtV.nil _⟩
  · obtain ⟨hnet, k, rfl, hk⟩ := ask_inv (n := n) (i := i) (by omega)
    have hq4 := hnet.1
    obtain ⟨x, hx⟩ : ∃ x, n.q[k]? = some x := ⟨_, List.getElem?_eq_getElem hk⟩
    obtain ⟨ea, ep, en, er⟩ := del_eq hnet hx
    
    refine XC.skip ?_
    refine XC.seq2 ?_
    refine XC.seq ?_
    refine XC.keep [1, 2, 4] rfl ?_
    obtain ⟨bEX, oEX, rfl⟩ := hq.addr (by omega)
    obtain ⟨_, xX, hxX, ⟨axX, cxX, rfl, hdX⟩, hpX⟩ := hq.elem (k) (by omega)
    obtain rfl := Option.some.inj (hx.symm.trans hxX)
    apply XC.drawG (fun _ => True) trivial 9 [eqF _, eqF _, eqF _, eqF _, eqF _, eqF _, fun v H => ∃ v1, v = .tuple #[v1, .int .i64 (sendV n x).2] ∧ NtV H v1 (sendV n x).1, fun v H => NtV H v (sendV n x).1, eqF _] follows (by kernel_rfl) (by kernel_rfl) ⟨eqF_mono _, eqF_mono _, eqF_mono _, eqF_mono _, eqF_mono _, eqF_mono _, fun _ _ _ hle ⟨v1, h1, h2⟩ => ⟨v1, h1, h2.mono hle⟩, fun _ _ _ hle h => h.mono hle, eqF_mono _, trivial⟩ ?steps3 ?tail3
    case steps3 =>
      refine stepsD_cons rfl ?_ ?_
      · intro X HD hleD _
        replace hq := hq.mono hleD
        replace hp := hp.mono hleD
        replace hpX := hpX.mono hleD
        replace hdX := hdX.mono hleD
        refine withPreds_nil rfl ?_
        refine XO.loadO 1 rfl rfl ty_25 rfl rfl rfl ?_
        refine XO.nil ?_
        exact stepQ_ok trivial (rfl)
      refine stepsD_cons rfl ?_ ?_
      · intro X HD hleD _
        replace hq := hq.mono hleD
        replace hp := hp.mono hleD
        replace hpX := hpX.mono hleD
        replace hdX := hdX.mono hleD
        refine withPreds_nil rfl ?_
        refine XO.fieldAddr rfl fa_25_0 rfl ?_
        refine XO.nil ?_
        exact stepQ_ok trivial (rfl)
      refine stepsD_cons rfl ?_ ?_
      · intro X HD hleD _
        replace hq := hq.mono hleD
        replace hp := hp.mono hleD
        replace hpX := hpX.mono hleD
        replace hdX := hdX.mono hleD
        refine withPreds_cons rfl rfl ?_
        rintro _ rfl
        refine withPreds_nil rfl ?_
        refine XO.loadO 1 rfl rfl ty_22 rfl rfl rfl ?_
        refine XO.nil ?_
        exact stepQ_ok trivial (rfl)
      refine stepsD_cons rfl ?_ ?_
      · intro X HD hleD _
        replace hq := hq.mono hleD
        replace hp := hp.mono hleD
        replace hpX := hpX.mono hleD
        replace hdX := hdX.mono hleD
        refine withPreds_nil rfl ?_
        refine XO.move rfl rfl ?_
        refine XO.nil ?_
        exact stepQ_ok trivial (rfl)
      refine stepsD_cons rfl ?_ ?_
      · intro X HD hleD _
        replace hq := hq.mono hleD
        replace hp := hp.mono hleD
        replace hpX := hpX.mono hleD
        replace hdX := hdX.mono hleD
        refine withPreds_cons rfl rfl ?_
        rintro _ rfl
        refine withPreds_cons rfl rfl ?_
        rintro _ rfl
        refine withPreds_nil rfl ?_
        refine XO.indexE rfl rfl Try.underlying22 ty_28 (by omega) (by omega) rfl ?_
        refine XO.nil ?_
        exact stepQ_ok trivial (rfl)
      refine stepsD_cons rfl ?_ ?_
      · intro X HD hleD _
        replace hq := hq.mono hleD
        replace hp := hp.mono hleD
        replace hpX := hpX.mono hleD
        replace hdX := hdX.mono hleD
        refine withPreds_cons rfl rfl ?_
        rintro _ rfl
        refine withPreds_nil rfl ?_
        refine XO.loadH rfl (by assumption) ty_28 rfl rfl rfl ?_
        refine XO.nil ?_
        exact stepQ_ok trivial (rfl)
      refine stepsD_cons rfl ?_ ?_
      · intro X HD hleD _
        replace hq := hq.mono hleD
        replace hp := hp.mono hleD
        replace hpX := hpX.mono hleD
        replace hdX := hdX.mono hleD
        refine withPreds_cons rfl rfl ?_
        rintro _ rfl
        refine withPreds_cons rfl rfl ?_
        rintro _ rfl
        refine withPreds_nil rfl ?_
        have hcall20 := rsend_fn _ _ _ _ n x _ _ _ hq hp hlq hlp hdX
        refine XO.callH rfl hcall20 rfl ?_
        rintro _ HN20 hleN20 ⟨vN20, rfl, aN20, cN20, bN20, dN20, rfl, hN20, kN20⟩
        replace hq := hq.mono hleN20
        replace hp := hp.mono hleN20
        replace hpX := hpX.mono hleN20
        replace hdX := hdX.mono hleN20
        refine XO.nil ?_
        exact stepQ_ok trivial (⟨_, rfl, _, _, _, _, rfl, hN20, kN20⟩)
      refine stepsD_cons rfl ?_ ?_
      · intro X HD hleD _
        replace hq := hq.mono hleD
        replace hp := hp.mono hleD
        replace hpX := hpX.mono hleD
        replace hdX := hdX.mono hleD
        refine withPreds_cons rfl rfl ?_
        rintro _ ⟨v6, rfl, a6, c6, b6, d6, rfl, h6, k6⟩
        refine withPreds_nil rfl ?_
        refine XO.extract rfl rfl rfl ?_
        refine XO.nil ?_
        exact stepQ_ok trivial (⟨_, _, _, _, rfl, h6, k6⟩)
      refine stepsD_cons rfl ?_ ?_
      · intro X HD hleD _
        replace hq := hq.mono hleD
        replace hp := hp.mono hleD
        replace hpX := hpX.mono hleD
        replace hdX := hdX.mono hleD
        refine withPreds_cons rfl rfl ?_
        rintro _ ⟨v6, rfl, a6, c6, b6, d6, rfl, h6, k6⟩
        refine withPreds_nil rfl ?_
        refine XO.extract rfl rfl rfl ?_
        refine XO.nil ?_
        exact stepQ_ok trivial (rfl)
      exact stepsD_end rfl
    case tail3 =>
      intro HD hleD _
      replace hq := hq.mono hleD
      replace hp := hp.mono hleD
      replace hpX := hpX.mono hleD
      replace hdX := hdX.mono hleD
      refine withPreds_cons rfl rfl ?_
      rintro _ rfl
      refine withPreds_cons rfl rfl ?_
      rintro _ rfl
      refine withPreds_cons rfl rfl ?_
      rintro _ rfl
      refine withPreds_cons rfl rfl ?_
      rintro _ rfl
      refine withPreds_cons rfl rfl ?_
      rintro _ rfl
      refine withPreds_cons rfl rfl ?_
      rintro _ rfl
      refine withPreds_cons rfl rfl ?_
      rintro _ ⟨v6, rfl, a6, c6, b6, d6, rfl, h6, k6⟩
      refine withPreds_cons rfl rfl ?_
      rintro _ ⟨a7, c7, b7, d7, rfl, h7, k7⟩
      refine withPreds_cons rfl rfl ?_
      rintro _ rfl
      refine withPreds_nil rfl ?_
      refine XO.storeO 0 rfl rfl rfl rfl ty_25 rfl rfl rfl rfl rfl ?_
      refine XO.assign rfl rfl ?_
      refine XO.nil ?_
      refine XC.seq2 ?_
      refine XC.ret ?_
      refine ⟨rfl, _, [], (resC_cell 0 rfl rfl ty_25 rfl rfl (resC_tmp rfl resC_nil)), (by repeat (first | exact List.Sublist.refl _ | apply List.Sublist.cons)), RetR.mk ?_⟩
      rw [er]
      exact ⟨_, rfl, _, _, _, _, rfl, by assumption, by assumption⟩

end Go.Proofs
