/- The law NetworkSpec: it returns true, whatever the input, and what it was handed reads as before. No condition. -/
import Derived.Test.YtonmnpdhpailcaaRbO
import Derived.Test.YtonmnpdhpailcaaRbD
import Derived.Test.YtonmnpdhpailcaaRows
import Derived.WalkKit
import Derived.ProofKit
import Derived.OpenShut
import Derived.ShutString
import Derived.ChangeOld
import Derived.Below
set_option autoImplicit false
set_option linter.unusedVariables false
set_option linter.unusedSimpArgs false
namespace Go.Proofs.Ytonmnpdhpailcaa
open Go.XL



theorem networkSpec_fn (aq ap : Option Addr) (cq cp : Nat) (n : Nt) (p : Pk) (ad : Option Addr) (cd : Nat) (H : Hp) (hq : SlR pkR H aq cq n.q) (hp : SlR pairR H ap cp n.ap) (hd : SlR u8R H ad cd p.Data) : FnC Try.prog 3 #[.agg ⟨[.slice aq n.q.length cq, .slice ap n.ap.length cp]⟩, .agg ⟨[.int .i64 p.From, .int .i64 p.To, .slice ad p.Data.length cd]⟩] H [] (RetR fun v _ _ => v = .bool true) := by
  refine FnC.intro (args := [.agg ⟨[.slice aq n.q.length cq, .slice ap n.ap.length cp]⟩, .agg ⟨[.int .i64 p.From, .int .i64 p.To, .slice ad p.Data.length cd]⟩]) Try.func3 rfl rfl Try.ntmps3 rfl rfl rfl fun G rest => ?_
  refine XC.seq ?_
  refine XC.region ?_
  refine XO.box rfl rfl rfl (fun b2 => ?_)
  refine XO.box rfl rfl rfl (fun b3 => ?_)
  refine XO.assign rfl rfl ?_
  refine XO.nil ?_
  refine XC.seq2 ?_
  refine XC.seq ?_
  refine XC.seq ?_
  refine XC.region ?_
  refine XO.callV rfl (sane06 _) rfl ?_
  refine XO.notB rfl rfl ?_
  refine XO.nil ?_
  refine XC.seq2 ?_
  refine XC.condF rfl (rfl) ?_
  refine XC.skip ?_
  refine XC.seq2 ?_
  refine XC.seq ?_
  refine XC.seq ?_
  refine XC.region ?_
  refine XO.loadO 1 rfl rfl ty_25 rfl rfl rfl ?_
  refine XO.callV rfl (few_fn _ _ _ _ _ _) rfl ?_
  refine XO.not rfl rfl ?_
  refine XO.nil ?_
  refine XC.seq2 ?_
  refine XC.cond rfl (fun c1_3 => ?_) (fun c1_3 => ?_)
  · refine XC.seq ?_
    refine XC.region ?_
    refine XO.assign rfl rfl ?_
    refine XO.nil ?_
    refine XC.seq2 ?_
    refine XC.ret ?_
    refine seqX_ret ?_
    refine ⟨rfl, _, [], rfl, (by repeat (first | exact List.Sublist.refl _ | apply List.Sublist.cons)), RetR.mk ?_⟩
    first | rfl | exact congrArg Value.bool (decide_eq_true rfl)
  · have hfew : n.q.length ≤ 40 ∧ n.ap.length ≤ 40 := Decidable.not_not.1 (by assumption)
    have hlq : n.q.length < 4611686018427387904 := by omega
    have hlp : n.ap.length < 4611686018427387904 := by omega
    have hsl := send_len n p
    refine XC.skip ?_
    refine XC.seq2 ?_
    refine XC.seq ?_
    refine XC.region ?_
    refine XO.loadO 1 rfl rfl ty_25 rfl rfl rfl ?_
    refine XO.loadO 0 rfl rfl ty_28 rfl rfl rfl ?_
    refine XO.callH rfl (send_fn _ _ _ _ n p _ _ _ hq hp hlq hlp hd) rfl ?_
    rintro _ HD17 hleD17 ⟨_, rfl, ⟨d17, e17, f17, g17, rfl, i17, j17⟩⟩
    replace hq := hq.mono hleD17
    replace hp := hp.mono hleD17
    replace hd := hd.mono hleD17
    refine XO.move rfl rfl ?_
    refine XO.extract rfl rfl rfl ?_
    refine XO.extract rfl rfl rfl ?_
    refine XO.alloc ze_25 rfl (fun b5 => ?_)
    refine XO.storeO 0 rfl rfl rfl rfl ty_25 rfl rfl rfl rfl rfl ?_
    refine XO.assign rfl rfl ?_
    refine XO.nil ?_
    refine XC.seq2 ?_
    refine XC.seq ?_
    refine XC.region ?_
    refine XO.loadO 2 rfl rfl ty_25 rfl rfl rfl ?_
    refine XO.loadO 1 rfl rfl ty_28 rfl rfl rfl ?_
    refine XO.callH rfl (rsend_fn _ _ _ _ n p _ _ _ hq hp hlq hlp hd) rfl ?_
    rintro _ HD23 hleD23 ⟨_, rfl, ⟨d23, e23, f23, g23, rfl, i23, j23⟩⟩
    replace hq := hq.mono hleD23
    replace hp := hp.mono hleD23
    replace hd := hd.mono hleD23
    replace i17 := i17.mono hleD23
    replace j17 := j17.mono hleD23
    refine XO.move rfl rfl ?_
    refine XO.extract rfl rfl rfl ?_
    refine XO.extract rfl rfl rfl ?_
    refine XO.alloc ze_25 rfl (fun b7 => ?_)
    refine XO.storeO 0 rfl rfl rfl rfl ty_25 rfl rfl rfl rfl rfl ?_
    refine XO.assign rfl rfl ?_
    refine XO.nil ?_
    refine XC.seq2 ?_
    refine XC.seq ?_
    refine XC.keep [2, 5, 6, 7, 8] rfl ?_
    apply XC.drawH (fun _ => True) trivial [] (by decide) (fun _ _ _ _ => True) (fun _ _ _ _ _ _ h => h) 13 [eqF _, eqF _, eqF _, eqF _, eqF _, eqF _, eqF _, eqF _, eqF _, eqF _, eqF _, eqF _, eqF _] follows (by kernel_rfl) ⟨eqF_mono _, eqF_mono _, eqF_mono _, eqF_mono _, eqF_mono _, eqF_mono _, eqF_mono _, eqF_mono _, eqF_mono _, eqF_mono _, eqF_mono _, eqF_mono _, eqF_mono _, trivial⟩ (by decide) ?steps6 ?tail6
    case steps6 =>
      refine stepsH_cons rfl ?_ ?_
      · intro X ext HD hleD _
        replace hq := hq.mono hleD
        replace hp := hp.mono hleD
        replace hd := hd.mono hleD
        replace i17 := i17.mono hleD
        replace j17 := j17.mono hleD
        replace i23 := i23.mono hleD
        replace j23 := j23.mono hleD
        refine withP_nil rfl ?_
        refine XO.loadO 3 rfl rfl ty_25 rfl rfl rfl ?_
        refine XO.nil ?_
        exact stepQN_ok rfl trivial (rfl)
      refine stepsH_cons rfl ?_ ?_
      · intro X ext HD hleD _
        replace hq := hq.mono hleD
        replace hp := hp.mono hleD
        replace hd := hd.mono hleD
        replace i17 := i17.mono hleD
        replace j17 := j17.mono hleD
        replace i23 := i23.mono hleD
        replace j23 := j23.mono hleD
        refine withP_cons rfl rfl ?_
        rintro _ rfl
        refine withP_nil rfl ?_
        refine XO.callV rfl (check_fn _ _ _ _ n _ hq hp hlq hlp) rfl ?_
        refine XO.nil ?_
        exact stepQN_ok rfl trivial (rfl)
      refine stepsH_cons rfl ?_ ?_
      · intro X ext HD hleD _
        replace hq := hq.mono hleD
        replace hp := hp.mono hleD
        replace hd := hd.mono hleD
        replace i17 := i17.mono hleD
        replace j17 := j17.mono hleD
        replace i23 := i23.mono hleD
        replace j23 := j23.mono hleD
        refine withP_nil rfl ?_
        refine XO.loadO 3 rfl rfl ty_25 rfl rfl rfl ?_
        refine XO.nil ?_
        exact stepQN_ok rfl trivial (rfl)
      refine stepsH_cons rfl ?_ ?_
      · intro X ext HD hleD _
        replace hq := hq.mono hleD
        replace hp := hp.mono hleD
        replace hd := hd.mono hleD
        replace i17 := i17.mono hleD
        replace j17 := j17.mono hleD
        replace i23 := i23.mono hleD
        replace j23 := j23.mono hleD
        refine withP_cons rfl rfl ?_
        rintro _ rfl
        refine withP_nil rfl ?_
        refine XO.callV rfl (rcheck_fn _ _ _ _ n _ hq hp hlq hlp) rfl ?_
        refine XO.nil ?_
        exact stepQN_ok rfl trivial (rfl)
      refine stepsH_cons rfl ?_ ?_
      · intro X ext HD hleD _
        replace hq := hq.mono hleD
        replace hp := hp.mono hleD
        replace hd := hd.mono hleD
        replace i17 := i17.mono hleD
        replace j17 := j17.mono hleD
        replace i23 := i23.mono hleD
        replace j23 := j23.mono hleD
        refine withP_cons rfl rfl ?_
        rintro _ rfl
        refine withP_cons rfl rfl ?_
        rintro _ rfl
        refine withP_nil rfl ?_
        refine XO.eql rfl rfl rfl ?_
        refine XO.nil ?_
        exact stepQN_ok rfl trivial (rfl)
      refine stepsH_cons rfl ?_ ?_
      · intro X ext HD hleD _
        replace hq := hq.mono hleD
        replace hp := hp.mono hleD
        replace hd := hd.mono hleD
        replace i17 := i17.mono hleD
        replace j17 := j17.mono hleD
        replace i23 := i23.mono hleD
        replace j23 := j23.mono hleD
        refine withP_cons rfl rfl ?_
        rintro _ rfl
        refine withP_nil rfl ?_
        refine XO.move rfl rfl ?_
        refine XO.nil ?_
        exact stepQN_ok rfl trivial (rfl)
      refine stepsH_cons rfl ?_ ?_
      · intro X ext HD hleD _
        replace hq := hq.mono hleD
        replace hp := hp.mono hleD
        replace hd := hd.mono hleD
        replace i17 := i17.mono hleD
        replace j17 := j17.mono hleD
        replace i23 := i23.mono hleD
        replace j23 := j23.mono hleD
        refine withP_cons rfl rfl ?_
        rintro _ rfl
        refine withP_nil rfl ?_
        refine XO.guardT rfl rfl (decide_eq_true rfl) rfl ?_
        refine XO.loadO 1 rfl rfl ty_25 rfl rfl rfl ?_
        refine XO.nil ?_
        exact stepQN_ok rfl trivial (rfl)
      refine stepsH_cons rfl ?_ ?_
      · intro X ext HD hleD _
        replace hq := hq.mono hleD
        replace hp := hp.mono hleD
        replace hd := hd.mono hleD
        replace i17 := i17.mono hleD
        replace j17 := j17.mono hleD
        replace i23 := i23.mono hleD
        replace j23 := j23.mono hleD
        refine withP_cons rfl rfl ?_
        rintro _ rfl
        refine withP_nil rfl ?_
        refine XO.guardT rfl rfl (decide_eq_true rfl) rfl ?_
        refine XO.loadO 0 rfl rfl ty_25 rfl rfl rfl ?_
        refine XO.nil ?_
        exact stepQN_ok rfl trivial (rfl)
      refine stepsH_cons rfl ?_ ?_
      · intro X ext HD hleD _
        replace hq := hq.mono hleD
        replace hp := hp.mono hleD
        replace hd := hd.mono hleD
        replace i17 := i17.mono hleD
        replace j17 := j17.mono hleD
        replace i23 := i23.mono hleD
        replace j23 := j23.mono hleD
        refine withP_cons rfl rfl ?_
        rintro _ rfl
        refine withP_cons rfl rfl ?_
        rintro _ rfl
        refine withP_cons rfl rfl ?_
        rintro _ rfl
        refine withP_nil rfl ?_
        refine XO.guardT rfl rfl (decide_eq_true rfl) rfl ?_
        refine XO.callV rfl (same_fn _ _ _ _ _ _ _ _ (sendV n p).1 (sendV n p).1 _ i17 j17 (by omega) (by omega) i23 j23) rfl ?_
        refine XO.nil ?_
        exact stepQN_ok rfl trivial (rfl)
      refine stepsH_cons rfl ?_ ?_
      · intro X ext HD hleD _
        replace hq := hq.mono hleD
        replace hp := hp.mono hleD
        replace hd := hd.mono hleD
        replace i17 := i17.mono hleD
        replace j17 := j17.mono hleD
        replace i23 := i23.mono hleD
        replace j23 := j23.mono hleD
        refine withP_cons rfl rfl ?_
        rintro _ rfl
        refine withP_cons rfl rfl ?_
        rintro _ rfl
        refine withP_nil rfl ?_
        refine XO.pickT rfl (decide_eq_true rfl) rfl rfl ?_
        refine XO.nil ?_
        exact stepQN_ok rfl trivial (rfl)
      refine stepsH_cons rfl ?_ ?_
      · intro X ext HD hleD _
        replace hq := hq.mono hleD
        replace hp := hp.mono hleD
        replace hd := hd.mono hleD
        replace i17 := i17.mono hleD
        replace j17 := j17.mono hleD
        replace i23 := i23.mono hleD
        replace j23 := j23.mono hleD
        refine withP_cons rfl rfl ?_
        rintro _ rfl
        refine withP_nil rfl ?_
        refine XO.move rfl rfl ?_
        refine XO.nil ?_
        exact stepQN_ok rfl trivial (rfl)
      refine stepsH_cons rfl ?_ ?_
      · intro X ext HD hleD _
        replace hq := hq.mono hleD
        replace hp := hp.mono hleD
        replace hd := hd.mono hleD
        replace i17 := i17.mono hleD
        replace j17 := j17.mono hleD
        replace i23 := i23.mono hleD
        replace j23 := j23.mono hleD
        refine withP_cons rfl rfl ?_
        rintro _ rfl
        refine withP_nil rfl ?_
        refine XO.guardT rfl rfl (decide_eq_true rfl) rfl ?_
        refine XO.move rfl rfl ?_
        refine XO.nil ?_
        exact stepQN_ok rfl trivial (rfl)
      refine stepsH_cons rfl ?_ ?_
      · intro X ext HD hleD _
        replace hq := hq.mono hleD
        replace hp := hp.mono hleD
        replace hd := hd.mono hleD
        replace i17 := i17.mono hleD
        replace j17 := j17.mono hleD
        replace i23 := i23.mono hleD
        replace j23 := j23.mono hleD
        refine withP_cons rfl rfl ?_
        rintro _ rfl
        refine withP_nil rfl ?_
        refine XO.guardT rfl rfl (decide_eq_true rfl) rfl ?_
        refine XO.move rfl rfl ?_
        refine XO.nil ?_
        exact stepQN_ok rfl trivial (rfl)
      exact stepsH_end rfl
    case tail6 =>
      intro HD hleD _
      replace hq := hq.mono hleD
      replace hp := hp.mono hleD
      replace hd := hd.mono hleD
      replace i17 := i17.mono hleD
      replace j17 := j17.mono hleD
      replace i23 := i23.mono hleD
      replace j23 := j23.mono hleD
      refine withP_cons rfl rfl ?_
      rintro _ rfl
      refine withP_cons rfl rfl ?_
      rintro _ rfl
      refine withP_cons rfl rfl ?_
      rintro _ rfl
      refine withP_cons rfl rfl ?_
      rintro _ rfl
      refine withP_cons rfl rfl ?_
      rintro _ rfl
      refine withP_cons rfl rfl ?_
      rintro _ rfl
      refine withP_cons rfl rfl ?_
      rintro _ rfl
      refine withP_cons rfl rfl ?_
      rintro _ rfl
      refine withP_cons rfl rfl ?_
      rintro _ rfl
      refine withP_cons rfl rfl ?_
      rintro _ rfl
      refine withP_cons rfl rfl ?_
      rintro _ rfl
      refine withP_cons rfl rfl ?_
      rintro _ rfl
      refine withP_cons rfl rfl ?_
      rintro _ rfl
      refine withP_nil rfl ?_
      refine withEnts_nil ?_
      refine XO.guardT rfl rfl (decide_eq_true rfl) rfl ?_
      refine XO.eql rfl rfl rfl ?_
      refine XO.pickT rfl (decide_eq_true rfl) rfl rfl ?_
      refine XO.move rfl rfl ?_
      refine XO.guardT rfl rfl (decide_eq_true rfl) rfl ?_
      refine XO.callV rfl (new_fn _) rfl ?_
      refine XO.guardT rfl rfl (decide_eq_true rfl) rfl ?_
      refine XO.callV rfl (rnew_fn _) rfl ?_
      refine XO.guardT rfl rfl (decide_eq_true rfl) rfl ?_
      refine XO.callV rfl (same_fn none none none none 0 0 0 0 ⟨[], []⟩ ⟨[], []⟩ _ (SlR.nil0 _ _) (SlR.nil0 _ _) (by decide) (by decide) (SlR.nil0 _ _) (SlR.nil0 _ _)) rfl ?_
      refine XO.pickT rfl (decide_eq_true rfl) rfl rfl ?_
      refine XO.assign rfl rfl ?_
      refine XO.nil ?_
      refine XC.seq2 ?_
      refine XC.ret ?_
      refine ⟨rfl, _, [], rfl, (by repeat (first | exact List.Sublist.refl _ | apply List.Sublist.cons)), RetR.mk ?_⟩
      first | rfl | exact congrArg Value.bool (decide_eq_true rfl)

namespace networkSpec
open Go.ChangeShapes Go.WideShapes Go.ChangeAt Go.RowKit
open Go.ChangeMaps (open_string shut_string)
theorem own : ownKnob Try.prog.godebug = none := by kernel_rfl
theorem laidOut : laidOutB Try.prog = true := by kernel_rfl
set_option maxRecDepth 100000 in
theorem lifted (os : Os) (started : os.Started) (H : Type) (enc : TypeId × Value → H) :
    ReturnsInHanded {} Try.checked os 3 .any (Rows.networkSpecSpec.pre6 enc Try.prog Try.f3 Rows.networkSpecRow.domain false) (Rows.networkSpecSpec.post enc Try.prog Try.f3 false true false false) := by
  refine returnsInHanded_of_change (C := Try.checked) own started (by kernel_rfl) Try.func3
    (ChangeSpec.witness6 (enc := enc) (C := Try.checked) false ⟨#[], #[.agg ⟨[.slice none 0 0, .slice none 0 0]⟩, .agg ⟨[.int .i64 0, .int .i64 0, .slice none 0 0]⟩], []⟩ 8 (by kernel_rfl) (by kernel_rfl) (by kernel_rfl) (by kernel_rfl)) ?_
  intro W base args ds gs before hval0 hW hcnd _
  have hval : ∀ (j : Nat) t v, Try.f3.params[j]? = some t → args[j]? = some v → Value.okWide Try.prog W .any base t v := hval0
  have hW' := hW
  obtain ⟨p, q, hA0, hV, rfl, hfz, hnd⟩ := hW
  have hA : DataW.TrodAll enc Try.prog W 0 (fun _ => true) true Try.f3.params.toList args.toList ds p := hA0
  rw [Try.params3] at hA hval
  obtain ⟨v0, vs0, d0, ds0, p0, q0, hargs, rfl, rfl, h0, r0⟩ := trodAll_cons hA
  obtain ⟨v1, vs1, d1, ds1, p1, q1, rfl, rfl, rfl, h1, r1⟩ := trodAll_cons r0
  obtain ⟨rfl, rfl, rfl⟩ := trodAll_nil r1
  obtain rfl : args = #[v0, v1] := by cases args; simp_all
  obtain ⟨rfl, rfl⟩ := trodVars_none hV
  have k0 := h0
  have lt0 : ∀ x ∈ p0, x.block < W.heap.size := by obtain ⟨m, hm⟩ := k0; exact DataW.trod_lt m _ _ _ hm
  obtain ⟨fuel0, hf0⟩ := h0
  obtain ⟨l0, cl0, rfl, hR0, hw0⟩ := open_agg opens_net Try.underlying25 (hval 0 25 v0 rfl rfl) hf0
  obtain ⟨aq0, cq0, ap0, cp0, rfl, hq0, hp0⟩ := hR0
  have k1 := h1
  have lt1 : ∀ x ∈ p1, x.block < W.heap.size := by obtain ⟨m, hm⟩ := k1; exact DataW.trod_lt m _ _ _ hm
  obtain ⟨fuel1, hf1⟩ := h1
  obtain ⟨l1, cl1, rfl, hR1, hw1⟩ := open_agg opens_pk Try.underlying28 (hval 1 28 v1 rfl rfl) hf1
  obtain ⟨ad1, cd1, rfl, hd1⟩ := hR1
  clear hA0 hval0
  refine (networkSpec_fn _ _ _ _ l0 l1 _ _ (hpOf W) hq0 hp0 hd1).below.mono fun e W' ⟨he, bel⟩ => ?_
  subst he
  exact ⟨_, rfl, _, _, _, [], _, [], hW', trodAll_mk1 (shut_bool Try.underlying4 _), (trodAll_cons_mk (Below.trod laidOut (by kernel_rfl) (of_decide_eq_true (by kernel_rfl)) k0 bel lt0) (trodAll_cons_mk (Below.trod laidOut (by kernel_rfl) (of_decide_eq_true (by kernel_rfl)) k1 bel lt1) trodAll_mk0)), rfl, bel.frame _, fun h => by cases h⟩
theorem over : Rows.networkSpecRow.holds Try.pinned (OpenSpec.ofChange Rows.networkSpecSpec) :=
  OpenClaim.holds_of_wide 3 Try.f3 rfl rfl rfl rfl rfl rfl rfl ⟨rfl, rfl, rfl, rfl, rfl⟩ rfl rfl rfl rfl rfl (by kernel_rfl) Try.func3 (by kernel_rfl)
    (of_decide_eq_true (by kernel_rfl)) (by unfold Func.isWrapper; first | (rw [if_pos (by decide +kernel)]; kernel_rfl) | (rw [if_neg (by decide +kernel)]; exact ⟨rfl, rfl⟩))
    (fun os started H enc _ => lifted os started H enc)
/-- The given statement. -/
theorem proved : Rows.NetworkSpecSaid := over
#print axioms proved
end networkSpec
end Go.Proofs.Ytonmnpdhpailcaa
