/- The law NetworkAll: it returns true, whatever the input, and what it was handed reads as before. No condition. -/
import Derived.Test.YtonmnpdhpailcaaRbO
import Derived.Test.YtonmnpdhpailcaaRbD
import Derived.Test.YtonmnpdhpailcaaXLt
import Derived.Test.YtonmnpdhpailcaaRbE
import Derived.Test.YtonmnpdhpailcaaRows
import Derived.WalkKit
import Derived.ProofKit
import Derived.OpenShut
import Derived.ShutString
import Derived.ChangeOld
import Derived.Below
set_option autoImplicit false
set_option linter.unusedVariables false
set_option linter.unusedSimpArgs false
namespace Go.Proofs.Ytonmnpdhpailcaa
open Go.XL



set_option maxRecDepth 100000 in
set_option maxHeartbeats 1600000 in
theorem networkAll_fn (a0 a1 : Option Addr) (c0 c1 : Nat) (l0 : List Pk) (l1 : List UInt8) (H : Hp) (hs0 : SlR pkR H a0 c0 l0) (hs1 : SlR u8R H a1 c1 l1) : FnC Try.prog 4 #[.slice a0 l0.length c0, .slice a1 l1.length c1] H [] (RetR fun v _ _ => v = .bool true) := by
  refine FnC.intro (args := [.slice a0 l0.length c0, .slice a1 l1.length c1]) Try.func4 rfl rfl Try.ntmps4 rfl rfl rfl fun G rest => ?_
  refine XC.seq ?_
  refine XC.region ?_
  refine XO.assign rfl rfl ?_
  refine XO.nil ?_
  refine XC.seq2 ?_
  refine XC.seq ?_
  refine XC.seq ?_
  refine XC.region ?_
  refine XO.callV rfl (sane06 _) rfl ?_
  refine XO.notB rfl rfl ?_
  refine XO.nil ?_
  refine XC.seq2 ?_
  refine XC.condF rfl (rfl) ?_
  refine XC.skip ?_
  refine XC.seq2 ?_
  refine XC.seq ?_
  refine XC.seq ?_
  refine XC.region ?_
  refine XO.move rfl rfl ?_
  refine XO.lenS (ts := #[]) rfl Try.underlying22 rfl ?_
  refine XO.gtr rfl rfl rfl ?_
  refine XO.nil ?_
  refine XC.seq2 ?_
  refine XC.cond rfl (fun c1_2 => ?_) (fun c1_2 => ?_)
  · refine XC.seq ?_
    refine XC.region ?_
    refine XO.assign rfl rfl ?_
    refine XO.nil ?_
    refine XC.seq2 ?_
    refine XC.ret ?_
    refine seqX_ret ?_
    refine ⟨rfl, _, [], rfl, (by repeat (first | exact List.Sublist.refl _ | apply List.Sublist.cons)), RetR.mk ?_⟩
    first | rfl | exact congrArg Value.bool (decide_eq_true (by omega))
  · refine XC.skip ?_
    refine XC.seq2 ?_
    refine XC.seq ?_
    refine XC.region ?_
    refine XO.callV rfl (new_fn _) rfl ?_
    refine XO.alloc ze_25 rfl (fun b5 => ?_)
    refine XO.storeO 0 rfl rfl rfl rfl ty_25 rfl rfl rfl rfl rfl ?_
    refine XO.nil ?_
    refine XC.seq2 ?_
    refine XC.seq ?_
    refine XC.region ?_
    refine XO.assign rfl rfl ?_
    refine XO.nil ?_
    refine XC.seq2 ?_
    refine XC.seq ?_
    refine XC.seq ?_
    refine XC.region ?_
    refine XO.assign rfl rfl ?_
    refine XO.nil ?_
    refine XC.seq2 ?_
    refine XC.block ?_
    refine XC.keep [6, 7, 0, 1, 5] rfl ?_
    refine XC.open0 0 ?_
    refine XC.loop (base := [(0, _), (1, _), (5, _)]) (fun ζ : Nat × (Nt) × (Option Addr) × (Nat) × (Option Addr) × (Nat) × ((Nat × SObj) × Option Addr × Nat) => [(6, .slice ζ.2.2.2.2.2.2.2.1 ((ζ.2.1).q).length ζ.2.2.2.2.2.2.2.2), (7, .int .i64 (ζ.1 : Nat))]) (fun ζ Hl own => ζ.1 ≤ l0.length ∧ ζ.2.2.2.2.2.2.1 :: (b5, .cells 25 [.slice ζ.2.2.1 (ζ.2.1).q.length ζ.2.2.2.1, .slice ζ.2.2.2.2.1 (ζ.2.1).ap.length ζ.2.2.2.2.2.1]) :: rest = own ∧ Acc pkR 28 Hl ζ.2.2.2.2.2.2.1 ζ.2.2.2.2.2.2.2.1 ζ.2.2.2.2.2.2.2.2 ((ζ.2.1).q) ∧ (SlR pkR Hl ζ.2.2.1 ζ.2.2.2.1 (ζ.2.1).q) ∧ (SlR pairR Hl ζ.2.2.2.2.1 ζ.2.2.2.2.2.1 (ζ.2.1).ap) ∧ (netOk ζ.2.1) ∧ ((ζ.2.1).ap = []) ∧ ((ζ.2.1).q.length ≤ ζ.1)) (fun ζ => l0.length - ζ.1) (0, ⟨[], []⟩, none, 0, none, 0, ((0, .nothing), none, 0)) (prov_cons (rfl) (prov_cons (rfl) (prov_cons (rfl) (prov_cons (rfl) (prov_cons (rfl) prov_nil))))) (by repeat (first | exact List.Sublist.refl _ | apply List.Sublist.cons_cons | apply List.Sublist.cons)) ⟨Nat.zero_le _, rfl, Acc.nil _ _ _ _, SlR.nil0 _ _, SlR.nil0 _ _, Only.nil.ok, rfl, by simp⟩ ?_
    rintro ⟨k, n, aq, cq, ap, cp, ⟨po, ao, co⟩⟩ Hl0 _ hle0 ⟨hkk, rfl, hacco, hq, hp, hnet, hnap, hln⟩
    replace hs0 := hs0.mono hle0
    replace hs1 := hs1.mono hle0
    try dsimp only at hkk hacco hq hp hnet hnap hln ⊢
    have hlq : n.q.length < 4611686018427387904 := by omega
    have hlp : n.ap.length < 4611686018427387904 := by rw [hnap]; simp
    refine XC.seq ?_
    refine XC.seq ?_
    refine XC.region ?_
    refine XO.move rfl rfl ?_
    refine XO.move rfl rfl ?_
    refine XO.lenS (ts := #[]) rfl Try.underlying22 rfl ?_
    refine XO.lss rfl rfl rfl ?_
    refine XO.nil ?_
    refine XC.seq2 ?_
    refine XC.cond rfl (fun c2_4 => ?_) (fun c2_4 => ?_)
    · refine XC.skip ?_
      refine XC.seq2 ?_
      refine XC.seq ?_
      refine XC.block ?_
      refine XC.seq ?_
      refine XC.keep [0, 1, 5, 6, 7] rfl ?_
      obtain ⟨bEX, oEX, rfl⟩ := hs0.addr (by omega)
      obtain ⟨_, xX, hxX, ⟨axX, cxX, rfl, hdX⟩, hpX⟩ := hs0.elem (k) (by omega)
      have hsl := send_len n xX
      apply XC.drawM (fun _ => True) trivial [9] (by decide) [(10, 9)] (fun _ v p _ => v = .pointer (some ⟨p.1, 0, none⟩) ∧ p.2 = .cells 25 [.slice none 0 0, .slice none 0 0]) (fun _ v p H => ∃ a c b d, v = .pointer (some ⟨p.1, 0, none⟩) ∧ p.2 = .cells 25 [.slice a ((sendV n xX).1).q.length c, .slice b ((sendV n xX).1).ap.length d] ∧ SlR pkR H a c ((sendV n xX).1).q ∧ SlR pairR H b d ((sendV n xX).1).ap) (fun _ _ _ _ _ _ h => h) (fun _ _ _ _ _ hle ⟨a, c, b, d, h1, h2, h3, h4⟩ => ⟨a, c, b, d, h1, h2, h3.mono hle, h4.mono hle⟩) 11 [eqF _, eqF _, eqF _, eqF _, eqF _, fun v H => ∃ v1, v = .tuple #[v1, .int .i64 (sendV n xX).2] ∧ NtV H v1 (sendV n xX).1, fun v H => ∃ v1, v = .tuple #[v1, .int .i64 (sendV n xX).2] ∧ NtV H v1 (sendV n xX).1, fun v H => NtV H v (sendV n xX).1, eqF _, anyF, anyF] follows (by kernel_rfl) ⟨eqF_mono _, eqF_mono _, eqF_mono _, eqF_mono _, eqF_mono _, fun _ _ _ hle ⟨v1, h1, h2⟩ => ⟨v1, h1, h2.mono hle⟩, fun _ _ _ hle ⟨v1, h1, h2⟩ => ⟨v1, h1, h2.mono hle⟩, fun _ _ _ hle h => h.mono hle, eqF_mono _, anyF_mono, anyF_mono, trivial⟩ (by decide) (by kernel_rfl) ?steps5 ?tail5
      case steps5 =>
        refine stepsM_cons rfl rfl ?_ ?_
        · intro X ext HD hleD _
          replace hs0 := hs0.mono hleD
          replace hs1 := hs1.mono hleD
          replace hacco := hacco.mono hleD
          replace hq := hq.mono hleD
          replace hp := hp.mono hleD
          replace hpX := hpX.mono hleD
          replace hdX := hdX.mono hleD
          replace hle0 := hle0.trans hleD
          refine withP_nil rfl ?_
          refine XO.loadO 1 rfl rfl ty_25 rfl rfl rfl ?_
          refine XO.nil ?_
          exact stepQN_ok rfl trivial (rfl)
        refine stepsM_cons rfl rfl ?_ ?_
        · intro X ext HD hleD _
          replace hs0 := hs0.mono hleD
          replace hs1 := hs1.mono hleD
          replace hacco := hacco.mono hleD
          replace hq := hq.mono hleD
          replace hp := hp.mono hleD
          replace hpX := hpX.mono hleD
          replace hdX := hdX.mono hleD
          replace hle0 := hle0.trans hleD
          refine withP_nil rfl ?_
          refine XO.move rfl rfl ?_
          refine XO.nil ?_
          exact stepQN_ok rfl trivial (rfl)
        refine stepsM_cons rfl rfl ?_ ?_
        · intro X ext HD hleD _
          replace hs0 := hs0.mono hleD
          replace hs1 := hs1.mono hleD
          replace hacco := hacco.mono hleD
          replace hq := hq.mono hleD
          replace hp := hp.mono hleD
          replace hpX := hpX.mono hleD
          replace hdX := hdX.mono hleD
          replace hle0 := hle0.trans hleD
          refine withP_nil rfl ?_
          refine XO.move rfl rfl ?_
          refine XO.nil ?_
          exact stepQN_ok rfl trivial (rfl)
        refine stepsM_cons rfl rfl ?_ ?_
        · intro X ext HD hleD _
          replace hs0 := hs0.mono hleD
          replace hs1 := hs1.mono hleD
          replace hacco := hacco.mono hleD
          replace hq := hq.mono hleD
          replace hp := hp.mono hleD
          replace hpX := hpX.mono hleD
          replace hdX := hdX.mono hleD
          replace hle0 := hle0.trans hleD
          refine withP_cons rfl rfl ?_
          rintro _ rfl
          refine withP_cons rfl rfl ?_
          rintro _ rfl
          refine withP_nil rfl ?_
          refine XO.indexE rfl rfl Try.underlying22 ty_28 (by omega) (by omega) rfl ?_
          refine XO.nil ?_
          exact stepQN_ok rfl trivial (rfl)
        refine stepsM_cons rfl rfl ?_ ?_
        · intro X ext HD hleD _
          replace hs0 := hs0.mono hleD
          replace hs1 := hs1.mono hleD
          replace hacco := hacco.mono hleD
          replace hq := hq.mono hleD
          replace hp := hp.mono hleD
          replace hpX := hpX.mono hleD
          replace hdX := hdX.mono hleD
          replace hle0 := hle0.trans hleD
          refine withP_cons rfl rfl ?_
          rintro _ rfl
          refine withP_nil rfl ?_
          refine XO.loadH rfl (by assumption) ty_28 rfl rfl rfl ?_
          refine XO.nil ?_
          exact stepQN_ok rfl trivial (rfl)
        refine stepsM_cons rfl rfl ?_ ?_
        · intro X ext HD hleD _
          replace hs0 := hs0.mono hleD
          replace hs1 := hs1.mono hleD
          replace hacco := hacco.mono hleD
          replace hq := hq.mono hleD
          replace hp := hp.mono hleD
          replace hpX := hpX.mono hleD
          replace hdX := hdX.mono hleD
          replace hle0 := hle0.trans hleD
          refine withP_cons rfl rfl ?_
          rintro _ rfl
          refine withP_cons rfl rfl ?_
          rintro _ rfl
          refine withP_nil rfl ?_
          refine XO.callH rfl (send_fn _ _ _ _ n xX _ _ _ hq hp hlq hlp hdX) rfl ?_
          rintro _ HD33 hleD33 ⟨_, rfl, ⟨d33, e33, f33, g33, rfl, i33, j33⟩⟩
          replace hs0 := hs0.mono hleD33
          replace hs1 := hs1.mono hleD33
          replace hacco := hacco.mono hleD33
          replace hq := hq.mono hleD33
          replace hp := hp.mono hleD33
          replace hpX := hpX.mono hleD33
          replace hdX := hdX.mono hleD33
          replace hle0 := hle0.trans hleD33
          refine XO.nil ?_
          exact stepQN_ok rfl trivial (⟨_, rfl, _, _, _, _, rfl, i33, j33⟩)
        refine stepsM_cons rfl rfl ?_ ?_
        · intro X ext HD hleD _
          replace hs0 := hs0.mono hleD
          replace hs1 := hs1.mono hleD
          replace hacco := hacco.mono hleD
          replace hq := hq.mono hleD
          replace hp := hp.mono hleD
          replace hpX := hpX.mono hleD
          replace hdX := hdX.mono hleD
          replace hle0 := hle0.trans hleD
          refine withP_cons rfl rfl ?_
          rintro _ ⟨v5, rfl, a5, c5, bb5, d5, rfl, h5, k5⟩
          refine withP_nil rfl ?_
          refine XO.move rfl rfl ?_
          refine XO.nil ?_
          exact stepQN_ok rfl trivial (⟨_, rfl, _, _, _, _, rfl, h5, k5⟩)
        refine stepsM_cons rfl rfl ?_ ?_
        · intro X ext HD hleD _
          replace hs0 := hs0.mono hleD
          replace hs1 := hs1.mono hleD
          replace hacco := hacco.mono hleD
          replace hq := hq.mono hleD
          replace hp := hp.mono hleD
          replace hpX := hpX.mono hleD
          replace hdX := hdX.mono hleD
          replace hle0 := hle0.trans hleD
          refine withP_cons rfl rfl ?_
          rintro _ ⟨v6, rfl, a6, c6, bb6, d6, rfl, h6, k6⟩
          refine withP_nil rfl ?_
          refine XO.extract rfl rfl rfl ?_
          refine XO.nil ?_
          exact stepQN_ok rfl trivial (⟨_, _, _, _, rfl, h6, k6⟩)
        refine stepsM_cons rfl rfl ?_ ?_
        · intro X ext HD hleD _
          replace hs0 := hs0.mono hleD
          replace hs1 := hs1.mono hleD
          replace hacco := hacco.mono hleD
          replace hq := hq.mono hleD
          replace hp := hp.mono hleD
          replace hpX := hpX.mono hleD
          replace hdX := hdX.mono hleD
          replace hle0 := hle0.trans hleD
          refine withP_cons rfl rfl ?_
          rintro _ ⟨v6, rfl, a6, c6, bb6, d6, rfl, h6, k6⟩
          refine withP_nil rfl ?_
          refine XO.extract rfl rfl rfl ?_
          refine XO.nil ?_
          exact stepQN_ok rfl trivial (rfl)
        refine stepsM_cons rfl rfl ?_ ?_
        · intro X ext HD hleD _
          replace hs0 := hs0.mono hleD
          replace hs1 := hs1.mono hleD
          replace hacco := hacco.mono hleD
          replace hq := hq.mono hleD
          replace hp := hp.mono hleD
          replace hpX := hpX.mono hleD
          replace hdX := hdX.mono hleD
          replace hle0 := hle0.trans hleD
          refine withP_nil rfl ?_
          refine XO.alloc ze_25 rfl (fun b8 => ?_)
          refine XO.nil ?_
          exact stepQN_new rfl trivial trivial (⟨rfl, rfl⟩)
        refine stepsM_mod rfl rfl ?_ ?_
        · intro X ext p HD hleD _
          replace hs0 := hs0.mono hleD
          replace hs1 := hs1.mono hleD
          replace hacco := hacco.mono hleD
          replace hq := hq.mono hleD
          replace hp := hp.mono hleD
          replace hpX := hpX.mono hleD
          replace hdX := hdX.mono hleD
          replace hle0 := hle0.trans hleD
          refine withP_cons rfl rfl ?_
          rintro _ _
          refine withP_cons rfl rfl ?_
          rintro _ ⟨a7, c7, bb7, d7, rfl, h7, k7⟩
          refine withP_nil rfl ?_
          intro hfo
          obtain ⟨be9, se9⟩ := p
          obtain ⟨rfl, hse9⟩ := hfo _ _ rfl rfl
          simp only at hse9
          subst hse9
          refine XO.storeO 0 rfl rfl rfl rfl ty_25 rfl rfl rfl rfl rfl ?_
          refine XO.nil ?_
          exact stepQM_ok trivial trivial (fun u t h1 h2 => by cases (show some _ = some t from h1); cases (show some (Value.pointer _) = some u from h2); exact ⟨_, _, _, _, rfl, rfl, h7, k7⟩)
        exact stepsM_end rfl
      case tail5 =>
        intro HD hleD _
        replace hs0 := hs0.mono hleD
        replace hs1 := hs1.mono hleD
        replace hacco := hacco.mono hleD
        replace hq := hq.mono hleD
        replace hp := hp.mono hleD
        replace hpX := hpX.mono hleD
        replace hdX := hdX.mono hleD
        replace hle0 := hle0.trans hleD
        refine withP_cons rfl rfl ?_
        rintro _ rfl
        refine withP_cons rfl rfl ?_
        rintro _ rfl
        refine withP_cons rfl rfl ?_
        rintro _ rfl
        refine withP_cons rfl rfl ?_
        rintro _ rfl
        refine withP_cons rfl rfl ?_
        rintro _ rfl
        refine withP_cons rfl rfl ?_
        rintro _ ⟨v5, rfl, a5, c5, bb5, d5, rfl, h5, k5⟩
        refine withP_cons rfl rfl ?_
        rintro _ ⟨v6, rfl, a6, c6, bb6, d6, rfl, h6, k6⟩
        refine withP_cons rfl rfl ?_
        rintro _ ⟨a7, c7, bb7, d7, rfl, h7, k7⟩
        refine withP_cons rfl rfl ?_
        rintro _ rfl
        refine withP_cons rfl rfl ?_
        rintro _ _
        refine withP_skip rfl rfl ?_
        refine withP_nil rfl ?_
        refine withEnts_cons ?_
        intro pe hpe
        obtain ⟨am9, cm9, bm9, dm9, rfl, hpe2, hm9, km9⟩ := hpe _ ⟨_, rfl, rfl⟩
        obtain ⟨be9, se9⟩ := pe
        simp only at hpe2
        subst hpe2
        refine withEnts_nil ?_
        refine XO.assign rfl rfl ?_
        refine XO.nil ?_
        refine XC.seq2 ?_
        refine XC.seq ?_
        refine XC.region ?_
        refine XO.move rfl rfl ?_
        refine XO.eql rfl rfl rfl ?_
        refine XO.nil ?_
        refine XC.seq2 ?_
        refine XC.cond rfl (fun c3_8 => ?_) (fun c3_8 => ?_)
        · obtain ⟨s1, s2, s3, s4⟩ := send_inv (show (sendV n xX).2 = 0 by omega)
          rw [s4] at hm9 km9 ⊢
          refine XC.seq ?_
          refine XC.region ?_
          refine XO.loadO 0 rfl rfl ty_25 rfl rfl rfl ?_
          refine XO.storeO 2 rfl rfl rfl rfl ty_25 rfl rfl rfl rfl rfl ?_
          refine XO.nil ?_
          refine XC.seq2 ?_
          refine XC.region ?_
          refine XO.move rfl rfl ?_
          refine XO.move rfl rfl ?_
          refine XO.move rfl rfl ?_
          refine XO.indexN rfl hs0 rfl Try.underlying22 ty_28 (by omega) rfl ?_
          rintro eb42 eo42 _ x42 hx42 ⟨ax42, cx42, rfl, hd42⟩ hp42
          obtain rfl := Option.some.inj (hxX.symm.trans hx42)
          refine XO.loadH rfl (by assumption) ty_28 rfl rfl rfl ?_
          refine XO.buildSlice rfl Try.underlying22 ty_28 ze_28 rfl rfl rfl (fun b44 => ?_)
          refine XO.publish 0 rfl rfl rfl (fun HP44 oP44 hleP44 hbP44 hoP44 => ?_)
          replace hs0 := hs0.mono hleP44
          replace hs1 := hs1.mono hleP44
          replace hacco := hacco.mono hleP44
          replace hq := hq.mono hleP44
          replace hp := hp.mono hleP44
          replace hpX := hpX.mono hleP44
          replace hdX := hdX.mono hleP44
          replace hm9 := hm9.mono hleP44
          replace km9 := km9.mono hleP44
          replace hp42 := hp42.mono hleP44
          replace hd42 := hd42.mono hleP44
          replace hle0 := hle0.trans hleP44
          have hsl44 := SlR.lit (ρ := pkR) (l := [xX]) hbP44 hoP44 (RowsR.one1 ⟨_, _, rfl, hd42⟩)
          refine XO.appendA 1 rfl rfl hacco rfl rfl hsl44 rfl Try.underlying22 ty_28 ze_28 rfl by_28 (by simp; omega) rfl (fun p45 a45 c45 hacc45 => ?_)
          refine XO.assign rfl rfl ?_
          refine XO.nil ?_
          refine blockN ?_
          refine XC.seq2 ?_
          refine XC.region ?_
          refine XO.move rfl rfl ?_
          refine XO.add rfl rfl (wrap_i64 (by omega) (by omega)) rfl ?_
          refine XO.assign rfl rfl ?_
          refine XO.nil ?_
          refine loop_next ((k + 1, ⟨n.q ++ [xX], n.ap⟩, am9, cm9, bm9, dm9, (p45, a45, c45))) (by show l0.length - (k + 1) < l0.length - k; omega) (prov_cons (by first | rfl) (prov_cons (rfl) (prov_cons (rfl) (prov_cons (rfl) (prov_cons (rfl) prov_nil))))) (⟨by show k + 1 ≤ l0.length; omega, rfl, by first | (exact hacc45), by assumption, by assumption, by first | exact net_snoc hnet s2 (by omega) | exact hnet, hnap, by (try dsimp only); first | omega | (rw [List.length_append]; simp only [List.length_cons, List.length_nil]; omega)⟩) (by repeat (first | exact List.Sublist.refl _ | apply List.Sublist.cons_cons | apply List.Sublist.cons)) (hle0)
        · refine XC.skip ?_
          refine blockN ?_
          refine XC.seq2 ?_
          refine XC.region ?_
          refine XO.move rfl rfl ?_
          refine XO.add rfl rfl (wrap_i64 (by omega) (by omega)) rfl ?_
          refine XO.assign rfl rfl ?_
          refine XO.nil ?_
          refine loop_next ((k + 1, n, aq, cq, ap, cp, (po, ao, co))) (by show l0.length - (k + 1) < l0.length - k; omega) (prov_cons (by first | rfl) (prov_cons (rfl) (prov_cons (rfl) (prov_cons (rfl) (prov_cons (rfl) prov_nil))))) (⟨by show k + 1 ≤ l0.length; omega, rfl, by first | (exact hacco), by assumption, by assumption, by first | exact net_snoc hnet s2 (by omega) | exact hnet, hnap, by (try dsimp only); first | omega | (rw [List.length_append]; simp only [List.length_cons, List.length_nil]; omega)⟩) (by repeat (first | exact List.Sublist.refl _ | apply List.Sublist.cons_cons | apply List.Sublist.cons)) (hle0)
    · refine XC.exit ?_
      refine seqX_exit ?_
      refine loopX_exit ?_
      refine blockHit rfl ?_
      refine XC.seq2 ?_
      refine XC.seq ?_
      refine XC.seq ?_
      refine XC.region ?_
      refine XO.publishA 0 rfl hacco rfl (fun HQ11 hleQ11 hsQ11 => ?_)
      replace hs0 := hs0.mono hleQ11
      replace hs1 := hs1.mono hleQ11
      replace hq := hq.mono hleQ11
      replace hp := hp.mono hleQ11
      replace hle0 := hle0.trans hleQ11
      refine XO.assign rfl rfl ?_
      refine XO.nil ?_
      refine XC.seq2 ?_
      refine XC.block ?_
      refine XC.keep [6, 10, 1, 5] rfl ?_
      refine XC.loop (base := [(1, _), (5, _)]) (fun ζ : Nat × (Nt) × (Option Addr) × (Nat) × (Option Addr) × (Nat) × (Option Addr) × (Nat) => [(6, .slice ζ.2.2.2.2.2.2.1 (ζ.2.1).q.length ζ.2.2.2.2.2.2.2), (10, .int .i64 (ζ.1 : Nat))]) (fun ζ Hl own => (b5, .cells 25 [.slice ζ.2.2.1 (ζ.2.1).q.length ζ.2.2.2.1, .slice ζ.2.2.2.2.1 (ζ.2.1).ap.length ζ.2.2.2.2.2.1]) :: rest = own ∧ (SlR pkR Hl ζ.2.2.1 ζ.2.2.2.1 (ζ.2.1).q) ∧ (SlR pairR Hl ζ.2.2.2.2.1 ζ.2.2.2.2.2.1 (ζ.2.1).ap) ∧ (netOk ζ.2.1) ∧ ((ζ.2.1).ap = []) ∧ (ζ.1 + (ζ.2.1).q.length ≤ 12) ∧ (SlR pkR Hl ζ.2.2.2.2.2.2.1 ζ.2.2.2.2.2.2.2 (ζ.2.1).q)) (fun ζ => (ζ.2.1).q.length) (0, n, aq, cq, ap, cp, _, _) (prov_cons (rfl) (prov_cons (rfl) (prov_cons (rfl) (prov_cons (rfl) prov_nil)))) (by repeat (first | exact List.Sublist.refl _ | apply List.Sublist.cons_cons | apply List.Sublist.cons)) ⟨rfl, hq, hp, hnet, hnap, by (try dsimp only); omega, by assumption⟩ ?_
      rintro ⟨st, n, aq, cq, ap, cp, a6, c6⟩ Hl1 _ hle1 ⟨rfl, hq, hp, hnet, hnap, hln, hs6⟩
      replace hs0 := hs0.mono hle1
      replace hs1 := hs1.mono hle1
      replace hsQ11 := hsQ11.mono hle1
      replace hle0 := hle0.trans hle1
      try dsimp only at hq hp hnet hnap hln hs6 ⊢
      have hlq : n.q.length < 4611686018427387904 := by omega
      have hlp : n.ap.length < 4611686018427387904 := by rw [hnap]; simp
      refine XC.seq ?_
      refine XC.seq ?_
      refine XC.region ?_
      refine XO.move rfl rfl ?_
      refine XO.lenS (ts := #[]) rfl Try.underlying22 rfl ?_
      refine XO.gtr rfl rfl rfl ?_
      refine XO.nil ?_
      refine XC.seq2 ?_
      refine XC.cond rfl (fun c4_12 => ?_) (fun c4_12 => ?_)
      · refine XC.skip ?_
        refine XC.seq2 ?_
        refine XC.seq ?_
        refine XC.block ?_
        refine XC.seq ?_
        refine XC.region ?_
        refine XO.assign rfl rfl ?_
        refine XO.nil ?_
        refine XC.seq2 ?_
        refine XC.seq ?_
        refine XC.seq ?_
        refine XC.region ?_
        refine XO.move rfl rfl ?_
        refine XO.move rfl rfl ?_
        refine XO.lenS (ts := #[]) rfl Try.underlying26 rfl ?_
        refine XO.lss rfl rfl rfl ?_
        refine XO.nil ?_
        refine XC.seq2 ?_
        refine XC.cond rfl (fun c5_13 => ?_) (fun c5_13 => ?_)
        · skip
          refine XC.region ?_
          refine XO.move rfl rfl ?_
          refine XO.move rfl rfl ?_
          refine XO.indexN rfl hs1 rfl Try.underlying26 ty_5 (by omega) rfl ?_
          rintro eb57 eo57 _ x57 hx57 rfl hp57
          refine XO.loadH rfl (by assumption) ty_5 rfl rfl rfl ?_
          have hbx := x57.toNat_lt
          refine XO.convI rfl Try.underlying5 Try.underlying3 (wrap_i64 (by omega) (by omega)) rfl ?_
          refine XO.move rfl rfl ?_
          refine XO.lenS (ts := #[]) rfl Try.underlying22 rfl ?_
          obtain ⟨j, hj⟩ : ∃ j : Nat, ((x57.toNat : Nat) : Int) % (n.q.length : Int) = j := ⟨_, (Int.toNat_of_nonneg (Int.emod_nonneg _ (by omega))).symm⟩
          have hjl : j < n.q.length := by have := Int.emod_lt_of_pos (x57.toNat : Int) (show 0 < (n.q.length : Int) by omega); omega
          refine XO.rem (c := (j : Int)) rfl rfl (by omega) (by rw [rem_nn (by omega)]; exact hj) rfl ?_
          refine XO.assign rfl rfl ?_
          refine XO.nil ?_
          refine XC.seq2 ?_
          refine XC.seq ?_
          refine XC.region ?_
          obtain ⟨x, hx⟩ : ∃ x, n.q[j]? = some x := ⟨_, List.getElem?_eq_getElem (by omega)⟩
          obtain ⟨ea, ep, en, _⟩ := del_eq hnet hx
          rw [hnap, if_neg (by simp)] at ep
          refine XO.loadO 0 rfl rfl ty_25 rfl rfl rfl ?_
          refine XO.move rfl rfl ?_
          refine XO.callH rfl (deliver_fn _ _ _ _ n (j : Int) _ hq hp hlq hlp) rfl ?_
          rintro _ HD66 hleD66 ⟨_, _, rfl, ⟨a66, c66, rfl, h66⟩, ⟨d66, e66, f66, g66, rfl, i66, j66⟩⟩
          replace hs0 := hs0.mono hleD66
          replace hs1 := hs1.mono hleD66
          replace hsQ11 := hsQ11.mono hleD66
          replace hq := hq.mono hleD66
          replace hp := hp.mono hleD66
          replace hs6 := hs6.mono hleD66
          replace hp57 := hp57.mono hleD66
          replace hle0 := hle0.trans hleD66
          replace hle1 := hle1.trans hleD66
          refine XO.move rfl rfl ?_
          refine XO.extract rfl rfl rfl ?_
          refine XO.extract rfl rfl rfl ?_
          refine XO.extract rfl rfl rfl ?_
          refine XO.alloc ze_28 rfl (fun b12 => ?_)
          refine XO.alloc ze_25 rfl (fun b13 => ?_)
          refine XO.storeO 1 rfl rfl rfl rfl ty_28 rfl rfl rfl rfl rfl ?_
          refine XO.storeO 0 rfl rfl rfl rfl ty_25 rfl rfl rfl rfl rfl ?_
          refine XO.assign rfl rfl ?_
          refine XO.nil ?_
          refine XC.seq2 ?_
          refine XC.seq ?_
          refine XC.seq ?_
          refine XC.keep [1, 5, 6, 10, 11, 12, 13, 14] rfl ?_
          rw [en] at i66 j66 ⊢
          obtain ⟨bES, oES, rfl⟩ := hs6.addr (by omega)
          obtain ⟨_, xS, hxS, ⟨axS, cxS, rfl, hdS⟩, hpS⟩ := hs6.elem (j) (by omega)
          obtain rfl := Option.some.inj (hx.symm.trans hxS)
          apply XC.drawH (fun _ => True) trivial [] (by decide) (fun _ _ _ _ => True) (fun _ _ _ _ _ _ h => h) 8 [eqF _, eqF _, eqF _, eqF _, eqF _, eqF _, eqF _, eqF _] follows (by kernel_rfl) ⟨eqF_mono _, eqF_mono _, eqF_mono _, eqF_mono _, eqF_mono _, eqF_mono _, eqF_mono _, eqF_mono _, trivial⟩ (by decide) ?steps17 ?tail17
          case steps17 =>
            refine stepsH_cons rfl ?_ ?_
            · intro X ext HD hleD _
              replace hs0 := hs0.mono hleD
              replace hs1 := hs1.mono hleD
              replace hsQ11 := hsQ11.mono hleD
              replace hq := hq.mono hleD
              replace hp := hp.mono hleD
              replace hs6 := hs6.mono hleD
              replace hp57 := hp57.mono hleD
              replace h66 := h66.mono hleD
              replace i66 := i66.mono hleD
              replace j66 := j66.mono hleD
              replace hpS := hpS.mono hleD
              replace hdS := hdS.mono hleD
              replace hle0 := hle0.trans hleD
              replace hle1 := hle1.trans hleD
              refine withP_nil rfl ?_
              refine XO.move rfl rfl ?_
              refine XO.nil ?_
              exact stepQN_ok rfl trivial (rfl)
            refine stepsH_cons rfl ?_ ?_
            · intro X ext HD hleD _
              replace hs0 := hs0.mono hleD
              replace hs1 := hs1.mono hleD
              replace hsQ11 := hsQ11.mono hleD
              replace hq := hq.mono hleD
              replace hp := hp.mono hleD
              replace hs6 := hs6.mono hleD
              replace hp57 := hp57.mono hleD
              replace h66 := h66.mono hleD
              replace i66 := i66.mono hleD
              replace j66 := j66.mono hleD
              replace hpS := hpS.mono hleD
              replace hdS := hdS.mono hleD
              replace hle0 := hle0.trans hleD
              replace hle1 := hle1.trans hleD
              refine withP_cons rfl rfl ?_
              rintro _ rfl
              refine withP_nil rfl ?_
              refine XO.neq rfl rfl rfl ?_
              refine XO.nil ?_
              exact stepQN_ok rfl trivial (rfl)
            refine stepsH_cons rfl ?_ ?_
            · intro X ext HD hleD _
              replace hs0 := hs0.mono hleD
              replace hs1 := hs1.mono hleD
              replace hsQ11 := hsQ11.mono hleD
              replace hq := hq.mono hleD
              replace hp := hp.mono hleD
              replace hs6 := hs6.mono hleD
              replace hp57 := hp57.mono hleD
              replace h66 := h66.mono hleD
              replace i66 := i66.mono hleD
              replace j66 := j66.mono hleD
              replace hpS := hpS.mono hleD
              replace hdS := hdS.mono hleD
              replace hle0 := hle0.trans hleD
              replace hle1 := hle1.trans hleD
              refine withP_cons rfl rfl ?_
              rintro _ rfl
              refine withP_nil rfl ?_
              refine XO.move rfl rfl ?_
              refine XO.nil ?_
              exact stepQN_ok rfl trivial (rfl)
            refine stepsH_cons rfl ?_ ?_
            · intro X ext HD hleD _
              replace hs0 := hs0.mono hleD
              replace hs1 := hs1.mono hleD
              replace hsQ11 := hsQ11.mono hleD
              replace hq := hq.mono hleD
              replace hp := hp.mono hleD
              replace hs6 := hs6.mono hleD
              replace hp57 := hp57.mono hleD
              replace h66 := h66.mono hleD
              replace i66 := i66.mono hleD
              replace j66 := j66.mono hleD
              replace hpS := hpS.mono hleD
              replace hdS := hdS.mono hleD
              replace hle0 := hle0.trans hleD
              replace hle1 := hle1.trans hleD
              refine withP_cons rfl rfl ?_
              rintro _ rfl
              refine withP_nil rfl ?_
              refine XO.guardT rfl rfl (decide_eq_false (fun h => h ea)) rfl ?_
              refine XO.loadO 1 rfl rfl ty_28 rfl rfl rfl ?_
              refine XO.nil ?_
              exact stepQN_ok rfl trivial (rfl)
            refine stepsH_cons rfl ?_ ?_
            · intro X ext HD hleD _
              replace hs0 := hs0.mono hleD
              replace hs1 := hs1.mono hleD
              replace hsQ11 := hsQ11.mono hleD
              replace hq := hq.mono hleD
              replace hp := hp.mono hleD
              replace hs6 := hs6.mono hleD
              replace hp57 := hp57.mono hleD
              replace h66 := h66.mono hleD
              replace i66 := i66.mono hleD
              replace j66 := j66.mono hleD
              replace hpS := hpS.mono hleD
              replace hdS := hdS.mono hleD
              replace hle0 := hle0.trans hleD
              replace hle1 := hle1.trans hleD
              refine withP_cons rfl rfl ?_
              rintro _ rfl
              refine withP_nil rfl ?_
              refine XO.guardT rfl rfl (decide_eq_false (fun h => h ea)) rfl ?_
              refine XO.move rfl rfl ?_
              refine XO.nil ?_
              exact stepQN_ok rfl trivial (rfl)
            refine stepsH_cons rfl ?_ ?_
            · intro X ext HD hleD _
              replace hs0 := hs0.mono hleD
              replace hs1 := hs1.mono hleD
              replace hsQ11 := hsQ11.mono hleD
              replace hq := hq.mono hleD
              replace hp := hp.mono hleD
              replace hs6 := hs6.mono hleD
              replace hp57 := hp57.mono hleD
              replace h66 := h66.mono hleD
              replace i66 := i66.mono hleD
              replace j66 := j66.mono hleD
              replace hpS := hpS.mono hleD
              replace hdS := hdS.mono hleD
              replace hle0 := hle0.trans hleD
              replace hle1 := hle1.trans hleD
              refine withP_cons rfl rfl ?_
              rintro _ rfl
              refine withP_nil rfl ?_
              refine XO.guardT rfl rfl (decide_eq_false (fun h => h ea)) rfl ?_
              refine XO.move rfl rfl ?_
              refine XO.nil ?_
              exact stepQN_ok rfl trivial (rfl)
            refine stepsH_cons rfl ?_ ?_
            · intro X ext HD hleD _
              replace hs0 := hs0.mono hleD
              replace hs1 := hs1.mono hleD
              replace hsQ11 := hsQ11.mono hleD
              replace hq := hq.mono hleD
              replace hp := hp.mono hleD
              replace hs6 := hs6.mono hleD
              replace hp57 := hp57.mono hleD
              replace h66 := h66.mono hleD
              replace i66 := i66.mono hleD
              replace j66 := j66.mono hleD
              replace hpS := hpS.mono hleD
              replace hdS := hdS.mono hleD
              replace hle0 := hle0.trans hleD
              replace hle1 := hle1.trans hleD
              refine withP_cons rfl rfl ?_
              rintro _ rfl
              refine withP_cons rfl rfl ?_
              rintro _ rfl
              refine withP_cons rfl rfl ?_
              rintro _ rfl
              refine withP_nil rfl ?_
              refine XO.guardT rfl rfl (decide_eq_false (fun h => h ea)) rfl ?_
              refine XO.indexE rfl rfl Try.underlying22 ty_28 (by omega) (by omega) rfl ?_
              refine XO.nil ?_
              exact stepQN_ok rfl trivial (rfl)
            refine stepsH_cons rfl ?_ ?_
            · intro X ext HD hleD _
              replace hs0 := hs0.mono hleD
              replace hs1 := hs1.mono hleD
              replace hsQ11 := hsQ11.mono hleD
              replace hq := hq.mono hleD
              replace hp := hp.mono hleD
              replace hs6 := hs6.mono hleD
              replace hp57 := hp57.mono hleD
              replace h66 := h66.mono hleD
              replace i66 := i66.mono hleD
              replace j66 := j66.mono hleD
              replace hpS := hpS.mono hleD
              replace hdS := hdS.mono hleD
              replace hle0 := hle0.trans hleD
              replace hle1 := hle1.trans hleD
              refine withP_cons rfl rfl ?_
              rintro _ rfl
              refine withP_cons rfl rfl ?_
              rintro _ rfl
              refine withP_nil rfl ?_
              refine XO.guardT rfl rfl (decide_eq_false (fun h => h ea)) rfl ?_
              refine XO.loadH rfl (by assumption) ty_28 rfl rfl rfl ?_
              refine XO.nil ?_
              exact stepQN_ok rfl trivial (rfl)
            exact stepsH_end rfl
          case tail17 =>
            intro HD hleD _
            replace hs0 := hs0.mono hleD
            replace hs1 := hs1.mono hleD
            replace hsQ11 := hsQ11.mono hleD
            replace hq := hq.mono hleD
            replace hp := hp.mono hleD
            replace hs6 := hs6.mono hleD
            replace hp57 := hp57.mono hleD
            replace h66 := h66.mono hleD
            replace i66 := i66.mono hleD
            replace j66 := j66.mono hleD
            replace hpS := hpS.mono hleD
            replace hdS := hdS.mono hleD
            replace hle0 := hle0.trans hleD
            replace hle1 := hle1.trans hleD
            refine withP_cons rfl rfl ?_
            rintro _ rfl
            refine withP_cons rfl rfl ?_
            rintro _ rfl
            refine withP_cons rfl rfl ?_
            rintro _ rfl
            refine withP_cons rfl rfl ?_
            rintro _ rfl
            refine withP_cons rfl rfl ?_
            rintro _ rfl
            refine withP_cons rfl rfl ?_
            rintro _ rfl
            refine withP_cons rfl rfl ?_
            rintro _ rfl
            refine withP_cons rfl rfl ?_
            rintro _ rfl
            refine withP_nil rfl ?_
            refine withEnts_nil ?_
            refine XO.guardT rfl rfl (decide_eq_false (fun h => h ea)) rfl ?_
            refine XO.callV rfl (samep_fn (delP n j) x _ _ _ _ _ h66 hdS) rfl ?_
            refine XO.guardT rfl rfl (decide_eq_false (fun h => h ea)) rfl ?_
            refine XO.not rfl rfl ?_
            refine XO.pickF rfl (decide_eq_false (fun h => h ea)) rfl rfl ?_
            refine XO.nil ?_
            refine XC.seq2 ?_
            refine XC.condF rfl (decide_eq_false (fun h => h ep)) ?_
            refine XC.skip ?_
            refine XC.seq2 ?_
            refine XC.seq ?_
            refine XC.region ?_
            refine XO.loadO 0 rfl rfl ty_25 rfl rfl rfl ?_
            refine XO.storeO 2 rfl rfl rfl rfl ty_25 rfl rfl rfl rfl rfl ?_
            refine XO.nil ?_
            refine XC.seq2 ?_
            have hqle := hs6.le
            by_cases hk0 : j = 0
            · skip
              refine XC.keep [1, 5, 6, 10, 11] rfl ?_
              apply XC.drawG (fun _ => True) trivial 9 [slCap pkR [], eqF _, eqF _, slG pkR (n.q.take j), slCap pkR (n.q.take j), eqF _, eqF _, eqF _, slG pkR (n.q.drop (j + 1))] follows (by kernel_rfl) (by kernel_rfl) ⟨slCap_mono _ _, eqF_mono _, eqF_mono _, slG_mono _ _, slCap_mono _ _, eqF_mono _, eqF_mono _, eqF_mono _, slG_mono _ _, trivial⟩ ?steps20 ?tail20
              case steps20 =>
                refine stepsD_cons rfl ?_ ?_
                · intro X HD hleD _
                  replace hs0 := hs0.mono hleD
                  replace hs1 := hs1.mono hleD
                  replace hsQ11 := hsQ11.mono hleD
                  replace hq := hq.mono hleD
                  replace hp := hp.mono hleD
                  replace hs6 := hs6.mono hleD
                  replace hp57 := hp57.mono hleD
                  replace h66 := h66.mono hleD
                  replace i66 := i66.mono hleD
                  replace j66 := j66.mono hleD
                  replace hpS := hpS.mono hleD
                  replace hdS := hdS.mono hleD
                  replace hle0 := hle0.trans hleD
                  replace hle1 := hle1.trans hleD
                  refine withPreds_nil rfl ?_
                  refine XO.buildSlice rfl Try.underlying22 ty_28 ze_28 rfl rfl rfl (fun b82 => ?_)
                  refine XO.publish 0 rfl rfl rfl (fun HP82 oP82 hleP82 hbP82 hoP82 => ?_)
                  have hsl82 := SlR.lit (ρ := pkR) (l := []) hbP82 hoP82 rfl
                  replace hs0 := hs0.mono hleP82
                  replace hs1 := hs1.mono hleP82
                  replace hsQ11 := hsQ11.mono hleP82
                  replace hq := hq.mono hleP82
                  replace hp := hp.mono hleP82
                  replace hs6 := hs6.mono hleP82
                  replace hp57 := hp57.mono hleP82
                  replace h66 := h66.mono hleP82
                  replace i66 := i66.mono hleP82
                  replace j66 := j66.mono hleP82
                  replace hpS := hpS.mono hleP82
                  replace hdS := hdS.mono hleP82
                  replace hle0 := hle0.trans hleP82
                  replace hle1 := hle1.trans hleP82
                  refine XO.nil ?_
                  exact stepQ_ok trivial (⟨_, _, rfl, hsl82, by simp⟩)
                refine stepsD_cons rfl ?_ ?_
                · intro X HD hleD _
                  replace hs0 := hs0.mono hleD
                  replace hs1 := hs1.mono hleD
                  replace hsQ11 := hsQ11.mono hleD
                  replace hq := hq.mono hleD
                  replace hp := hp.mono hleD
                  replace hs6 := hs6.mono hleD
                  replace hp57 := hp57.mono hleD
                  replace h66 := h66.mono hleD
                  replace i66 := i66.mono hleD
                  replace j66 := j66.mono hleD
                  replace hpS := hpS.mono hleD
                  replace hdS := hdS.mono hleD
                  replace hle0 := hle0.trans hleD
                  replace hle1 := hle1.trans hleD
                  refine withPreds_nil rfl ?_
                  refine XO.move rfl rfl ?_
                  refine XO.nil ?_
                  exact stepQ_ok trivial (rfl)
                refine stepsD_cons rfl ?_ ?_
                · intro X HD hleD _
                  replace hs0 := hs0.mono hleD
                  replace hs1 := hs1.mono hleD
                  replace hsQ11 := hsQ11.mono hleD
                  replace hq := hq.mono hleD
                  replace hp := hp.mono hleD
                  replace hs6 := hs6.mono hleD
                  replace hp57 := hp57.mono hleD
                  replace h66 := h66.mono hleD
                  replace i66 := i66.mono hleD
                  replace j66 := j66.mono hleD
                  replace hpS := hpS.mono hleD
                  replace hdS := hdS.mono hleD
                  replace hle0 := hle0.trans hleD
                  replace hle1 := hle1.trans hleD
                  refine withPreds_nil rfl ?_
                  refine XO.move rfl rfl ?_
                  refine XO.nil ?_
                  exact stepQ_ok trivial (rfl)
                refine stepsD_cons rfl ?_ ?_
                · intro X HD hleD _
                  replace hs0 := hs0.mono hleD
                  replace hs1 := hs1.mono hleD
                  replace hsQ11 := hsQ11.mono hleD
                  replace hq := hq.mono hleD
                  replace hp := hp.mono hleD
                  replace hs6 := hs6.mono hleD
                  replace hp57 := hp57.mono hleD
                  replace h66 := h66.mono hleD
                  replace i66 := i66.mono hleD
                  replace j66 := j66.mono hleD
                  replace hpS := hpS.mono hleD
                  replace hdS := hdS.mono hleD
                  replace hle0 := hle0.trans hleD
                  replace hle1 := hle1.trans hleD
                  refine withPreds_cons rfl rfl ?_
                  rintro _ rfl
                  refine withPreds_cons rfl rfl ?_
                  rintro _ rfl
                  refine withPreds_nil rfl ?_
                  refine XO.slice (lo' := 0) (hi' := (j : Int)) (m' := (c6 : Int)) rfl hs6 ev?_none (ev?_some rfl) ev?_none (by simp) (by omega) (by omega) (by omega) (by omega) (by omega) Try.underlying22 ty_28 rfl (fun as85 ls85 hls85 hss85 => ?_)
                  obtain rfl : ls85 = n.q.take j := by first | (rw [hls85]; simp; done) | (rw [hls85]; simp; rw [List.take_of_length_le (by simp)])
                  refine XO.nil ?_
                  exact stepQ_ok trivial (⟨_, _, rfl, hss85⟩)
                refine stepsD_cons rfl ?_ ?_
                · intro X HD hleD _
                  replace hs0 := hs0.mono hleD
                  replace hs1 := hs1.mono hleD
                  replace hsQ11 := hsQ11.mono hleD
                  replace hq := hq.mono hleD
                  replace hp := hp.mono hleD
                  replace hs6 := hs6.mono hleD
                  replace hp57 := hp57.mono hleD
                  replace h66 := h66.mono hleD
                  replace i66 := i66.mono hleD
                  replace j66 := j66.mono hleD
                  replace hpS := hpS.mono hleD
                  replace hdS := hdS.mono hleD
                  replace hle0 := hle0.trans hleD
                  replace hle1 := hle1.trans hleD
                  refine withPreds_cons rfl rfl ?_
                  rintro _ ⟨a82, c82, rfl, hsl82, hcap82⟩
                  refine withPreds_cons rfl rfl ?_
                  rintro _ ⟨a85, c85, rfl, hsl85⟩
                  refine withPreds_nil rfl ?_
                  refine XO.append0 rfl rfl (by first | rfl | (rw [hk0]; rfl)) hsl82.le Try.underlying22 ty_28 rfl ?_
                  refine XO.nil ?_
                  exact stepQ_ok trivial (⟨_, _, by first | rfl | (rw [hk0]; rfl), by first | exact hsl82 | (rw [hk0]; exact hsl82), by first | exact hcap82 | (rw [hk0]; exact hcap82)⟩)
                refine stepsD_cons rfl ?_ ?_
                · intro X HD hleD _
                  replace hs0 := hs0.mono hleD
                  replace hs1 := hs1.mono hleD
                  replace hsQ11 := hsQ11.mono hleD
                  replace hq := hq.mono hleD
                  replace hp := hp.mono hleD
                  replace hs6 := hs6.mono hleD
                  replace hp57 := hp57.mono hleD
                  replace h66 := h66.mono hleD
                  replace i66 := i66.mono hleD
                  replace j66 := j66.mono hleD
                  replace hpS := hpS.mono hleD
                  replace hdS := hdS.mono hleD
                  replace hle0 := hle0.trans hleD
                  replace hle1 := hle1.trans hleD
                  refine withPreds_nil rfl ?_
                  refine XO.move rfl rfl ?_
                  refine XO.nil ?_
                  exact stepQ_ok trivial (rfl)
                refine stepsD_cons rfl ?_ ?_
                · intro X HD hleD _
                  replace hs0 := hs0.mono hleD
                  replace hs1 := hs1.mono hleD
                  replace hsQ11 := hsQ11.mono hleD
                  replace hq := hq.mono hleD
                  replace hp := hp.mono hleD
                  replace hs6 := hs6.mono hleD
                  replace hp57 := hp57.mono hleD
                  replace h66 := h66.mono hleD
                  replace i66 := i66.mono hleD
                  replace j66 := j66.mono hleD
                  replace hpS := hpS.mono hleD
                  replace hdS := hdS.mono hleD
                  replace hle0 := hle0.trans hleD
                  replace hle1 := hle1.trans hleD
                  refine withPreds_nil rfl ?_
                  refine XO.move rfl rfl ?_
                  refine XO.nil ?_
                  exact stepQ_ok trivial (rfl)
                refine stepsD_cons rfl ?_ ?_
                · intro X HD hleD _
                  replace hs0 := hs0.mono hleD
                  replace hs1 := hs1.mono hleD
                  replace hsQ11 := hsQ11.mono hleD
                  replace hq := hq.mono hleD
                  replace hp := hp.mono hleD
                  replace hs6 := hs6.mono hleD
                  replace hp57 := hp57.mono hleD
                  replace h66 := h66.mono hleD
                  replace i66 := i66.mono hleD
                  replace j66 := j66.mono hleD
                  replace hpS := hpS.mono hleD
                  replace hdS := hdS.mono hleD
                  replace hle0 := hle0.trans hleD
                  replace hle1 := hle1.trans hleD
                  refine withPreds_cons rfl rfl ?_
                  rintro _ rfl
                  refine withPreds_nil rfl ?_
                  refine XO.add rfl rfl (wrap_i64 (by omega) (by omega)) rfl ?_
                  refine XO.nil ?_
                  exact stepQ_ok trivial (rfl)
                refine stepsD_cons rfl ?_ ?_
                · intro X HD hleD _
                  replace hs0 := hs0.mono hleD
                  replace hs1 := hs1.mono hleD
                  replace hsQ11 := hsQ11.mono hleD
                  replace hq := hq.mono hleD
                  replace hp := hp.mono hleD
                  replace hs6 := hs6.mono hleD
                  replace hp57 := hp57.mono hleD
                  replace h66 := h66.mono hleD
                  replace i66 := i66.mono hleD
                  replace j66 := j66.mono hleD
                  replace hpS := hpS.mono hleD
                  replace hdS := hdS.mono hleD
                  replace hle0 := hle0.trans hleD
                  replace hle1 := hle1.trans hleD
                  refine withPreds_cons rfl rfl ?_
                  rintro _ rfl
                  refine withPreds_cons rfl rfl ?_
                  rintro _ rfl
                  refine withPreds_nil rfl ?_
                  refine XO.slice (lo' := (j : Int) + 1) (hi' := (n.q.length : Int)) (m' := (c6 : Int)) rfl hs6 (ev?_some rfl) ev?_none ev?_none (by simp) (by omega) (by omega) (by omega) (by omega) (by omega) Try.underlying22 ty_28 rfl (fun as90 ls90 hls90 hss90 => ?_)
                  obtain rfl : ls90 = n.q.drop (j + 1) := by first | (rw [hls90]; simp; done) | (rw [hls90]; simp; rw [List.take_of_length_le (by simp)])
                  refine XO.nil ?_
                  exact stepQ_ok trivial (⟨_, _, rfl, hss90⟩)
                exact stepsD_end rfl
              case tail20 =>
                intro HD hleD _
                replace hs0 := hs0.mono hleD
                replace hs1 := hs1.mono hleD
                replace hsQ11 := hsQ11.mono hleD
                replace hq := hq.mono hleD
                replace hp := hp.mono hleD
                replace hs6 := hs6.mono hleD
                replace hp57 := hp57.mono hleD
                replace h66 := h66.mono hleD
                replace i66 := i66.mono hleD
                replace j66 := j66.mono hleD
                replace hpS := hpS.mono hleD
                replace hdS := hdS.mono hleD
                replace hle0 := hle0.trans hleD
                replace hle1 := hle1.trans hleD
                refine withPreds_cons rfl rfl ?_
                rintro _ ⟨a82, c82, rfl, hsl82, hcap82⟩
                refine withPreds_cons rfl rfl ?_
                rintro _ rfl
                refine withPreds_cons rfl rfl ?_
                rintro _ rfl
                refine withPreds_cons rfl rfl ?_
                rintro _ ⟨a85, c85, rfl, hsl85⟩
                refine withPreds_cons rfl rfl ?_
                rintro _ ⟨a86, c86, rfl, hsl86, hcap86⟩
                refine withPreds_cons rfl rfl ?_
                rintro _ rfl
                refine withPreds_cons rfl rfl ?_
                rintro _ rfl
                refine withPreds_cons rfl rfl ?_
                rintro _ rfl
                refine withPreds_cons rfl rfl ?_
                rintro _ ⟨a90, c90, rfl, hsl90⟩
                refine withPreds_nil rfl ?_
                refine XO.appendP rfl hsl86 rfl rfl hsl90 rfl (by exact hcap86) Try.underlying22 ty_28 ze_28 rfl by_28 (by simp; omega) rfl (fun HA91 aA91 cA91 hleA91 hsA91 => ?_)
                replace hs0 := hs0.mono hleA91
                replace hs1 := hs1.mono hleA91
                replace hsQ11 := hsQ11.mono hleA91
                replace hq := hq.mono hleA91
                replace hp := hp.mono hleA91
                replace hs6 := hs6.mono hleA91
                replace hp57 := hp57.mono hleA91
                replace h66 := h66.mono hleA91
                replace i66 := i66.mono hleA91
                replace j66 := j66.mono hleA91
                replace hpS := hpS.mono hleA91
                replace hdS := hdS.mono hleA91
                replace hsl82 := hsl82.mono hleA91
                replace hsl85 := hsl85.mono hleA91
                replace hsl86 := hsl86.mono hleA91
                replace hsl90 := hsl90.mono hleA91
                replace hle0 := hle0.trans hleA91
                replace hle1 := hle1.trans hleA91
                refine XO.assign rfl rfl ?_
                refine XO.nil ?_
                refine blockN ?_
                refine XC.seq2 ?_
                refine XC.region ?_
                refine XO.move rfl rfl ?_
                refine XO.add rfl rfl (wrap_i64 (by omega) (by omega)) rfl ?_
                refine XO.assign rfl rfl ?_
                refine XO.nil ?_
                refine loop_next ((st + 1, ⟨withoutL n.q j, n.ap⟩, d66, e66, f66, g66, _, _)) (by show (withoutL n.q j).length < n.q.length; have := without_len hjl; omega) (prov_cons (rfl) (prov_cons (rfl) (prov_cons (rfl) (prov_cons (rfl) prov_nil)))) (⟨rfl, by assumption, by assumption, net_without hnet, hnap, by (try dsimp only); have := without_len hjl; omega, by assumption⟩) (by repeat (first | exact List.Sublist.refl _ | apply List.Sublist.cons_cons | apply List.Sublist.cons)) (hle1)
            · skip
              refine XC.keep [1, 5, 6, 10, 11] rfl ?_
              apply XC.drawH (fun _ => True) trivial [4] (by decide) (ownF pkR 28 (n.q.take j)) (ownF_mono _ _ _) 9 [slF pkR [], eqF _, eqF _, slG pkR (n.q.take j), anyF, eqF _, eqF _, eqF _, slG pkR (n.q.drop (j + 1))] follows (by kernel_rfl) ⟨slF_mono _ _, eqF_mono _, eqF_mono _, slG_mono _ _, anyF_mono, eqF_mono _, eqF_mono _, eqF_mono _, slG_mono _ _, trivial⟩ (by decide) ?steps23 ?tail23
              case steps23 =>
                refine stepsH_cons rfl ?_ ?_
                · intro X ext HD hleD _
                  replace hs0 := hs0.mono hleD
                  replace hs1 := hs1.mono hleD
                  replace hsQ11 := hsQ11.mono hleD
                  replace hq := hq.mono hleD
                  replace hp := hp.mono hleD
                  replace hs6 := hs6.mono hleD
                  replace hp57 := hp57.mono hleD
                  replace h66 := h66.mono hleD
                  replace i66 := i66.mono hleD
                  replace j66 := j66.mono hleD
                  replace hpS := hpS.mono hleD
                  replace hdS := hdS.mono hleD
                  replace hle0 := hle0.trans hleD
                  replace hle1 := hle1.trans hleD
                  refine withP_nil rfl ?_
                  refine XO.buildSlice rfl Try.underlying22 ty_28 ze_28 rfl rfl rfl (fun b82 => ?_)
                  refine XO.publish 0 rfl rfl rfl (fun HP82 oP82 hleP82 hbP82 hoP82 => ?_)
                  have hsl82 := SlR.lit (ρ := pkR) (l := []) hbP82 hoP82 rfl
                  replace hs0 := hs0.mono hleP82
                  replace hs1 := hs1.mono hleP82
                  replace hsQ11 := hsQ11.mono hleP82
                  replace hq := hq.mono hleP82
                  replace hp := hp.mono hleP82
                  replace hs6 := hs6.mono hleP82
                  replace hp57 := hp57.mono hleP82
                  replace h66 := h66.mono hleP82
                  replace i66 := i66.mono hleP82
                  replace j66 := j66.mono hleP82
                  replace hpS := hpS.mono hleP82
                  replace hdS := hdS.mono hleP82
                  replace hle0 := hle0.trans hleP82
                  replace hle1 := hle1.trans hleP82
                  refine XO.nil ?_
                  exact stepQN_ok rfl trivial (⟨_, rfl, hsl82⟩)
                refine stepsH_cons rfl ?_ ?_
                · intro X ext HD hleD _
                  replace hs0 := hs0.mono hleD
                  replace hs1 := hs1.mono hleD
                  replace hsQ11 := hsQ11.mono hleD
                  replace hq := hq.mono hleD
                  replace hp := hp.mono hleD
                  replace hs6 := hs6.mono hleD
                  replace hp57 := hp57.mono hleD
                  replace h66 := h66.mono hleD
                  replace i66 := i66.mono hleD
                  replace j66 := j66.mono hleD
                  replace hpS := hpS.mono hleD
                  replace hdS := hdS.mono hleD
                  replace hle0 := hle0.trans hleD
                  replace hle1 := hle1.trans hleD
                  refine withP_nil rfl ?_
                  refine XO.move rfl rfl ?_
                  refine XO.nil ?_
                  exact stepQN_ok rfl trivial (rfl)
                refine stepsH_cons rfl ?_ ?_
                · intro X ext HD hleD _
                  replace hs0 := hs0.mono hleD
                  replace hs1 := hs1.mono hleD
                  replace hsQ11 := hsQ11.mono hleD
                  replace hq := hq.mono hleD
                  replace hp := hp.mono hleD
                  replace hs6 := hs6.mono hleD
                  replace hp57 := hp57.mono hleD
                  replace h66 := h66.mono hleD
                  replace i66 := i66.mono hleD
                  replace j66 := j66.mono hleD
                  replace hpS := hpS.mono hleD
                  replace hdS := hdS.mono hleD
                  replace hle0 := hle0.trans hleD
                  replace hle1 := hle1.trans hleD
                  refine withP_nil rfl ?_
                  refine XO.move rfl rfl ?_
                  refine XO.nil ?_
                  exact stepQN_ok rfl trivial (rfl)
                refine stepsH_cons rfl ?_ ?_
                · intro X ext HD hleD _
                  replace hs0 := hs0.mono hleD
                  replace hs1 := hs1.mono hleD
                  replace hsQ11 := hsQ11.mono hleD
                  replace hq := hq.mono hleD
                  replace hp := hp.mono hleD
                  replace hs6 := hs6.mono hleD
                  replace hp57 := hp57.mono hleD
                  replace h66 := h66.mono hleD
                  replace i66 := i66.mono hleD
                  replace j66 := j66.mono hleD
                  replace hpS := hpS.mono hleD
                  replace hdS := hdS.mono hleD
                  replace hle0 := hle0.trans hleD
                  replace hle1 := hle1.trans hleD
                  refine withP_cons rfl rfl ?_
                  rintro _ rfl
                  refine withP_cons rfl rfl ?_
                  rintro _ rfl
                  refine withP_nil rfl ?_
                  refine XO.slice (lo' := 0) (hi' := (j : Int)) (m' := (c6 : Int)) rfl hs6 ev?_none (ev?_some rfl) ev?_none (by simp) (by omega) (by omega) (by omega) (by omega) (by omega) Try.underlying22 ty_28 rfl (fun as85 ls85 hls85 hss85 => ?_)
                  obtain rfl : ls85 = n.q.take j := by first | (rw [hls85]; simp; done) | (rw [hls85]; simp; rw [List.take_of_length_le (by simp)])
                  refine XO.nil ?_
                  exact stepQN_ok rfl trivial (⟨_, _, rfl, hss85⟩)
                refine stepsH_cons rfl ?_ ?_
                · intro X ext HD hleD _
                  replace hs0 := hs0.mono hleD
                  replace hs1 := hs1.mono hleD
                  replace hsQ11 := hsQ11.mono hleD
                  replace hq := hq.mono hleD
                  replace hp := hp.mono hleD
                  replace hs6 := hs6.mono hleD
                  replace hp57 := hp57.mono hleD
                  replace h66 := h66.mono hleD
                  replace i66 := i66.mono hleD
                  replace j66 := j66.mono hleD
                  replace hpS := hpS.mono hleD
                  replace hdS := hdS.mono hleD
                  replace hle0 := hle0.trans hleD
                  replace hle1 := hle1.trans hleD
                  refine withP_cons rfl rfl ?_
                  rintro _ ⟨bs82, rfl, hsl82⟩
                  refine withP_cons rfl rfl ?_
                  rintro _ ⟨a85, c85, rfl, hsl85⟩
                  refine withP_nil rfl ?_
                  refine XO.appendN rfl hsl82 rfl rfl hsl85 rfl (by simp; omega) Try.underlying22 ty_28 ze_28 rfl by_28 (by simp; omega) rfl (fun pe ae ce hacc => ?_)
                  refine XO.nil ?_
                  exact stepQN_new rfl trivial trivial (⟨_, _, rfl, hacc⟩)
                refine stepsH_cons rfl ?_ ?_
                · intro X ext HD hleD _
                  replace hs0 := hs0.mono hleD
                  replace hs1 := hs1.mono hleD
                  replace hsQ11 := hsQ11.mono hleD
                  replace hq := hq.mono hleD
                  replace hp := hp.mono hleD
                  replace hs6 := hs6.mono hleD
                  replace hp57 := hp57.mono hleD
                  replace h66 := h66.mono hleD
                  replace i66 := i66.mono hleD
                  replace j66 := j66.mono hleD
                  replace hpS := hpS.mono hleD
                  replace hdS := hdS.mono hleD
                  replace hle0 := hle0.trans hleD
                  replace hle1 := hle1.trans hleD
                  refine withP_nil rfl ?_
                  refine XO.move rfl rfl ?_
                  refine XO.nil ?_
                  exact stepQN_ok rfl trivial (rfl)
                refine stepsH_cons rfl ?_ ?_
                · intro X ext HD hleD _
                  replace hs0 := hs0.mono hleD
                  replace hs1 := hs1.mono hleD
                  replace hsQ11 := hsQ11.mono hleD
                  replace hq := hq.mono hleD
                  replace hp := hp.mono hleD
                  replace hs6 := hs6.mono hleD
                  replace hp57 := hp57.mono hleD
                  replace h66 := h66.mono hleD
                  replace i66 := i66.mono hleD
                  replace j66 := j66.mono hleD
                  replace hpS := hpS.mono hleD
                  replace hdS := hdS.mono hleD
                  replace hle0 := hle0.trans hleD
                  replace hle1 := hle1.trans hleD
                  refine withP_nil rfl ?_
                  refine XO.move rfl rfl ?_
                  refine XO.nil ?_
                  exact stepQN_ok rfl trivial (rfl)
                refine stepsH_cons rfl ?_ ?_
                · intro X ext HD hleD _
                  replace hs0 := hs0.mono hleD
                  replace hs1 := hs1.mono hleD
                  replace hsQ11 := hsQ11.mono hleD
                  replace hq := hq.mono hleD
                  replace hp := hp.mono hleD
                  replace hs6 := hs6.mono hleD
                  replace hp57 := hp57.mono hleD
                  replace h66 := h66.mono hleD
                  replace i66 := i66.mono hleD
                  replace j66 := j66.mono hleD
                  replace hpS := hpS.mono hleD
                  replace hdS := hdS.mono hleD
                  replace hle0 := hle0.trans hleD
                  replace hle1 := hle1.trans hleD
                  refine withP_cons rfl rfl ?_
                  rintro _ rfl
                  refine withP_nil rfl ?_
                  refine XO.add rfl rfl (wrap_i64 (by omega) (by omega)) rfl ?_
                  refine XO.nil ?_
                  exact stepQN_ok rfl trivial (rfl)
                refine stepsH_cons rfl ?_ ?_
                · intro X ext HD hleD _
                  replace hs0 := hs0.mono hleD
                  replace hs1 := hs1.mono hleD
                  replace hsQ11 := hsQ11.mono hleD
                  replace hq := hq.mono hleD
                  replace hp := hp.mono hleD
                  replace hs6 := hs6.mono hleD
                  replace hp57 := hp57.mono hleD
                  replace h66 := h66.mono hleD
                  replace i66 := i66.mono hleD
                  replace j66 := j66.mono hleD
                  replace hpS := hpS.mono hleD
                  replace hdS := hdS.mono hleD
                  replace hle0 := hle0.trans hleD
                  replace hle1 := hle1.trans hleD
                  refine withP_cons rfl rfl ?_
                  rintro _ rfl
                  refine withP_cons rfl rfl ?_
                  rintro _ rfl
                  refine withP_nil rfl ?_
                  refine XO.slice (lo' := (j : Int) + 1) (hi' := (n.q.length : Int)) (m' := (c6 : Int)) rfl hs6 (ev?_some rfl) ev?_none ev?_none (by simp) (by omega) (by omega) (by omega) (by omega) (by omega) Try.underlying22 ty_28 rfl (fun as90 ls90 hls90 hss90 => ?_)
                  obtain rfl : ls90 = n.q.drop (j + 1) := by first | (rw [hls90]; simp; done) | (rw [hls90]; simp; rw [List.take_of_length_le (by simp)])
                  refine XO.nil ?_
                  exact stepQN_ok rfl trivial (⟨_, _, rfl, hss90⟩)
                exact stepsH_end rfl
              case tail23 =>
                intro HD hleD _
                replace hs0 := hs0.mono hleD
                replace hs1 := hs1.mono hleD
                replace hsQ11 := hsQ11.mono hleD
                replace hq := hq.mono hleD
                replace hp := hp.mono hleD
                replace hs6 := hs6.mono hleD
                replace hp57 := hp57.mono hleD
                replace h66 := h66.mono hleD
                replace i66 := i66.mono hleD
                replace j66 := j66.mono hleD
                replace hpS := hpS.mono hleD
                replace hdS := hdS.mono hleD
                replace hle0 := hle0.trans hleD
                replace hle1 := hle1.trans hleD
                refine withP_cons rfl rfl ?_
                rintro _ ⟨bs82, rfl, hsl82⟩
                refine withP_cons rfl rfl ?_
                rintro _ rfl
                refine withP_cons rfl rfl ?_
                rintro _ rfl
                refine withP_cons rfl rfl ?_
                rintro _ ⟨a85, c85, rfl, hsl85⟩
                refine withP_cons rfl rfl ?_
                rintro _ _
                refine withP_cons rfl rfl ?_
                rintro _ rfl
                refine withP_cons rfl rfl ?_
                rintro _ rfl
                refine withP_cons rfl rfl ?_
                rintro _ rfl
                refine withP_cons rfl rfl ?_
                rintro _ ⟨a90, c90, rfl, hsl90⟩
                refine withP_nil rfl ?_
                refine withEnts_cons ?_
                intro pe hpe
                obtain ⟨ae, ce, rfl, hacce⟩ := hpe _ ⟨_, rfl, rfl⟩
                refine withEnts_nil ?_
                refine XO.appendA 0 rfl rfl hacce rfl rfl hsl90 rfl Try.underlying22 ty_28 ze_28 rfl by_28 (by simp; omega) rfl (fun p91 a91 c91 hacc91 => ?_)
                refine XO.publishA 0 rfl hacc91 rfl (fun HQ26 hleQ26 hsQ26 => ?_)
                replace hs0 := hs0.mono hleQ26
                replace hs1 := hs1.mono hleQ26
                replace hsQ11 := hsQ11.mono hleQ26
                replace hq := hq.mono hleQ26
                replace hp := hp.mono hleQ26
                replace hs6 := hs6.mono hleQ26
                replace hp57 := hp57.mono hleQ26
                replace h66 := h66.mono hleQ26
                replace i66 := i66.mono hleQ26
                replace j66 := j66.mono hleQ26
                replace hpS := hpS.mono hleQ26
                replace hdS := hdS.mono hleQ26
                replace hsl82 := hsl82.mono hleQ26
                replace hsl85 := hsl85.mono hleQ26
                replace hsl90 := hsl90.mono hleQ26
                replace hle0 := hle0.trans hleQ26
                replace hle1 := hle1.trans hleQ26
                refine XO.assign rfl rfl ?_
                refine XO.nil ?_
                refine blockN ?_
                refine XC.seq2 ?_
                refine XC.region ?_
                refine XO.move rfl rfl ?_
                refine XO.add rfl rfl (wrap_i64 (by omega) (by omega)) rfl ?_
                refine XO.assign rfl rfl ?_
                refine XO.nil ?_
                refine loop_next ((st + 1, ⟨withoutL n.q j, n.ap⟩, d66, e66, f66, g66, _, _)) (by show (withoutL n.q j).length < n.q.length; have := without_len hjl; omega) (prov_cons (rfl) (prov_cons (rfl) (prov_cons (rfl) (prov_cons (rfl) prov_nil)))) (⟨rfl, by assumption, by assumption, net_without hnet, hnap, by (try dsimp only); have := without_len hjl; omega, by assumption⟩) (by repeat (first | exact List.Sublist.refl _ | apply List.Sublist.cons_cons | apply List.Sublist.cons)) (hle1)
        · have hjl : (0 : Nat) < n.q.length := by omega
          refine XC.skip ?_
          refine XC.seq2 ?_
          refine XC.seq ?_
          refine XC.region ?_
          obtain ⟨x, hx⟩ : ∃ x, n.q[(0 : Nat)]? = some x := ⟨_, List.getElem?_eq_getElem (by omega)⟩
          obtain ⟨ea, ep, en, _⟩ := del_eq hnet hx
          rw [hnap, if_neg (by simp)] at ep
          refine XO.loadO 0 rfl rfl ty_25 rfl rfl rfl ?_
          refine XO.move rfl rfl ?_
          refine XO.callH rfl (deliver_fn _ _ _ _ n ((0 : Nat) : Int) _ hq hp hlq hlp) rfl ?_
          rintro _ HD66 hleD66 ⟨_, _, rfl, ⟨a66, c66, rfl, h66⟩, ⟨d66, e66, f66, g66, rfl, i66, j66⟩⟩
          replace hs0 := hs0.mono hleD66
          replace hs1 := hs1.mono hleD66
          replace hsQ11 := hsQ11.mono hleD66
          replace hq := hq.mono hleD66
          replace hp := hp.mono hleD66
          replace hs6 := hs6.mono hleD66
          replace hle0 := hle0.trans hleD66
          replace hle1 := hle1.trans hleD66
          refine XO.move rfl rfl ?_
          refine XO.extract rfl rfl rfl ?_
          refine XO.extract rfl rfl rfl ?_
          refine XO.extract rfl rfl rfl ?_
          refine XO.alloc ze_28 rfl (fun b12 => ?_)
          refine XO.alloc ze_25 rfl (fun b13 => ?_)
          refine XO.storeO 1 rfl rfl rfl rfl ty_28 rfl rfl rfl rfl rfl ?_
          refine XO.storeO 0 rfl rfl rfl rfl ty_25 rfl rfl rfl rfl rfl ?_
          refine XO.assign rfl rfl ?_
          refine XO.nil ?_
          refine XC.seq2 ?_
          refine XC.seq ?_
          refine XC.seq ?_
          refine XC.keep [1, 5, 6, 10, 11, 12, 13, 14] rfl ?_
          rw [en] at i66 j66 ⊢
          obtain ⟨bES, oES, rfl⟩ := hs6.addr (by omega)
          obtain ⟨_, xS, hxS, ⟨axS, cxS, rfl, hdS⟩, hpS⟩ := hs6.elem ((0 : Nat)) (by omega)
          obtain rfl := Option.some.inj (hx.symm.trans hxS)
          apply XC.drawH (fun _ => True) trivial [] (by decide) (fun _ _ _ _ => True) (fun _ _ _ _ _ _ h => h) 8 [eqF _, eqF _, eqF _, eqF _, eqF _, eqF _, eqF _, eqF _] follows (by kernel_rfl) ⟨eqF_mono _, eqF_mono _, eqF_mono _, eqF_mono _, eqF_mono _, eqF_mono _, eqF_mono _, eqF_mono _, trivial⟩ (by decide) ?steps28 ?tail28
          case steps28 =>
            refine stepsH_cons rfl ?_ ?_
            · intro X ext HD hleD _
              replace hs0 := hs0.mono hleD
              replace hs1 := hs1.mono hleD
              replace hsQ11 := hsQ11.mono hleD
              replace hq := hq.mono hleD
              replace hp := hp.mono hleD
              replace hs6 := hs6.mono hleD
              replace h66 := h66.mono hleD
              replace i66 := i66.mono hleD
              replace j66 := j66.mono hleD
              replace hpS := hpS.mono hleD
              replace hdS := hdS.mono hleD
              replace hle0 := hle0.trans hleD
              replace hle1 := hle1.trans hleD
              refine withP_nil rfl ?_
              refine XO.move rfl rfl ?_
              refine XO.nil ?_
              exact stepQN_ok rfl trivial (rfl)
            refine stepsH_cons rfl ?_ ?_
            · intro X ext HD hleD _
              replace hs0 := hs0.mono hleD
              replace hs1 := hs1.mono hleD
              replace hsQ11 := hsQ11.mono hleD
              replace hq := hq.mono hleD
              replace hp := hp.mono hleD
              replace hs6 := hs6.mono hleD
              replace h66 := h66.mono hleD
              replace i66 := i66.mono hleD
              replace j66 := j66.mono hleD
              replace hpS := hpS.mono hleD
              replace hdS := hdS.mono hleD
              replace hle0 := hle0.trans hleD
              replace hle1 := hle1.trans hleD
              refine withP_cons rfl rfl ?_
              rintro _ rfl
              refine withP_nil rfl ?_
              refine XO.neq rfl rfl rfl ?_
              refine XO.nil ?_
              exact stepQN_ok rfl trivial (rfl)
            refine stepsH_cons rfl ?_ ?_
            · intro X ext HD hleD _
              replace hs0 := hs0.mono hleD
              replace hs1 := hs1.mono hleD
              replace hsQ11 := hsQ11.mono hleD
              replace hq := hq.mono hleD
              replace hp := hp.mono hleD
              replace hs6 := hs6.mono hleD
              replace h66 := h66.mono hleD
              replace i66 := i66.mono hleD
              replace j66 := j66.mono hleD
              replace hpS := hpS.mono hleD
              replace hdS := hdS.mono hleD
              replace hle0 := hle0.trans hleD
              replace hle1 := hle1.trans hleD
              refine withP_cons rfl rfl ?_
              rintro _ rfl
              refine withP_nil rfl ?_
              refine XO.move rfl rfl ?_
              refine XO.nil ?_
              exact stepQN_ok rfl trivial (rfl)
            refine stepsH_cons rfl ?_ ?_
            · intro X ext HD hleD _
              replace hs0 := hs0.mono hleD
              replace hs1 := hs1.mono hleD
              replace hsQ11 := hsQ11.mono hleD
              replace hq := hq.mono hleD
              replace hp := hp.mono hleD
              replace hs6 := hs6.mono hleD
              replace h66 := h66.mono hleD
              replace i66 := i66.mono hleD
              replace j66 := j66.mono hleD
              replace hpS := hpS.mono hleD
              replace hdS := hdS.mono hleD
              replace hle0 := hle0.trans hleD
              replace hle1 := hle1.trans hleD
              refine withP_cons rfl rfl ?_
              rintro _ rfl
              refine withP_nil rfl ?_
              refine XO.guardT rfl rfl (decide_eq_false (fun h => h ea)) rfl ?_
              refine XO.loadO 1 rfl rfl ty_28 rfl rfl rfl ?_
              refine XO.nil ?_
              exact stepQN_ok rfl trivial (rfl)
            refine stepsH_cons rfl ?_ ?_
            · intro X ext HD hleD _
              replace hs0 := hs0.mono hleD
              replace hs1 := hs1.mono hleD
              replace hsQ11 := hsQ11.mono hleD
              replace hq := hq.mono hleD
              replace hp := hp.mono hleD
              replace hs6 := hs6.mono hleD
              replace h66 := h66.mono hleD
              replace i66 := i66.mono hleD
              replace j66 := j66.mono hleD
              replace hpS := hpS.mono hleD
              replace hdS := hdS.mono hleD
              replace hle0 := hle0.trans hleD
              replace hle1 := hle1.trans hleD
              refine withP_cons rfl rfl ?_
              rintro _ rfl
              refine withP_nil rfl ?_
              refine XO.guardT rfl rfl (decide_eq_false (fun h => h ea)) rfl ?_
              refine XO.move rfl rfl ?_
              refine XO.nil ?_
              exact stepQN_ok rfl trivial (rfl)
            refine stepsH_cons rfl ?_ ?_
            · intro X ext HD hleD _
              replace hs0 := hs0.mono hleD
              replace hs1 := hs1.mono hleD
              replace hsQ11 := hsQ11.mono hleD
              replace hq := hq.mono hleD
              replace hp := hp.mono hleD
              replace hs6 := hs6.mono hleD
              replace h66 := h66.mono hleD
              replace i66 := i66.mono hleD
              replace j66 := j66.mono hleD
              replace hpS := hpS.mono hleD
              replace hdS := hdS.mono hleD
              replace hle0 := hle0.trans hleD
              replace hle1 := hle1.trans hleD
              refine withP_cons rfl rfl ?_
              rintro _ rfl
              refine withP_nil rfl ?_
              refine XO.guardT rfl rfl (decide_eq_false (fun h => h ea)) rfl ?_
              refine XO.move rfl rfl ?_
              refine XO.nil ?_
              exact stepQN_ok rfl trivial (rfl)
            refine stepsH_cons rfl ?_ ?_
            · intro X ext HD hleD _
              replace hs0 := hs0.mono hleD
              replace hs1 := hs1.mono hleD
              replace hsQ11 := hsQ11.mono hleD
              replace hq := hq.mono hleD
              replace hp := hp.mono hleD
              replace hs6 := hs6.mono hleD
              replace h66 := h66.mono hleD
              replace i66 := i66.mono hleD
              replace j66 := j66.mono hleD
              replace hpS := hpS.mono hleD
              replace hdS := hdS.mono hleD
              replace hle0 := hle0.trans hleD
              replace hle1 := hle1.trans hleD
              refine withP_cons rfl rfl ?_
              rintro _ rfl
              refine withP_cons rfl rfl ?_
              rintro _ rfl
              refine withP_cons rfl rfl ?_
              rintro _ rfl
              refine withP_nil rfl ?_
              refine XO.guardT rfl rfl (decide_eq_false (fun h => h ea)) rfl ?_
              refine XO.indexE rfl rfl Try.underlying22 ty_28 (by omega) (by omega) rfl ?_
              refine XO.nil ?_
              exact stepQN_ok rfl trivial (rfl)
            refine stepsH_cons rfl ?_ ?_
            · intro X ext HD hleD _
              replace hs0 := hs0.mono hleD
              replace hs1 := hs1.mono hleD
              replace hsQ11 := hsQ11.mono hleD
              replace hq := hq.mono hleD
              replace hp := hp.mono hleD
              replace hs6 := hs6.mono hleD
              replace h66 := h66.mono hleD
              replace i66 := i66.mono hleD
              replace j66 := j66.mono hleD
              replace hpS := hpS.mono hleD
              replace hdS := hdS.mono hleD
              replace hle0 := hle0.trans hleD
              replace hle1 := hle1.trans hleD
              refine withP_cons rfl rfl ?_
              rintro _ rfl
              refine withP_cons rfl rfl ?_
              rintro _ rfl
              refine withP_nil rfl ?_
              refine XO.guardT rfl rfl (decide_eq_false (fun h => h ea)) rfl ?_
              refine XO.loadH rfl (by assumption) ty_28 rfl rfl rfl ?_
              refine XO.nil ?_
              exact stepQN_ok rfl trivial (rfl)
            exact stepsH_end rfl
          case tail28 =>
            intro HD hleD _
            replace hs0 := hs0.mono hleD
            replace hs1 := hs1.mono hleD
            replace hsQ11 := hsQ11.mono hleD
            replace hq := hq.mono hleD
            replace hp := hp.mono hleD
            replace hs6 := hs6.mono hleD
            replace h66 := h66.mono hleD
            replace i66 := i66.mono hleD
            replace j66 := j66.mono hleD
            replace hpS := hpS.mono hleD
            replace hdS := hdS.mono hleD
            replace hle0 := hle0.trans hleD
            replace hle1 := hle1.trans hleD
            refine withP_cons rfl rfl ?_
            rintro _ rfl
            refine withP_cons rfl rfl ?_
            rintro _ rfl
            refine withP_cons rfl rfl ?_
            rintro _ rfl
            refine withP_cons rfl rfl ?_
            rintro _ rfl
            refine withP_cons rfl rfl ?_
            rintro _ rfl
            refine withP_cons rfl rfl ?_
            rintro _ rfl
            refine withP_cons rfl rfl ?_
            rintro _ rfl
            refine withP_cons rfl rfl ?_
            rintro _ rfl
            refine withP_nil rfl ?_
            refine withEnts_nil ?_
            refine XO.guardT rfl rfl (decide_eq_false (fun h => h ea)) rfl ?_
            refine XO.callV rfl (samep_fn (delP n (0 : Nat)) x _ _ _ _ _ h66 hdS) rfl ?_
            refine XO.guardT rfl rfl (decide_eq_false (fun h => h ea)) rfl ?_
            refine XO.not rfl rfl ?_
            refine XO.pickF rfl (decide_eq_false (fun h => h ea)) rfl rfl ?_
            refine XO.nil ?_
            refine XC.seq2 ?_
            refine XC.condF rfl (decide_eq_false (fun h => h ep)) ?_
            refine XC.skip ?_
            refine XC.seq2 ?_
            refine XC.seq ?_
            refine XC.region ?_
            refine XO.loadO 0 rfl rfl ty_25 rfl rfl rfl ?_
            refine XO.storeO 2 rfl rfl rfl rfl ty_25 rfl rfl rfl rfl rfl ?_
            refine XO.nil ?_
            refine XC.seq2 ?_
            have hqle := hs6.le
            · skip
              refine XC.keep [1, 5, 6, 10, 11] rfl ?_
              apply XC.drawG (fun _ => True) trivial 9 [slCap pkR [], eqF _, eqF _, slG pkR (n.q.take (0 : Nat)), slCap pkR (n.q.take (0 : Nat)), eqF _, eqF _, eqF _, slG pkR (n.q.drop ((0 : Nat) + 1))] follows (by kernel_rfl) (by kernel_rfl) ⟨slCap_mono _ _, eqF_mono _, eqF_mono _, slG_mono _ _, slCap_mono _ _, eqF_mono _, eqF_mono _, eqF_mono _, slG_mono _ _, trivial⟩ ?steps31 ?tail31
              case steps31 =>
                refine stepsD_cons rfl ?_ ?_
                · intro X HD hleD _
                  replace hs0 := hs0.mono hleD
                  replace hs1 := hs1.mono hleD
                  replace hsQ11 := hsQ11.mono hleD
                  replace hq := hq.mono hleD
                  replace hp := hp.mono hleD
                  replace hs6 := hs6.mono hleD
                  replace h66 := h66.mono hleD
                  replace i66 := i66.mono hleD
                  replace j66 := j66.mono hleD
                  replace hpS := hpS.mono hleD
                  replace hdS := hdS.mono hleD
                  replace hle0 := hle0.trans hleD
                  replace hle1 := hle1.trans hleD
                  refine withPreds_nil rfl ?_
                  refine XO.buildSlice rfl Try.underlying22 ty_28 ze_28 rfl rfl rfl (fun b82 => ?_)
                  refine XO.publish 0 rfl rfl rfl (fun HP82 oP82 hleP82 hbP82 hoP82 => ?_)
                  have hsl82 := SlR.lit (ρ := pkR) (l := []) hbP82 hoP82 rfl
                  replace hs0 := hs0.mono hleP82
                  replace hs1 := hs1.mono hleP82
                  replace hsQ11 := hsQ11.mono hleP82
                  replace hq := hq.mono hleP82
                  replace hp := hp.mono hleP82
                  replace hs6 := hs6.mono hleP82
                  replace h66 := h66.mono hleP82
                  replace i66 := i66.mono hleP82
                  replace j66 := j66.mono hleP82
                  replace hpS := hpS.mono hleP82
                  replace hdS := hdS.mono hleP82
                  replace hle0 := hle0.trans hleP82
                  replace hle1 := hle1.trans hleP82
                  refine XO.nil ?_
                  exact stepQ_ok trivial (⟨_, _, rfl, hsl82, by simp⟩)
                refine stepsD_cons rfl ?_ ?_
                · intro X HD hleD _
                  replace hs0 := hs0.mono hleD
                  replace hs1 := hs1.mono hleD
                  replace hsQ11 := hsQ11.mono hleD
                  replace hq := hq.mono hleD
                  replace hp := hp.mono hleD
                  replace hs6 := hs6.mono hleD
                  replace h66 := h66.mono hleD
                  replace i66 := i66.mono hleD
                  replace j66 := j66.mono hleD
                  replace hpS := hpS.mono hleD
                  replace hdS := hdS.mono hleD
                  replace hle0 := hle0.trans hleD
                  replace hle1 := hle1.trans hleD
                  refine withPreds_nil rfl ?_
                  refine XO.move rfl rfl ?_
                  refine XO.nil ?_
                  exact stepQ_ok trivial (rfl)
                refine stepsD_cons rfl ?_ ?_
                · intro X HD hleD _
                  replace hs0 := hs0.mono hleD
                  replace hs1 := hs1.mono hleD
                  replace hsQ11 := hsQ11.mono hleD
                  replace hq := hq.mono hleD
                  replace hp := hp.mono hleD
                  replace hs6 := hs6.mono hleD
                  replace h66 := h66.mono hleD
                  replace i66 := i66.mono hleD
                  replace j66 := j66.mono hleD
                  replace hpS := hpS.mono hleD
                  replace hdS := hdS.mono hleD
                  replace hle0 := hle0.trans hleD
                  replace hle1 := hle1.trans hleD
                  refine withPreds_nil rfl ?_
                  refine XO.move rfl rfl ?_
                  refine XO.nil ?_
                  exact stepQ_ok trivial (rfl)
                refine stepsD_cons rfl ?_ ?_
                · intro X HD hleD _
                  replace hs0 := hs0.mono hleD
                  replace hs1 := hs1.mono hleD
                  replace hsQ11 := hsQ11.mono hleD
                  replace hq := hq.mono hleD
                  replace hp := hp.mono hleD
                  replace hs6 := hs6.mono hleD
                  replace h66 := h66.mono hleD
                  replace i66 := i66.mono hleD
                  replace j66 := j66.mono hleD
                  replace hpS := hpS.mono hleD
                  replace hdS := hdS.mono hleD
                  replace hle0 := hle0.trans hleD
                  replace hle1 := hle1.trans hleD
                  refine withPreds_cons rfl rfl ?_
                  rintro _ rfl
                  refine withPreds_cons rfl rfl ?_
                  rintro _ rfl
                  refine withPreds_nil rfl ?_
                  refine XO.slice (lo' := 0) (hi' := ((0 : Nat) : Int)) (m' := (c6 : Int)) rfl hs6 ev?_none (ev?_some rfl) ev?_none (by simp) (by omega) (by omega) (by omega) (by omega) (by omega) Try.underlying22 ty_28 rfl (fun as85 ls85 hls85 hss85 => ?_)
                  obtain rfl : ls85 = n.q.take (0 : Nat) := by first | (rw [hls85]; simp; done) | (rw [hls85]; simp; rw [List.take_of_length_le (by simp)])
                  refine XO.nil ?_
                  exact stepQ_ok trivial (⟨_, _, rfl, hss85⟩)
                refine stepsD_cons rfl ?_ ?_
                · intro X HD hleD _
                  replace hs0 := hs0.mono hleD
                  replace hs1 := hs1.mono hleD
                  replace hsQ11 := hsQ11.mono hleD
                  replace hq := hq.mono hleD
                  replace hp := hp.mono hleD
                  replace hs6 := hs6.mono hleD
                  replace h66 := h66.mono hleD
                  replace i66 := i66.mono hleD
                  replace j66 := j66.mono hleD
                  replace hpS := hpS.mono hleD
                  replace hdS := hdS.mono hleD
                  replace hle0 := hle0.trans hleD
                  replace hle1 := hle1.trans hleD
                  refine withPreds_cons rfl rfl ?_
                  rintro _ ⟨a82, c82, rfl, hsl82, hcap82⟩
                  refine withPreds_cons rfl rfl ?_
                  rintro _ ⟨a85, c85, rfl, hsl85⟩
                  refine withPreds_nil rfl ?_
                  refine XO.append0 rfl rfl (by first | rfl | (rw [hk0]; rfl)) hsl82.le Try.underlying22 ty_28 rfl ?_
                  refine XO.nil ?_
                  exact stepQ_ok trivial (⟨_, _, by first | rfl | (rw [hk0]; rfl), by first | exact hsl82 | (rw [hk0]; exact hsl82), by first | exact hcap82 | (rw [hk0]; exact hcap82)⟩)
                refine stepsD_cons rfl ?_ ?_
                · intro X HD hleD _
                  replace hs0 := hs0.mono hleD
                  replace hs1 := hs1.mono hleD
                  replace hsQ11 := hsQ11.mono hleD
                  replace hq := hq.mono hleD
                  replace hp := hp.mono hleD
                  replace hs6 := hs6.mono hleD
                  replace h66 := h66.mono hleD
                  replace i66 := i66.mono hleD
                  replace j66 := j66.mono hleD
                  replace hpS := hpS.mono hleD
                  replace hdS := hdS.mono hleD
                  replace hle0 := hle0.trans hleD
                  replace hle1 := hle1.trans hleD
                  refine withPreds_nil rfl ?_
                  refine XO.move rfl rfl ?_
                  refine XO.nil ?_
                  exact stepQ_ok trivial (rfl)
                refine stepsD_cons rfl ?_ ?_
                · intro X HD hleD _
                  replace hs0 := hs0.mono hleD
                  replace hs1 := hs1.mono hleD
                  replace hsQ11 := hsQ11.mono hleD
                  replace hq := hq.mono hleD
                  replace hp := hp.mono hleD
                  replace hs6 := hs6.mono hleD
                  replace h66 := h66.mono hleD
                  replace i66 := i66.mono hleD
                  replace j66 := j66.mono hleD
                  replace hpS := hpS.mono hleD
                  replace hdS := hdS.mono hleD
                  replace hle0 := hle0.trans hleD
                  replace hle1 := hle1.trans hleD
                  refine withPreds_nil rfl ?_
                  refine XO.move rfl rfl ?_
                  refine XO.nil ?_
                  exact stepQ_ok trivial (rfl)
                refine stepsD_cons rfl ?_ ?_
                · intro X HD hleD _
                  replace hs0 := hs0.mono hleD
                  replace hs1 := hs1.mono hleD
                  replace hsQ11 := hsQ11.mono hleD
                  replace hq := hq.mono hleD
                  replace hp := hp.mono hleD
                  replace hs6 := hs6.mono hleD
                  replace h66 := h66.mono hleD
                  replace i66 := i66.mono hleD
                  replace j66 := j66.mono hleD
                  replace hpS := hpS.mono hleD
                  replace hdS := hdS.mono hleD
                  replace hle0 := hle0.trans hleD
                  replace hle1 := hle1.trans hleD
                  refine withPreds_cons rfl rfl ?_
                  rintro _ rfl
                  refine withPreds_nil rfl ?_
                  refine XO.add rfl rfl (wrap_i64 (by omega) (by omega)) rfl ?_
                  refine XO.nil ?_
                  exact stepQ_ok trivial (rfl)
                refine stepsD_cons rfl ?_ ?_
                · intro X HD hleD _
                  replace hs0 := hs0.mono hleD
                  replace hs1 := hs1.mono hleD
                  replace hsQ11 := hsQ11.mono hleD
                  replace hq := hq.mono hleD
                  replace hp := hp.mono hleD
                  replace hs6 := hs6.mono hleD
                  replace h66 := h66.mono hleD
                  replace i66 := i66.mono hleD
                  replace j66 := j66.mono hleD
                  replace hpS := hpS.mono hleD
                  replace hdS := hdS.mono hleD
                  replace hle0 := hle0.trans hleD
                  replace hle1 := hle1.trans hleD
                  refine withPreds_cons rfl rfl ?_
                  rintro _ rfl
                  refine withPreds_cons rfl rfl ?_
                  rintro _ rfl
                  refine withPreds_nil rfl ?_
                  refine XO.slice (lo' := ((0 : Nat) : Int) + 1) (hi' := (n.q.length : Int)) (m' := (c6 : Int)) rfl hs6 (ev?_some rfl) ev?_none ev?_none (by simp) (by omega) (by omega) (by omega) (by omega) (by omega) Try.underlying22 ty_28 rfl (fun as90 ls90 hls90 hss90 => ?_)
                  obtain rfl : ls90 = n.q.drop ((0 : Nat) + 1) := by first | (rw [hls90]; simp; done) | (rw [hls90]; simp; rw [List.take_of_length_le (by simp)])
                  refine XO.nil ?_
                  exact stepQ_ok trivial (⟨_, _, rfl, hss90⟩)
                exact stepsD_end rfl
              case tail31 =>
                intro HD hleD _
                replace hs0 := hs0.mono hleD
                replace hs1 := hs1.mono hleD
                replace hsQ11 := hsQ11.mono hleD
                replace hq := hq.mono hleD
                replace hp := hp.mono hleD
                replace hs6 := hs6.mono hleD
                replace h66 := h66.mono hleD
                replace i66 := i66.mono hleD
                replace j66 := j66.mono hleD
                replace hpS := hpS.mono hleD
                replace hdS := hdS.mono hleD
                replace hle0 := hle0.trans hleD
                replace hle1 := hle1.trans hleD
                refine withPreds_cons rfl rfl ?_
                rintro _ ⟨a82, c82, rfl, hsl82, hcap82⟩
                refine withPreds_cons rfl rfl ?_
                rintro _ rfl
                refine withPreds_cons rfl rfl ?_
                rintro _ rfl
                refine withPreds_cons rfl rfl ?_
                rintro _ ⟨a85, c85, rfl, hsl85⟩
                refine withPreds_cons rfl rfl ?_
                rintro _ ⟨a86, c86, rfl, hsl86, hcap86⟩
                refine withPreds_cons rfl rfl ?_
                rintro _ rfl
                refine withPreds_cons rfl rfl ?_
                rintro _ rfl
                refine withPreds_cons rfl rfl ?_
                rintro _ rfl
                refine withPreds_cons rfl rfl ?_
                rintro _ ⟨a90, c90, rfl, hsl90⟩
                refine withPreds_nil rfl ?_
                refine XO.appendP rfl hsl86 rfl rfl hsl90 rfl (by exact hcap86) Try.underlying22 ty_28 ze_28 rfl by_28 (by simp; omega) rfl (fun HA91 aA91 cA91 hleA91 hsA91 => ?_)
                replace hs0 := hs0.mono hleA91
                replace hs1 := hs1.mono hleA91
                replace hsQ11 := hsQ11.mono hleA91
                replace hq := hq.mono hleA91
                replace hp := hp.mono hleA91
                replace hs6 := hs6.mono hleA91
                replace h66 := h66.mono hleA91
                replace i66 := i66.mono hleA91
                replace j66 := j66.mono hleA91
                replace hpS := hpS.mono hleA91
                replace hdS := hdS.mono hleA91
                replace hsl82 := hsl82.mono hleA91
                replace hsl85 := hsl85.mono hleA91
                replace hsl86 := hsl86.mono hleA91
                replace hsl90 := hsl90.mono hleA91
                replace hle0 := hle0.trans hleA91
                replace hle1 := hle1.trans hleA91
                refine XO.assign rfl rfl ?_
                refine XO.nil ?_
                refine blockN ?_
                refine XC.seq2 ?_
                refine XC.region ?_
                refine XO.move rfl rfl ?_
                refine XO.add rfl rfl (wrap_i64 (by omega) (by omega)) rfl ?_
                refine XO.assign rfl rfl ?_
                refine XO.nil ?_
                refine loop_next ((st + 1, ⟨withoutL n.q (0 : Nat), n.ap⟩, d66, e66, f66, g66, _, _)) (by show (withoutL n.q (0 : Nat)).length < n.q.length; have := without_len hjl; omega) (prov_cons (rfl) (prov_cons (rfl) (prov_cons (rfl) (prov_cons (rfl) prov_nil)))) (⟨rfl, by assumption, by assumption, net_without hnet, hnap, by (try dsimp only); have := without_len hjl; omega, by assumption⟩) (by repeat (first | exact List.Sublist.refl _ | apply List.Sublist.cons_cons | apply List.Sublist.cons)) (hle1)
      · refine XC.exit ?_
        refine seqX_exit ?_
        refine loopX_exit ?_
        refine blockHit rfl ?_
        refine XC.seq2 ?_
        refine XC.seq ?_
        refine XC.region ?_
        refine XO.fieldAddr rfl fa_25_0 rfl ?_
        refine XO.loadO 0 rfl rfl ty_22 rfl rfl rfl ?_
        refine XO.lenS (ts := #[]) rfl Try.underlying22 rfl ?_
        refine XO.eql rfl rfl rfl ?_
        refine XO.assign rfl rfl ?_
        refine XO.nil ?_
        refine XC.seq2 ?_
        refine XC.ret ?_
        refine ⟨rfl, _, [], rfl, (by repeat (first | exact List.Sublist.refl _ | apply List.Sublist.cons)), RetR.mk ?_⟩
        first | rfl | exact congrArg Value.bool (decide_eq_true (by omega))

namespace networkAll
open Go.ChangeShapes Go.WideShapes Go.ChangeAt Go.RowKit
open Go.ChangeMaps (open_string shut_string)
theorem own : ownKnob Try.prog.godebug = none := by kernel_rfl
theorem laidOut : laidOutB Try.prog = true := by kernel_rfl
set_option maxRecDepth 100000 in
theorem lifted (os : Os) (started : os.Started) (H : Type) (enc : TypeId × Value → H) :
    ReturnsInHanded {} Try.checked os 4 .any (Rows.networkAllSpec.pre6 enc Try.prog Try.f4 Rows.networkAllRow.domain false) (Rows.networkAllSpec.post enc Try.prog Try.f4 false true false false) := by
  refine returnsInHanded_of_change (C := Try.checked) own started (by kernel_rfl) Try.func4
    (ChangeSpec.witness6 (enc := enc) (C := Try.checked) false ⟨#[], #[.slice none 0 0, .slice none 0 0], []⟩ 8 (by kernel_rfl) (by kernel_rfl) (by kernel_rfl) (by kernel_rfl)) ?_
  intro W base args ds gs before hval0 hW hcnd _
  have hval : ∀ (j : Nat) t v, Try.f4.params[j]? = some t → args[j]? = some v → Value.okWide Try.prog W .any base t v := hval0
  have hW' := hW
  obtain ⟨p, q, hA0, hV, rfl, hfz, hnd⟩ := hW
  have hA : DataW.TrodAll enc Try.prog W 0 (fun _ => true) true Try.f4.params.toList args.toList ds p := hA0
  rw [Try.params4] at hA hval
  obtain ⟨v0, vs0, d0, ds0, p0, q0, hargs, rfl, rfl, h0, r0⟩ := trodAll_cons hA
  obtain ⟨v1, vs1, d1, ds1, p1, q1, rfl, rfl, rfl, h1, r1⟩ := trodAll_cons r0
  obtain ⟨rfl, rfl, rfl⟩ := trodAll_nil r1
  obtain rfl : args = #[v0, v1] := by cases args; simp_all
  obtain ⟨rfl, rfl⟩ := trodVars_none hV
  obtain ⟨a0, len0, cap0, rfl⟩ := okWide_slice Try.underlying22 (hval 0 22 v0 rfl rfl)
  have k0 := h0
  have lt0 : ∀ x ∈ p0, x.block < W.heap.size := by obtain ⟨m, hm⟩ := k0; exact DataW.trod_lt m _ _ _ hm
  obtain ⟨fuel0, hf0⟩ := h0
  obtain ⟨l0, ⟨aa0, cc0, hcs0, hs0⟩, hw0⟩ := opens_pks enc W 0 _ _ fuel0 _ _ hf0
  simp [Value.cells] at hcs0
  obtain ⟨rfl, rfl, rfl⟩ := hcs0
  obtain ⟨a1, len1, cap1, rfl⟩ := okWide_slice Try.underlying26 (hval 1 26 v1 rfl rfl)
  have k1 := h1
  have lt1 : ∀ x ∈ p1, x.block < W.heap.size := by obtain ⟨m, hm⟩ := k1; exact DataW.trod_lt m _ _ _ hm
  obtain ⟨fuel1, hf1⟩ := h1
  obtain ⟨l1, ⟨aa1, cc1, hcs1, hs1⟩, hw1⟩ := opens_bytes enc W 0 _ _ fuel1 _ _ hf1
  simp [Value.cells] at hcs1
  obtain ⟨rfl, rfl, rfl⟩ := hcs1
  clear hA0 hval0
  refine (networkAll_fn a0 a1 cap0 cap1 l0 l1 (hpOf W) hs0 hs1).below.mono fun e W' ⟨he, bel⟩ => ?_
  subst he
  exact ⟨_, rfl, _, _, _, [], _, [], hW', trodAll_mk1 (shut_bool Try.underlying4 _), (trodAll_cons_mk (Below.trod laidOut (by kernel_rfl) (of_decide_eq_true (by kernel_rfl)) k0 bel lt0) (trodAll_cons_mk (Below.trod laidOut (by kernel_rfl) (of_decide_eq_true (by kernel_rfl)) k1 bel lt1) trodAll_mk0)), rfl, bel.frame _, fun h => by cases h⟩
theorem over : Rows.networkAllRow.holds Try.pinned (OpenSpec.ofChange Rows.networkAllSpec) :=
  OpenClaim.holds_of_wide 4 Try.f4 rfl rfl rfl rfl rfl rfl rfl ⟨rfl, rfl, rfl, rfl, rfl⟩ rfl rfl rfl rfl rfl (by kernel_rfl) Try.func4 (by kernel_rfl)
    (of_decide_eq_true (by kernel_rfl)) (by unfold Func.isWrapper; first | (rw [if_pos (by decide +kernel)]; kernel_rfl) | (rw [if_neg (by decide +kernel)]; exact ⟨rfl, rfl⟩))
    (fun os started H enc _ => lifted os started H enc)
/-- The given statement. -/
theorem proved : Rows.NetworkAllSaid := over
#print axioms proved
end networkAll
end Go.Proofs.Ytonmnpdhpailcaa
