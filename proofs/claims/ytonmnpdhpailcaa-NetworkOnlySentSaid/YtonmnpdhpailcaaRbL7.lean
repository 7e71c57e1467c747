/- The law NetworkOnlySent: it returns true, whatever the input, and what it was handed reads as before. No condition. -/
import Derived.Test.YtonmnpdhpailcaaRbO
import Derived.Test.YtonmnpdhpailcaaRbD
import Derived.Test.YtonmnpdhpailcaaXLt
import Derived.Test.YtonmnpdhpailcaaRbF
import Derived.Test.YtonmnpdhpailcaaRows
import Derived.WalkKit
import Derived.ProofKit
import Derived.OpenShut
import Derived.ShutString
import Derived.ChangeOld
import Derived.Below
set_option autoImplicit false
set_option linter.unusedVariables false
set_option linter.unusedSimpArgs false
namespace Go.Proofs.Ytonmnpdhpailcaa
open Go.XL

theorem ty_52 : tyF Try.prog 52 5 true = true := by kernel_rfl

set_option maxRecDepth 100000 in
set_option maxHeartbeats 1600000 in
theorem networkOnlySent_fn (a0 : Option Addr) (c0 : Nat) (l0 : List Ev) (H : Hp) (hs0 : SlR evR H a0 c0 l0) : FnC Try.prog 7 #[.slice a0 l0.length c0] H [] (RetR fun v _ _ => v = .bool true) := by
  refine FnC.intro (args := [.slice a0 l0.length c0]) Try.func7 rfl rfl Try.ntmps7 rfl rfl rfl fun G rest => ?_
  refine XC.seq ?_
  refine XC.region ?_
  refine XO.assign rfl rfl ?_
  refine XO.nil ?_
  refine XC.seq2 ?_
  refine XC.seq ?_
  refine XC.seq ?_
  refine XC.region ?_
  refine XO.callV rfl (sane06 _) rfl ?_
  refine XO.notB rfl rfl ?_
  refine XO.nil ?_
  refine XC.seq2 ?_
  refine XC.condF rfl (rfl) ?_
  refine XC.skip ?_
  refine XC.seq2 ?_
  refine XC.seq ?_
  refine XC.seq ?_
  refine XC.region ?_
  refine XO.move rfl rfl ?_
  refine XO.lenS (ts := #[]) rfl Try.underlying48 rfl ?_
  refine XO.gtr rfl rfl rfl ?_
  refine XO.nil ?_
  refine XC.seq2 ?_
  refine XC.cond rfl (fun c1_2 => ?_) (fun c1_2 => ?_)
  · refine XC.seq ?_
    refine XC.region ?_
    refine XO.assign rfl rfl ?_
    refine XO.nil ?_
    refine XC.seq2 ?_
    refine XC.ret ?_
    refine seqX_ret ?_
    refine ⟨rfl, _, [], rfl, (by repeat (first | exact List.Sublist.refl _ | apply List.Sublist.cons)), RetR.mk ?_⟩
    rfl
  · refine XC.skip ?_
    refine XC.seq2 ?_
    refine XC.seq ?_
    refine XC.region ?_
    refine XO.callV rfl (new_fn _) rfl ?_
    refine XO.alloc ze_25 rfl (fun b3 => ?_)
    refine XO.storeO 0 rfl rfl rfl rfl ty_25 rfl rfl rfl rfl rfl ?_
    refine XO.nil ?_
    refine XC.seq2 ?_
    refine XC.seq ?_
    refine XC.region ?_
    refine XO.assign rfl rfl ?_
    refine XO.nil ?_
    refine XC.seq2 ?_
    refine XC.seq ?_
    refine XC.region ?_
    refine XO.assign rfl rfl ?_
    refine XO.nil ?_
    refine XC.seq2 ?_
    refine XC.seq ?_
    refine XC.seq ?_
    refine XC.region ?_
    refine XO.assign rfl rfl ?_
    refine XO.nil ?_
    refine XC.seq2 ?_
    refine XC.block ?_
    refine XC.keep [4, 5, 6, 0, 3] rfl ?_
    refine XC.open0 0 ?_
    refine XC.loop (base := [(0, _), (3, _)]) (fun ζ : Nat × (Nt) × (Option Addr) × (Nat) × (Option Addr) × (Nat) × (Nat) × (List Pk) × ((Nat × SObj) × Option Addr × Nat) => [(4, .slice ζ.2.2.2.2.2.2.2.2.2.1 (ζ.2.2.2.2.2.2.2.1).length ζ.2.2.2.2.2.2.2.2.2.2), (5, .int .i64 (ζ.2.2.2.2.2.2.1 : Nat)), (6, .int .i64 (ζ.1 : Nat))]) (fun ζ Hl own => ζ.1 ≤ l0.length ∧ ζ.2.2.2.2.2.2.2.2.1 :: (b3, .cells 25 [.slice ζ.2.2.1 (ζ.2.1).q.length ζ.2.2.2.1, .slice ζ.2.2.2.2.1 (ζ.2.1).ap.length ζ.2.2.2.2.2.1]) :: rest = own ∧ Acc pkR 28 Hl ζ.2.2.2.2.2.2.2.2.1 ζ.2.2.2.2.2.2.2.2.2.1 ζ.2.2.2.2.2.2.2.2.2.2 (ζ.2.2.2.2.2.2.2.1) ∧ (SlR pkR Hl ζ.2.2.1 ζ.2.2.2.1 (ζ.2.1).q) ∧ (SlR pairR Hl ζ.2.2.2.2.1 ζ.2.2.2.2.2.1 (ζ.2.1).ap) ∧ (Only ζ.2.1 ζ.2.2.2.2.2.2.2.1 ζ.2.2.2.2.2.2.1 ζ.1) ∧ ((ζ.2.1).ap.length ≤ 276 * ζ.1) ∧ (ζ.2.2.2.2.2.2.1 ≤ ζ.1) ∧ ((ζ.2.2.2.2.2.2.2.1).length ≤ ζ.1)) (fun ζ => l0.length - ζ.1) (0, ⟨[], []⟩, none, 0, none, 0, 0, [], ((0, .nothing), none, 0)) (prov_cons (rfl) (prov_cons (rfl) (prov_cons (rfl) (prov_cons (rfl) (prov_cons (rfl) prov_nil))))) (by repeat (first | exact List.Sublist.refl _ | apply List.Sublist.cons_cons | apply List.Sublist.cons)) ⟨Nat.zero_le _, rfl, Acc.nil _ _ _ _, SlR.nil0 _ _, SlR.nil0 _ _, Only.nil, by simp, by simp, by simp⟩ ?_
    rintro ⟨k, n, aq, cq, ap, cp, cu, sn, ⟨po, ao, co⟩⟩ Hl0 _ hle0 ⟨hkk, rfl, hacco, hq, hp, hO, hnp, hcu, hsn⟩
    replace hs0 := hs0.mono hle0
    try dsimp only at hkk hacco hq hp hO hnp hcu hsn ⊢
    have hln := hO.len
    have hlq : n.q.length < 4611686018427387904 := by omega
    have hlp : n.ap.length < 4611686018427387904 := by omega
    refine XC.seq ?_
    refine XC.seq ?_
    refine XC.region ?_
    refine XO.move rfl rfl ?_
    refine XO.move rfl rfl ?_
    refine XO.lenS (ts := #[]) rfl Try.underlying48 rfl ?_
    refine XO.lss rfl rfl rfl ?_
    refine XO.nil ?_
    refine XC.seq2 ?_
    refine XC.cond rfl (fun c2_4 => ?_) (fun c2_4 => ?_)
    · refine XC.skip ?_
      refine XC.seq2 ?_
      refine XC.seq ?_
      refine XC.block ?_
      refine XC.seq ?_
      refine XC.keep [0, 3, 4, 5, 6] rfl ?_
      obtain ⟨bEE, oEE, rfl⟩ := hs0.addr (by omega)
      obtain ⟨_, xE, hxE, rfl, hpE⟩ := hs0.elem (k) (by omega)
      have hhl := hap_len n xE
      apply XC.drawM (fun _ => True) trivial [10, 11] (by decide) [(12, 10), (13, 11)] (moF 10) (mo2 12 (hapN n xE) (hapP n xE)) (fun _ _ _ _ _ _ h => h) (mo2_mono _ _ _) 14 [eqF _, eqF _, eqF _, eqF _, eqF _, fun v H => ∃ v1 v2, v = .tuple #[v1, v2, .int .i64 (hapE n xE)] ∧ NtV H v1 (hapN n xE) ∧ PkV H v2 (hapP n xE), fun v H => ∃ v1 v2, v = .tuple #[v1, v2, .int .i64 (hapE n xE)] ∧ NtV H v1 (hapN n xE) ∧ PkV H v2 (hapP n xE), fun v H => NtV H v (hapN n xE), fun v H => PkV H v (hapP n xE), eqF _, anyF, anyF, anyF, anyF] follows (by kernel_rfl) ⟨eqF_mono _, eqF_mono _, eqF_mono _, eqF_mono _, eqF_mono _, fun _ _ _ hle ⟨v1, v2, h1, h2, h3⟩ => ⟨v1, v2, h1, h2.mono hle, h3.mono hle⟩, fun _ _ _ hle ⟨v1, v2, h1, h2, h3⟩ => ⟨v1, v2, h1, h2.mono hle, h3.mono hle⟩, fun _ _ _ hle h => h.mono hle, fun _ _ _ hle h => h.mono hle, eqF_mono _, anyF_mono, anyF_mono, anyF_mono, anyF_mono, trivial⟩ (by decide) (by kernel_rfl) ?steps5 ?tail5
      case steps5 =>
        refine stepsM_cons rfl rfl ?_ ?_
        · intro X ext HD hleD _
          replace hs0 := hs0.mono hleD
          replace hacco := hacco.mono hleD
          replace hq := hq.mono hleD
          replace hp := hp.mono hleD
          replace hpE := hpE.mono hleD
          replace hle0 := hle0.trans hleD
          refine withP_nil rfl ?_
          refine XO.loadO 1 rfl rfl ty_25 rfl rfl rfl ?_
          refine XO.nil ?_
          exact stepQN_ok rfl trivial (rfl)
        refine stepsM_cons rfl rfl ?_ ?_
        · intro X ext HD hleD _
          replace hs0 := hs0.mono hleD
          replace hacco := hacco.mono hleD
          replace hq := hq.mono hleD
          replace hp := hp.mono hleD
          replace hpE := hpE.mono hleD
          replace hle0 := hle0.trans hleD
          refine withP_nil rfl ?_
          refine XO.move rfl rfl ?_
          refine XO.nil ?_
          exact stepQN_ok rfl trivial (rfl)
        refine stepsM_cons rfl rfl ?_ ?_
        · intro X ext HD hleD _
          replace hs0 := hs0.mono hleD
          replace hacco := hacco.mono hleD
          replace hq := hq.mono hleD
          replace hp := hp.mono hleD
          replace hpE := hpE.mono hleD
          replace hle0 := hle0.trans hleD
          refine withP_nil rfl ?_
          refine XO.move rfl rfl ?_
          refine XO.nil ?_
          exact stepQN_ok rfl trivial (rfl)
        refine stepsM_cons rfl rfl ?_ ?_
        · intro X ext HD hleD _
          replace hs0 := hs0.mono hleD
          replace hacco := hacco.mono hleD
          replace hq := hq.mono hleD
          replace hp := hp.mono hleD
          replace hpE := hpE.mono hleD
          replace hle0 := hle0.trans hleD
          refine withP_cons rfl rfl ?_
          rintro _ rfl
          refine withP_cons rfl rfl ?_
          rintro _ rfl
          refine withP_nil rfl ?_
          refine XO.indexE rfl rfl Try.underlying48 ty_52 (by omega) (by omega) rfl ?_
          refine XO.nil ?_
          exact stepQN_ok rfl trivial (rfl)
        refine stepsM_cons rfl rfl ?_ ?_
        · intro X ext HD hleD _
          replace hs0 := hs0.mono hleD
          replace hacco := hacco.mono hleD
          replace hq := hq.mono hleD
          replace hp := hp.mono hleD
          replace hpE := hpE.mono hleD
          replace hle0 := hle0.trans hleD
          refine withP_cons rfl rfl ?_
          rintro _ rfl
          refine withP_nil rfl ?_
          refine XO.loadH rfl (by assumption) ty_52 rfl rfl rfl ?_
          refine XO.nil ?_
          exact stepQN_ok rfl trivial (rfl)
        refine stepsM_cons rfl rfl ?_ ?_
        · intro X ext HD hleD _
          replace hs0 := hs0.mono hleD
          replace hacco := hacco.mono hleD
          replace hq := hq.mono hleD
          replace hp := hp.mono hleD
          replace hpE := hpE.mono hleD
          replace hle0 := hle0.trans hleD
          refine withP_cons rfl rfl ?_
          rintro _ rfl
          refine withP_cons rfl rfl ?_
          rintro _ rfl
          refine withP_nil rfl ?_
          refine XO.callH rfl (happens_fn _ _ _ _ n xE _ hq hp hlq hlp) rfl ?_
          rintro _ HD30 hleD30 ⟨_, _, rfl, ⟨d30, e30, f30, g30, rfl, i30, j30⟩, ⟨a30, c30, rfl, h30⟩⟩
          replace hs0 := hs0.mono hleD30
          replace hacco := hacco.mono hleD30
          replace hq := hq.mono hleD30
          replace hp := hp.mono hleD30
          replace hpE := hpE.mono hleD30
          replace hle0 := hle0.trans hleD30
          refine XO.nil ?_
          exact stepQN_ok rfl trivial (⟨_, _, rfl, ⟨_, _, _, _, rfl, i30, j30⟩, ⟨_, _, rfl, h30⟩⟩)
        refine stepsM_cons rfl rfl ?_ ?_
        · intro X ext HD hleD _
          replace hs0 := hs0.mono hleD
          replace hacco := hacco.mono hleD
          replace hq := hq.mono hleD
          replace hp := hp.mono hleD
          replace hpE := hpE.mono hleD
          replace hle0 := hle0.trans hleD
          refine withP_cons rfl rfl ?_
          rintro _ ⟨v5, w5, rfl, ⟨a5, c5, b5, d5, rfl, h5, k5⟩, ⟨e5, f5, rfl, g5⟩⟩
          refine withP_nil rfl ?_
          refine XO.move rfl rfl ?_
          refine XO.nil ?_
          exact stepQN_ok rfl trivial (⟨_, _, rfl, ⟨_, _, _, _, rfl, h5, k5⟩, ⟨_, _, rfl, g5⟩⟩)
        refine stepsM_cons rfl rfl ?_ ?_
        · intro X ext HD hleD _
          replace hs0 := hs0.mono hleD
          replace hacco := hacco.mono hleD
          replace hq := hq.mono hleD
          replace hp := hp.mono hleD
          replace hpE := hpE.mono hleD
          replace hle0 := hle0.trans hleD
          refine withP_cons rfl rfl ?_
          rintro _ ⟨v6, w6, rfl, ⟨a6, c6, b6, d6, rfl, h6, k6⟩, ⟨e6, f6, rfl, g6⟩⟩
          refine withP_nil rfl ?_
          refine XO.extract rfl rfl rfl ?_
          refine XO.nil ?_
          exact stepQN_ok rfl trivial (⟨_, _, _, _, rfl, h6, k6⟩)
        refine stepsM_cons rfl rfl ?_ ?_
        · intro X ext HD hleD _
          replace hs0 := hs0.mono hleD
          replace hacco := hacco.mono hleD
          replace hq := hq.mono hleD
          replace hp := hp.mono hleD
          replace hpE := hpE.mono hleD
          replace hle0 := hle0.trans hleD
          refine withP_cons rfl rfl ?_
          rintro _ ⟨v6, w6, rfl, ⟨a6, c6, b6, d6, rfl, h6, k6⟩, ⟨e6, f6, rfl, g6⟩⟩
          refine withP_nil rfl ?_
          refine XO.extract rfl rfl rfl ?_
          refine XO.nil ?_
          exact stepQN_ok rfl trivial (⟨_, _, rfl, g6⟩)
        refine stepsM_cons rfl rfl ?_ ?_
        · intro X ext HD hleD _
          replace hs0 := hs0.mono hleD
          replace hacco := hacco.mono hleD
          replace hq := hq.mono hleD
          replace hp := hp.mono hleD
          replace hpE := hpE.mono hleD
          replace hle0 := hle0.trans hleD
          refine withP_cons rfl rfl ?_
          rintro _ ⟨v6, w6, rfl, ⟨a6, c6, b6, d6, rfl, h6, k6⟩, ⟨e6, f6, rfl, g6⟩⟩
          refine withP_nil rfl ?_
          refine XO.extract rfl rfl rfl ?_
          refine XO.nil ?_
          exact stepQN_ok rfl trivial (rfl)
        refine stepsM_cons rfl rfl ?_ ?_
        · intro X ext HD hleD _
          replace hs0 := hs0.mono hleD
          replace hacco := hacco.mono hleD
          replace hq := hq.mono hleD
          replace hp := hp.mono hleD
          replace hpE := hpE.mono hleD
          replace hle0 := hle0.trans hleD
          refine withP_nil rfl ?_
          refine XO.alloc ze_25 rfl (fun b7 => ?_)
          refine XO.nil ?_
          exact stepQN_new rfl trivial trivial (⟨fun _ => ⟨rfl, rfl⟩, fun h => absurd rfl h⟩)
        refine stepsM_cons rfl rfl ?_ ?_
        · intro X ext HD hleD _
          replace hs0 := hs0.mono hleD
          replace hacco := hacco.mono hleD
          replace hq := hq.mono hleD
          replace hp := hp.mono hleD
          replace hpE := hpE.mono hleD
          replace hle0 := hle0.trans hleD
          refine withP_nil rfl ?_
          refine XO.alloc ze_28 rfl (fun b8 => ?_)
          refine XO.nil ?_
          exact stepQN_new rfl trivial trivial (⟨fun h => absurd h (by decide), fun _ => ⟨rfl, rfl⟩⟩)
        refine stepsM_mod rfl rfl ?_ ?_
        · intro X ext p HD hleD _
          replace hs0 := hs0.mono hleD
          replace hacco := hacco.mono hleD
          replace hq := hq.mono hleD
          replace hp := hp.mono hleD
          replace hpE := hpE.mono hleD
          replace hle0 := hle0.trans hleD
          refine withP_cons rfl rfl ?_
          rintro _ _
          refine withP_cons rfl rfl ?_
          rintro _ ⟨a7, c7, b7, d7, rfl, h7, k7⟩
          refine withP_nil rfl ?_
          intro hfo
          obtain ⟨be10, se10⟩ := p
          obtain ⟨rfl, hse10⟩ := (And.left (hfo _ _ rfl rfl)) rfl
          simp only at hse10
          subst hse10
          refine XO.storeO 0 rfl rfl rfl rfl ty_25 rfl rfl rfl rfl rfl ?_
          refine XO.nil ?_
          exact stepQM_ok trivial trivial (fun u t h1 h2 => by cases (show some _ = some t from h1); cases (show some (Value.pointer _) = some u from h2); exact ⟨fun _ => ⟨_, _, _, _, rfl, rfl, h7, k7⟩, fun h => absurd rfl h⟩)
        refine stepsM_mod rfl rfl ?_ ?_
        · intro X ext p HD hleD _
          replace hs0 := hs0.mono hleD
          replace hacco := hacco.mono hleD
          replace hq := hq.mono hleD
          replace hp := hp.mono hleD
          replace hpE := hpE.mono hleD
          replace hle0 := hle0.trans hleD
          refine withP_cons rfl rfl ?_
          rintro _ _
          refine withP_cons rfl rfl ?_
          rintro _ ⟨e8, f8, rfl, g8⟩
          refine withP_nil rfl ?_
          intro hfo
          obtain ⟨be11, se11⟩ := p
          obtain ⟨rfl, hse11⟩ := (And.right (hfo _ _ rfl rfl)) (by decide)
          simp only at hse11
          subst hse11
          refine XO.storeO 0 rfl rfl rfl rfl ty_28 rfl rfl rfl rfl rfl ?_
          refine XO.nil ?_
          exact stepQM_ok trivial trivial (fun u t h1 h2 => by cases (show some _ = some t from h1); cases (show some (Value.pointer _) = some u from h2); exact ⟨fun h => absurd h (by decide), fun _ => ⟨_, _, rfl, rfl, g8⟩⟩)
        exact stepsM_end rfl
      case tail5 =>
        intro HD hleD _
        replace hs0 := hs0.mono hleD
        replace hacco := hacco.mono hleD
        replace hq := hq.mono hleD
        replace hp := hp.mono hleD
        replace hpE := hpE.mono hleD
        replace hle0 := hle0.trans hleD
        refine withP_cons rfl rfl ?_
        rintro _ rfl
        refine withP_cons rfl rfl ?_
        rintro _ rfl
        refine withP_cons rfl rfl ?_
        rintro _ rfl
        refine withP_cons rfl rfl ?_
        rintro _ rfl
        refine withP_cons rfl rfl ?_
        rintro _ rfl
        refine withP_cons rfl rfl ?_
        rintro _ ⟨v5, w5, rfl, ⟨a5, c5, b5, d5, rfl, h5, k5⟩, ⟨e5, f5, rfl, g5⟩⟩
        refine withP_cons rfl rfl ?_
        rintro _ ⟨v6, w6, rfl, ⟨a6, c6, b6, d6, rfl, h6, k6⟩, ⟨e6, f6, rfl, g6⟩⟩
        refine withP_cons rfl rfl ?_
        rintro _ ⟨a7, c7, b7, d7, rfl, h7, k7⟩
        refine withP_cons rfl rfl ?_
        rintro _ ⟨e8, f8, rfl, g8⟩
        refine withP_cons rfl rfl ?_
        rintro _ rfl
        refine withP_cons rfl rfl ?_
        rintro _ _
        refine withP_cons rfl rfl ?_
        rintro _ _
        refine withP_skip rfl rfl ?_
        refine withP_skip rfl rfl ?_
        refine withP_nil rfl ?_
        refine withEnts_cons ?_
        intro pe hpe
        obtain ⟨am10, cm10, bm10, dm10, rfl, hpe2, hm10, km10⟩ := (And.left (hpe _ ⟨_, rfl, rfl⟩)) rfl
        obtain ⟨be10, se10⟩ := pe
        simp only at hpe2
        subst hpe2
        refine withEnts_cons ?_
        intro pe hpe
        obtain ⟨am11, cm11, rfl, hpe2, hm11⟩ := (And.right (hpe _ ⟨_, rfl, rfl⟩)) (by decide)
        obtain ⟨be11, se11⟩ := pe
        simp only at hpe2
        subst hpe2
        refine withEnts_nil ?_
        refine XO.assign rfl rfl ?_
        refine XO.nil ?_
        refine XC.seq2 ?_
        refine XC.seq ?_
        refine XC.seq ?_
        refine XC.region ?_
        refine XO.move rfl rfl ?_
        refine XO.neq rfl rfl rfl ?_
        refine XO.nil ?_
        refine XC.seq2 ?_
        refine XC.cond rfl (fun c3_8 => ?_) (fun c3_8 => ?_)
        · refine XC.seq ?_
          refine XC.seq ?_
          refine XC.region ?_
          refine XO.loadO 3 rfl rfl ty_25 rfl rfl rfl ?_
          refine XO.callV rfl (check_fn _ _ _ _ n _ hq hp hlq hlp) rfl ?_
          refine XO.neq rfl rfl rfl ?_
          refine XO.move rfl rfl ?_
          refine XO.guardT rfl rfl (decide_eq_false (fun h => h (chk_ok hO.ok))) rfl ?_
          refine XO.loadO 0 rfl rfl ty_25 rfl rfl rfl ?_
          refine XO.guardT rfl rfl (decide_eq_false (fun h => h (chk_ok hO.ok))) rfl ?_
          refine XO.build bk_25 bf_25 ze_25 rfl rfl rfl ?_
          refine XO.guardT rfl rfl (decide_eq_false (fun h => h (chk_ok hO.ok))) rfl ?_
          refine XO.callV rfl (same_fn _ _ none none _ _ 0 0 (hapN n xE) ⟨[], []⟩ _ hm10 km10 (by omega) (by omega) (SlR.nil0 _ _) (SlR.nil0 _ _)) rfl ?_
          refine XO.guardT rfl rfl (decide_eq_false (fun h => h (chk_ok hO.ok))) rfl ?_
          refine XO.not rfl rfl ?_
          refine XO.pickF rfl (decide_eq_false (fun h => h (chk_ok hO.ok))) rfl rfl ?_
          refine XO.nil ?_
          refine XC.seq2 ?_
          refine XC.condF rfl (decide_eq_false (fun h => h (hap_bad (by assumption)))) ?_
          refine XC.skip ?_
          refine XC.seq2 ?_
          refine XC.exit ?_
          refine seqX_exit ?_
          refine blockHit rfl ?_
          refine XC.seq2 ?_
          refine XC.region ?_
          refine XO.move rfl rfl ?_
          refine XO.add rfl rfl (wrap_i64 (by omega) (by omega)) rfl ?_
          refine XO.assign rfl rfl ?_
          refine XO.nil ?_
          refine loop_next ((k + 1, n, aq, cq, ap, cp, cu, sn, (po, ao, co))) (by show l0.length - (k + 1) < l0.length - k; omega) (prov_cons (by first | rfl) (prov_cons (by first | rfl | exact provI rfl (by omega)) (prov_cons (rfl) (prov_cons (rfl) (prov_cons (rfl) prov_nil))))) (⟨by show k + 1 ≤ l0.length; omega, rfl, by first | (exact hacco), by assumption, by assumption, by first | exact hO2 | exact hO.more, by (try dsimp only); omega, by (try dsimp only); omega, by (try dsimp only); first | omega | (rw [List.length_append]; simp only [List.length_cons, List.length_nil]; omega)⟩) (by repeat (first | exact List.Sublist.refl _ | apply List.Sublist.cons_cons | apply List.Sublist.cons)) (hle0)
        · refine XC.skip ?_
          refine XC.seq2 ?_
          refine XC.seq ?_
          refine XC.seq ?_
          refine XC.region ?_
          have he : hapE n xE = 0 := by omega
          have hbK := xE.K.toNat_lt
          refine XO.move rfl rfl ?_
          refine XO.move rfl rfl ?_
          refine XO.indexN rfl hs0 rfl Try.underlying48 ty_52 (by omega) rfl ?_
          rintro eb47 eo47 _ x47 hx47 rfl hp47
          obtain rfl := Option.some.inj (hxE.symm.trans hx47)
          refine XO.fieldAddr rfl fa_52_0 rfl ?_
          refine XO.loadHF rfl (by assumption) ty_5 rfl rfl rfl ?_
          refine XO.rem rfl rfl (by omega) (rem_nn (by omega)) rfl ?_
          refine XO.nil ?_
          refine XC.seq2 ?_
          refine XC.block ?_
          refine XC.seq ?_
          refine XC.region ?_
          refine XO.eql rfl rfl rfl ?_
          refine XO.assign rfl rfl ?_
          refine XO.nil ?_
          refine XC.seq2 ?_
          refine XC.cond rfl (fun c5_12 => ?_) (fun c5_12 => ?_)
          · obtain ⟨hh, hO2⟩ := hO.send (by omega) (by omega) he
            have hl2 : (hapN n xE).q.length = n.q.length + 1 := by rw [hh]; simp
            refine XC.seq ?_
            refine XC.seq ?_
            refine XC.region ?_
            refine XO.fieldAddr rfl fa_25_0 rfl ?_
            refine XO.loadO 0 rfl rfl ty_22 rfl rfl rfl ?_
            refine XO.lenS (ts := #[]) rfl Try.underlying22 rfl ?_
            refine XO.eql rfl rfl rfl ?_
            refine XO.nil ?_
            refine XC.seq2 ?_
            refine XC.cond rfl (fun c6_13 => ?_) (fun c6_13 => ?_)
            · omega
            · refine XC.skip ?_
              refine XC.seq2 ?_
              refine XC.region ?_
              refine XO.move rfl rfl ?_
              refine XO.fieldAddr rfl fa_25_0 rfl ?_
              refine XO.loadO 0 rfl rfl ty_22 rfl rfl rfl ?_
              refine XO.fieldAddr rfl fa_25_0 rfl ?_
              refine XO.loadO 0 rfl rfl ty_22 rfl rfl rfl ?_
              refine XO.lenS (ts := #[]) rfl Try.underlying22 rfl ?_
              refine XO.sub (c := ((n.q.length : Nat) : Int)) rfl rfl ((wrap_i64 (by omega) (by omega)).trans (by omega)) rfl ?_
              refine XO.indexN (i := n.q.length) rfl (by assumption) rfl Try.underlying22 ty_28 (by omega) rfl ?_
              rintro eb64 eo64 _ x64 hx64 ⟨ax64, cx64, rfl, hd64⟩ hp64
              obtain rfl : evP xE = x64 := by rw [hh] at hx64; simpa using hx64
              refine XO.loadH rfl (by assumption) ty_28 rfl rfl rfl ?_
              refine XO.buildSlice rfl Try.underlying22 ty_28 ze_28 rfl rfl rfl (fun b66 => ?_)
              refine XO.publish 0 rfl rfl rfl (fun HP66 oP66 hleP66 hbP66 hoP66 => ?_)
              replace hs0 := hs0.mono hleP66
              replace hacco := hacco.mono hleP66
              replace hq := hq.mono hleP66
              replace hp := hp.mono hleP66
              replace hpE := hpE.mono hleP66
              replace hm10 := hm10.mono hleP66
              replace km10 := km10.mono hleP66
              replace hm11 := hm11.mono hleP66
              replace hp47 := hp47.mono hleP66
              replace hp64 := hp64.mono hleP66
              replace hd64 := hd64.mono hleP66
              replace hle0 := hle0.trans hleP66
              have hsl66 := SlR.lit (ρ := pkR) (l := [evP xE]) hbP66 hoP66 (RowsR.one1 ⟨_, _, rfl, hd64⟩)
              refine XO.appendA 2 rfl rfl hacco rfl rfl hsl66 rfl Try.underlying22 ty_28 ze_28 rfl by_28 (by simp; omega) rfl (fun p67 a67 c67 hacc67 => ?_)
              refine XO.assign rfl rfl ?_
              refine XO.nil ?_
              refine blockN ?_
              refine XC.seq2 ?_
              refine XC.seq ?_
              refine XC.region ?_
              refine XO.loadO 0 rfl rfl ty_25 rfl rfl rfl ?_
              refine XO.storeO 3 rfl rfl rfl rfl ty_25 rfl rfl rfl rfl rfl ?_
              refine XO.nil ?_
              refine XC.seq2 ?_
              refine XC.seq ?_
              refine XC.region ?_
              refine XO.loadO 3 rfl rfl ty_25 rfl rfl rfl ?_
              refine XO.callV rfl (check_fn _ _ _ _ (hapN n xE) _ hm10 km10 (by omega) (by omega)) rfl ?_
              refine XO.neq rfl rfl rfl ?_
              refine XO.nil ?_
              refine XC.seq2 ?_
              refine XC.condF rfl (decide_eq_false (fun h => h (chk_ok hO2.ok))) ?_
              refine XC.skip ?_
              refine blockN ?_
              refine XC.seq2 ?_
              refine XC.region ?_
              refine XO.move rfl rfl ?_
              refine XO.add rfl rfl (wrap_i64 (by omega) (by omega)) rfl ?_
              refine XO.assign rfl rfl ?_
              refine XO.nil ?_
              refine loop_next ((k + 1, hapN n xE, am10, cm10, bm10, dm10, cu, sn ++ [evP xE], (p67, a67, c67))) (by show l0.length - (k + 1) < l0.length - k; omega) (prov_cons (by first | rfl) (prov_cons (by first | rfl | exact provI rfl (by omega)) (prov_cons (rfl) (prov_cons (rfl) (prov_cons (rfl) prov_nil))))) (⟨by show k + 1 ≤ l0.length; omega, rfl, by first | (exact hacc67), by assumption, by assumption, by first | exact hO2 | exact hO.more, by (try dsimp only); omega, by (try dsimp only); omega, by (try dsimp only); first | omega | (rw [List.length_append]; simp only [List.length_cons, List.length_nil]; omega)⟩) (by repeat (first | exact List.Sublist.refl _ | apply List.Sublist.cons_cons | apply List.Sublist.cons)) (hle0)
          · refine XC.seq ?_
            refine XC.region ?_
            refine XO.eql rfl rfl rfl ?_
            refine XO.assign rfl rfl ?_
            refine XO.nil ?_
            refine XC.seq2 ?_
            refine XC.cond rfl (fun c7_18 => ?_) (fun c7_18 => ?_)
            · have hO2 : Only (hapN n xE) sn (cu) (k + 1) := by
                have h := hO.step (by omega) (by omega) he
                rwa [if_neg (by omega)] at h
              have hdl := hO.deliver (by omega) he
              refine XC.seq ?_
              refine XC.region ?_
              refine XO.loadO 1 rfl rfl ty_28 rfl rfl rfl ?_
              refine XO.build bk_28 bf_28 ze_28 rfl rfl rfl ?_
              refine XO.callV rfl (samep_fn (hapP n xE) pk0 _ none _ 0 _ hm11 (SlR.nil0 _ _)) rfl ?_
              refine XO.move rfl rfl ?_
              refine XO.guardC rfl rfl rfl rfl (fun g20 => ?_) (fun g20 => ?_)
              · have g20p := of_decide_eq_true g20
                refine XO.move rfl rfl ?_
                refine XO.guardT rfl rfl (g20) rfl ?_
                refine XO.gtr rfl rfl rfl ?_
                refine XO.pickT rfl (g20) rfl rfl ?_
                refine XO.assign rfl rfl ?_
                refine XO.nil ?_
                refine XC.seq2 ?_
                refine XC.seq ?_
                refine XC.seq ?_
                refine XC.region ?_
                refine XO.assign rfl rfl ?_
                refine XO.nil ?_
                refine XC.seq2 ?_
                refine XC.block ?_
                refine XC.keep [10, 11, 0, 3, 4, 5, 6, 7, 8] rfl ?_
                refine XC.loop (base := [(0, _), (3, _), (4, _), (5, _), (6, _), (7, _), (8, _)]) (fun ζ : Nat × (Bool) => [(10, .bool ζ.2), (11, .int .i64 (ζ.1 : Nat))]) (fun ζ Hl own => ζ.1 ≤ sn.length ∧ (be10, .cells 25 [.slice am10 (hapN n xE).q.length cm10, .slice bm10 (hapN n xE).ap.length dm10]) :: (be11, .cells 28 [.int .i64 (hapP n xE).From, .int .i64 (hapP n xE).To, .slice am11 (hapP n xE).Data.length cm11]) :: po :: (b3, .cells 25 [.slice aq (n).q.length cq, .slice ap (n).ap.length cp]) :: rest = own ∧ (OkI (hapP n xE) cu sn ζ.1 ζ.2)) (fun ζ => sn.length - ζ.1) (0, _) (prov_cons (rfl) (prov_cons (rfl) (prov_cons (rfl) (prov_cons (rfl) (prov_cons (rfl) (prov_cons (rfl) (prov_cons (rfl) (prov_cons (rfl) (prov_cons (rfl) prov_nil))))))))) (by repeat (first | exact List.Sublist.refl _ | apply List.Sublist.cons_cons | apply List.Sublist.cons)) ⟨Nat.zero_le _, rfl, okStart (by first | exact ⟨fun h => ⟨by assumption, by have := of_decide_eq_true h; omega⟩, fun h => decide_eq_true (by have := h.2; omega)⟩ | exact ⟨fun h => (by cases h), fun h => absurd h.1 (by assumption)⟩)⟩ ?_
                rintro ⟨j, okb⟩ Hl1 _ hle1 ⟨hkj, rfl, hok⟩
                replace hs0 := hs0.mono hle1
                replace hacco := hacco.mono hle1
                replace hq := hq.mono hle1
                replace hp := hp.mono hle1
                replace hpE := hpE.mono hle1
                replace hm10 := hm10.mono hle1
                replace km10 := km10.mono hle1
                replace hm11 := hm11.mono hle1
                replace hp47 := hp47.mono hle1
                replace hle0 := hle0.trans hle1
                try dsimp only at hkj hok ⊢
                refine XC.seq ?_
                refine XC.seq ?_
                refine XC.region ?_
                refine XO.move rfl rfl ?_
                refine XO.move rfl rfl ?_
                refine XO.lenS (ts := #[]) rfl Try.underlying22 rfl ?_
                refine XO.lss rfl rfl rfl ?_
                refine XO.nil ?_
                refine XC.seq2 ?_
                refine XC.cond rfl (fun c8_21 => ?_) (fun c8_21 => ?_)
                · refine XC.skip ?_
                  refine XC.seq2 ?_
                  refine XC.seq ?_
                  refine XC.block ?_
                  have haddr := hacco.addr (by omega)
                  subst haddr
                  obtain ⟨xS, hxS⟩ : ∃ x, sn[j]? = some x := ⟨_, List.getElem?_eq_getElem (by omega)⟩
                  cases okb
                  · skip
                    refine XC.keep [0, 3, 4, 5, 6, 7, 8, 10, 11] rfl ?_
                    apply XC.drawH (fun _ => True) trivial [] (by decide) (fun _ _ _ _ => True) (fun _ _ _ _ _ _ h => h) 7 [eqF _, eqF _, eqF _, eqF _, eqF _, fun v H => PkV H v xS, eqF _] follows (by kernel_rfl) ⟨eqF_mono _, eqF_mono _, eqF_mono _, eqF_mono _, eqF_mono _, fun _ _ _ hle h => h.mono hle, eqF_mono _, trivial⟩ (by decide) ?steps22 ?tail22
                    case steps22 =>
                      refine stepsH_cons rfl ?_ ?_
                      · intro X ext HD hleD _
                        replace hs0 := hs0.mono hleD
                        replace hacco := hacco.mono hleD
                        replace hq := hq.mono hleD
                        replace hp := hp.mono hleD
                        replace hpE := hpE.mono hleD
                        replace hm10 := hm10.mono hleD
                        replace km10 := km10.mono hleD
                        replace hm11 := hm11.mono hleD
                        replace hp47 := hp47.mono hleD
                        replace hle0 := hle0.trans hleD
                        replace hle1 := hle1.trans hleD
                        refine withP_nil rfl ?_
                        refine XO.move rfl rfl ?_
                        refine XO.nil ?_
                        exact stepQN_ok rfl trivial (rfl)
                      refine stepsH_cons rfl ?_ ?_
                      · intro X ext HD hleD _
                        replace hs0 := hs0.mono hleD
                        replace hacco := hacco.mono hleD
                        replace hq := hq.mono hleD
                        replace hp := hp.mono hleD
                        replace hpE := hpE.mono hleD
                        replace hm10 := hm10.mono hleD
                        replace km10 := km10.mono hleD
                        replace hm11 := hm11.mono hleD
                        replace hp47 := hp47.mono hleD
                        replace hle0 := hle0.trans hleD
                        replace hle1 := hle1.trans hleD
                        refine withP_cons rfl rfl ?_
                        rintro _ rfl
                        refine withP_nil rfl ?_
                        refine XO.move rfl rfl ?_
                        refine XO.nil ?_
                        exact stepQN_ok rfl trivial (rfl)
                      refine stepsH_cons rfl ?_ ?_
                      · intro X ext HD hleD _
                        replace hs0 := hs0.mono hleD
                        replace hacco := hacco.mono hleD
                        replace hq := hq.mono hleD
                        replace hp := hp.mono hleD
                        replace hpE := hpE.mono hleD
                        replace hm10 := hm10.mono hleD
                        replace km10 := km10.mono hleD
                        replace hm11 := hm11.mono hleD
                        replace hp47 := hp47.mono hleD
                        replace hle0 := hle0.trans hleD
                        replace hle1 := hle1.trans hleD
                        refine withP_cons rfl rfl ?_
                        rintro _ rfl
                        refine withP_nil rfl ?_
                        refine XO.guardT rfl rfl (rfl) rfl ?_
                        refine XO.move rfl rfl ?_
                        refine XO.nil ?_
                        exact stepQN_ok rfl trivial (rfl)
                      refine stepsH_cons rfl ?_ ?_
                      · intro X ext HD hleD _
                        replace hs0 := hs0.mono hleD
                        replace hacco := hacco.mono hleD
                        replace hq := hq.mono hleD
                        replace hp := hp.mono hleD
                        replace hpE := hpE.mono hleD
                        replace hm10 := hm10.mono hleD
                        replace km10 := km10.mono hleD
                        replace hm11 := hm11.mono hleD
                        replace hp47 := hp47.mono hleD
                        replace hle0 := hle0.trans hleD
                        replace hle1 := hle1.trans hleD
                        refine withP_cons rfl rfl ?_
                        rintro _ rfl
                        refine withP_nil rfl ?_
                        refine XO.guardT rfl rfl (rfl) rfl ?_
                        refine XO.move rfl rfl ?_
                        refine XO.nil ?_
                        exact stepQN_ok rfl trivial (rfl)
                      refine stepsH_cons rfl ?_ ?_
                      · intro X ext HD hleD _
                        replace hs0 := hs0.mono hleD
                        replace hacco := hacco.mono hleD
                        replace hq := hq.mono hleD
                        replace hp := hp.mono hleD
                        replace hpE := hpE.mono hleD
                        replace hm10 := hm10.mono hleD
                        replace km10 := km10.mono hleD
                        replace hm11 := hm11.mono hleD
                        replace hp47 := hp47.mono hleD
                        replace hle0 := hle0.trans hleD
                        replace hle1 := hle1.trans hleD
                        refine withP_cons rfl rfl ?_
                        rintro _ rfl
                        refine withP_cons rfl rfl ?_
                        rintro _ rfl
                        refine withP_cons rfl rfl ?_
                        rintro _ rfl
                        refine withP_nil rfl ?_
                        refine XO.guardT rfl rfl (rfl) rfl ?_
                        refine XO.indexE rfl rfl Try.underlying22 ty_28 (by omega) (by omega) rfl ?_
                        refine XO.nil ?_
                        exact stepQN_ok rfl trivial (rfl)
                      refine stepsH_cons rfl ?_ ?_
                      · intro X ext HD hleD _
                        replace hs0 := hs0.mono hleD
                        replace hacco := hacco.mono hleD
                        replace hq := hq.mono hleD
                        replace hp := hp.mono hleD
                        replace hpE := hpE.mono hleD
                        replace hm10 := hm10.mono hleD
                        replace km10 := km10.mono hleD
                        replace hm11 := hm11.mono hleD
                        replace hp47 := hp47.mono hleD
                        replace hle0 := hle0.trans hleD
                        replace hle1 := hle1.trans hleD
                        refine withP_cons rfl rfl ?_
                        rintro _ rfl
                        refine withP_cons rfl rfl ?_
                        rintro _ rfl
                        refine withP_nil rfl ?_
                        refine XO.guardT rfl rfl (rfl) rfl ?_
                        refine XO.loadA 2 rfl rfl hacco (hxS) ty_28 rfl (fun cs24 v24 hR24 hv24 => ?_) (fun cs24 hR24 => by obtain ⟨axZ, cxZ, rfl, hdZ⟩ := hR24; exact ⟨_, rfl⟩)
                        obtain ⟨axL88, cxL88, rfl, hdL88⟩ := hR24; cases hv24
                        refine XO.nil ?_
                        exact stepQN_ok rfl trivial (⟨_, _, rfl, hdL88⟩)
                      refine stepsH_cons rfl ?_ ?_
                      · intro X ext HD hleD _
                        replace hs0 := hs0.mono hleD
                        replace hacco := hacco.mono hleD
                        replace hq := hq.mono hleD
                        replace hp := hp.mono hleD
                        replace hpE := hpE.mono hleD
                        replace hm10 := hm10.mono hleD
                        replace km10 := km10.mono hleD
                        replace hm11 := hm11.mono hleD
                        replace hp47 := hp47.mono hleD
                        replace hle0 := hle0.trans hleD
                        replace hle1 := hle1.trans hleD
                        refine withP_cons rfl rfl ?_
                        rintro _ rfl
                        refine withP_nil rfl ?_
                        refine XO.guardT rfl rfl (rfl) rfl ?_
                        refine XO.loadO 1 rfl rfl ty_28 rfl rfl rfl ?_
                        refine XO.nil ?_
                        exact stepQN_ok rfl trivial (rfl)
                      exact stepsH_end rfl
                    case tail22 =>
                      intro HD hleD _
                      replace hs0 := hs0.mono hleD
                      replace hacco := hacco.mono hleD
                      replace hq := hq.mono hleD
                      replace hp := hp.mono hleD
                      replace hpE := hpE.mono hleD
                      replace hm10 := hm10.mono hleD
                      replace km10 := km10.mono hleD
                      replace hm11 := hm11.mono hleD
                      replace hp47 := hp47.mono hleD
                      replace hle0 := hle0.trans hleD
                      replace hle1 := hle1.trans hleD
                      refine withP_cons rfl rfl ?_
                      rintro _ rfl
                      refine withP_cons rfl rfl ?_
                      rintro _ rfl
                      refine withP_cons rfl rfl ?_
                      rintro _ rfl
                      refine withP_cons rfl rfl ?_
                      rintro _ rfl
                      refine withP_cons rfl rfl ?_
                      rintro _ rfl
                      refine withP_cons rfl rfl ?_
                      rintro _ ⟨ax5, cx5, rfl, hd5⟩
                      refine withP_cons rfl rfl ?_
                      rintro _ rfl
                      refine withP_nil rfl ?_
                      refine withEnts_nil ?_
                      refine XO.guardT rfl rfl (rfl) rfl ?_
                      refine XO.callV rfl (samep_fn xS (hapP n xE) _ _ _ _ _ hd5 hm11) rfl ?_
                      refine XO.pickF rfl (rfl) rfl rfl ?_
                      refine XO.assign rfl rfl ?_
                      refine XO.nil ?_
                      refine blockN ?_
                      refine XC.seq2 ?_
                      refine XC.region ?_
                      refine XO.move rfl rfl ?_
                      refine XO.add rfl rfl (wrap_i64 (by omega) (by omega)) rfl ?_
                      refine XO.assign rfl rfl ?_
                      refine XO.nil ?_
                      refine loop_next ((j + 1, _)) (by show sn.length - (j + 1) < sn.length - j; omega) (prov_cons (rfl) (prov_cons (rfl) (prov_cons (rfl) (prov_cons (rfl) (prov_cons (rfl) (prov_cons (rfl) (prov_cons (rfl) (prov_cons (rfl) (prov_cons (rfl) prov_nil))))))))) (⟨by show j + 1 ≤ sn.length; omega, rfl, by first | exact Or.inl rfl | exact okStep hok hxS⟩) (by repeat (first | exact List.Sublist.refl _ | apply List.Sublist.cons_cons | apply List.Sublist.cons)) (hle1)
                  · skip
                    refine XC.keep [0, 3, 4, 5, 6, 7, 8, 10, 11] rfl ?_
                    apply XC.drawH (fun _ => True) trivial [] (by decide) (fun _ _ _ _ => True) (fun _ _ _ _ _ _ h => h) 7 [eqF _, eqF _, eqF _, eqF _, eqF _, eqF _, eqF _] follows (by kernel_rfl) ⟨eqF_mono _, eqF_mono _, eqF_mono _, eqF_mono _, eqF_mono _, eqF_mono _, eqF_mono _, trivial⟩ (by decide) ?steps26 ?tail26
                    case steps26 =>
                      refine stepsH_cons rfl ?_ ?_
                      · intro X ext HD hleD _
                        replace hs0 := hs0.mono hleD
                        replace hacco := hacco.mono hleD
                        replace hq := hq.mono hleD
                        replace hp := hp.mono hleD
                        replace hpE := hpE.mono hleD
                        replace hm10 := hm10.mono hleD
                        replace km10 := km10.mono hleD
                        replace hm11 := hm11.mono hleD
                        replace hp47 := hp47.mono hleD
                        replace hle0 := hle0.trans hleD
                        replace hle1 := hle1.trans hleD
                        refine withP_nil rfl ?_
                        refine XO.move rfl rfl ?_
                        refine XO.nil ?_
                        exact stepQN_ok rfl trivial (rfl)
                      refine stepsH_cons rfl ?_ ?_
                      · intro X ext HD hleD _
                        replace hs0 := hs0.mono hleD
                        replace hacco := hacco.mono hleD
                        replace hq := hq.mono hleD
                        replace hp := hp.mono hleD
                        replace hpE := hpE.mono hleD
                        replace hm10 := hm10.mono hleD
                        replace km10 := km10.mono hleD
                        replace hm11 := hm11.mono hleD
                        replace hp47 := hp47.mono hleD
                        replace hle0 := hle0.trans hleD
                        replace hle1 := hle1.trans hleD
                        refine withP_cons rfl rfl ?_
                        rintro _ rfl
                        refine withP_nil rfl ?_
                        refine XO.move rfl rfl ?_
                        refine XO.nil ?_
                        exact stepQN_ok rfl trivial (rfl)
                      refine stepsH_cons rfl ?_ ?_
                      · intro X ext HD hleD _
                        replace hs0 := hs0.mono hleD
                        replace hacco := hacco.mono hleD
                        replace hq := hq.mono hleD
                        replace hp := hp.mono hleD
                        replace hpE := hpE.mono hleD
                        replace hm10 := hm10.mono hleD
                        replace km10 := km10.mono hleD
                        replace hm11 := hm11.mono hleD
                        replace hp47 := hp47.mono hleD
                        replace hle0 := hle0.trans hleD
                        replace hle1 := hle1.trans hleD
                        refine withP_cons rfl rfl ?_
                        rintro _ rfl
                        refine withP_nil rfl ?_
                        refine XO.guardF rfl rfl (rfl) rfl rfl ?_
                        refine XO.nil ?_
                        exact stepQN_ok rfl trivial (rfl)
                      refine stepsH_cons rfl ?_ ?_
                      · intro X ext HD hleD _
                        replace hs0 := hs0.mono hleD
                        replace hacco := hacco.mono hleD
                        replace hq := hq.mono hleD
                        replace hp := hp.mono hleD
                        replace hpE := hpE.mono hleD
                        replace hm10 := hm10.mono hleD
                        replace km10 := km10.mono hleD
                        replace hm11 := hm11.mono hleD
                        replace hp47 := hp47.mono hleD
                        replace hle0 := hle0.trans hleD
                        replace hle1 := hle1.trans hleD
                        refine withP_cons rfl rfl ?_
                        rintro _ rfl
                        refine withP_nil rfl ?_
                        refine XO.guardF rfl rfl (rfl) rfl rfl ?_
                        refine XO.nil ?_
                        exact stepQN_ok rfl trivial (rfl)
                      refine stepsH_cons rfl ?_ ?_
                      · intro X ext HD hleD _
                        replace hs0 := hs0.mono hleD
                        replace hacco := hacco.mono hleD
                        replace hq := hq.mono hleD
                        replace hp := hp.mono hleD
                        replace hpE := hpE.mono hleD
                        replace hm10 := hm10.mono hleD
                        replace km10 := km10.mono hleD
                        replace hm11 := hm11.mono hleD
                        replace hp47 := hp47.mono hleD
                        replace hle0 := hle0.trans hleD
                        replace hle1 := hle1.trans hleD
                        refine withP_cons rfl rfl ?_
                        rintro _ rfl
                        refine withP_cons rfl rfl ?_
                        rintro _ rfl
                        refine withP_cons rfl rfl ?_
                        rintro _ rfl
                        refine withP_nil rfl ?_
                        refine XO.guardF rfl rfl (rfl) rfl rfl ?_
                        refine XO.nil ?_
                        exact stepQN_ok rfl trivial (rfl)
                      refine stepsH_cons rfl ?_ ?_
                      · intro X ext HD hleD _
                        replace hs0 := hs0.mono hleD
                        replace hacco := hacco.mono hleD
                        replace hq := hq.mono hleD
                        replace hp := hp.mono hleD
                        replace hpE := hpE.mono hleD
                        replace hm10 := hm10.mono hleD
                        replace km10 := km10.mono hleD
                        replace hm11 := hm11.mono hleD
                        replace hp47 := hp47.mono hleD
                        replace hle0 := hle0.trans hleD
                        replace hle1 := hle1.trans hleD
                        refine withP_cons rfl rfl ?_
                        rintro _ rfl
                        refine withP_cons rfl rfl ?_
                        rintro _ rfl
                        refine withP_nil rfl ?_
                        refine XO.guardF rfl rfl (rfl) rfl rfl ?_
                        refine XO.nil ?_
                        exact stepQN_ok rfl trivial (rfl)
                      refine stepsH_cons rfl ?_ ?_
                      · intro X ext HD hleD _
                        replace hs0 := hs0.mono hleD
                        replace hacco := hacco.mono hleD
                        replace hq := hq.mono hleD
                        replace hp := hp.mono hleD
                        replace hpE := hpE.mono hleD
                        replace hm10 := hm10.mono hleD
                        replace km10 := km10.mono hleD
                        replace hm11 := hm11.mono hleD
                        replace hp47 := hp47.mono hleD
                        replace hle0 := hle0.trans hleD
                        replace hle1 := hle1.trans hleD
                        refine withP_cons rfl rfl ?_
                        rintro _ rfl
                        refine withP_nil rfl ?_
                        refine XO.guardF rfl rfl (rfl) rfl rfl ?_
                        refine XO.nil ?_
                        exact stepQN_ok rfl trivial (rfl)
                      exact stepsH_end rfl
                    case tail26 =>
                      intro HD hleD _
                      replace hs0 := hs0.mono hleD
                      replace hacco := hacco.mono hleD
                      replace hq := hq.mono hleD
                      replace hp := hp.mono hleD
                      replace hpE := hpE.mono hleD
                      replace hm10 := hm10.mono hleD
                      replace km10 := km10.mono hleD
                      replace hm11 := hm11.mono hleD
                      replace hp47 := hp47.mono hleD
                      replace hle0 := hle0.trans hleD
                      replace hle1 := hle1.trans hleD
                      refine withP_cons rfl rfl ?_
                      rintro _ rfl
                      refine withP_cons rfl rfl ?_
                      rintro _ rfl
                      refine withP_cons rfl rfl ?_
                      rintro _ rfl
                      refine withP_cons rfl rfl ?_
                      rintro _ rfl
                      refine withP_cons rfl rfl ?_
                      rintro _ rfl
                      refine withP_cons rfl rfl ?_
                      rintro _ rfl
                      refine withP_cons rfl rfl ?_
                      rintro _ rfl
                      refine withP_nil rfl ?_
                      refine withEnts_nil ?_
                      refine XO.guardF rfl rfl (rfl) rfl rfl ?_
                      refine XO.pickT rfl (rfl) rfl rfl ?_
                      refine XO.assign rfl rfl ?_
                      refine XO.nil ?_
                      refine blockN ?_
                      refine XC.seq2 ?_
                      refine XC.region ?_
                      refine XO.move rfl rfl ?_
                      refine XO.add rfl rfl (wrap_i64 (by omega) (by omega)) rfl ?_
                      refine XO.assign rfl rfl ?_
                      refine XO.nil ?_
                      refine loop_next ((j + 1, _)) (by show sn.length - (j + 1) < sn.length - j; omega) (prov_cons (rfl) (prov_cons (rfl) (prov_cons (rfl) (prov_cons (rfl) (prov_cons (rfl) (prov_cons (rfl) (prov_cons (rfl) (prov_cons (rfl) (prov_cons (rfl) prov_nil))))))))) (⟨by show j + 1 ≤ sn.length; omega, rfl, by first | exact Or.inl rfl | exact okStep hok hxS⟩) (by repeat (first | exact List.Sublist.refl _ | apply List.Sublist.cons_cons | apply List.Sublist.cons)) (hle1)
                · have hk1 : okb = true := okEnd hok (by omega) hdl
                  refine XC.exit ?_
                  refine seqX_exit ?_
                  refine loopX_exit ?_
                  refine blockHit rfl ?_
                  refine XC.seq2 ?_
                  refine XC.seq ?_
                  refine XC.region ?_
                  refine XO.move rfl rfl ?_
                  refine XO.notB rfl rfl ?_
                  refine XO.nil ?_
                  refine XC.seq2 ?_
                  refine XC.condF rfl (by rw [hk1]; rfl) ?_
                  refine XC.skip ?_
                  refine blockN ?_
                  refine XC.seq2 ?_
                  refine XC.seq ?_
                  refine XC.region ?_
                  refine XO.loadO 0 rfl rfl ty_25 rfl rfl rfl ?_
                  refine XO.storeO 3 rfl rfl rfl rfl ty_25 rfl rfl rfl rfl rfl ?_
                  refine XO.nil ?_
                  refine XC.seq2 ?_
                  refine XC.seq ?_
                  refine XC.region ?_
                  refine XO.loadO 3 rfl rfl ty_25 rfl rfl rfl ?_
                  refine XO.callV rfl (check_fn _ _ _ _ (hapN n xE) _ hm10 km10 (by omega) (by omega)) rfl ?_
                  refine XO.neq rfl rfl rfl ?_
                  refine XO.nil ?_
                  refine XC.seq2 ?_
                  refine XC.condF rfl (decide_eq_false (fun h => h (chk_ok hO2.ok))) ?_
                  refine XC.skip ?_
                  refine blockN ?_
                  refine XC.seq2 ?_
                  refine XC.region ?_
                  refine XO.move rfl rfl ?_
                  refine XO.add rfl rfl (wrap_i64 (by omega) (by omega)) rfl ?_
                  refine XO.assign rfl rfl ?_
                  refine XO.nil ?_
                  refine loop_next ((k + 1, hapN n xE, am10, cm10, bm10, dm10, cu, sn, (po, ao, co))) (by show l0.length - (k + 1) < l0.length - k; omega) (prov_cons (by first | rfl) (prov_cons (by first | rfl | exact provI rfl (by omega)) (prov_cons (rfl) (prov_cons (rfl) (prov_cons (rfl) prov_nil))))) (⟨by show k + 1 ≤ l0.length; omega, rfl, by first | (exact hacco), by assumption, by assumption, by first | exact hO2 | exact hO.more, by (try dsimp only); omega, by (try dsimp only); omega, by (try dsimp only); first | omega | (rw [List.length_append]; simp only [List.length_cons, List.length_nil]; omega)⟩) (by repeat (first | exact List.Sublist.refl _ | apply List.Sublist.cons_cons | apply List.Sublist.cons)) (hle0)
              · have g20p := of_decide_eq_false g20
                refine XO.guardF rfl rfl (g20) rfl rfl ?_
                refine XO.pickF rfl (g20) rfl rfl ?_
                refine XO.assign rfl rfl ?_
                refine XO.nil ?_
                refine XC.seq2 ?_
                refine XC.seq ?_
                refine XC.seq ?_
                refine XC.region ?_
                refine XO.assign rfl rfl ?_
                refine XO.nil ?_
                refine XC.seq2 ?_
                refine XC.block ?_
                refine XC.keep [10, 11, 0, 3, 4, 5, 6, 7, 8] rfl ?_
                refine XC.loop (base := [(0, _), (3, _), (4, _), (5, _), (6, _), (7, _), (8, _)]) (fun ζ : Nat × (Bool) => [(10, .bool ζ.2), (11, .int .i64 (ζ.1 : Nat))]) (fun ζ Hl own => ζ.1 ≤ sn.length ∧ (be10, .cells 25 [.slice am10 (hapN n xE).q.length cm10, .slice bm10 (hapN n xE).ap.length dm10]) :: (be11, .cells 28 [.int .i64 (hapP n xE).From, .int .i64 (hapP n xE).To, .slice am11 (hapP n xE).Data.length cm11]) :: po :: (b3, .cells 25 [.slice aq (n).q.length cq, .slice ap (n).ap.length cp]) :: rest = own ∧ (OkI (hapP n xE) cu sn ζ.1 ζ.2)) (fun ζ => sn.length - ζ.1) (0, _) (prov_cons (rfl) (prov_cons (rfl) (prov_cons (rfl) (prov_cons (rfl) (prov_cons (rfl) (prov_cons (rfl) (prov_cons (rfl) (prov_cons (rfl) (prov_cons (rfl) prov_nil))))))))) (by repeat (first | exact List.Sublist.refl _ | apply List.Sublist.cons_cons | apply List.Sublist.cons)) ⟨Nat.zero_le _, rfl, okStart (by first | exact ⟨fun h => ⟨by assumption, by have := of_decide_eq_true h; omega⟩, fun h => decide_eq_true (by have := h.2; omega)⟩ | exact ⟨fun h => (by cases h), fun h => absurd h.1 (by assumption)⟩)⟩ ?_
                rintro ⟨j, okb⟩ Hl1 _ hle1 ⟨hkj, rfl, hok⟩
                replace hs0 := hs0.mono hle1
                replace hacco := hacco.mono hle1
                replace hq := hq.mono hle1
                replace hp := hp.mono hle1
                replace hpE := hpE.mono hle1
                replace hm10 := hm10.mono hle1
                replace km10 := km10.mono hle1
                replace hm11 := hm11.mono hle1
                replace hp47 := hp47.mono hle1
                replace hle0 := hle0.trans hle1
                try dsimp only at hkj hok ⊢
                refine XC.seq ?_
                refine XC.seq ?_
                refine XC.region ?_
                refine XO.move rfl rfl ?_
                refine XO.move rfl rfl ?_
                refine XO.lenS (ts := #[]) rfl Try.underlying22 rfl ?_
                refine XO.lss rfl rfl rfl ?_
                refine XO.nil ?_
                refine XC.seq2 ?_
                refine XC.cond rfl (fun c8_28 => ?_) (fun c8_28 => ?_)
                · refine XC.skip ?_
                  refine XC.seq2 ?_
                  refine XC.seq ?_
                  refine XC.block ?_
                  have haddr := hacco.addr (by omega)
                  subst haddr
                  obtain ⟨xS, hxS⟩ : ∃ x, sn[j]? = some x := ⟨_, List.getElem?_eq_getElem (by omega)⟩
                  cases okb
                  · skip
                    refine XC.keep [0, 3, 4, 5, 6, 7, 8, 10, 11] rfl ?_
                    apply XC.drawH (fun _ => True) trivial [] (by decide) (fun _ _ _ _ => True) (fun _ _ _ _ _ _ h => h) 7 [eqF _, eqF _, eqF _, eqF _, eqF _, fun v H => PkV H v xS, eqF _] follows (by kernel_rfl) ⟨eqF_mono _, eqF_mono _, eqF_mono _, eqF_mono _, eqF_mono _, fun _ _ _ hle h => h.mono hle, eqF_mono _, trivial⟩ (by decide) ?steps29 ?tail29
                    case steps29 =>
                      refine stepsH_cons rfl ?_ ?_
                      · intro X ext HD hleD _
                        replace hs0 := hs0.mono hleD
                        replace hacco := hacco.mono hleD
                        replace hq := hq.mono hleD
                        replace hp := hp.mono hleD
                        replace hpE := hpE.mono hleD
                        replace hm10 := hm10.mono hleD
                        replace km10 := km10.mono hleD
                        replace hm11 := hm11.mono hleD
                        replace hp47 := hp47.mono hleD
                        replace hle0 := hle0.trans hleD
                        replace hle1 := hle1.trans hleD
                        refine withP_nil rfl ?_
                        refine XO.move rfl rfl ?_
                        refine XO.nil ?_
                        exact stepQN_ok rfl trivial (rfl)
                      refine stepsH_cons rfl ?_ ?_
                      · intro X ext HD hleD _
                        replace hs0 := hs0.mono hleD
                        replace hacco := hacco.mono hleD
                        replace hq := hq.mono hleD
                        replace hp := hp.mono hleD
                        replace hpE := hpE.mono hleD
                        replace hm10 := hm10.mono hleD
                        replace km10 := km10.mono hleD
                        replace hm11 := hm11.mono hleD
                        replace hp47 := hp47.mono hleD
                        replace hle0 := hle0.trans hleD
                        replace hle1 := hle1.trans hleD
                        refine withP_cons rfl rfl ?_
                        rintro _ rfl
                        refine withP_nil rfl ?_
                        refine XO.move rfl rfl ?_
                        refine XO.nil ?_
                        exact stepQN_ok rfl trivial (rfl)
                      refine stepsH_cons rfl ?_ ?_
                      · intro X ext HD hleD _
                        replace hs0 := hs0.mono hleD
                        replace hacco := hacco.mono hleD
                        replace hq := hq.mono hleD
                        replace hp := hp.mono hleD
                        replace hpE := hpE.mono hleD
                        replace hm10 := hm10.mono hleD
                        replace km10 := km10.mono hleD
                        replace hm11 := hm11.mono hleD
                        replace hp47 := hp47.mono hleD
                        replace hle0 := hle0.trans hleD
                        replace hle1 := hle1.trans hleD
                        refine withP_cons rfl rfl ?_
                        rintro _ rfl
                        refine withP_nil rfl ?_
                        refine XO.guardT rfl rfl (rfl) rfl ?_
                        refine XO.move rfl rfl ?_
                        refine XO.nil ?_
                        exact stepQN_ok rfl trivial (rfl)
                      refine stepsH_cons rfl ?_ ?_
                      · intro X ext HD hleD _
                        replace hs0 := hs0.mono hleD
                        replace hacco := hacco.mono hleD
                        replace hq := hq.mono hleD
                        replace hp := hp.mono hleD
                        replace hpE := hpE.mono hleD
                        replace hm10 := hm10.mono hleD
                        replace km10 := km10.mono hleD
                        replace hm11 := hm11.mono hleD
                        replace hp47 := hp47.mono hleD
                        replace hle0 := hle0.trans hleD
                        replace hle1 := hle1.trans hleD
                        refine withP_cons rfl rfl ?_
                        rintro _ rfl
                        refine withP_nil rfl ?_
                        refine XO.guardT rfl rfl (rfl) rfl ?_
                        refine XO.move rfl rfl ?_
                        refine XO.nil ?_
                        exact stepQN_ok rfl trivial (rfl)
                      refine stepsH_cons rfl ?_ ?_
                      · intro X ext HD hleD _
                        replace hs0 := hs0.mono hleD
                        replace hacco := hacco.mono hleD
                        replace hq := hq.mono hleD
                        replace hp := hp.mono hleD
                        replace hpE := hpE.mono hleD
                        replace hm10 := hm10.mono hleD
                        replace km10 := km10.mono hleD
                        replace hm11 := hm11.mono hleD
                        replace hp47 := hp47.mono hleD
                        replace hle0 := hle0.trans hleD
                        replace hle1 := hle1.trans hleD
                        refine withP_cons rfl rfl ?_
                        rintro _ rfl
                        refine withP_cons rfl rfl ?_
                        rintro _ rfl
                        refine withP_cons rfl rfl ?_
                        rintro _ rfl
                        refine withP_nil rfl ?_
                        refine XO.guardT rfl rfl (rfl) rfl ?_
                        refine XO.indexE rfl rfl Try.underlying22 ty_28 (by omega) (by omega) rfl ?_
                        refine XO.nil ?_
                        exact stepQN_ok rfl trivial (rfl)
                      refine stepsH_cons rfl ?_ ?_
                      · intro X ext HD hleD _
                        replace hs0 := hs0.mono hleD
                        replace hacco := hacco.mono hleD
                        replace hq := hq.mono hleD
                        replace hp := hp.mono hleD
                        replace hpE := hpE.mono hleD
                        replace hm10 := hm10.mono hleD
                        replace km10 := km10.mono hleD
                        replace hm11 := hm11.mono hleD
                        replace hp47 := hp47.mono hleD
                        replace hle0 := hle0.trans hleD
                        replace hle1 := hle1.trans hleD
                        refine withP_cons rfl rfl ?_
                        rintro _ rfl
                        refine withP_cons rfl rfl ?_
                        rintro _ rfl
                        refine withP_nil rfl ?_
                        refine XO.guardT rfl rfl (rfl) rfl ?_
                        refine XO.loadA 2 rfl rfl hacco (hxS) ty_28 rfl (fun cs31 v31 hR31 hv31 => ?_) (fun cs31 hR31 => by obtain ⟨axZ, cxZ, rfl, hdZ⟩ := hR31; exact ⟨_, rfl⟩)
                        obtain ⟨axL88, cxL88, rfl, hdL88⟩ := hR31; cases hv31
                        refine XO.nil ?_
                        exact stepQN_ok rfl trivial (⟨_, _, rfl, hdL88⟩)
                      refine stepsH_cons rfl ?_ ?_
                      · intro X ext HD hleD _
                        replace hs0 := hs0.mono hleD
                        replace hacco := hacco.mono hleD
                        replace hq := hq.mono hleD
                        replace hp := hp.mono hleD
                        replace hpE := hpE.mono hleD
                        replace hm10 := hm10.mono hleD
                        replace km10 := km10.mono hleD
                        replace hm11 := hm11.mono hleD
                        replace hp47 := hp47.mono hleD
                        replace hle0 := hle0.trans hleD
                        replace hle1 := hle1.trans hleD
                        refine withP_cons rfl rfl ?_
                        rintro _ rfl
                        refine withP_nil rfl ?_
                        refine XO.guardT rfl rfl (rfl) rfl ?_
                        refine XO.loadO 1 rfl rfl ty_28 rfl rfl rfl ?_
                        refine XO.nil ?_
                        exact stepQN_ok rfl trivial (rfl)
                      exact stepsH_end rfl
                    case tail29 =>
                      intro HD hleD _
                      replace hs0 := hs0.mono hleD
                      replace hacco := hacco.mono hleD
                      replace hq := hq.mono hleD
                      replace hp := hp.mono hleD
                      replace hpE := hpE.mono hleD
                      replace hm10 := hm10.mono hleD
                      replace km10 := km10.mono hleD
                      replace hm11 := hm11.mono hleD
                      replace hp47 := hp47.mono hleD
                      replace hle0 := hle0.trans hleD
                      replace hle1 := hle1.trans hleD
                      refine withP_cons rfl rfl ?_
                      rintro _ rfl
                      refine withP_cons rfl rfl ?_
                      rintro _ rfl
                      refine withP_cons rfl rfl ?_
                      rintro _ rfl
                      refine withP_cons rfl rfl ?_
                      rintro _ rfl
                      refine withP_cons rfl rfl ?_
                      rintro _ rfl
                      refine withP_cons rfl rfl ?_
                      rintro _ ⟨ax5, cx5, rfl, hd5⟩
                      refine withP_cons rfl rfl ?_
                      rintro _ rfl
                      refine withP_nil rfl ?_
                      refine withEnts_nil ?_
                      refine XO.guardT rfl rfl (rfl) rfl ?_
                      refine XO.callV rfl (samep_fn xS (hapP n xE) _ _ _ _ _ hd5 hm11) rfl ?_
                      refine XO.pickF rfl (rfl) rfl rfl ?_
                      refine XO.assign rfl rfl ?_
                      refine XO.nil ?_
                      refine blockN ?_
                      refine XC.seq2 ?_
                      refine XC.region ?_
                      refine XO.move rfl rfl ?_
                      refine XO.add rfl rfl (wrap_i64 (by omega) (by omega)) rfl ?_
                      refine XO.assign rfl rfl ?_
                      refine XO.nil ?_
                      refine loop_next ((j + 1, _)) (by show sn.length - (j + 1) < sn.length - j; omega) (prov_cons (rfl) (prov_cons (rfl) (prov_cons (rfl) (prov_cons (rfl) (prov_cons (rfl) (prov_cons (rfl) (prov_cons (rfl) (prov_cons (rfl) (prov_cons (rfl) prov_nil))))))))) (⟨by show j + 1 ≤ sn.length; omega, rfl, by first | exact Or.inl rfl | exact okStep hok hxS⟩) (by repeat (first | exact List.Sublist.refl _ | apply List.Sublist.cons_cons | apply List.Sublist.cons)) (hle1)
                  · skip
                    refine XC.keep [0, 3, 4, 5, 6, 7, 8, 10, 11] rfl ?_
                    apply XC.drawH (fun _ => True) trivial [] (by decide) (fun _ _ _ _ => True) (fun _ _ _ _ _ _ h => h) 7 [eqF _, eqF _, eqF _, eqF _, eqF _, eqF _, eqF _] follows (by kernel_rfl) ⟨eqF_mono _, eqF_mono _, eqF_mono _, eqF_mono _, eqF_mono _, eqF_mono _, eqF_mono _, trivial⟩ (by decide) ?steps33 ?tail33
                    case steps33 =>
                      refine stepsH_cons rfl ?_ ?_
                      · intro X ext HD hleD _
                        replace hs0 := hs0.mono hleD
                        replace hacco := hacco.mono hleD
                        replace hq := hq.mono hleD
                        replace hp := hp.mono hleD
                        replace hpE := hpE.mono hleD
                        replace hm10 := hm10.mono hleD
                        replace km10 := km10.mono hleD
                        replace hm11 := hm11.mono hleD
                        replace hp47 := hp47.mono hleD
                        replace hle0 := hle0.trans hleD
                        replace hle1 := hle1.trans hleD
                        refine withP_nil rfl ?_
                        refine XO.move rfl rfl ?_
                        refine XO.nil ?_
                        exact stepQN_ok rfl trivial (rfl)
                      refine stepsH_cons rfl ?_ ?_
                      · intro X ext HD hleD _
                        replace hs0 := hs0.mono hleD
                        replace hacco := hacco.mono hleD
                        replace hq := hq.mono hleD
                        replace hp := hp.mono hleD
                        replace hpE := hpE.mono hleD
                        replace hm10 := hm10.mono hleD
                        replace km10 := km10.mono hleD
                        replace hm11 := hm11.mono hleD
                        replace hp47 := hp47.mono hleD
                        replace hle0 := hle0.trans hleD
                        replace hle1 := hle1.trans hleD
                        refine withP_cons rfl rfl ?_
                        rintro _ rfl
                        refine withP_nil rfl ?_
                        refine XO.move rfl rfl ?_
                        refine XO.nil ?_
                        exact stepQN_ok rfl trivial (rfl)
                      refine stepsH_cons rfl ?_ ?_
                      · intro X ext HD hleD _
                        replace hs0 := hs0.mono hleD
                        replace hacco := hacco.mono hleD
                        replace hq := hq.mono hleD
                        replace hp := hp.mono hleD
                        replace hpE := hpE.mono hleD
                        replace hm10 := hm10.mono hleD
                        replace km10 := km10.mono hleD
                        replace hm11 := hm11.mono hleD
                        replace hp47 := hp47.mono hleD
                        replace hle0 := hle0.trans hleD
                        replace hle1 := hle1.trans hleD
                        refine withP_cons rfl rfl ?_
                        rintro _ rfl
                        refine withP_nil rfl ?_
                        refine XO.guardF rfl rfl (rfl) rfl rfl ?_
                        refine XO.nil ?_
                        exact stepQN_ok rfl trivial (rfl)
                      refine stepsH_cons rfl ?_ ?_
                      · intro X ext HD hleD _
                        replace hs0 := hs0.mono hleD
                        replace hacco := hacco.mono hleD
                        replace hq := hq.mono hleD
                        replace hp := hp.mono hleD
                        replace hpE := hpE.mono hleD
                        replace hm10 := hm10.mono hleD
                        replace km10 := km10.mono hleD
                        replace hm11 := hm11.mono hleD
                        replace hp47 := hp47.mono hleD
                        replace hle0 := hle0.trans hleD
                        replace hle1 := hle1.trans hleD
                        refine withP_cons rfl rfl ?_
                        rintro _ rfl
                        refine withP_nil rfl ?_
                        refine XO.guardF rfl rfl (rfl) rfl rfl ?_
                        refine XO.nil ?_
                        exact stepQN_ok rfl trivial (rfl)
                      refine stepsH_cons rfl ?_ ?_
                      · intro X ext HD hleD _
                        replace hs0 := hs0.mono hleD
                        replace hacco := hacco.mono hleD
                        replace hq := hq.mono hleD
                        replace hp := hp.mono hleD
                        replace hpE := hpE.mono hleD
                        replace hm10 := hm10.mono hleD
                        replace km10 := km10.mono hleD
                        replace hm11 := hm11.mono hleD
                        replace hp47 := hp47.mono hleD
                        replace hle0 := hle0.trans hleD
                        replace hle1 := hle1.trans hleD
                        refine withP_cons rfl rfl ?_
                        rintro _ rfl
                        refine withP_cons rfl rfl ?_
                        rintro _ rfl
                        refine withP_cons rfl rfl ?_
                        rintro _ rfl
                        refine withP_nil rfl ?_
                        refine XO.guardF rfl rfl (rfl) rfl rfl ?_
                        refine XO.nil ?_
                        exact stepQN_ok rfl trivial (rfl)
                      refine stepsH_cons rfl ?_ ?_
                      · intro X ext HD hleD _
                        replace hs0 := hs0.mono hleD
                        replace hacco := hacco.mono hleD
                        replace hq := hq.mono hleD
                        replace hp := hp.mono hleD
                        replace hpE := hpE.mono hleD
                        replace hm10 := hm10.mono hleD
                        replace km10 := km10.mono hleD
                        replace hm11 := hm11.mono hleD
                        replace hp47 := hp47.mono hleD
                        replace hle0 := hle0.trans hleD
                        replace hle1 := hle1.trans hleD
                        refine withP_cons rfl rfl ?_
                        rintro _ rfl
                        refine withP_cons rfl rfl ?_
                        rintro _ rfl
                        refine withP_nil rfl ?_
                        refine XO.guardF rfl rfl (rfl) rfl rfl ?_
                        refine XO.nil ?_
                        exact stepQN_ok rfl trivial (rfl)
                      refine stepsH_cons rfl ?_ ?_
                      · intro X ext HD hleD _
                        replace hs0 := hs0.mono hleD
                        replace hacco := hacco.mono hleD
                        replace hq := hq.mono hleD
                        replace hp := hp.mono hleD
                        replace hpE := hpE.mono hleD
                        replace hm10 := hm10.mono hleD
                        replace km10 := km10.mono hleD
                        replace hm11 := hm11.mono hleD
                        replace hp47 := hp47.mono hleD
                        replace hle0 := hle0.trans hleD
                        replace hle1 := hle1.trans hleD
                        refine withP_cons rfl rfl ?_
                        rintro _ rfl
                        refine withP_nil rfl ?_
                        refine XO.guardF rfl rfl (rfl) rfl rfl ?_
                        refine XO.nil ?_
                        exact stepQN_ok rfl trivial (rfl)
                      exact stepsH_end rfl
                    case tail33 =>
                      intro HD hleD _
                      replace hs0 := hs0.mono hleD
                      replace hacco := hacco.mono hleD
                      replace hq := hq.mono hleD
                      replace hp := hp.mono hleD
                      replace hpE := hpE.mono hleD
                      replace hm10 := hm10.mono hleD
                      replace km10 := km10.mono hleD
                      replace hm11 := hm11.mono hleD
                      replace hp47 := hp47.mono hleD
                      replace hle0 := hle0.trans hleD
                      replace hle1 := hle1.trans hleD
                      refine withP_cons rfl rfl ?_
                      rintro _ rfl
                      refine withP_cons rfl rfl ?_
                      rintro _ rfl
                      refine withP_cons rfl rfl ?_
                      rintro _ rfl
                      refine withP_cons rfl rfl ?_
                      rintro _ rfl
                      refine withP_cons rfl rfl ?_
                      rintro _ rfl
                      refine withP_cons rfl rfl ?_
                      rintro _ rfl
                      refine withP_cons rfl rfl ?_
                      rintro _ rfl
                      refine withP_nil rfl ?_
                      refine withEnts_nil ?_
                      refine XO.guardF rfl rfl (rfl) rfl rfl ?_
                      refine XO.pickT rfl (rfl) rfl rfl ?_
                      refine XO.assign rfl rfl ?_
                      refine XO.nil ?_
                      refine blockN ?_
                      refine XC.seq2 ?_
                      refine XC.region ?_
                      refine XO.move rfl rfl ?_
                      refine XO.add rfl rfl (wrap_i64 (by omega) (by omega)) rfl ?_
                      refine XO.assign rfl rfl ?_
                      refine XO.nil ?_
                      refine loop_next ((j + 1, _)) (by show sn.length - (j + 1) < sn.length - j; omega) (prov_cons (rfl) (prov_cons (rfl) (prov_cons (rfl) (prov_cons (rfl) (prov_cons (rfl) (prov_cons (rfl) (prov_cons (rfl) (prov_cons (rfl) (prov_cons (rfl) prov_nil))))))))) (⟨by show j + 1 ≤ sn.length; omega, rfl, by first | exact Or.inl rfl | exact okStep hok hxS⟩) (by repeat (first | exact List.Sublist.refl _ | apply List.Sublist.cons_cons | apply List.Sublist.cons)) (hle1)
                · have hk1 : okb = true := okEnd hok (by omega) hdl
                  refine XC.exit ?_
                  refine seqX_exit ?_
                  refine loopX_exit ?_
                  refine blockHit rfl ?_
                  refine XC.seq2 ?_
                  refine XC.seq ?_
                  refine XC.region ?_
                  refine XO.move rfl rfl ?_
                  refine XO.notB rfl rfl ?_
                  refine XO.nil ?_
                  refine XC.seq2 ?_
                  refine XC.condF rfl (by rw [hk1]; rfl) ?_
                  refine XC.skip ?_
                  refine blockN ?_
                  refine XC.seq2 ?_
                  refine XC.seq ?_
                  refine XC.region ?_
                  refine XO.loadO 0 rfl rfl ty_25 rfl rfl rfl ?_
                  refine XO.storeO 3 rfl rfl rfl rfl ty_25 rfl rfl rfl rfl rfl ?_
                  refine XO.nil ?_
                  refine XC.seq2 ?_
                  refine XC.seq ?_
                  refine XC.region ?_
                  refine XO.loadO 3 rfl rfl ty_25 rfl rfl rfl ?_
                  refine XO.callV rfl (check_fn _ _ _ _ (hapN n xE) _ hm10 km10 (by omega) (by omega)) rfl ?_
                  refine XO.neq rfl rfl rfl ?_
                  refine XO.nil ?_
                  refine XC.seq2 ?_
                  refine XC.condF rfl (decide_eq_false (fun h => h (chk_ok hO2.ok))) ?_
                  refine XC.skip ?_
                  refine blockN ?_
                  refine XC.seq2 ?_
                  refine XC.region ?_
                  refine XO.move rfl rfl ?_
                  refine XO.add rfl rfl (wrap_i64 (by omega) (by omega)) rfl ?_
                  refine XO.assign rfl rfl ?_
                  refine XO.nil ?_
                  refine loop_next ((k + 1, hapN n xE, am10, cm10, bm10, dm10, cu, sn, (po, ao, co))) (by show l0.length - (k + 1) < l0.length - k; omega) (prov_cons (by first | rfl) (prov_cons (by first | rfl | exact provI rfl (by omega)) (prov_cons (rfl) (prov_cons (rfl) (prov_cons (rfl) prov_nil))))) (⟨by show k + 1 ≤ l0.length; omega, rfl, by first | (exact hacco), by assumption, by assumption, by first | exact hO2 | exact hO.more, by (try dsimp only); omega, by (try dsimp only); omega, by (try dsimp only); first | omega | (rw [List.length_append]; simp only [List.length_cons, List.length_nil]; omega)⟩) (by repeat (first | exact List.Sublist.refl _ | apply List.Sublist.cons_cons | apply List.Sublist.cons)) (hle0)
            · refine XC.seq ?_
              refine XC.region ?_
              refine XO.eql rfl rfl rfl ?_
              refine XO.assign rfl rfl ?_
              refine XO.nil ?_
              refine XC.seq2 ?_
              refine XC.cond rfl (fun c10_35 => ?_) (fun c10_35 => ?_)
              · have hO2 : Only (hapN n xE) sn (cu + 1) (k + 1) := by
                  have h := hO.step (by omega) (by omega) he
                  rwa [if_pos (by omega)] at h
                refine XC.region ?_
                refine XO.move rfl rfl ?_
                refine XO.add rfl rfl (wrap_i64 (by omega) (by omega)) rfl ?_
                refine XO.assign rfl rfl ?_
                refine XO.nil ?_
                refine blockN ?_
                refine XC.seq2 ?_
                refine XC.seq ?_
                refine XC.region ?_
                refine XO.loadO 0 rfl rfl ty_25 rfl rfl rfl ?_
                refine XO.storeO 3 rfl rfl rfl rfl ty_25 rfl rfl rfl rfl rfl ?_
                refine XO.nil ?_
                refine XC.seq2 ?_
                refine XC.seq ?_
                refine XC.region ?_
                refine XO.loadO 3 rfl rfl ty_25 rfl rfl rfl ?_
                refine XO.callV rfl (check_fn _ _ _ _ (hapN n xE) _ hm10 km10 (by omega) (by omega)) rfl ?_
                refine XO.neq rfl rfl rfl ?_
                refine XO.nil ?_
                refine XC.seq2 ?_
                refine XC.condF rfl (decide_eq_false (fun h => h (chk_ok hO2.ok))) ?_
                refine XC.skip ?_
                refine blockN ?_
                refine XC.seq2 ?_
                refine XC.region ?_
                refine XO.move rfl rfl ?_
                refine XO.add rfl rfl (wrap_i64 (by omega) (by omega)) rfl ?_
                refine XO.assign rfl rfl ?_
                refine XO.nil ?_
                refine loop_next ((k + 1, hapN n xE, am10, cm10, bm10, dm10, cu + 1, sn, (po, ao, co))) (by show l0.length - (k + 1) < l0.length - k; omega) (prov_cons (by first | rfl) (prov_cons (by first | rfl | exact provI rfl (by omega)) (prov_cons (rfl) (prov_cons (rfl) (prov_cons (rfl) prov_nil))))) (⟨by show k + 1 ≤ l0.length; omega, rfl, by first | (exact hacco), by assumption, by assumption, by first | exact hO2 | exact hO.more, by (try dsimp only); omega, by (try dsimp only); omega, by (try dsimp only); first | omega | (rw [List.length_append]; simp only [List.length_cons, List.length_nil]; omega)⟩) (by repeat (first | exact List.Sublist.refl _ | apply List.Sublist.cons_cons | apply List.Sublist.cons)) (hle0)
              · have hO2 : Only (hapN n xE) sn (cu) (k + 1) := by
                  have h := hO.step (by omega) (by omega) he
                  rwa [if_neg (by omega)] at h
                refine XC.skip ?_
                refine blockN ?_
                refine XC.seq2 ?_
                refine XC.seq ?_
                refine XC.region ?_
                refine XO.loadO 0 rfl rfl ty_25 rfl rfl rfl ?_
                refine XO.storeO 3 rfl rfl rfl rfl ty_25 rfl rfl rfl rfl rfl ?_
                refine XO.nil ?_
                refine XC.seq2 ?_
                refine XC.seq ?_
                refine XC.region ?_
                refine XO.loadO 3 rfl rfl ty_25 rfl rfl rfl ?_
                refine XO.callV rfl (check_fn _ _ _ _ (hapN n xE) _ hm10 km10 (by omega) (by omega)) rfl ?_
                refine XO.neq rfl rfl rfl ?_
                refine XO.nil ?_
                refine XC.seq2 ?_
                refine XC.condF rfl (decide_eq_false (fun h => h (chk_ok hO2.ok))) ?_
                refine XC.skip ?_
                refine blockN ?_
                refine XC.seq2 ?_
                refine XC.region ?_
                refine XO.move rfl rfl ?_
                refine XO.add rfl rfl (wrap_i64 (by omega) (by omega)) rfl ?_
                refine XO.assign rfl rfl ?_
                refine XO.nil ?_
                refine loop_next ((k + 1, hapN n xE, am10, cm10, bm10, dm10, cu, sn, (po, ao, co))) (by show l0.length - (k + 1) < l0.length - k; omega) (prov_cons (by first | rfl) (prov_cons (by first | rfl | exact provI rfl (by omega)) (prov_cons (rfl) (prov_cons (rfl) (prov_cons (rfl) prov_nil))))) (⟨by show k + 1 ≤ l0.length; omega, rfl, by first | (exact hacco), by assumption, by assumption, by first | exact hO2 | exact hO.more, by (try dsimp only); omega, by (try dsimp only); omega, by (try dsimp only); first | omega | (rw [List.length_append]; simp only [List.length_cons, List.length_nil]; omega)⟩) (by repeat (first | exact List.Sublist.refl _ | apply List.Sublist.cons_cons | apply List.Sublist.cons)) (hle0)
    · refine XC.exit ?_
      refine seqX_exit ?_
      refine loopX_exit ?_
      refine blockHit rfl ?_
      refine XC.seq2 ?_
      refine XC.seq ?_
      refine XC.region ?_
      refine XO.assign rfl rfl ?_
      refine XO.nil ?_
      refine XC.seq2 ?_
      refine XC.ret ?_
      refine ⟨rfl, _, [], rfl, (by repeat (first | exact List.Sublist.refl _ | apply List.Sublist.cons)), RetR.mk ?_⟩
      rfl

namespace networkOnlySent
open Go.ChangeShapes Go.WideShapes Go.ChangeAt Go.RowKit
open Go.ChangeMaps (open_string shut_string)
theorem own : ownKnob Try.prog.godebug = none := by kernel_rfl
theorem laidOut : laidOutB Try.prog = true := by kernel_rfl
set_option maxRecDepth 100000 in
theorem lifted (os : Os) (started : os.Started) (H : Type) (enc : TypeId × Value → H) :
    ReturnsInHanded {} Try.checked os 7 .any (Rows.networkOnlySentSpec.pre6 enc Try.prog Try.f7 Rows.networkOnlySentRow.domain false) (Rows.networkOnlySentSpec.post enc Try.prog Try.f7 false true false false) := by
  refine returnsInHanded_of_change (C := Try.checked) own started (by kernel_rfl) Try.func7
    (ChangeSpec.witness6 (enc := enc) (C := Try.checked) false ⟨#[], #[.slice none 0 0], []⟩ 8 (by kernel_rfl) (by kernel_rfl) (by kernel_rfl) (by kernel_rfl)) ?_
  intro W base args ds gs before hval0 hW hcnd _
  have hval : ∀ (j : Nat) t v, Try.f7.params[j]? = some t → args[j]? = some v → Value.okWide Try.prog W .any base t v := hval0
  have hW' := hW
  obtain ⟨p, q, hA0, hV, rfl, hfz, hnd⟩ := hW
  have hA : DataW.TrodAll enc Try.prog W 0 (fun _ => true) true Try.f7.params.toList args.toList ds p := hA0
  rw [Try.params7] at hA hval
  obtain ⟨v0, vs0, d0, ds0, p0, q0, hargs, rfl, rfl, h0, r0⟩ := trodAll_cons hA
  obtain ⟨rfl, rfl, rfl⟩ := trodAll_nil r0
  obtain rfl : args = #[v0] := by cases args; simp_all
  obtain ⟨rfl, rfl⟩ := trodVars_none hV
  obtain ⟨a0, len0, cap0, rfl⟩ := okWide_slice Try.underlying48 (hval 0 48 v0 rfl rfl)
  have k0 := h0
  have lt0 : ∀ x ∈ p0, x.block < W.heap.size := by obtain ⟨m, hm⟩ := k0; exact DataW.trod_lt m _ _ _ hm
  obtain ⟨fuel0, hf0⟩ := h0
  obtain ⟨l0, ⟨aa0, cc0, hcs0, hs0⟩, hw0⟩ := opens_evs enc W 0 _ _ fuel0 _ _ hf0
  simp [Value.cells] at hcs0
  obtain ⟨rfl, rfl, rfl⟩ := hcs0
  clear hA0 hval0
  refine (networkOnlySent_fn a0 cap0 l0 (hpOf W) hs0).below.mono fun e W' ⟨he, bel⟩ => ?_
  subst he
  exact ⟨_, rfl, _, _, _, [], _, [], hW', trodAll_mk1 (shut_bool Try.underlying4 _), (trodAll_cons_mk (Below.trod laidOut (by kernel_rfl) (of_decide_eq_true (by kernel_rfl)) k0 bel lt0) trodAll_mk0), rfl, bel.frame _, fun h => by cases h⟩
theorem over : Rows.networkOnlySentRow.holds Try.pinned (OpenSpec.ofChange Rows.networkOnlySentSpec) :=
  OpenClaim.holds_of_wide 7 Try.f7 rfl rfl rfl rfl rfl rfl rfl ⟨rfl, rfl, rfl, rfl, rfl⟩ rfl rfl rfl rfl rfl (by kernel_rfl) Try.func7 (by kernel_rfl)
    (of_decide_eq_true (by kernel_rfl)) (by unfold Func.isWrapper; first | (rw [if_pos (by decide +kernel)]; kernel_rfl) | (rw [if_neg (by decide +kernel)]; exact ⟨rfl, rfl⟩))
    (fun os started H enc _ => lifted os started H enc)
/-- The given statement. -/
theorem proved : Rows.NetworkOnlySentSaid := over
#print axioms proved
end networkOnlySent
end Go.Proofs.Ytonmnpdhpailcaa
