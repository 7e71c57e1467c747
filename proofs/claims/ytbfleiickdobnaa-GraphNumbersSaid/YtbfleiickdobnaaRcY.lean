/- The walks of the functions of the graph: what each of them computes, at any input. -/
import Derived.Test.YtbfleiickdobnaaRcX
import Derived.Test.YtbfleiickdobnaaRcF
set_option autoImplicit false
set_option linter.unusedVariables false
set_option linter.unusedSimpArgs false
namespace Go.Proofs
open Go.XL

theorem fa_59_0 : fieldF Try.prog 59 0 = some 0 := by kernel_rfl
theorem fa_59_1 : fieldF Try.prog 59 1 = some 80 := by kernel_rfl

theorem root_fn (bf N : Nat) (up Pl d : Nat → Nat) (p : Int) (H : Hp) (hF : FI N up Pl d) (hN : N ≤ 80) (x : Nat) (hx : x < N) : FnC Try.prog 47 #[.pointer (some ⟨bf, 0, none⟩), .int .i64 (x : Nat)] H [(bf, .cells 59 (frC up p))] (RetR (fun v _ own => ∃ up', v = .int .i64 (Pl x : Nat) ∧ FI N up' Pl d ∧ own = [(bf, .cells 59 (frC up' p))])) := by
  refine FnC.intro (args := [.pointer (some ⟨bf, 0, none⟩), .int .i64 (x : Nat)]) Try.func47 rfl rfl Try.ntmps47 rfl rfl rfl fun G rest => ?_
  refine XC.seq ?_
  refine XC.region ?_
  refine XO.assign rfl rfl ?_
  refine XO.nil ?_
  refine XC.seq2 ?_
  refine XC.seq ?_
  refine XC.block ?_
  refine XC.keep [1, 0] rfl ?_
  refine XC.loop (base := [(0, _)]) (fun ζ : Nat × (Nat → Nat) => [(1, .int .i64 (ζ.1 : Nat))]) (fun ζ Hl own => (bf, .cells 59 (frC ζ.2 p)) :: rest = own ∧ (FI N ζ.2 Pl d) ∧ (ζ.1 < N) ∧ (Pl (ζ.1) = Pl x)) (fun ζ => d (ζ.1)) (x, up) (prov_cons (rfl) (prov_cons (rfl) prov_nil)) (by repeat (first | exact List.Sublist.refl _ | apply List.Sublist.cons_cons | apply List.Sublist.cons)) ⟨rfl, hF, hx, rfl⟩ ?_
  rintro ⟨y, u⟩ Hl0 _ hle0 ⟨rfl, hF, hy, hP⟩
  try dsimp only at hF hy hP ⊢
  refine XC.seq ?_
  refine XC.seq ?_
  refine XC.region ?_
  refine XO.move rfl rfl ?_
  refine XO.move rfl rfl ?_
  refine XO.nilCheckP rfl rfl ?_
  refine XO.fieldAddr rfl fa_59_0 rfl ?_
  refine XO.indexArr rfl rfl Try.underlying57 ty_3 (by first | decide | omega) (by first | decide | omega) rfl ?_
  refine XO.loadC 0 rfl rfl ty_3 (fr_at (by omega)) rfl ?_
  refine XO.move rfl rfl ?_
  refine XO.neq rfl rfl rfl ?_
  refine XO.nil ?_
  refine XC.seq2 ?_
  refine XC.cond rfl (fun c0_2 => ?_) (fun c0_2 => ?_)
  · have hne : u y ≠ y := by omega
    have hu := hF.lt y hy
    have huu := hF.lt _ hu
    refine XC.skip ?_
    refine XC.seq2 ?_
    refine XC.block ?_
    refine XC.seq ?_
    refine XC.keep [0, 1] rfl ?_
    apply XC.draw 15 [eqF _, eqF _, eqF _, eqF _, eqF _, eqF _, eqF _, eqF _, eqF _, eqF _, eqF _, eqF _, eqF _, eqF _, eqF _] follows (by kernel_rfl) (by kernel_rfl) ⟨eqF_mono _, eqF_mono _, eqF_mono _, eqF_mono _, eqF_mono _, eqF_mono _, eqF_mono _, eqF_mono _, eqF_mono _, eqF_mono _, eqF_mono _, eqF_mono _, eqF_mono _, eqF_mono _, eqF_mono _, trivial⟩ ?steps3 ?tail3
    case steps3 =>
      refine stepsK_cons rfl ?_ ?_
      · intro X
        refine withPreds_nil rfl ?_
        refine XO.move rfl rfl ?_
        refine XO.nil ?_
        exact stepQ_ok rfl (rfl)
      refine stepsK_cons rfl ?_ ?_
      · intro X
        refine withPreds_nil rfl ?_
        refine XO.move rfl rfl ?_
        refine XO.nil ?_
        exact stepQ_ok rfl (rfl)
      refine stepsK_cons rfl ?_ ?_
      · intro X
        refine withPreds_nil rfl ?_
        refine XO.move rfl rfl ?_
        refine XO.nil ?_
        exact stepQ_ok rfl (rfl)
      refine stepsK_cons rfl ?_ ?_
      · intro X
        refine withPreds_nil rfl ?_
        refine XO.move rfl rfl ?_
        refine XO.nil ?_
        exact stepQ_ok rfl (rfl)
      refine stepsK_cons rfl ?_ ?_
      · intro X
        refine withPreds_nil rfl ?_
        refine XO.move rfl rfl ?_
        refine XO.nil ?_
        exact stepQ_ok rfl (rfl)
      refine stepsK_cons rfl ?_ ?_
      · intro X
        refine withPreds_cons rfl rfl ?_
        rintro _ rfl
        refine withPreds_nil rfl ?_
        refine XO.nilCheckP rfl rfl ?_
        refine XO.nil ?_
        exact stepQ_ok rfl (rfl)
      refine stepsK_cons rfl ?_ ?_
      · intro X
        refine withPreds_cons rfl rfl ?_
        rintro _ rfl
        refine withPreds_nil rfl ?_
        refine XO.fieldAddr rfl fa_59_0 rfl ?_
        refine XO.nil ?_
        exact stepQ_ok rfl (rfl)
      refine stepsK_cons rfl ?_ ?_
      · intro X
        refine withPreds_cons rfl rfl ?_
        rintro _ rfl
        refine withPreds_cons rfl rfl ?_
        rintro _ rfl
        refine withPreds_nil rfl ?_
        refine XO.indexArr rfl rfl Try.underlying57 ty_3 (by first | decide | omega) (by first | decide | omega) rfl ?_
        refine XO.nil ?_
        exact stepQ_ok rfl (rfl)
      refine stepsK_cons rfl ?_ ?_
      · intro X
        refine withPreds_cons rfl rfl ?_
        rintro _ rfl
        refine withPreds_nil rfl ?_
        refine XO.loadC 0 rfl rfl ty_3 (fr_at (by omega)) rfl ?_
        refine XO.nil ?_
        exact stepQ_ok rfl (rfl)
      refine stepsK_cons rfl ?_ ?_
      · intro X
        refine withPreds_cons rfl rfl ?_
        rintro _ rfl
        refine withPreds_nil rfl ?_
        refine XO.nilCheckP rfl rfl ?_
        refine XO.nil ?_
        exact stepQ_ok rfl (rfl)
      refine stepsK_cons rfl ?_ ?_
      · intro X
        refine withPreds_cons rfl rfl ?_
        rintro _ rfl
        refine withPreds_nil rfl ?_
        refine XO.fieldAddr rfl fa_59_0 rfl ?_
        refine XO.nil ?_
        exact stepQ_ok rfl (rfl)
      refine stepsK_cons rfl ?_ ?_
      · intro X
        refine withPreds_cons rfl rfl ?_
        rintro _ rfl
        refine withPreds_cons rfl rfl ?_
        rintro _ rfl
        refine withPreds_nil rfl ?_
        refine XO.indexArr rfl rfl Try.underlying57 ty_3 (by first | decide | omega) (by first | decide | omega) rfl ?_
        refine XO.nil ?_
        exact stepQ_ok rfl (rfl)
      refine stepsK_cons rfl ?_ ?_
      · intro X
        refine withPreds_cons rfl rfl ?_
        rintro _ rfl
        refine withPreds_nil rfl ?_
        refine XO.loadC 0 rfl rfl ty_3 (fr_at (by omega)) rfl ?_
        refine XO.nil ?_
        exact stepQ_ok rfl (rfl)
      refine stepsK_cons rfl ?_ ?_
      · intro X
        refine withPreds_cons rfl rfl ?_
        rintro _ rfl
        refine withPreds_nil rfl ?_
        refine XO.nilCheckP rfl rfl ?_
        refine XO.nil ?_
        exact stepQ_ok rfl (rfl)
      refine stepsK_cons rfl ?_ ?_
      · intro X
        refine withPreds_cons rfl rfl ?_
        rintro _ rfl
        refine withPreds_nil rfl ?_
        refine XO.fieldAddr rfl fa_59_0 rfl ?_
        refine XO.nil ?_
        exact stepQ_ok rfl (rfl)
      exact stepsD_end rfl
    case tail3 =>
      refine withPreds_cons rfl rfl ?_
      rintro _ rfl
      refine withPreds_cons rfl rfl ?_
      rintro _ rfl
      refine withPreds_cons rfl rfl ?_
      rintro _ rfl
      refine withPreds_cons rfl rfl ?_
      rintro _ rfl
      refine withPreds_cons rfl rfl ?_
      rintro _ rfl
      refine withPreds_cons rfl rfl ?_
      rintro _ rfl
      refine withPreds_cons rfl rfl ?_
      rintro _ rfl
      refine withPreds_cons rfl rfl ?_
      rintro _ rfl
      refine withPreds_cons rfl rfl ?_
      rintro _ rfl
      refine withPreds_cons rfl rfl ?_
      rintro _ rfl
      refine withPreds_cons rfl rfl ?_
      rintro _ rfl
      refine withPreds_cons rfl rfl ?_
      rintro _ rfl
      refine withPreds_cons rfl rfl ?_
      rintro _ rfl
      refine withPreds_cons rfl rfl ?_
      rintro _ rfl
      refine withPreds_cons rfl rfl ?_
      rintro _ rfl
      refine withPreds_nil rfl ?_
      refine XO.indexArr rfl rfl Try.underlying57 ty_3 (by first | decide | omega) (by first | decide | omega) rfl ?_
      refine XO.storeC 0 rfl rfl rfl rfl ty_3 rfl (fr_in (by omega)) (fr_put (by omega)) rfl rfl ?_
      refine XO.nil ?_
      refine XC.seq2 ?_
      refine XC.region ?_
      refine XO.move rfl rfl ?_
      refine XO.move rfl rfl ?_
      refine XO.nilCheckP rfl rfl ?_
      refine XO.fieldAddr rfl fa_59_0 rfl ?_
      refine XO.indexArr rfl rfl Try.underlying57 ty_3 (by first | decide | omega) (by first | decide | omega) rfl ?_
      refine XO.loadC 0 rfl rfl ty_3 (fr_at (by omega)) rfl ?_
      refine XO.assign rfl rfl ?_
      refine XO.nil ?_
      refine blockN ?_
      refine loop_next ((upd u y (u (u y)) y, upd u y (u (u y)))) (by show d (upd u y (u (u y)) y) < d y; rw [upd_self]; exact (hF.halve hy hne).2) (prov_cons (rfl) (prov_cons (rfl) prov_nil)) (⟨rfl, (hF.halve hy hne).1, by show upd u y (u (u y)) y < N; rw [upd_self]; exact huu, by show Pl (upd u y (u (u y)) y) = _; rw [upd_self, hF.lab _ hu, hF.lab _ hy, hP]⟩) (by repeat (first | exact List.Sublist.refl _ | apply List.Sublist.cons_cons | apply List.Sublist.cons)) (hle0)
  · have he : u y = y := by omega
    refine XC.exit ?_
    refine seqX_exit ?_
    refine loopX_exit ?_
    refine blockHit rfl ?_
    refine XC.seq2 ?_
    refine XC.seq ?_
    refine XC.region ?_
    refine XO.move rfl rfl ?_
    refine XO.assign rfl rfl ?_
    refine XO.nil ?_
    refine XC.seq2 ?_
    refine XC.ret ?_
    refine ⟨rfl, _, [(bf, .cells 59 (frC u p))], rfl, (by repeat (first | exact List.Sublist.refl _ | apply List.Sublist.cons)), RetR.mk ?_⟩
    exact ⟨u, by rw [← hP, hF.top y hy he]; rfl, hF, rfl⟩

theorem join_fn (bf N : Nat) (up Pl d : Nat → Nat) (p : Int) (H : Hp) (hF : FI N up Pl d) (hN : N ≤ 80) (x y : Nat) (hx : x < N) (hy : y < N) (hp : -2000 ≤ p ∧ p ≤ 2000) : FnC Try.prog 45 #[.pointer (some ⟨bf, 0, none⟩), .int .i64 (x : Nat), .int .i64 (y : Nat)] H [(bf, .cells 59 (frC up p))] (RetR (fun v _ own => v = .bool (decide (Pl x ≠ Pl y)) ∧ ∃ up' d', FI N up' (jnP Pl x y) d' ∧ own = [(bf, .cells 59 (frC up' (if Pl x = Pl y then p else p - 1)))])) := by
  refine FnC.intro (args := [.pointer (some ⟨bf, 0, none⟩), .int .i64 (x : Nat), .int .i64 (y : Nat)]) Try.func45 rfl rfl Try.ntmps45 rfl rfl rfl fun G rest => ?_
  refine XC.seq ?_
  refine XC.region ?_
  refine XO.assign rfl rfl ?_
  refine XO.nil ?_
  refine XC.seq2 ?_
  refine XC.seq ?_
  refine XC.region ?_
  refine XO.move rfl rfl ?_
  refine XO.move rfl rfl ?_
  refine XO.callF 0 rfl (root_fn bf N up Pl d p _ hF hN x hx) rfl rfl ?_
  rintro _ HR9 _ hleR9 ⟨u9, rfl, hF9, rfl⟩
  refine ⟨_, rfl, ?_⟩
  refine XO.move rfl rfl ?_
  refine XO.move rfl rfl ?_
  refine XO.callF 0 rfl (root_fn bf N u9 Pl d p _ hF9 hN y hy) rfl rfl ?_
  rintro _ HR12 _ hleR12 ⟨u12, rfl, hF12, rfl⟩
  refine ⟨_, rfl, ?_⟩
  refine XO.assign rfl rfl ?_
  refine XO.assign rfl rfl ?_
  refine XO.nil ?_
  refine XC.seq2 ?_
  refine XC.seq ?_
  refine XC.seq ?_
  refine XC.region ?_
  refine XO.move rfl rfl ?_
  refine XO.move rfl rfl ?_
  refine XO.eql rfl rfl rfl ?_
  refine XO.nil ?_
  refine XC.seq2 ?_
  refine XC.cond rfl (fun c0_3 => ?_) (fun c0_3 => ?_)
  · refine XC.seq ?_
    refine XC.region ?_
    refine XO.assign rfl rfl ?_
    refine XO.nil ?_
    refine XC.seq2 ?_
    refine XC.ret ?_
    refine seqX_ret ?_
    refine ⟨rfl, _, [_], rfl, (by repeat (first | exact List.Sublist.refl _ | apply List.Sublist.cons)), RetR.mk ?_⟩
    have he : Pl x = Pl y := by omega
    exact ⟨congrArg Value.bool (decide_eq_false (fun h => h he)).symm, u12, d, by rw [jnP, if_pos he]; exact hF12, by rw [if_pos he]⟩
  · refine XC.skip ?_
    refine XC.seq2 ?_
    refine XC.seq ?_
    refine XC.region ?_
    obtain ⟨r1, r2, r3⟩ := hF12.root _ x (Nat.le_refl _) hx
    obtain ⟨s1, s2, s3⟩ := hF12.root _ y (Nat.le_refl _) hy
    have hne : Pl x ≠ Pl y := by omega
    refine XO.move rfl rfl ?_
    refine XO.move rfl rfl ?_
    refine XO.move rfl rfl ?_
    refine XO.nilCheckP rfl rfl ?_
    refine XO.fieldAddr rfl fa_59_0 rfl ?_
    refine XO.indexArr rfl rfl Try.underlying57 ty_3 (by first | decide | omega) (by first | decide | omega) rfl ?_
    refine XO.storeC 0 rfl rfl rfl rfl ty_3 rfl (fr_in (by omega)) (fr_put (by omega)) rfl rfl ?_
    refine XO.nil ?_
    refine XC.seq2 ?_
    refine XC.seq ?_
    refine XC.region ?_
    refine XO.move rfl rfl ?_
    refine XO.nilCheckP rfl rfl ?_
    refine XO.fieldAddr rfl fa_59_1 rfl ?_
    refine XO.loadC 0 rfl rfl ty_3 fr_parts0 rfl ?_
    refine XO.sub rfl rfl (wrap_i64 (by omega) (by omega)) rfl ?_
    refine XO.nilCheckP rfl rfl ?_
    refine XO.fieldAddr rfl fa_59_1 rfl ?_
    refine XO.storeC 0 rfl rfl rfl rfl ty_3 rfl (by rw [fr_len]; decide) fr_setp0 rfl rfl ?_
    refine XO.nil ?_
    refine XC.seq2 ?_
    refine XC.seq ?_
    refine XC.region ?_
    refine XO.assign rfl rfl ?_
    refine XO.nil ?_
    refine XC.seq2 ?_
    refine XC.ret ?_
    refine ⟨rfl, _, [_], rfl, (by repeat (first | exact List.Sublist.refl _ | apply List.Sublist.cons)), RetR.mk ?_⟩
    exact ⟨congrArg Value.bool (decide_eq_true hne).symm, _, _, by rw [jnP, if_neg hne]; exact hF12.join hx hy hne, by rw [if_neg hne]⟩

theorem indexO_fn (po : Nat × SObj) (a : Option Addr) (c : Nat) (l : List Int) (x : Int) (H : Hp) (hacc : Acc (intR .i64) 3 H po a c l) (hl : l.length < 9223372036854775808) : FnC Try.prog 51 #[.slice a l.length c, .int .i64 x] H [po] (RetR (fun v _ own => own = [po] ∧ ∃ i : Int, v = .int .i64 i ∧ (0 ≤ i ↔ x ∈ l))) := by
  refine FnC.intro (args := [.slice a l.length c, .int .i64 x]) Try.func51 rfl rfl Try.ntmps51 rfl rfl rfl fun G rest => ?_
  refine XC.seq ?_
  refine XC.region ?_
  refine XO.assign rfl rfl ?_
  refine XO.nil ?_
  refine XC.seq2 ?_
  refine XC.seq ?_
  refine XC.seq ?_
  refine XC.region ?_
  refine XO.move rfl rfl ?_
  refine XO.lenS (ts := #[]) rfl Try.underlying29 rfl ?_
  refine XO.move rfl rfl ?_
  refine XO.nil ?_
  refine XC.seq2 ?_
  refine XC.block ?_
  refine XC.keep [8, 0, 1, 7] rfl ?_
  refine XC.loop (base := [(0, _), (1, _), (7, _)]) (fun ζ : Nat => [(8, .int .i64 (ζ : Nat))]) (fun ζ Hl own => ζ ≤ l.length ∧ po :: rest = own ∧ (Acc (intR .i64) 3 Hl po a c l) ∧ (∀ y ∈ l.take ζ, ¬ (y = x))) (fun ζ => l.length - ζ) 0 (prov_cons (rfl) (prov_cons (rfl) (prov_cons (rfl) (prov_cons (rfl) prov_nil)))) (by repeat (first | exact List.Sublist.refl _ | apply List.Sublist.cons_cons | apply List.Sublist.cons)) ⟨Nat.zero_le _, rfl, hacc, by simp⟩ ?_
  rintro k Hl0 _ hle0 ⟨hkk, rfl, hacc, hno⟩
  try dsimp only at ⊢
  refine XC.seq ?_
  refine XC.region ?_
  refine XO.lss rfl rfl rfl ?_
  refine XO.nil ?_
  refine XC.seq2 ?_
  refine XC.seq ?_
  refine XC.cond rfl (fun c0_1 => ?_) (fun c0_1 => ?_)
  · refine XC.skip ?_
    refine XC.seq2 ?_
    refine XC.seq ?_
    refine XC.block ?_
    refine XC.seq ?_
    refine XC.region ?_
    refine XO.move rfl rfl ?_
    refine XO.assign rfl rfl ?_
    refine XO.nil ?_
    refine XC.seq2 ?_
    refine XC.seq ?_
    refine XC.region ?_
    refine XO.move rfl rfl ?_
    refine XO.move rfl rfl ?_
    refine XO.move rfl rfl ?_
    have haddr := hacc.addr (by omega)
    subst haddr
    obtain ⟨xk, hxk⟩ : ∃ y, l[k]? = some y := ⟨_, List.getElem?_eq_getElem (by omega)⟩
    refine XO.indexE rfl rfl Try.underlying29 ty_3 (by omega) (by omega) rfl ?_
    refine XO.loadA 0 rfl rfl hacc (hxk) ty_3 rfl (fun cs3 v3 hR3 hv3 => ?_) (fun cs3 hR3 => ⟨_, by cases hR3; rfl⟩)
    cases hR3; cases hv3
    refine XO.eql rfl rfl rfl ?_
    refine XO.nil ?_
    refine XC.seq2 ?_
    refine XC.cond rfl (fun c1_4 => ?_) (fun c1_4 => ?_)
    · refine XC.seq ?_
      refine XC.region ?_
      refine XO.move rfl rfl ?_
      refine XO.assign rfl rfl ?_
      refine XO.nil ?_
      refine XC.seq2 ?_
      refine XC.ret ?_
      refine blockR ?_
      refine seqX_ret ?_
      refine loopX_ret ?_
      refine blockR ?_
      refine seqX_ret ?_
      refine ⟨rfl, _, [_], rfl, (by repeat (first | exact List.Sublist.refl _ | apply List.Sublist.cons)), RetR.mk ?_⟩
      exact ⟨rfl, _, rfl, fun _ => (show xk = x by omega) ▸ List.mem_of_getElem? hxk, fun _ => by omega⟩
    · refine XC.skip ?_
      refine blockN ?_
      refine XC.seq2 ?_
      refine XC.region ?_
      refine XO.add rfl rfl (wrap_i64 (by omega) (by omega)) rfl ?_
      refine XO.move rfl rfl ?_
      refine XO.nil ?_
      refine loop_next (k + 1) (by show l.length - (k + 1) < l.length - k; omega) (prov_cons (rfl) (prov_cons (rfl) (prov_cons (rfl) (prov_cons (rfl) prov_nil)))) (⟨by show k + 1 ≤ l.length; omega, rfl, by assumption, all_snoc hno hxk (by omega)⟩) (by repeat (first | exact List.Sublist.refl _ | apply List.Sublist.cons_cons | apply List.Sublist.cons)) (hle0)
  · obtain rfl : k = l.length := by omega
    rw [List.take_length] at hno
    refine XC.exit ?_
    refine seqX_exit ?_
    refine loopX_exit ?_
    refine blockHit rfl ?_
    refine XC.seq2 ?_
    refine XC.seq ?_
    refine XC.region ?_
    refine XO.assign rfl rfl ?_
    refine XO.nil ?_
    refine XC.seq2 ?_
    refine XC.ret ?_
    refine ⟨rfl, _, [_], rfl, (by repeat (first | exact List.Sublist.refl _ | apply List.Sublist.cons)), RetR.mk ?_⟩
    exact ⟨rfl, -1, rfl, fun h => absurd h (by decide), fun h => absurd rfl (hno x h)⟩

theorem containsO_fn (po : Nat × SObj) (a : Option Addr) (c : Nat) (l : List Int) (x : Int) (H : Hp) (hacc : Acc (intR .i64) 3 H po a c l) (hl : l.length < 9223372036854775808) : FnC Try.prog 44 #[.slice a l.length c, .int .i64 x] H [po] (RetR (fun v _ own => own = [po] ∧ v = .bool (decide (x ∈ l)))) := by
  refine FnC.intro (args := [.slice a l.length c, .int .i64 x]) Try.func44 rfl rfl Try.ntmps44 rfl rfl rfl fun G rest => ?_
  refine XC.seq ?_
  refine XC.region ?_
  refine XO.assign rfl rfl ?_
  refine XO.nil ?_
  refine XC.seq2 ?_
  refine XC.seq ?_
  refine XC.region ?_
  refine XO.move rfl rfl ?_
  refine XO.move rfl rfl ?_
  refine XO.callF 0 rfl (indexO_fn po a c l x _ hacc hl) rfl rfl ?_
  rintro _ HR7 _ hleR7 ⟨rfl, i7, rfl, hi7⟩
  refine ⟨_, rfl, ?_⟩
  replace hacc := hacc.mono hleR7
  refine XO.geq rfl rfl rfl ?_
  refine XO.assign rfl rfl ?_
  refine XO.nil ?_
  refine XC.seq2 ?_
  refine XC.ret ?_
  refine ⟨rfl, _, [_], rfl, (by repeat (first | exact List.Sublist.refl _ | apply List.Sublist.cons)), RetR.mk ?_⟩
  exact ⟨rfl, congrArg Value.bool (by rw [decide_eq_decide]; exact hi7)⟩

end Go.Proofs
