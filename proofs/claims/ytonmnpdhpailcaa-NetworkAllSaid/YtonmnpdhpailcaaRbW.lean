/- The walks of the functions of the links: what each of them computes, at any input. -/
import Derived.Test.YtonmnpdhpailcaaRbM
import Derived.Test.YtonmnpdhpailcaaProg
set_option autoImplicit false
set_option linter.unusedVariables false
set_option linter.unusedSimpArgs false
namespace Go.Proofs
open Go.XL

theorem follows : Try.prog.follows .mixedOrders = true := by kernel_rfl
theorem fa_25_0 : fieldF Try.prog 25 0 = some 0 := by kernel_rfl
theorem fa_25_1 : fieldF Try.prog 25 1 = some 1 := by kernel_rfl
theorem fa_28_0 : fieldF Try.prog 28 0 = some 0 := by kernel_rfl
theorem fa_28_1 : fieldF Try.prog 28 1 = some 1 := by kernel_rfl
theorem fa_28_2 : fieldF Try.prog 28 2 = some 2 := by kernel_rfl
theorem ty_22 : tyF Try.prog 22 1 false = true := by kernel_rfl
theorem ty_23 : tyF Try.prog 23 1 false = true := by kernel_rfl
theorem ty_26 : tyF Try.prog 26 1 false = true := by kernel_rfl
theorem ty_28 : tyF Try.prog 28 3 true = true := by kernel_rfl
theorem ty_3 : tyF Try.prog 3 1 false = true := by kernel_rfl
theorem ty_55 : tyF Try.prog 55 2 true = true := by kernel_rfl
theorem ty_58 : tyF Try.prog 58 2 true = true := by kernel_rfl
theorem ze_55 : zeroC Try.prog 55 = some [.int .i64 0, .int .i64 0] := by kernel_rfl
theorem ze_58 : zeroC Try.prog 58 = some [.int .i64 0, .int .i64 0] := by kernel_rfl

theorem site_fn (x : Int) (H : Hp) : FnC Try.prog 34 #[.int .i64 x] H [] (RetR fun v _ _ => v = .bool (decide (site x))) := by
  refine FnC.intro (args := [.int .i64 x]) Try.func34 rfl rfl Try.ntmps34 rfl rfl rfl fun G rest => ?_
  refine XC.seq ?_
  refine XC.region ?_
  refine XO.assign rfl rfl ?_
  refine XO.nil ?_
  refine XC.seq2 ?_
  refine XC.seq ?_
  refine XC.region ?_
  refine XO.move rfl rfl ?_
  refine XO.geq rfl rfl rfl ?_
  refine XO.move rfl rfl ?_
  refine XO.guardC rfl rfl rfl rfl (fun g1 => ?_) (fun g1 => ?_)
  · have g1p := of_decide_eq_true g1
    refine XO.move rfl rfl ?_
    refine XO.guardT rfl rfl (g1) rfl ?_
    refine XO.lss rfl rfl rfl ?_
    refine XO.pickT rfl (g1) rfl rfl ?_
    refine XO.assign rfl rfl ?_
    refine XO.nil ?_
    refine XC.seq2 ?_
    refine XC.ret ?_
    refine ⟨rfl, _, [], rfl, (by repeat (first | exact List.Sublist.refl _ | apply List.Sublist.cons)), RetR.mk ?_⟩
    exact congrArg Value.bool (by first | (rw [decide_eq_decide]; simp only [site, linkOk]; omega) | (exact (decide_eq_false (by simp only [site, linkOk]; omega)).symm) | (exact (decide_eq_true (by simp only [site, linkOk]; omega)).symm))
  · have g1p := of_decide_eq_false g1
    refine XO.guardF rfl rfl (g1) rfl rfl ?_
    refine XO.pickF rfl (g1) rfl rfl ?_
    refine XO.assign rfl rfl ?_
    refine XO.nil ?_
    refine XC.seq2 ?_
    refine XC.ret ?_
    refine ⟨rfl, _, [], rfl, (by repeat (first | exact List.Sublist.refl _ | apply List.Sublist.cons)), RetR.mk ?_⟩
    exact congrArg Value.bool (by first | (rw [decide_eq_decide]; simp only [site, linkOk]; omega) | (exact (decide_eq_false (by simp only [site, linkOk]; omega)).symm) | (exact (decide_eq_true (by simp only [site, linkOk]; omega)).symm))

theorem between_fn (a b : Int) (H : Hp) : FnC Try.prog 37 #[.int .i64 a, .int .i64 b] H [] (RetR fun v _ _ => v = .agg ⟨[.int .i64 (lnk a b).1, .int .i64 (lnk a b).2]⟩) := by
  refine FnC.introC (args := [.int .i64 a, .int .i64 b]) Try.func37 rfl rfl Try.ntmps37 rfl rfl rfl fun G rest => ?_
  refine XC.seq ?_
  refine XC.region ?_
  refine XO.alloc ze_58 rfl (fun b4 => ?_)
  refine XO.nil ?_
  refine XC.seq2 ?_
  refine XC.seq ?_
  refine XC.region ?_
  refine XO.move rfl rfl ?_
  refine XO.move rfl rfl ?_
  refine XO.minI2 rfl rfl rfl ?_
  refine XO.move rfl rfl ?_
  refine XO.move rfl rfl ?_
  refine XO.maxI2 rfl rfl rfl ?_
  refine XO.buildArr Try.underlying58 ty_3 ze_58 rfl rfl rfl ?_
  refine XO.storeO 0 rfl rfl rfl rfl ty_58 rfl rfl rfl rfl rfl ?_
  refine XO.nil ?_
  refine XC.seq2 ?_
  refine XC.ret ?_
  refine ⟨rfl, _, [], (resC_cell 0 rfl rfl ty_58 rfl rfl resC_nil), (by repeat (first | exact List.Sublist.refl _ | apply List.Sublist.cons)), RetR.mk ?_⟩
  rfl

theorem valid_fn (x : Int × Int) (H : Hp) : FnC Try.prog 32 #[.agg ⟨[.int .i64 x.1, .int .i64 x.2]⟩] H [] (RetR fun v _ _ => v = .bool (decide (linkOk x))) := by
  refine FnC.intro (args := [.agg ⟨[.int .i64 x.1, .int .i64 x.2]⟩]) Try.func32 rfl rfl Try.ntmps32 rfl rfl rfl fun G rest => ?_
  refine XC.seq ?_
  refine XC.region ?_
  refine XO.box rfl rfl rfl (fun b1 => ?_)
  refine XO.assign rfl rfl ?_
  refine XO.nil ?_
  refine XC.seq2 ?_
  refine XC.seq ?_
  refine XC.region ?_
  refine XO.indexArr rfl rfl Try.underlying58 ty_3 (by first | decide | omega) (by first | decide | omega) rfl ?_
  refine XO.loadO 0 rfl rfl ty_3 rfl rfl rfl ?_
  refine XO.geq rfl rfl rfl ?_
  refine XO.move rfl rfl ?_
  refine XO.guardC rfl rfl rfl rfl (fun g1 => ?_) (fun g1 => ?_)
  · have g1p := of_decide_eq_true g1
    refine XO.indexArr rfl rfl Try.underlying58 ty_3 (by first | decide | omega) (by first | decide | omega) rfl ?_
    refine XO.guardT rfl rfl (g1) rfl ?_
    refine XO.loadO 0 rfl rfl ty_3 rfl rfl rfl ?_
    refine XO.guardT rfl rfl (g1) rfl ?_
    refine XO.indexArr rfl rfl Try.underlying58 ty_3 (by first | decide | omega) (by first | decide | omega) rfl ?_
    refine XO.guardT rfl rfl (g1) rfl ?_
    refine XO.loadO 0 rfl rfl ty_3 rfl rfl rfl ?_
    refine XO.guardT rfl rfl (g1) rfl ?_
    refine XO.lss rfl rfl rfl ?_
    refine XO.pickT rfl (g1) rfl rfl ?_
    refine XO.move rfl rfl ?_
    refine XO.guardC rfl rfl rfl rfl (fun g2 => ?_) (fun g2 => ?_)
    · have g2p := of_decide_eq_true g2
      refine XO.indexArr rfl rfl Try.underlying58 ty_3 (by first | decide | omega) (by first | decide | omega) rfl ?_
      refine XO.guardT rfl rfl (g2) rfl ?_
      refine XO.loadO 0 rfl rfl ty_3 rfl rfl rfl ?_
      refine XO.guardT rfl rfl (g2) rfl ?_
      refine XO.lss rfl rfl rfl ?_
      refine XO.pickT rfl (g2) rfl rfl ?_
      refine XO.assign rfl rfl ?_
      refine XO.nil ?_
      refine XC.seq2 ?_
      refine XC.ret ?_
      refine ⟨rfl, _, [], rfl, (by repeat (first | exact List.Sublist.refl _ | apply List.Sublist.cons)), RetR.mk ?_⟩
      exact congrArg Value.bool (by first | (rw [decide_eq_decide]; simp only [site, linkOk]; omega) | (exact (decide_eq_false (by simp only [site, linkOk]; omega)).symm) | (exact (decide_eq_true (by simp only [site, linkOk]; omega)).symm))
    · have g2p := of_decide_eq_false g2
      refine XO.guardF rfl rfl (g2) rfl rfl ?_
      refine XO.guardF rfl rfl (g2) rfl rfl ?_
      refine XO.pickF rfl (g2) rfl rfl ?_
      refine XO.assign rfl rfl ?_
      refine XO.nil ?_
      refine XC.seq2 ?_
      refine XC.ret ?_
      refine ⟨rfl, _, [], rfl, (by repeat (first | exact List.Sublist.refl _ | apply List.Sublist.cons)), RetR.mk ?_⟩
      exact congrArg Value.bool (by first | (rw [decide_eq_decide]; simp only [site, linkOk]; omega) | (exact (decide_eq_false (by simp only [site, linkOk]; omega)).symm) | (exact (decide_eq_true (by simp only [site, linkOk]; omega)).symm))
  · have g1p := of_decide_eq_false g1
    refine XO.guardF rfl rfl (g1) rfl rfl ?_
    refine XO.guardF rfl rfl (g1) rfl rfl ?_
    refine XO.guardF rfl rfl (g1) rfl rfl ?_
    refine XO.guardF rfl rfl (g1) rfl rfl ?_
    refine XO.pickF rfl (g1) rfl rfl ?_
    refine XO.move rfl rfl ?_
    refine XO.guardF rfl rfl (rfl) rfl rfl ?_
    refine XO.guardF rfl rfl (rfl) rfl rfl ?_
    refine XO.guardF rfl rfl (rfl) rfl rfl ?_
    refine XO.pickF rfl (rfl) rfl rfl ?_
    refine XO.assign rfl rfl ?_
    refine XO.nil ?_
    refine XC.seq2 ?_
    refine XC.ret ?_
    refine ⟨rfl, _, [], rfl, (by repeat (first | exact List.Sublist.refl _ | apply List.Sublist.cons)), RetR.mk ?_⟩
    exact congrArg Value.bool (by first | (rw [decide_eq_decide]; simp only [site, linkOk]; omega) | (exact (decide_eq_false (by simp only [site, linkOk]; omega)).symm) | (exact (decide_eq_true (by simp only [site, linkOk]; omega)).symm))

theorem packet_fn (p : Pk) (ad : Option Addr) (cd : Nat) (H : Hp) : FnC Try.prog 28 #[.agg ⟨[.int .i64 p.From, .int .i64 p.To, .slice ad p.Data.length cd]⟩] H [] (RetR fun v _ _ => v = .bool (decide (pkOk p))) := by
  refine FnC.intro (args := [.agg ⟨[.int .i64 p.From, .int .i64 p.To, .slice ad p.Data.length cd]⟩]) Try.func28 rfl rfl Try.ntmps28 rfl rfl rfl fun G rest => ?_
  have hls := link_site p.From p.To
  refine XC.seq ?_
  refine XC.region ?_
  refine XO.box rfl rfl rfl (fun b1 => ?_)
  refine XO.assign rfl rfl ?_
  refine XO.nil ?_
  refine XC.seq2 ?_
  refine XC.seq ?_
  refine XC.region ?_
  refine XO.fieldAddr rfl fa_28_0 rfl ?_
  refine XO.loadO 0 rfl rfl ty_3 rfl rfl rfl ?_
  refine XO.fieldAddr rfl fa_28_1 rfl ?_
  refine XO.loadO 0 rfl rfl ty_3 rfl rfl rfl ?_
  refine XO.callV rfl (between_fn _ _ _) rfl ?_
  refine XO.callV rfl (valid_fn (lnk _ _) _) rfl ?_
  refine XO.move rfl rfl ?_
  refine XO.guardC rfl rfl rfl rfl (fun g3 => ?_) (fun g3 => ?_)
  · have g3p := of_decide_eq_true g3
    refine XO.fieldAddr rfl fa_28_2 rfl ?_
    refine XO.guardT rfl rfl (g3) rfl ?_
    refine XO.loadO 0 rfl rfl ty_26 rfl rfl rfl ?_
    refine XO.guardT rfl rfl (g3) rfl ?_
    refine XO.lenS (ts := #[]) rfl Try.underlying26 rfl ?_
    refine XO.guardT rfl rfl (g3) rfl ?_
    refine XO.leq rfl rfl rfl ?_
    refine XO.pickT rfl (g3) rfl rfl ?_
    refine XO.assign rfl rfl ?_
    refine XO.nil ?_
    refine XC.seq2 ?_
    refine XC.ret ?_
    refine ⟨rfl, _, [], rfl, (by repeat (first | exact List.Sublist.refl _ | apply List.Sublist.cons)), RetR.mk ?_⟩
    exact congrArg Value.bool (by first | (rw [decide_eq_decide]; have hg := hls.1 (by assumption); exact ⟨fun h => ⟨hg.1, hg.2.1, hg.2.2, by omega⟩, fun h => by have := h.2.2.2; omega⟩) | (exact (decide_eq_false (fun h => absurd (hls.2 ⟨h.1, h.2.1, h.2.2.1⟩) (by assumption))).symm))
  · have g3p := of_decide_eq_false g3
    refine XO.guardF rfl rfl (g3) rfl rfl ?_
    refine XO.guardF rfl rfl (g3) rfl rfl ?_
    refine XO.guardF rfl rfl (g3) rfl rfl ?_
    refine XO.pickF rfl (g3) rfl rfl ?_
    refine XO.assign rfl rfl ?_
    refine XO.nil ?_
    refine XC.seq2 ?_
    refine XC.ret ?_
    refine ⟨rfl, _, [], rfl, (by repeat (first | exact List.Sublist.refl _ | apply List.Sublist.cons)), RetR.mk ?_⟩
    exact congrArg Value.bool (by first | (rw [decide_eq_decide]; have hg := hls.1 (by assumption); exact ⟨fun h => ⟨hg.1, hg.2.1, hg.2.2, by omega⟩, fun h => by have := h.2.2.2; omega⟩) | (exact (decide_eq_false (fun h => absurd (hls.2 ⟨h.1, h.2.1, h.2.2.1⟩) (by assumption))).symm))

theorem chk1_fn (p : Pk) (ad : Option Addr) (cd : Nat) (H : Hp) : FnC Try.prog 31 #[.agg ⟨[.int .i64 p.From, .int .i64 p.To, .slice ad p.Data.length cd]⟩] H [] (RetR fun v _ _ => v = .bool (decide (¬ pkOk p))) := by
  refine FnC.intro (args := [.agg ⟨[.int .i64 p.From, .int .i64 p.To, .slice ad p.Data.length cd]⟩]) Try.func31 rfl rfl Try.ntmps31 rfl rfl rfl fun G rest => ?_
  refine XC.seq ?_
  refine XC.region ?_
  refine XO.box rfl rfl rfl (fun b1 => ?_)
  refine XO.assign rfl rfl ?_
  refine XO.nil ?_
  refine XC.seq2 ?_
  refine XC.seq ?_
  refine XC.region ?_
  refine XO.loadO 0 rfl rfl ty_28 rfl rfl rfl ?_
  refine XO.callV rfl (packet_fn p _ _ _) rfl ?_
  refine XO.not rfl rfl ?_
  refine XO.assign rfl rfl ?_
  refine XO.nil ?_
  refine XC.seq2 ?_
  refine XC.ret ?_
  refine ⟨rfl, _, [], rfl, (by repeat (first | exact List.Sublist.refl _ | apply List.Sublist.cons)), RetR.mk ?_⟩
  rfl
theorem chk1_v (x : Pk) (a1 : Option Addr) (c1 : Nat) (H : Hp) : FnV Try.prog (.func (.func 31) #[] #[]) [.agg ⟨[.int .i64 x.From, .int .i64 x.To, .slice a1 x.Data.length c1]⟩] H [] (RetR fun u _ _ => ∃ b : Bool, u = .bool b ∧ (b = true ↔ ¬ pkOk x)) := by
  refine (FnV.of_fn (cap := []) (args := [.agg ⟨[.int .i64 x.From, .int .i64 x.To, .slice a1 x.Data.length c1]⟩]) (chk1_fn x a1 c1 H)).mono ?_
  intro e _ _ _ h
  cases e with
  | returned v => exact ⟨_, h, decide_eq_true_iff⟩
  | panicked _ => exact h.elim
  | outgrown => exact h.elim

theorem index_fn (a : Option Addr) (c : Nat) (l : List Pk) (g : Value) (q : Pk → Prop) (H : Hp) (hs : SlR pkR H a c l) (hl : l.length < 4611686018427387904) (hg : ∀ x ∈ l, ∀ a1 c1, FnV Try.prog g [.agg ⟨[.int .i64 x.From, .int .i64 x.To, .slice a1 x.Data.length c1]⟩] H [] (RetR fun u _ _ => ∃ b : Bool, u = .bool b ∧ (b = true ↔ q x))) : FnC Try.prog 43 #[.slice a l.length c, g] H [] (RetR fun v _ _ => ∃ i : Int, v = .int .i64 i ∧ (0 ≤ i ↔ ∃ x ∈ l, q x)) := by
  refine FnC.intro (args := [.slice a l.length c, g]) Try.func43 rfl rfl Try.ntmps43 rfl rfl rfl fun G rest => ?_
  refine XC.seq ?_
  refine XC.region ?_
  refine XO.assign rfl rfl ?_
  refine XO.nil ?_
  refine XC.seq2 ?_
  refine XC.seq ?_
  refine XC.seq ?_
  refine XC.region ?_
  refine XO.move rfl rfl ?_
  refine XO.lenS (ts := #[]) rfl Try.underlying22 rfl ?_
  refine XO.move rfl rfl ?_
  refine XO.nil ?_
  refine XC.seq2 ?_
  refine XC.block ?_
  refine XC.keep [8, 0, 1, 7] rfl ?_
  refine XC.loop (base := [(0, _), (1, _), (7, _)]) (fun ζ : Nat => [(8, .int .i64 (ζ : Nat))]) (fun ζ Hl own => ζ ≤ l.length ∧ rest = own ∧ (∀ x ∈ l.take ζ, ¬ q x) ∧ (H = Hl)) (fun ζ => l.length - ζ) 0 (prov_cons (rfl) (prov_cons (rfl) (prov_cons (rfl) (prov_cons (rfl) prov_nil)))) (by repeat (first | exact List.Sublist.refl _ | apply List.Sublist.cons_cons | apply List.Sublist.cons)) ⟨Nat.zero_le _, rfl, by simp, rfl⟩ ?_
  rintro k Hl0 _ hle0 ⟨hkk, rfl, hno, hHl⟩
  replace hs := hs.mono hle0
  try dsimp only at ⊢
  subst hHl
  refine XC.seq ?_
  refine XC.region ?_
  refine XO.lss rfl rfl rfl ?_
  refine XO.nil ?_
  refine XC.seq2 ?_
  refine XC.seq ?_
  refine XC.cond rfl (fun c0_1 => ?_) (fun c0_1 => ?_)
  · refine XC.skip ?_
    refine XC.seq2 ?_
    refine XC.seq ?_
    refine XC.block ?_
    refine XC.seq ?_
    refine XC.region ?_
    refine XO.move rfl rfl ?_
    refine XO.assign rfl rfl ?_
    refine XO.nil ?_
    refine XC.seq2 ?_
    refine XC.seq ?_
    refine XC.region ?_
    refine XO.move rfl rfl ?_
    refine XO.move rfl rfl ?_
    refine XO.move rfl rfl ?_
    refine XO.indexN rfl hs rfl Try.underlying22 ty_28 (by omega) rfl ?_
    rintro eb14 eo14 _ x14 hx14 ⟨ax14, cx14, rfl, hd14⟩ hp14
    refine XO.loadH rfl (by assumption) ty_28 rfl rfl rfl ?_
    refine XO.callValK rfl trivial rfl (hg x14 (List.mem_of_getElem? hx14) _ _) rfl ?_
    rintro _ ⟨bq, rfl, hqq⟩
    refine XO.nil ?_
    refine XC.seq2 ?_
    refine XC.condB rfl (fun c1_4 => ?_) (fun c1_4 => ?_)
    · refine XC.seq ?_
      refine XC.region ?_
      refine XO.move rfl rfl ?_
      refine XO.assign rfl rfl ?_
      refine XO.nil ?_
      refine XC.seq2 ?_
      refine XC.ret ?_
      refine blockR ?_
      refine seqX_ret ?_
      refine loopX_ret ?_
      refine blockR ?_
      refine seqX_ret ?_
      refine ⟨rfl, _, [], rfl, (by repeat (first | exact List.Sublist.refl _ | apply List.Sublist.cons)), RetR.mk ?_⟩
      exact ⟨_, rfl, ⟨fun _ => ⟨x14, List.mem_of_getElem? hx14, hqq.1 (by assumption)⟩, fun _ => by omega⟩⟩
    · refine XC.skip ?_
      refine blockN ?_
      refine XC.seq2 ?_
      refine XC.region ?_
      refine XO.add rfl rfl (wrap_i64 (by omega) (by omega)) rfl ?_
      refine XO.move rfl rfl ?_
      refine XO.nil ?_
      refine loop_next (k + 1) (by show l.length - (k + 1) < l.length - k; omega) (prov_cons (rfl) (prov_cons (rfl) (prov_cons (rfl) (prov_cons (rfl) prov_nil)))) (⟨by show k + 1 ≤ l.length; omega, rfl, all_snoc hno hx14 (fun h => by simp_all), rfl⟩) (by repeat (first | exact List.Sublist.refl _ | apply List.Sublist.cons_cons | apply List.Sublist.cons)) (hle0)
  · obtain rfl : k = l.length := by omega
    rw [List.take_length] at hno
    refine XC.exit ?_
    refine seqX_exit ?_
    refine loopX_exit ?_
    refine blockHit rfl ?_
    refine XC.seq2 ?_
    refine XC.seq ?_
    refine XC.region ?_
    refine XO.assign rfl rfl ?_
    refine XO.nil ?_
    refine XC.seq2 ?_
    refine XC.ret ?_
    refine ⟨rfl, _, [], rfl, (by repeat (first | exact List.Sublist.refl _ | apply List.Sublist.cons)), RetR.mk ?_⟩
    exact ⟨-1, rfl, ⟨fun h => absurd h (by decide), fun ⟨x, hx, hq⟩ => absurd hq (hno x hx)⟩⟩

theorem contains_fn (a : Option Addr) (c : Nat) (l : List Pk) (g : Value) (q : Pk → Prop) (H : Hp) (hs : SlR pkR H a c l) (hl : l.length < 4611686018427387904) (hg : ∀ x ∈ l, ∀ a1 c1, FnV Try.prog g [.agg ⟨[.int .i64 x.From, .int .i64 x.To, .slice a1 x.Data.length c1]⟩] H [] (RetR fun u _ _ => ∃ b : Bool, u = .bool b ∧ (b = true ↔ q x))) : FnC Try.prog 30 #[.slice a l.length c, g] H [] (RetR fun v _ _ => ∃ b : Bool, v = .bool b ∧ (b = true ↔ ∃ x ∈ l, q x)) := by
  refine FnC.intro (args := [.slice a l.length c, g]) Try.func30 rfl rfl Try.ntmps30 rfl rfl rfl fun G rest => ?_
  refine XC.seq ?_
  refine XC.region ?_
  refine XO.assign rfl rfl ?_
  refine XO.nil ?_
  refine XC.seq2 ?_
  refine XC.seq ?_
  refine XC.region ?_
  refine XO.move rfl rfl ?_
  refine XO.move rfl rfl ?_
  refine XO.callK rfl (index_fn _ _ _ _ _ _ hs hl hg) rfl ?_
  rintro _ ⟨iX, rfl, hX⟩
  refine XO.geq rfl rfl rfl ?_
  refine XO.assign rfl rfl ?_
  refine XO.nil ?_
  refine XC.seq2 ?_
  refine XC.ret ?_
  refine ⟨rfl, _, [], rfl, (by repeat (first | exact List.Sublist.refl _ | apply List.Sublist.cons)), RetR.mk ?_⟩
  exact ⟨_, rfl, by rw [decide_eq_true_iff, ← hX]⟩

theorem isNaN_fn (a : Int) (H : Hp) : FnC Try.prog 47 #[.int .i64 a] H [] (RetR fun v _ _ => v = .bool false) := by
  refine FnC.intro (args := [.int .i64 a]) Try.func47 rfl rfl Try.ntmps47 rfl rfl rfl fun G rest => ?_
  refine XC.seq ?_
  refine XC.region ?_
  refine XO.assign rfl rfl ?_
  refine XO.nil ?_
  refine XC.seq2 ?_
  refine XC.seq ?_
  refine XC.region ?_
  refine XO.move rfl rfl ?_
  refine XO.move rfl rfl ?_
  refine XO.neq rfl rfl rfl ?_
  refine XO.assign rfl rfl ?_
  refine XO.nil ?_
  refine XC.seq2 ?_
  refine XC.ret ?_
  refine ⟨rfl, _, [], rfl, (by repeat (first | exact List.Sublist.refl _ | apply List.Sublist.cons)), RetR.mk ?_⟩
  exact congrArg Value.bool (by simp)

theorem compare_fn (a b : Int) (H : Hp) : FnC Try.prog 44 #[.int .i64 a, .int .i64 b] H [] (RetR fun v _ _ => v = .int .i64 (cmpI a b)) := by
  refine FnC.intro (args := [.int .i64 a, .int .i64 b]) Try.func44 rfl rfl Try.ntmps44 rfl rfl rfl fun G rest => ?_
  refine XC.seq ?_
  refine XC.region ?_
  refine XO.assign rfl rfl ?_
  refine XO.nil ?_
  refine XC.seq2 ?_
  refine XC.seq ?_
  refine XC.region ?_
  refine XO.move rfl rfl ?_
  refine XO.callV rfl (isNaN_fn _ _) rfl ?_
  refine XO.assign rfl rfl ?_
  refine XO.nil ?_
  refine XC.seq2 ?_
  refine XC.seq ?_
  refine XC.region ?_
  refine XO.move rfl rfl ?_
  refine XO.callV rfl (isNaN_fn _ _) rfl ?_
  refine XO.assign rfl rfl ?_
  refine XO.nil ?_
  refine XC.seq2 ?_
  refine XC.seq ?_
  refine XC.seq ?_
  refine XC.region ?_
  refine XO.move rfl rfl ?_
  refine XO.nil ?_
  refine XC.seq2 ?_
  refine XC.condF rfl (rfl) ?_
  refine XC.skip ?_
  refine XC.seq2 ?_
  refine XC.seq ?_
  refine XC.seq ?_
  refine XC.region ?_
  refine XO.move rfl rfl ?_
  refine XO.nil ?_
  refine XC.seq2 ?_
  refine XC.condF rfl (rfl) ?_
  refine XC.skip ?_
  refine XC.seq2 ?_
  refine XC.seq ?_
  refine XC.seq ?_
  refine XC.region ?_
  refine XO.move rfl rfl ?_
  refine XO.move rfl rfl ?_
  refine XO.lss rfl rfl rfl ?_
  refine XO.nil ?_
  refine XC.seq2 ?_
  refine XC.cond rfl (fun c3_3 => ?_) (fun c3_3 => ?_)
  · refine XC.seq ?_
    refine XC.region ?_
    refine XO.assign rfl rfl ?_
    refine XO.nil ?_
    refine XC.seq2 ?_
    refine XC.ret ?_
    refine seqX_ret ?_
    refine ⟨rfl, _, [], rfl, (by repeat (first | exact List.Sublist.refl _ | apply List.Sublist.cons)), RetR.mk ?_⟩
    exact congrArg (Value.int .i64) (by unfold cmpI; split <;> (try split) <;> omega)
  · refine XC.skip ?_
    refine XC.seq2 ?_
    refine XC.seq ?_
    refine XC.seq ?_
    refine XC.region ?_
    refine XO.move rfl rfl ?_
    refine XO.move rfl rfl ?_
    refine XO.gtr rfl rfl rfl ?_
    refine XO.nil ?_
    refine XC.seq2 ?_
    refine XC.cond rfl (fun c4_4 => ?_) (fun c4_4 => ?_)
    · refine XC.seq ?_
      refine XC.region ?_
      refine XO.assign rfl rfl ?_
      refine XO.nil ?_
      refine XC.seq2 ?_
      refine XC.ret ?_
      refine seqX_ret ?_
      refine ⟨rfl, _, [], rfl, (by repeat (first | exact List.Sublist.refl _ | apply List.Sublist.cons)), RetR.mk ?_⟩
      exact congrArg (Value.int .i64) (by unfold cmpI; split <;> (try split) <;> omega)
    · refine XC.skip ?_
      refine XC.seq2 ?_
      refine XC.seq ?_
      refine XC.region ?_
      refine XO.assign rfl rfl ?_
      refine XO.nil ?_
      refine XC.seq2 ?_
      refine XC.ret ?_
      refine ⟨rfl, _, [], rfl, (by repeat (first | exact List.Sublist.refl _ | apply List.Sublist.cons)), RetR.mk ?_⟩
      exact congrArg (Value.int .i64) (by unfold cmpI; split <;> (try split) <;> omega)

theorem scompare_fn (a : Option Addr) (c : Nat) (l : List Int) (a2 : Option Addr) (c2 : Nat) (m : List Int) (H : Hp) (hs : SlR (intR .i64) H a c l) (hs2 : SlR (intR .i64) H a2 c2 m) (hl : l.length < 4611686018427387904) : FnC Try.prog 33 #[.slice a l.length c, .slice a2 m.length c2] H [] (RetR fun v _ _ => v = .int .i64 (cmpL l m)) := by
  refine FnC.intro (args := [.slice a l.length c, .slice a2 m.length c2]) Try.func33 rfl rfl Try.ntmps33 rfl rfl rfl fun G rest => ?_
  refine XC.seq ?_
  refine XC.region ?_
  refine XO.assign rfl rfl ?_
  refine XO.nil ?_
  refine XC.seq2 ?_
  refine XC.seq ?_
  refine XC.seq ?_
  refine XC.region ?_
  refine XO.move rfl rfl ?_
  refine XO.lenS (ts := #[]) rfl Try.underlying45 rfl ?_
  refine XO.move rfl rfl ?_
  refine XO.nil ?_
  refine XC.seq2 ?_
  refine XC.block ?_
  refine XC.keep [11, 0, 1, 9, 10] rfl ?_
  refine XC.loop (base := [(0, _), (1, _), (9, _), (10, _)]) (fun ζ : Nat => [(11, .int .i64 (ζ : Nat))]) (fun ζ Hl own => ζ ≤ l.length ∧ rest = own ∧ (ζ ≤ m.length) ∧ (cmpL l m = cmpL (l.drop ζ) (m.drop ζ))) (fun ζ => l.length - ζ) 0 (prov_cons (rfl) (prov_cons (rfl) (prov_cons (rfl) (prov_cons (rfl) (prov_cons (rfl) prov_nil))))) (by repeat (first | exact List.Sublist.refl _ | apply List.Sublist.cons_cons | apply List.Sublist.cons)) ⟨Nat.zero_le _, rfl, by omega, rfl⟩ ?_
  rintro k Hl0 _ hle0 ⟨hkk, rfl, hkm, hcm⟩
  replace hs := hs.mono hle0
  replace hs2 := hs2.mono hle0
  try dsimp only at ⊢
  refine XC.seq ?_
  refine XC.region ?_
  refine XO.lss rfl rfl rfl ?_
  refine XO.nil ?_
  refine XC.seq2 ?_
  refine XC.seq ?_
  refine XC.cond rfl (fun c0_1 => ?_) (fun c0_1 => ?_)
  · refine XC.skip ?_
    refine XC.seq2 ?_
    refine XC.seq ?_
    refine XC.block ?_
    refine XC.seq ?_
    refine XC.region ?_
    refine XO.move rfl rfl ?_
    refine XO.indexN rfl hs rfl Try.underlying45 ty_3 (by omega) rfl ?_
    rintro eb14 eo14 _ x14 hx14 rfl hp14
    refine XO.loadH rfl (by assumption) ty_3 rfl rfl rfl ?_
    refine XO.assign rfl rfl ?_
    refine XO.assign rfl rfl ?_
    refine XO.nil ?_
    refine XC.seq2 ?_
    refine XC.seq ?_
    refine XC.seq ?_
    refine XC.region ?_
    refine XO.move rfl rfl ?_
    refine XO.move rfl rfl ?_
    refine XO.lenS (ts := #[]) rfl Try.underlying45 rfl ?_
    refine XO.geq rfl rfl rfl ?_
    refine XO.nil ?_
    refine XC.seq2 ?_
    refine XC.cond rfl (fun c1_3 => ?_) (fun c1_3 => ?_)
    · refine XC.seq ?_
      refine XC.region ?_
      refine XO.assign rfl rfl ?_
      refine XO.nil ?_
      refine XC.seq2 ?_
      refine XC.ret ?_
      refine seqX_ret ?_
      refine blockR ?_
      refine seqX_ret ?_
      refine loopX_ret ?_
      refine blockR ?_
      refine seqX_ret ?_
      refine ⟨rfl, _, [], rfl, (by repeat (first | exact List.Sublist.refl _ | apply List.Sublist.cons)), RetR.mk ?_⟩
      exact congrArg (Value.int .i64) (by rw [hcm, cmpL_long hx14 (by omega)])
    · refine XC.skip ?_
      refine XC.seq2 ?_
      refine XC.seq ?_
      refine XC.region ?_
      refine XO.move rfl rfl ?_
      refine XO.move rfl rfl ?_
      refine XO.indexN rfl hs2 rfl Try.underlying45 ty_3 (by omega) rfl ?_
      rintro eb22 eo22 _ x22 hx22 rfl hp22
      refine XO.loadH rfl (by assumption) ty_3 rfl rfl rfl ?_
      refine XO.assign rfl rfl ?_
      refine XO.nil ?_
      refine XC.seq2 ?_
      refine XC.seq ?_
      refine XC.region ?_
      refine XO.move rfl rfl ?_
      refine XO.move rfl rfl ?_
      refine XO.callV rfl (compare_fn _ _ _) rfl ?_
      refine XO.assign rfl rfl ?_
      refine XO.nil ?_
      refine XC.seq2 ?_
      refine XC.seq ?_
      refine XC.region ?_
      refine XO.move rfl rfl ?_
      refine XO.neq rfl rfl rfl ?_
      refine XO.nil ?_
      refine XC.seq2 ?_
      refine XC.cond rfl (fun c2_6 => ?_) (fun c2_6 => ?_)
      · refine XC.seq ?_
        refine XC.region ?_
        refine XO.move rfl rfl ?_
        refine XO.assign rfl rfl ?_
        refine XO.nil ?_
        refine XC.seq2 ?_
        refine XC.ret ?_
        refine blockR ?_
        refine seqX_ret ?_
        refine loopX_ret ?_
        refine blockR ?_
        refine seqX_ret ?_
        refine ⟨rfl, _, [], rfl, (by repeat (first | exact List.Sublist.refl _ | apply List.Sublist.cons)), RetR.mk ?_⟩
        exact congrArg (Value.int .i64) (by rw [hcm, cmpL_step hx14 hx22, if_pos (by assumption)])
      · refine XC.skip ?_
        refine blockN ?_
        refine XC.seq2 ?_
        refine XC.region ?_
        refine XO.add rfl rfl (wrap_i64 (by omega) (by omega)) rfl ?_
        refine XO.move rfl rfl ?_
        refine XO.nil ?_
        refine loop_next (k + 1) (by show l.length - (k + 1) < l.length - k; omega) (prov_cons (rfl) (prov_cons (rfl) (prov_cons (rfl) (prov_cons (rfl) (prov_cons (rfl) prov_nil))))) (⟨by show k + 1 ≤ l.length; omega, rfl, by omega, by rw [hcm, cmpL_step hx14 hx22, if_neg (by assumption)]⟩) (by repeat (first | exact List.Sublist.refl _ | apply List.Sublist.cons_cons | apply List.Sublist.cons)) (hle0)
  · obtain rfl : k = l.length := by omega
    rw [cmpL_end hkm] at hcm
    refine XC.exit ?_
    refine seqX_exit ?_
    refine loopX_exit ?_
    refine blockHit rfl ?_
    refine XC.seq2 ?_
    refine XC.seq ?_
    refine XC.seq ?_
    refine XC.region ?_
    refine XO.move rfl rfl ?_
    refine XO.lenS (ts := #[]) rfl Try.underlying45 rfl ?_
    refine XO.move rfl rfl ?_
    refine XO.lenS (ts := #[]) rfl Try.underlying45 rfl ?_
    refine XO.lss rfl rfl rfl ?_
    refine XO.nil ?_
    refine XC.seq2 ?_
    refine XC.cond rfl (fun c3_7 => ?_) (fun c3_7 => ?_)
    · refine XC.seq ?_
      refine XC.region ?_
      refine XO.assign rfl rfl ?_
      refine XO.nil ?_
      refine XC.seq2 ?_
      refine XC.ret ?_
      refine seqX_ret ?_
      refine ⟨rfl, _, [], rfl, (by repeat (first | exact List.Sublist.refl _ | apply List.Sublist.cons)), RetR.mk ?_⟩
      exact congrArg (Value.int .i64) (by rw [hcm, if_pos (by omega)])
    · refine XC.skip ?_
      refine XC.seq2 ?_
      refine XC.seq ?_
      refine XC.region ?_
      refine XO.assign rfl rfl ?_
      refine XO.nil ?_
      refine XC.seq2 ?_
      refine XC.ret ?_
      refine ⟨rfl, _, [], rfl, (by repeat (first | exact List.Sublist.refl _ | apply List.Sublist.cons)), RetR.mk ?_⟩
      exact congrArg (Value.int .i64) (by rw [hcm, if_neg (by omega)])

theorem check_fn (aq ap : Option Addr) (cq cp : Nat) (n : Nt) (H : Hp) (hq : SlR pkR H aq cq n.q) (hp : SlR pairR H ap cp n.ap) (hlq : n.q.length < 4611686018427387904) (hlp : n.ap.length < 4611686018427387904) : FnC Try.prog 13 #[.agg ⟨[.slice aq n.q.length cq, .slice ap n.ap.length cp]⟩] H [] (RetR fun v _ _ => v = .int .i64 (chkE n)) := by
  refine FnC.intro (args := [.agg ⟨[.slice aq n.q.length cq, .slice ap n.ap.length cp]⟩]) Try.func13 rfl rfl Try.ntmps13 rfl rfl rfl fun G rest => ?_
  refine XC.seq ?_
  refine XC.region ?_
  refine XO.box rfl rfl rfl (fun b1 => ?_)
  refine XO.assign rfl rfl ?_
  refine XO.nil ?_
  refine XC.seq2 ?_
  refine XC.seq ?_
  refine XC.seq ?_
  refine XC.region ?_
  refine XO.fieldAddr rfl fa_25_0 rfl ?_
  refine XO.loadO 0 rfl rfl ty_22 rfl rfl rfl ?_
  refine XO.lenS (ts := #[]) rfl Try.underlying22 rfl ?_
  refine XO.gtr rfl rfl rfl ?_
  refine XO.move rfl rfl ?_
  refine XO.guardC rfl rfl rfl rfl (fun g1 => ?_) (fun g1 => ?_)
  · have g1p := of_decide_eq_false g1
    refine XO.fieldAddr rfl fa_25_0 rfl ?_
    refine XO.guardT rfl rfl (g1) rfl ?_
    refine XO.loadO 0 rfl rfl ty_22 rfl rfl rfl ?_
    refine XO.guardT rfl rfl (g1) rfl ?_
    refine XO.callK rfl (contains_fn _ _ n.q (.func (.func 31) #[] #[]) (fun p => ¬ pkOk p) _ hq hlq (fun x _ a1 c1 => chk1_v x a1 c1 _)) rfl ?_
    rintro _ ⟨bC, rfl, hC⟩
    refine XO.pickF rfl (g1) rfl rfl ?_
    refine XO.nil ?_
    refine XC.seq2 ?_
    refine XC.condB rfl (fun c0_3 => ?_) (fun c0_3 => ?_)
    · refine XC.seq ?_
      refine XC.region ?_
      refine XO.assign rfl rfl ?_
      refine XO.nil ?_
      refine XC.seq2 ?_
      refine XC.ret ?_
      refine seqX_ret ?_
      refine ⟨rfl, _, [], rfl, (by repeat (first | exact List.Sublist.refl _ | apply List.Sublist.cons)), RetR.mk ?_⟩
      exact congrArg (Value.int .i64) (chk_bad (fun h => by obtain ⟨x, hx, hn⟩ := hC.1 (by assumption); exact hn (h.2.1 x hx))).symm
    · have hpk : ∀ p ∈ n.q, pkOk p := fun p hp => Decidable.by_contra fun hn => by simp_all
      refine XC.skip ?_
      refine XC.seq2 ?_
      refine XC.seq ?_
      refine XC.seq ?_
      refine XC.region ?_
      refine XO.fieldAddr rfl fa_25_1 rfl ?_
      refine XO.loadO 0 rfl rfl ty_23 rfl rfl rfl ?_
      refine XO.lenS (ts := #[]) rfl Try.underlying23 rfl ?_
      refine XO.move rfl rfl ?_
      refine XO.nil ?_
      refine XC.seq2 ?_
      refine XC.block ?_
      refine XC.keep [17, 1, 15, 16] rfl ?_
      refine XC.loop (base := [(1, _), (15, _), (16, _)]) (fun ζ : Nat => [(17, .int .i64 (ζ : Nat))]) (fun ζ Hl own => ζ ≤ n.ap.length ∧ (b1, .cells 25 [.slice aq n.q.length cq, .slice ap n.ap.length cp]) :: rest = own ∧ (apOk (n.ap.take ζ))) (fun ζ => n.ap.length - ζ) 0 (prov_cons (rfl) (prov_cons (rfl) (prov_cons (rfl) (prov_cons (rfl) prov_nil)))) (by repeat (first | exact List.Sublist.refl _ | apply List.Sublist.cons_cons | apply List.Sublist.cons)) ⟨Nat.zero_le _, rfl, ⟨by simp, by simp⟩⟩ ?_
      rintro k Hl0 _ hle0 ⟨hkk, rfl, hap⟩
      replace hq := hq.mono hle0
      replace hp := hp.mono hle0
      try dsimp only at ⊢
      refine XC.seq ?_
      refine XC.region ?_
      refine XO.lss rfl rfl rfl ?_
      refine XO.nil ?_
      refine XC.seq2 ?_
      refine XC.seq ?_
      refine XC.cond rfl (fun c1_4 => ?_) (fun c1_4 => ?_)
      · refine XC.skip ?_
        refine XC.seq2 ?_
        refine XC.seq ?_
        refine XC.block ?_
        refine XC.seq ?_
        refine XC.region ?_
        refine XO.move rfl rfl ?_
        refine XO.indexN rfl (by assumption) rfl Try.underlying23 ty_55 (by omega) rfl ?_
        rintro eb20 eo20 _ x20 hx20 rfl hp20
        refine XO.loadH rfl (by assumption) ty_55 rfl rfl rfl ?_
        refine XO.alloc ze_55 rfl (fun b4 => ?_)
        refine XO.assign rfl rfl ?_
        refine XO.storeO 0 rfl rfl rfl rfl ty_55 rfl rfl rfl rfl rfl ?_
        refine XO.nil ?_
        refine XC.seq2 ?_
        refine XC.seq ?_
        by_cases hL : ¬ linkOk (x20.1, x20.2)
        · skip
          refine XC.keep [1, 3, 4, 15, 16, 17] rfl ?_
          refine XC.publish 0 rfl rfl rfl (fun HK4 oK4 hleK4 hbK4 hoK4 => ?_)
          have hpK4 := PtH.of_is hbK4 hoK4
          have hsK4 := SlR.ints (l := [x20.1, x20.2]) hbK4 hoK4 rfl
          replace hq := hq.mono hleK4
          replace hp := hp.mono hleK4
          replace hp20 := hp20.mono hleK4
          replace hle0 := hle0.trans hleK4
          obtain ⟨bEP, oEP, rfl⟩ := hp.addr (by omega)
          obtain ⟨_, xP, hxP, rfl, hpP⟩ := hp.elem (k - 1) (by omega)
          have hk1 : ((k : Int) - 1).toNat = k - 1 := by omega
          rw [← hk1] at hpP
          have hsP := SlR.of_pt (k := .i64) (l := [xP.1, xP.2]) hpP
          apply XC.drawH (fun _ => True) trivial [] (by decide) (fun _ _ _ _ => True) (fun _ _ _ _ _ _ h => h) 14 [eqF _, eqF _, eqF _, eqF _, eqF _, eqF _, eqF _, eqF _, eqF _, eqF _, eqF _, eqF _, eqF _, eqF _] follows (by kernel_rfl) ⟨eqF_mono _, eqF_mono _, eqF_mono _, eqF_mono _, eqF_mono _, eqF_mono _, eqF_mono _, eqF_mono _, eqF_mono _, eqF_mono _, eqF_mono _, eqF_mono _, eqF_mono _, eqF_mono _, trivial⟩ (by decide) ?steps6 ?tail6
          case steps6 =>
            refine stepsH_cons rfl ?_ ?_
            · intro X ext HD hleD _
              replace hq := hq.mono hleD
              replace hp := hp.mono hleD
              replace hp20 := hp20.mono hleD
              replace hpK4 := hpK4.mono hleD
              replace hsK4 := hsK4.mono hleD
              replace hpP := hpP.mono hleD
              replace hsP := hsP.mono hleD
              replace hle0 := hle0.trans hleD
              refine withP_nil rfl ?_
              refine XO.loadH rfl (by assumption) ty_55 rfl rfl rfl ?_
              refine XO.nil ?_
              exact stepQN_ok rfl trivial (rfl)
            refine stepsH_cons rfl ?_ ?_
            · intro X ext HD hleD _
              replace hq := hq.mono hleD
              replace hp := hp.mono hleD
              replace hp20 := hp20.mono hleD
              replace hpK4 := hpK4.mono hleD
              replace hsK4 := hsK4.mono hleD
              replace hpP := hpP.mono hleD
              replace hsP := hsP.mono hleD
              replace hle0 := hle0.trans hleD
              refine withP_cons rfl rfl ?_
              rintro _ rfl
              refine withP_nil rfl ?_
              refine XO.callV rfl (valid_fn _ _) rfl ?_
              refine XO.nil ?_
              exact stepQN_ok rfl trivial (rfl)
            refine stepsH_cons rfl ?_ ?_
            · intro X ext HD hleD _
              replace hq := hq.mono hleD
              replace hp := hp.mono hleD
              replace hp20 := hp20.mono hleD
              replace hpK4 := hpK4.mono hleD
              replace hsK4 := hsK4.mono hleD
              replace hpP := hpP.mono hleD
              replace hsP := hsP.mono hleD
              replace hle0 := hle0.trans hleD
              refine withP_cons rfl rfl ?_
              rintro _ rfl
              refine withP_nil rfl ?_
              refine XO.not rfl rfl ?_
              refine XO.nil ?_
              exact stepQN_ok rfl trivial (rfl)
            refine stepsH_cons rfl ?_ ?_
            · intro X ext HD hleD _
              replace hq := hq.mono hleD
              replace hp := hp.mono hleD
              replace hp20 := hp20.mono hleD
              replace hpK4 := hpK4.mono hleD
              replace hsK4 := hsK4.mono hleD
              replace hpP := hpP.mono hleD
              replace hsP := hsP.mono hleD
              replace hle0 := hle0.trans hleD
              refine withP_cons rfl rfl ?_
              rintro _ rfl
              refine withP_nil rfl ?_
              refine XO.move rfl rfl ?_
              refine XO.nil ?_
              exact stepQN_ok rfl trivial (rfl)
            refine stepsH_cons rfl ?_ ?_
            · intro X ext HD hleD _
              replace hq := hq.mono hleD
              replace hp := hp.mono hleD
              replace hp20 := hp20.mono hleD
              replace hpK4 := hpK4.mono hleD
              replace hsK4 := hsK4.mono hleD
              replace hpP := hpP.mono hleD
              replace hsP := hsP.mono hleD
              replace hle0 := hle0.trans hleD
              refine withP_cons rfl rfl ?_
              rintro _ rfl
              refine withP_nil rfl ?_
              refine XO.guardF rfl rfl (decide_eq_true hL) rfl rfl ?_
              refine XO.nil ?_
              exact stepQN_ok rfl trivial (rfl)
            refine stepsH_cons rfl ?_ ?_
            · intro X ext HD hleD _
              replace hq := hq.mono hleD
              replace hp := hp.mono hleD
              replace hp20 := hp20.mono hleD
              replace hpK4 := hpK4.mono hleD
              replace hsK4 := hsK4.mono hleD
              replace hpP := hpP.mono hleD
              replace hsP := hsP.mono hleD
              replace hle0 := hle0.trans hleD
              refine withP_cons rfl rfl ?_
              rintro _ rfl
              refine withP_cons rfl rfl ?_
              rintro _ rfl
              refine withP_nil rfl ?_
              refine XO.guardF rfl rfl (decide_eq_true hL) rfl rfl ?_
              refine XO.nil ?_
              exact stepQN_ok rfl trivial (rfl)
            refine stepsH_cons rfl ?_ ?_
            · intro X ext HD hleD _
              replace hq := hq.mono hleD
              replace hp := hp.mono hleD
              replace hp20 := hp20.mono hleD
              replace hpK4 := hpK4.mono hleD
              replace hsK4 := hsK4.mono hleD
              replace hpP := hpP.mono hleD
              replace hsP := hsP.mono hleD
              replace hle0 := hle0.trans hleD
              refine withP_cons rfl rfl ?_
              rintro _ rfl
              refine withP_cons rfl rfl ?_
              rintro _ rfl
              refine withP_nil rfl ?_
              refine XO.guardF rfl rfl (decide_eq_true hL) rfl rfl ?_
              refine XO.nil ?_
              exact stepQN_ok rfl trivial (rfl)
            refine stepsH_cons rfl ?_ ?_
            · intro X ext HD hleD _
              replace hq := hq.mono hleD
              replace hp := hp.mono hleD
              replace hp20 := hp20.mono hleD
              replace hpK4 := hpK4.mono hleD
              replace hsK4 := hsK4.mono hleD
              replace hpP := hpP.mono hleD
              replace hsP := hsP.mono hleD
              replace hle0 := hle0.trans hleD
              refine withP_cons rfl rfl ?_
              rintro _ rfl
              refine withP_nil rfl ?_
              refine XO.guardU rfl rfl rfl rfl ?_
              refine XO.nil ?_
              exact stepQN_ok rfl trivial (rfl)
            refine stepsH_cons rfl ?_ ?_
            · intro X ext HD hleD _
              replace hq := hq.mono hleD
              replace hp := hp.mono hleD
              replace hp20 := hp20.mono hleD
              replace hpK4 := hpK4.mono hleD
              replace hsK4 := hsK4.mono hleD
              replace hpP := hpP.mono hleD
              replace hsP := hsP.mono hleD
              replace hle0 := hle0.trans hleD
              refine withP_cons rfl rfl ?_
              rintro _ rfl
              refine withP_cons rfl rfl ?_
              rintro _ rfl
              refine withP_nil rfl ?_
              refine XO.guardU rfl rfl rfl rfl ?_
              refine XO.nil ?_
              exact stepQN_ok rfl trivial (rfl)
            refine stepsH_cons rfl ?_ ?_
            · intro X ext HD hleD _
              replace hq := hq.mono hleD
              replace hp := hp.mono hleD
              replace hp20 := hp20.mono hleD
              replace hpK4 := hpK4.mono hleD
              replace hsK4 := hsK4.mono hleD
              replace hpP := hpP.mono hleD
              replace hsP := hsP.mono hleD
              replace hle0 := hle0.trans hleD
              refine withP_cons rfl rfl ?_
              rintro _ rfl
              refine withP_nil rfl ?_
              refine XO.guardU rfl rfl rfl rfl ?_
              refine XO.nil ?_
              exact stepQN_ok rfl trivial (rfl)
            refine stepsH_cons rfl ?_ ?_
            · intro X ext HD hleD _
              replace hq := hq.mono hleD
              replace hp := hp.mono hleD
              replace hp20 := hp20.mono hleD
              replace hpK4 := hpK4.mono hleD
              replace hsK4 := hsK4.mono hleD
              replace hpP := hpP.mono hleD
              replace hsP := hsP.mono hleD
              replace hle0 := hle0.trans hleD
              refine withP_cons rfl rfl ?_
              rintro _ rfl
              refine withP_cons rfl rfl ?_
              rintro _ rfl
              refine withP_nil rfl ?_
              refine XO.guardU rfl rfl rfl rfl ?_
              refine XO.nil ?_
              exact stepQN_ok rfl trivial (rfl)
            refine stepsH_cons rfl ?_ ?_
            · intro X ext HD hleD _
              replace hq := hq.mono hleD
              replace hp := hp.mono hleD
              replace hp20 := hp20.mono hleD
              replace hpK4 := hpK4.mono hleD
              replace hsK4 := hsK4.mono hleD
              replace hpP := hpP.mono hleD
              replace hsP := hsP.mono hleD
              replace hle0 := hle0.trans hleD
              refine withP_cons rfl rfl ?_
              rintro _ rfl
              refine withP_cons rfl rfl ?_
              rintro _ rfl
              refine withP_cons rfl rfl ?_
              rintro _ rfl
              refine withP_nil rfl ?_
              refine XO.guardU rfl rfl rfl rfl ?_
              refine XO.nil ?_
              exact stepQN_ok rfl trivial (rfl)
            refine stepsH_cons rfl ?_ ?_
            · intro X ext HD hleD _
              replace hq := hq.mono hleD
              replace hp := hp.mono hleD
              replace hp20 := hp20.mono hleD
              replace hpK4 := hpK4.mono hleD
              replace hsK4 := hsK4.mono hleD
              replace hpP := hpP.mono hleD
              replace hsP := hsP.mono hleD
              replace hle0 := hle0.trans hleD
              refine withP_cons rfl rfl ?_
              rintro _ rfl
              refine withP_cons rfl rfl ?_
              rintro _ rfl
              refine withP_nil rfl ?_
              refine XO.guardU rfl rfl rfl rfl ?_
              refine XO.nil ?_
              exact stepQN_ok rfl trivial (rfl)
            refine stepsH_cons rfl ?_ ?_
            · intro X ext HD hleD _
              replace hq := hq.mono hleD
              replace hp := hp.mono hleD
              replace hp20 := hp20.mono hleD
              replace hpK4 := hpK4.mono hleD
              replace hsK4 := hsK4.mono hleD
              replace hpP := hpP.mono hleD
              replace hsP := hsP.mono hleD
              replace hle0 := hle0.trans hleD
              refine withP_cons rfl rfl ?_
              rintro _ rfl
              refine withP_nil rfl ?_
              refine XO.guardU rfl rfl rfl rfl ?_
              refine XO.nil ?_
              exact stepQN_ok rfl trivial (rfl)
            exact stepsH_end rfl
          case tail6 =>
            intro HD hleD _
            replace hq := hq.mono hleD
            replace hp := hp.mono hleD
            replace hp20 := hp20.mono hleD
            replace hpK4 := hpK4.mono hleD
            replace hsK4 := hsK4.mono hleD
            replace hpP := hpP.mono hleD
            replace hsP := hsP.mono hleD
            replace hle0 := hle0.trans hleD
            refine withP_cons rfl rfl ?_
            rintro _ rfl
            refine withP_cons rfl rfl ?_
            rintro _ rfl
            refine withP_cons rfl rfl ?_
            rintro _ rfl
            refine withP_cons rfl rfl ?_
            rintro _ rfl
            refine withP_cons rfl rfl ?_
            rintro _ rfl
            refine withP_cons rfl rfl ?_
            rintro _ rfl
            refine withP_cons rfl rfl ?_
            rintro _ rfl
            refine withP_cons rfl rfl ?_
            rintro _ rfl
            refine withP_cons rfl rfl ?_
            rintro _ rfl
            refine withP_cons rfl rfl ?_
            rintro _ rfl
            refine withP_cons rfl rfl ?_
            rintro _ rfl
            refine withP_cons rfl rfl ?_
            rintro _ rfl
            refine withP_cons rfl rfl ?_
            rintro _ rfl
            refine withP_cons rfl rfl ?_
            rintro _ rfl
            refine withP_nil rfl ?_
            refine withEnts_nil ?_
            refine XO.guardU rfl rfl rfl rfl ?_
            refine XO.guardU rfl rfl rfl rfl ?_
            refine XO.guardF rfl rfl (decide_eq_true hL) rfl rfl ?_
            refine XO.pickT rfl (decide_eq_true hL) rfl rfl ?_
            refine XO.nil ?_
            refine XC.seq2 ?_
            refine XC.condT rfl (rfl) ?_
            refine XC.seq ?_
            refine XC.region ?_
            refine XO.assign rfl rfl ?_
            refine XO.nil ?_
            refine XC.seq2 ?_
            refine XC.ret ?_
            refine blockR ?_
            refine seqX_ret ?_
            refine loopX_ret ?_
            refine blockR ?_
            refine seqX_ret ?_
            refine ⟨rfl, _, [], rfl, (by repeat (first | exact List.Sublist.refl _ | apply List.Sublist.cons)), RetR.mk ?_⟩
            exact congrArg (Value.int .i64) (chk_bad (fun h => ap_bad1 hx20 hL h.2.2)).symm
        · skip
          by_cases hK0 : (0 : Int) < (k : Nat)
          · skip
            refine XC.keep [1, 3, 4, 15, 16, 17] rfl ?_
            refine XC.publish 0 rfl rfl rfl (fun HK4 oK4 hleK4 hbK4 hoK4 => ?_)
            have hpK4 := PtH.of_is hbK4 hoK4
            have hsK4 := SlR.ints (l := [x20.1, x20.2]) hbK4 hoK4 rfl
            replace hq := hq.mono hleK4
            replace hp := hp.mono hleK4
            replace hp20 := hp20.mono hleK4
            replace hle0 := hle0.trans hleK4
            obtain ⟨bEP, oEP, rfl⟩ := hp.addr (by omega)
            obtain ⟨_, xP, hxP, rfl, hpP⟩ := hp.elem (k - 1) (by omega)
            have hk1 : ((k : Int) - 1).toNat = k - 1 := by omega
            rw [← hk1] at hpP
            have hsP := SlR.of_pt (k := .i64) (l := [xP.1, xP.2]) hpP
            apply XC.drawH (fun _ => True) trivial [] (by decide) (fun _ _ _ _ => True) (fun _ _ _ _ _ _ h => h) 14 [eqF _, eqF _, eqF _, eqF _, eqF _, eqF _, eqF _, eqF _, eqF _, eqF _, eqF _, eqF _, eqF _, eqF _] follows (by kernel_rfl) ⟨eqF_mono _, eqF_mono _, eqF_mono _, eqF_mono _, eqF_mono _, eqF_mono _, eqF_mono _, eqF_mono _, eqF_mono _, eqF_mono _, eqF_mono _, eqF_mono _, eqF_mono _, eqF_mono _, trivial⟩ (by decide) ?steps8 ?tail8
            case steps8 =>
              refine stepsH_cons rfl ?_ ?_
              · intro X ext HD hleD _
                replace hq := hq.mono hleD
                replace hp := hp.mono hleD
                replace hp20 := hp20.mono hleD
                replace hpK4 := hpK4.mono hleD
                replace hsK4 := hsK4.mono hleD
                replace hpP := hpP.mono hleD
                replace hsP := hsP.mono hleD
                replace hle0 := hle0.trans hleD
                refine withP_nil rfl ?_
                refine XO.loadH rfl (by assumption) ty_55 rfl rfl rfl ?_
                refine XO.nil ?_
                exact stepQN_ok rfl trivial (rfl)
              refine stepsH_cons rfl ?_ ?_
              · intro X ext HD hleD _
                replace hq := hq.mono hleD
                replace hp := hp.mono hleD
                replace hp20 := hp20.mono hleD
                replace hpK4 := hpK4.mono hleD
                replace hsK4 := hsK4.mono hleD
                replace hpP := hpP.mono hleD
                replace hsP := hsP.mono hleD
                replace hle0 := hle0.trans hleD
                refine withP_cons rfl rfl ?_
                rintro _ rfl
                refine withP_nil rfl ?_
                refine XO.callV rfl (valid_fn _ _) rfl ?_
                refine XO.nil ?_
                exact stepQN_ok rfl trivial (rfl)
              refine stepsH_cons rfl ?_ ?_
              · intro X ext HD hleD _
                replace hq := hq.mono hleD
                replace hp := hp.mono hleD
                replace hp20 := hp20.mono hleD
                replace hpK4 := hpK4.mono hleD
                replace hsK4 := hsK4.mono hleD
                replace hpP := hpP.mono hleD
                replace hsP := hsP.mono hleD
                replace hle0 := hle0.trans hleD
                refine withP_cons rfl rfl ?_
                rintro _ rfl
                refine withP_nil rfl ?_
                refine XO.not rfl rfl ?_
                refine XO.nil ?_
                exact stepQN_ok rfl trivial (rfl)
              refine stepsH_cons rfl ?_ ?_
              · intro X ext HD hleD _
                replace hq := hq.mono hleD
                replace hp := hp.mono hleD
                replace hp20 := hp20.mono hleD
                replace hpK4 := hpK4.mono hleD
                replace hsK4 := hsK4.mono hleD
                replace hpP := hpP.mono hleD
                replace hsP := hsP.mono hleD
                replace hle0 := hle0.trans hleD
                refine withP_cons rfl rfl ?_
                rintro _ rfl
                refine withP_nil rfl ?_
                refine XO.move rfl rfl ?_
                refine XO.nil ?_
                exact stepQN_ok rfl trivial (rfl)
              refine stepsH_cons rfl ?_ ?_
              · intro X ext HD hleD _
                replace hq := hq.mono hleD
                replace hp := hp.mono hleD
                replace hp20 := hp20.mono hleD
                replace hpK4 := hpK4.mono hleD
                replace hsK4 := hsK4.mono hleD
                replace hpP := hpP.mono hleD
                replace hsP := hsP.mono hleD
                replace hle0 := hle0.trans hleD
                refine withP_cons rfl rfl ?_
                rintro _ rfl
                refine withP_nil rfl ?_
                refine XO.guardT rfl rfl (decide_eq_false hL) rfl ?_
                refine XO.move rfl rfl ?_
                refine XO.nil ?_
                exact stepQN_ok rfl trivial (rfl)
              refine stepsH_cons rfl ?_ ?_
              · intro X ext HD hleD _
                replace hq := hq.mono hleD
                replace hp := hp.mono hleD
                replace hp20 := hp20.mono hleD
                replace hpK4 := hpK4.mono hleD
                replace hsK4 := hsK4.mono hleD
                replace hpP := hpP.mono hleD
                replace hsP := hsP.mono hleD
                replace hle0 := hle0.trans hleD
                refine withP_cons rfl rfl ?_
                rintro _ rfl
                refine withP_cons rfl rfl ?_
                rintro _ rfl
                refine withP_nil rfl ?_
                refine XO.guardT rfl rfl (decide_eq_false hL) rfl ?_
                refine XO.gtr rfl rfl rfl ?_
                refine XO.nil ?_
                exact stepQN_ok rfl trivial (rfl)
              refine stepsH_cons rfl ?_ ?_
              · intro X ext HD hleD _
                replace hq := hq.mono hleD
                replace hp := hp.mono hleD
                replace hp20 := hp20.mono hleD
                replace hpK4 := hpK4.mono hleD
                replace hsK4 := hsK4.mono hleD
                replace hpP := hpP.mono hleD
                replace hsP := hsP.mono hleD
                replace hle0 := hle0.trans hleD
                refine withP_cons rfl rfl ?_
                rintro _ rfl
                refine withP_cons rfl rfl ?_
                rintro _ rfl
                refine withP_nil rfl ?_
                refine XO.guardT rfl rfl (decide_eq_false hL) rfl ?_
                refine XO.move rfl rfl ?_
                refine XO.nil ?_
                exact stepQN_ok rfl trivial (rfl)
              refine stepsH_cons rfl ?_ ?_
              · intro X ext HD hleD _
                replace hq := hq.mono hleD
                replace hp := hp.mono hleD
                replace hp20 := hp20.mono hleD
                replace hpK4 := hpK4.mono hleD
                replace hsK4 := hsK4.mono hleD
                replace hpP := hpP.mono hleD
                replace hsP := hsP.mono hleD
                replace hle0 := hle0.trans hleD
                refine withP_cons rfl rfl ?_
                rintro _ rfl
                refine withP_nil rfl ?_
                refine XO.guardT rfl rfl (decide_eq_true hK0) rfl ?_
                refine XO.fieldAddr rfl fa_25_1 rfl ?_
                refine XO.nil ?_
                exact stepQN_ok rfl trivial (rfl)
              refine stepsH_cons rfl ?_ ?_
              · intro X ext HD hleD _
                replace hq := hq.mono hleD
                replace hp := hp.mono hleD
                replace hp20 := hp20.mono hleD
                replace hpK4 := hpK4.mono hleD
                replace hsK4 := hsK4.mono hleD
                replace hpP := hpP.mono hleD
                replace hsP := hsP.mono hleD
                replace hle0 := hle0.trans hleD
                refine withP_cons rfl rfl ?_
                rintro _ rfl
                refine withP_cons rfl rfl ?_
                rintro _ rfl
                refine withP_nil rfl ?_
                refine XO.guardT rfl rfl (decide_eq_true hK0) rfl ?_
                refine XO.loadO 0 rfl rfl ty_23 rfl rfl rfl ?_
                refine XO.nil ?_
                exact stepQN_ok rfl trivial (rfl)
              refine stepsH_cons rfl ?_ ?_
              · intro X ext HD hleD _
                replace hq := hq.mono hleD
                replace hp := hp.mono hleD
                replace hp20 := hp20.mono hleD
                replace hpK4 := hpK4.mono hleD
                replace hsK4 := hsK4.mono hleD
                replace hpP := hpP.mono hleD
                replace hsP := hsP.mono hleD
                replace hle0 := hle0.trans hleD
                refine withP_cons rfl rfl ?_
                rintro _ rfl
                refine withP_nil rfl ?_
                refine XO.guardT rfl rfl (decide_eq_true hK0) rfl ?_
                refine XO.move rfl rfl ?_
                refine XO.nil ?_
                exact stepQN_ok rfl trivial (rfl)
              refine stepsH_cons rfl ?_ ?_
              · intro X ext HD hleD _
                replace hq := hq.mono hleD
                replace hp := hp.mono hleD
                replace hp20 := hp20.mono hleD
                replace hpK4 := hpK4.mono hleD
                replace hsK4 := hsK4.mono hleD
                replace hpP := hpP.mono hleD
                replace hsP := hsP.mono hleD
                replace hle0 := hle0.trans hleD
                refine withP_cons rfl rfl ?_
                rintro _ rfl
                refine withP_cons rfl rfl ?_
                rintro _ rfl
                refine withP_nil rfl ?_
                refine XO.guardT rfl rfl (decide_eq_true hK0) rfl ?_
                refine XO.sub rfl rfl (wrap_i64 (by omega) (by omega)) rfl ?_
                refine XO.nil ?_
                exact stepQN_ok rfl trivial (rfl)
              refine stepsH_cons rfl ?_ ?_
              · intro X ext HD hleD _
                replace hq := hq.mono hleD
                replace hp := hp.mono hleD
                replace hp20 := hp20.mono hleD
                replace hpK4 := hpK4.mono hleD
                replace hsK4 := hsK4.mono hleD
                replace hpP := hpP.mono hleD
                replace hsP := hsP.mono hleD
                replace hle0 := hle0.trans hleD
                refine withP_cons rfl rfl ?_
                rintro _ rfl
                refine withP_cons rfl rfl ?_
                rintro _ rfl
                refine withP_cons rfl rfl ?_
                rintro _ rfl
                refine withP_nil rfl ?_
                refine XO.guardT rfl rfl (decide_eq_true hK0) rfl ?_
                refine XO.indexE rfl rfl Try.underlying23 ty_55 (by omega) (by omega) rfl ?_
                refine XO.nil ?_
                exact stepQN_ok rfl trivial (rfl)
              refine stepsH_cons rfl ?_ ?_
              · intro X ext HD hleD _
                replace hq := hq.mono hleD
                replace hp := hp.mono hleD
                replace hp20 := hp20.mono hleD
                replace hpK4 := hpK4.mono hleD
                replace hsK4 := hsK4.mono hleD
                replace hpP := hpP.mono hleD
                replace hsP := hsP.mono hleD
                replace hle0 := hle0.trans hleD
                refine withP_cons rfl rfl ?_
                rintro _ rfl
                refine withP_cons rfl rfl ?_
                rintro _ rfl
                refine withP_nil rfl ?_
                refine XO.guardT rfl rfl (decide_eq_true hK0) rfl ?_
                refine XO.sliceArr rfl Try.underlying55 ty_3 rfl ?_
                refine XO.nil ?_
                exact stepQN_ok rfl trivial (rfl)
              refine stepsH_cons rfl ?_ ?_
              · intro X ext HD hleD _
                replace hq := hq.mono hleD
                replace hp := hp.mono hleD
                replace hp20 := hp20.mono hleD
                replace hpK4 := hpK4.mono hleD
                replace hsK4 := hsK4.mono hleD
                replace hpP := hpP.mono hleD
                replace hsP := hsP.mono hleD
                replace hle0 := hle0.trans hleD
                refine withP_cons rfl rfl ?_
                rintro _ rfl
                refine withP_nil rfl ?_
                refine XO.guardT rfl rfl (decide_eq_true hK0) rfl ?_
                refine XO.sliceArr rfl Try.underlying55 ty_3 rfl ?_
                refine XO.nil ?_
                exact stepQN_ok rfl trivial (rfl)
              exact stepsH_end rfl
            case tail8 =>
              intro HD hleD _
              replace hq := hq.mono hleD
              replace hp := hp.mono hleD
              replace hp20 := hp20.mono hleD
              replace hpK4 := hpK4.mono hleD
              replace hsK4 := hsK4.mono hleD
              replace hpP := hpP.mono hleD
              replace hsP := hsP.mono hleD
              replace hle0 := hle0.trans hleD
              refine withP_cons rfl rfl ?_
              rintro _ rfl
              refine withP_cons rfl rfl ?_
              rintro _ rfl
              refine withP_cons rfl rfl ?_
              rintro _ rfl
              refine withP_cons rfl rfl ?_
              rintro _ rfl
              refine withP_cons rfl rfl ?_
              rintro _ rfl
              refine withP_cons rfl rfl ?_
              rintro _ rfl
              refine withP_cons rfl rfl ?_
              rintro _ rfl
              refine withP_cons rfl rfl ?_
              rintro _ rfl
              refine withP_cons rfl rfl ?_
              rintro _ rfl
              refine withP_cons rfl rfl ?_
              rintro _ rfl
              refine withP_cons rfl rfl ?_
              rintro _ rfl
              refine withP_cons rfl rfl ?_
              rintro _ rfl
              refine withP_cons rfl rfl ?_
              rintro _ rfl
              refine withP_cons rfl rfl ?_
              rintro _ rfl
              refine withP_nil rfl ?_
              refine withEnts_nil ?_
              refine XO.guardT rfl rfl (decide_eq_true hK0) rfl ?_
              refine XO.callV rfl (scompare_fn _ _ [xP.1, xP.2] _ _ [x20.1, x20.2] _ hsP hsK4 (by simp)) rfl ?_
              refine XO.guardT rfl rfl (decide_eq_true hK0) rfl ?_
              refine XO.geq rfl rfl rfl ?_
              refine XO.guardT rfl rfl (decide_eq_false hL) rfl ?_
              refine XO.pickT rfl (decide_eq_true hK0) rfl rfl ?_
              refine XO.pickF rfl (decide_eq_false hL) rfl rfl ?_
              refine XO.nil ?_
              refine XC.seq2 ?_
              refine XC.cond rfl (fun c2_12 => ?_) (fun c2_12 => ?_)
              · refine XC.seq ?_
                refine XC.region ?_
                refine XO.assign rfl rfl ?_
                refine XO.nil ?_
                refine XC.seq2 ?_
                refine XC.ret ?_
                refine blockR ?_
                refine seqX_ret ?_
                refine loopX_ret ?_
                refine blockR ?_
                refine seqX_ret ?_
                refine ⟨rfl, _, [], rfl, (by repeat (first | exact List.Sublist.refl _ | apply List.Sublist.cons)), RetR.mk ?_⟩
                exact congrArg (Value.int .i64) (chk_bad (fun h => ap_bad2 hx20 (by omega) hxP (fun hl => (cmpL_pair _ _ _ _).2 hl (by assumption)) h.2.2)).symm
              · refine XC.skip ?_
                refine blockN ?_
                refine XC.seq2 ?_
                refine XC.region ?_
                refine XO.add rfl rfl (wrap_i64 (by omega) (by omega)) rfl ?_
                refine XO.move rfl rfl ?_
                refine XO.nil ?_
                refine loop_next (k + 1) (by show n.ap.length - (k + 1) < n.ap.length - k; omega) (prov_cons (rfl) (prov_cons (rfl) (prov_cons (rfl) (prov_cons (rfl) prov_nil)))) (⟨by show k + 1 ≤ n.ap.length; omega, rfl, by first | exact ap_snoc hap hx20 (Decidable.not_not.1 hL) (fun y hk hy => by obtain rfl := Option.some.inj (hxP.symm.trans hy); exact (cmpL_pair _ _ _ _).1 (by assumption)) | exact ap_snoc hap hx20 (Decidable.not_not.1 hL) (fun y hk hy => by omega)⟩) (by repeat (first | exact List.Sublist.refl _ | apply List.Sublist.cons_cons | apply List.Sublist.cons)) (hle0)
          · skip
            refine XC.keep [1, 3, 4, 15, 16, 17] rfl ?_
            refine XC.publish 0 rfl rfl rfl (fun HK4 oK4 hleK4 hbK4 hoK4 => ?_)
            have hpK4 := PtH.of_is hbK4 hoK4
            have hsK4 := SlR.ints (l := [x20.1, x20.2]) hbK4 hoK4 rfl
            replace hq := hq.mono hleK4
            replace hp := hp.mono hleK4
            replace hp20 := hp20.mono hleK4
            replace hle0 := hle0.trans hleK4
            obtain ⟨bEP, oEP, rfl⟩ := hp.addr (by omega)
            obtain ⟨_, xP, hxP, rfl, hpP⟩ := hp.elem (k - 1) (by omega)
            have hk1 : ((k : Int) - 1).toNat = k - 1 := by omega
            rw [← hk1] at hpP
            have hsP := SlR.of_pt (k := .i64) (l := [xP.1, xP.2]) hpP
            apply XC.drawH (fun _ => True) trivial [] (by decide) (fun _ _ _ _ => True) (fun _ _ _ _ _ _ h => h) 14 [eqF _, eqF _, eqF _, eqF _, eqF _, eqF _, eqF _, eqF _, eqF _, eqF _, eqF _, eqF _, eqF _, eqF _] follows (by kernel_rfl) ⟨eqF_mono _, eqF_mono _, eqF_mono _, eqF_mono _, eqF_mono _, eqF_mono _, eqF_mono _, eqF_mono _, eqF_mono _, eqF_mono _, eqF_mono _, eqF_mono _, eqF_mono _, eqF_mono _, trivial⟩ (by decide) ?steps13 ?tail13
            case steps13 =>
              refine stepsH_cons rfl ?_ ?_
              · intro X ext HD hleD _
                replace hq := hq.mono hleD
                replace hp := hp.mono hleD
                replace hp20 := hp20.mono hleD
                replace hpK4 := hpK4.mono hleD
                replace hsK4 := hsK4.mono hleD
                replace hpP := hpP.mono hleD
                replace hsP := hsP.mono hleD
                replace hle0 := hle0.trans hleD
                refine withP_nil rfl ?_
                refine XO.loadH rfl (by assumption) ty_55 rfl rfl rfl ?_
                refine XO.nil ?_
                exact stepQN_ok rfl trivial (rfl)
              refine stepsH_cons rfl ?_ ?_
              · intro X ext HD hleD _
                replace hq := hq.mono hleD
                replace hp := hp.mono hleD
                replace hp20 := hp20.mono hleD
                replace hpK4 := hpK4.mono hleD
                replace hsK4 := hsK4.mono hleD
                replace hpP := hpP.mono hleD
                replace hsP := hsP.mono hleD
                replace hle0 := hle0.trans hleD
                refine withP_cons rfl rfl ?_
                rintro _ rfl
                refine withP_nil rfl ?_
                refine XO.callV rfl (valid_fn _ _) rfl ?_
                refine XO.nil ?_
                exact stepQN_ok rfl trivial (rfl)
              refine stepsH_cons rfl ?_ ?_
              · intro X ext HD hleD _
                replace hq := hq.mono hleD
                replace hp := hp.mono hleD
                replace hp20 := hp20.mono hleD
                replace hpK4 := hpK4.mono hleD
                replace hsK4 := hsK4.mono hleD
                replace hpP := hpP.mono hleD
                replace hsP := hsP.mono hleD
                replace hle0 := hle0.trans hleD
                refine withP_cons rfl rfl ?_
                rintro _ rfl
                refine withP_nil rfl ?_
                refine XO.not rfl rfl ?_
                refine XO.nil ?_
                exact stepQN_ok rfl trivial (rfl)
              refine stepsH_cons rfl ?_ ?_
              · intro X ext HD hleD _
                replace hq := hq.mono hleD
                replace hp := hp.mono hleD
                replace hp20 := hp20.mono hleD
                replace hpK4 := hpK4.mono hleD
                replace hsK4 := hsK4.mono hleD
                replace hpP := hpP.mono hleD
                replace hsP := hsP.mono hleD
                replace hle0 := hle0.trans hleD
                refine withP_cons rfl rfl ?_
                rintro _ rfl
                refine withP_nil rfl ?_
                refine XO.move rfl rfl ?_
                refine XO.nil ?_
                exact stepQN_ok rfl trivial (rfl)
              refine stepsH_cons rfl ?_ ?_
              · intro X ext HD hleD _
                replace hq := hq.mono hleD
                replace hp := hp.mono hleD
                replace hp20 := hp20.mono hleD
                replace hpK4 := hpK4.mono hleD
                replace hsK4 := hsK4.mono hleD
                replace hpP := hpP.mono hleD
                replace hsP := hsP.mono hleD
                replace hle0 := hle0.trans hleD
                refine withP_cons rfl rfl ?_
                rintro _ rfl
                refine withP_nil rfl ?_
                refine XO.guardT rfl rfl (decide_eq_false hL) rfl ?_
                refine XO.move rfl rfl ?_
                refine XO.nil ?_
                exact stepQN_ok rfl trivial (rfl)
              refine stepsH_cons rfl ?_ ?_
              · intro X ext HD hleD _
                replace hq := hq.mono hleD
                replace hp := hp.mono hleD
                replace hp20 := hp20.mono hleD
                replace hpK4 := hpK4.mono hleD
                replace hsK4 := hsK4.mono hleD
                replace hpP := hpP.mono hleD
                replace hsP := hsP.mono hleD
                replace hle0 := hle0.trans hleD
                refine withP_cons rfl rfl ?_
                rintro _ rfl
                refine withP_cons rfl rfl ?_
                rintro _ rfl
                refine withP_nil rfl ?_
                refine XO.guardT rfl rfl (decide_eq_false hL) rfl ?_
                refine XO.gtr rfl rfl rfl ?_
                refine XO.nil ?_
                exact stepQN_ok rfl trivial (rfl)
              refine stepsH_cons rfl ?_ ?_
              · intro X ext HD hleD _
                replace hq := hq.mono hleD
                replace hp := hp.mono hleD
                replace hp20 := hp20.mono hleD
                replace hpK4 := hpK4.mono hleD
                replace hsK4 := hsK4.mono hleD
                replace hpP := hpP.mono hleD
                replace hsP := hsP.mono hleD
                replace hle0 := hle0.trans hleD
                refine withP_cons rfl rfl ?_
                rintro _ rfl
                refine withP_cons rfl rfl ?_
                rintro _ rfl
                refine withP_nil rfl ?_
                refine XO.guardT rfl rfl (decide_eq_false hL) rfl ?_
                refine XO.move rfl rfl ?_
                refine XO.nil ?_
                exact stepQN_ok rfl trivial (rfl)
              refine stepsH_cons rfl ?_ ?_
              · intro X ext HD hleD _
                replace hq := hq.mono hleD
                replace hp := hp.mono hleD
                replace hp20 := hp20.mono hleD
                replace hpK4 := hpK4.mono hleD
                replace hsK4 := hsK4.mono hleD
                replace hpP := hpP.mono hleD
                replace hsP := hsP.mono hleD
                replace hle0 := hle0.trans hleD
                refine withP_cons rfl rfl ?_
                rintro _ rfl
                refine withP_nil rfl ?_
                refine XO.guardF rfl rfl (decide_eq_false hK0) rfl rfl ?_
                refine XO.nil ?_
                exact stepQN_ok rfl trivial (rfl)
              refine stepsH_cons rfl ?_ ?_
              · intro X ext HD hleD _
                replace hq := hq.mono hleD
                replace hp := hp.mono hleD
                replace hp20 := hp20.mono hleD
                replace hpK4 := hpK4.mono hleD
                replace hsK4 := hsK4.mono hleD
                replace hpP := hpP.mono hleD
                replace hsP := hsP.mono hleD
                replace hle0 := hle0.trans hleD
                refine withP_cons rfl rfl ?_
                rintro _ rfl
                refine withP_cons rfl rfl ?_
                rintro _ rfl
                refine withP_nil rfl ?_
                refine XO.guardF rfl rfl (decide_eq_false hK0) rfl rfl ?_
                refine XO.nil ?_
                exact stepQN_ok rfl trivial (rfl)
              refine stepsH_cons rfl ?_ ?_
              · intro X ext HD hleD _
                replace hq := hq.mono hleD
                replace hp := hp.mono hleD
                replace hp20 := hp20.mono hleD
                replace hpK4 := hpK4.mono hleD
                replace hsK4 := hsK4.mono hleD
                replace hpP := hpP.mono hleD
                replace hsP := hsP.mono hleD
                replace hle0 := hle0.trans hleD
                refine withP_cons rfl rfl ?_
                rintro _ rfl
                refine withP_nil rfl ?_
                refine XO.guardF rfl rfl (decide_eq_false hK0) rfl rfl ?_
                refine XO.nil ?_
                exact stepQN_ok rfl trivial (rfl)
              refine stepsH_cons rfl ?_ ?_
              · intro X ext HD hleD _
                replace hq := hq.mono hleD
                replace hp := hp.mono hleD
                replace hp20 := hp20.mono hleD
                replace hpK4 := hpK4.mono hleD
                replace hsK4 := hsK4.mono hleD
                replace hpP := hpP.mono hleD
                replace hsP := hsP.mono hleD
                replace hle0 := hle0.trans hleD
                refine withP_cons rfl rfl ?_
                rintro _ rfl
                refine withP_cons rfl rfl ?_
                rintro _ rfl
                refine withP_nil rfl ?_
                refine XO.guardF rfl rfl (decide_eq_false hK0) rfl rfl ?_
                refine XO.nil ?_
                exact stepQN_ok rfl trivial (rfl)
              refine stepsH_cons rfl ?_ ?_
              · intro X ext HD hleD _
                replace hq := hq.mono hleD
                replace hp := hp.mono hleD
                replace hp20 := hp20.mono hleD
                replace hpK4 := hpK4.mono hleD
                replace hsK4 := hsK4.mono hleD
                replace hpP := hpP.mono hleD
                replace hsP := hsP.mono hleD
                replace hle0 := hle0.trans hleD
                refine withP_cons rfl rfl ?_
                rintro _ rfl
                refine withP_cons rfl rfl ?_
                rintro _ rfl
                refine withP_cons rfl rfl ?_
                rintro _ rfl
                refine withP_nil rfl ?_
                refine XO.guardF rfl rfl (decide_eq_false hK0) rfl rfl ?_
                refine XO.nil ?_
                exact stepQN_ok rfl trivial (rfl)
              refine stepsH_cons rfl ?_ ?_
              · intro X ext HD hleD _
                replace hq := hq.mono hleD
                replace hp := hp.mono hleD
                replace hp20 := hp20.mono hleD
                replace hpK4 := hpK4.mono hleD
                replace hsK4 := hsK4.mono hleD
                replace hpP := hpP.mono hleD
                replace hsP := hsP.mono hleD
                replace hle0 := hle0.trans hleD
                refine withP_cons rfl rfl ?_
                rintro _ rfl
                refine withP_cons rfl rfl ?_
                rintro _ rfl
                refine withP_nil rfl ?_
                refine XO.guardF rfl rfl (decide_eq_false hK0) rfl rfl ?_
                refine XO.nil ?_
                exact stepQN_ok rfl trivial (rfl)
              refine stepsH_cons rfl ?_ ?_
              · intro X ext HD hleD _
                replace hq := hq.mono hleD
                replace hp := hp.mono hleD
                replace hp20 := hp20.mono hleD
                replace hpK4 := hpK4.mono hleD
                replace hsK4 := hsK4.mono hleD
                replace hpP := hpP.mono hleD
                replace hsP := hsP.mono hleD
                replace hle0 := hle0.trans hleD
                refine withP_cons rfl rfl ?_
                rintro _ rfl
                refine withP_nil rfl ?_
                refine XO.guardF rfl rfl (decide_eq_false hK0) rfl rfl ?_
                refine XO.nil ?_
                exact stepQN_ok rfl trivial (rfl)
              exact stepsH_end rfl
            case tail13 =>
              intro HD hleD _
              replace hq := hq.mono hleD
              replace hp := hp.mono hleD
              replace hp20 := hp20.mono hleD
              replace hpK4 := hpK4.mono hleD
              replace hsK4 := hsK4.mono hleD
              replace hpP := hpP.mono hleD
              replace hsP := hsP.mono hleD
              replace hle0 := hle0.trans hleD
              refine withP_cons rfl rfl ?_
              rintro _ rfl
              refine withP_cons rfl rfl ?_
              rintro _ rfl
              refine withP_cons rfl rfl ?_
              rintro _ rfl
              refine withP_cons rfl rfl ?_
              rintro _ rfl
              refine withP_cons rfl rfl ?_
              rintro _ rfl
              refine withP_cons rfl rfl ?_
              rintro _ rfl
              refine withP_cons rfl rfl ?_
              rintro _ rfl
              refine withP_cons rfl rfl ?_
              rintro _ rfl
              refine withP_cons rfl rfl ?_
              rintro _ rfl
              refine withP_cons rfl rfl ?_
              rintro _ rfl
              refine withP_cons rfl rfl ?_
              rintro _ rfl
              refine withP_cons rfl rfl ?_
              rintro _ rfl
              refine withP_cons rfl rfl ?_
              rintro _ rfl
              refine withP_cons rfl rfl ?_
              rintro _ rfl
              refine withP_nil rfl ?_
              refine withEnts_nil ?_
              refine XO.guardF rfl rfl (decide_eq_false hK0) rfl rfl ?_
              refine XO.guardF rfl rfl (decide_eq_false hK0) rfl rfl ?_
              refine XO.guardT rfl rfl (decide_eq_false hL) rfl ?_
              refine XO.pickF rfl (decide_eq_false hK0) rfl rfl ?_
              refine XO.pickF rfl (decide_eq_false hL) rfl rfl ?_
              refine XO.nil ?_
              refine XC.seq2 ?_
              refine XC.condF rfl (rfl) ?_
              refine XC.skip ?_
              refine blockN ?_
              refine XC.seq2 ?_
              refine XC.region ?_
              refine XO.add rfl rfl (wrap_i64 (by omega) (by omega)) rfl ?_
              refine XO.move rfl rfl ?_
              refine XO.nil ?_
              refine loop_next (k + 1) (by show n.ap.length - (k + 1) < n.ap.length - k; omega) (prov_cons (rfl) (prov_cons (rfl) (prov_cons (rfl) (prov_cons (rfl) prov_nil)))) (⟨by show k + 1 ≤ n.ap.length; omega, rfl, by first | exact ap_snoc hap hx20 (Decidable.not_not.1 hL) (fun y hk hy => by obtain rfl := Option.some.inj (hxP.symm.trans hy); exact (cmpL_pair _ _ _ _).1 (by assumption)) | exact ap_snoc hap hx20 (Decidable.not_not.1 hL) (fun y hk hy => by omega)⟩) (by repeat (first | exact List.Sublist.refl _ | apply List.Sublist.cons_cons | apply List.Sublist.cons)) (hle0)
      · obtain rfl : k = n.ap.length := by omega
        rw [List.take_length] at hap
        refine XC.exit ?_
        refine seqX_exit ?_
        refine loopX_exit ?_
        refine blockHit rfl ?_
        refine XC.seq2 ?_
        refine XC.seq ?_
        refine XC.region ?_
        refine XO.assign rfl rfl ?_
        refine XO.nil ?_
        refine XC.seq2 ?_
        refine XC.ret ?_
        refine ⟨rfl, _, [], rfl, (by repeat (first | exact List.Sublist.refl _ | apply List.Sublist.cons)), RetR.mk ?_⟩
        exact congrArg (Value.int .i64) (chk_ok ⟨by omega, hpk, hap⟩).symm
  · have g1p := of_decide_eq_true g1
    refine XO.guardF rfl rfl (g1) rfl rfl ?_
    refine XO.guardF rfl rfl (g1) rfl rfl ?_
    refine XO.pickT rfl (g1) rfl rfl ?_
    refine XO.nil ?_
    refine XC.seq2 ?_
    refine XC.condT rfl (rfl) ?_
    refine XC.seq ?_
    refine XC.region ?_
    refine XO.assign rfl rfl ?_
    refine XO.nil ?_
    refine XC.seq2 ?_
    refine XC.ret ?_
    refine seqX_ret ?_
    refine ⟨rfl, _, [], rfl, (by repeat (first | exact List.Sublist.refl _ | apply List.Sublist.cons)), RetR.mk ?_⟩
    exact congrArg (Value.int .i64) (chk_bad (fun h => by have := h.1; omega)).symm

end Go.Proofs
