/- The walks of the functions of the graph: what each of them computes, at any input. -/
import Derived.Test.YtbfleiickdobnaaRcM
import Derived.Test.YtbfleiickdobnaaProg
set_option autoImplicit false
set_option linter.unusedVariables false
set_option linter.unusedSimpArgs false
namespace Go.Proofs
open Go.XL

theorem follows : Try.prog.follows .mixedOrders = true := by kernel_rfl
theorem ty_22 : tyF Try.prog 22 1 false = true := by kernel_rfl
theorem ty_26 : tyF Try.prog 26 1 false = true := by kernel_rfl
theorem ty_3 : tyF Try.prog 3 1 false = true := by kernel_rfl
theorem ty_40 : tyF Try.prog 40 1 false = true := by kernel_rfl

theorem caught_ret (be : Nat) (x : Int) (H : Hp) : FnD Try.prog 28 #[.pointer (some ⟨be, 0, none⟩)] (.returning) H [(be, .cells 26 [.int .i64 x])] (fun u _ own => u = .returning ∧ own = [(be, .cells 26 [.int .i64 x])]) := by
  refine FnD.intro (args := [.pointer (some ⟨be, 0, none⟩)]) Try.func28 rfl rfl Try.ntmps28 rfl rfl rfl fun G rest => ?_
  refine XS.seq ?_
  refine XS.recover rfl rfl ?_
  refine XO.assign rfl rfl ?_
  refine XO.nil ?_
  refine XS.of rfl ?_
  refine XC.seq ?_
  refine XC.region ?_
  refine XO.move rfl rfl ?_
  refine XO.neqNilI rfl (Or.inl ⟨rfl, rfl⟩) Try.underlying20 rfl ?_
  refine XO.nil ?_
  refine XC.seq2 ?_
  refine XC.condF rfl (rfl) ?_
  refine XC.skip ?_
  refine ⟨rfl, _, [(be, .cells 26 [.int .i64 x])], rfl, (by repeat (first | exact List.Sublist.refl _ | apply List.Sublist.cons)), ?_⟩
  exact ⟨rfl, rfl⟩

theorem caught_pan (be : Nat) (x y : Int) (H : Hp) : FnD Try.prog 28 #[.pointer (some ⟨be, 0, none⟩)] (.panicking [{ v := .iface 26 (.int .i64 y), recovered := false }]) H [(be, .cells 26 [.int .i64 x])] (fun u _ own => settle u = .returning ∧ own = [(be, .cells 26 [.int .i64 y])]) := by
  refine FnD.intro (args := [.pointer (some ⟨be, 0, none⟩)]) Try.func28 rfl rfl Try.ntmps28 rfl rfl rfl fun G rest => ?_
  refine XS.seq ?_
  refine XS.recover rfl rfl ?_
  refine XO.assign rfl rfl ?_
  refine XO.nil ?_
  refine XS.of rfl ?_
  refine XC.seq ?_
  refine XC.region ?_
  refine XO.move rfl rfl ?_
  refine XO.neqNilI rfl (Or.inr ⟨_, _, rfl, rfl⟩) Try.underlying20 rfl ?_
  refine XO.nil ?_
  refine XC.seq2 ?_
  refine XC.condT rfl (rfl) ?_
  refine XC.seq ?_
  refine XC.region ?_
  refine XO.move rfl rfl ?_
  refine XO.assertOk rfl Try.underlying26 rfl ?_
  refine XO.move rfl rfl ?_
  refine XO.extract rfl rfl rfl ?_
  refine XO.extract rfl rfl rfl ?_
  refine XO.assign rfl rfl ?_
  refine XO.assign rfl rfl ?_
  refine XO.nil ?_
  refine XC.seq2 ?_
  refine XC.seq ?_
  refine XC.seq ?_
  refine XC.region ?_
  refine XO.move rfl rfl ?_
  refine XO.notB rfl rfl ?_
  refine XO.nil ?_
  refine XC.seq2 ?_
  refine XC.condF rfl (rfl) ?_
  refine XC.skip ?_
  refine XC.seq2 ?_
  refine XC.region ?_
  refine XO.move rfl rfl ?_
  refine XO.move rfl rfl ?_
  refine XO.nilCheckP rfl rfl ?_
  refine XO.storeO 0 rfl rfl rfl rfl ty_26 rfl rfl rfl rfl rfl ?_
  refine XO.nil ?_
  refine ⟨rfl, _, [(be, .cells 26 [.int .i64 y])], rfl, (by repeat (first | exact List.Sublist.refl _ | apply List.Sublist.cons)), ?_⟩
  exact ⟨rfl, rfl⟩

theorem must_ok (y : Int) (hy : y = 0) (H : Hp) : FnC Try.prog 29 #[.int .i64 y] H [] (RetR (fun v _ _ => v = .tuple #[])) := by
  refine FnC.intro (args := [.int .i64 y]) Try.func29 rfl rfl Try.ntmps29 rfl rfl rfl fun G rest => ?_
  refine XC.seq ?_
  refine XC.region ?_
  refine XO.move rfl rfl ?_
  refine XO.neq rfl rfl rfl ?_
  refine XO.nil ?_
  refine XC.seq2 ?_
  refine XC.condF rfl (decide_eq_false (fun h => h hy)) ?_
  refine XC.skip ?_
  refine ⟨rfl, _, [], rfl, (by repeat (first | exact List.Sublist.refl _ | apply List.Sublist.cons)), RetR.mk ?_⟩
  rfl

theorem must_bad (y : Int) (hy : y ≠ 0) (H : Hp) : FnC Try.prog 29 #[.int .i64 y] H [] (PanR [{ v := .iface 26 (.int .i64 y), recovered := false }]) := by
  refine FnC.intro (args := [.int .i64 y]) Try.func29 rfl rfl Try.ntmps29 rfl rfl rfl fun G rest => ?_
  refine XC.seq ?_
  refine XC.region ?_
  refine XO.move rfl rfl ?_
  refine XO.neq rfl rfl rfl ?_
  refine XO.nil ?_
  refine XC.seq2 ?_
  refine XC.condT rfl (decide_eq_true hy) ?_
  refine XC.region ?_
  refine XO.move rfl rfl ?_
  refine XO.makeInterface rfl Try.underlying26 (by intro _ h; cases h) rfl ?_
  refine XO.panic rfl ?_
  refine ⟨rfl, [], (by repeat (first | exact List.Sublist.refl _ | apply List.Sublist.cons)), PanR.mk⟩

theorem wide_fn (a : Option Addr) (c : Nat) (m : Tb) (H : Hp) (hs : SlR tbR H a c m) (hl : m.length < 9223372036854775808) : FnC Try.prog 36 #[.slice a m.length c] H [] (RetR (fun v _ _ => v = .int .i64 (wideM m : Nat))) := by
  refine FnC.intro (args := [.slice a m.length c]) Try.func36 rfl rfl Try.ntmps36 rfl rfl rfl fun G rest => ?_
  refine XC.seq ?_
  refine XC.region ?_
  refine XO.assign rfl rfl ?_
  refine XO.nil ?_
  refine XC.seq2 ?_
  refine XC.seq ?_
  refine XC.seq ?_
  refine XC.region ?_
  refine XO.move rfl rfl ?_
  refine XO.lenS (ts := #[]) rfl Try.underlying22 rfl ?_
  refine XO.eql rfl rfl rfl ?_
  refine XO.nil ?_
  refine XC.seq2 ?_
  refine XC.cond rfl (fun c0_1 => ?_) (fun c0_1 => ?_)
  · refine XC.seq ?_
    refine XC.region ?_
    refine XO.assign rfl rfl ?_
    refine XO.nil ?_
    refine XC.seq2 ?_
    refine XC.ret ?_
    refine seqX_ret ?_
    refine ⟨rfl, _, [], rfl, (by repeat (first | exact List.Sublist.refl _ | apply List.Sublist.cons)), RetR.mk ?_⟩
    exact congrArg (Value.int .i64) (by rw [wide_nil (by omega)]; rfl)
  · refine XC.skip ?_
    refine XC.seq2 ?_
    refine XC.seq ?_
    refine XC.region ?_
    refine XO.move rfl rfl ?_
    refine XO.indexN (i := 0) rfl hs rfl Try.underlying22 ty_40 (by omega) rfl ?_
    rintro eb7 eo7 _ x7 hx7 ⟨ax7, cx7, rfl, hd7⟩ hp7
    refine XO.loadH rfl (by assumption) ty_40 rfl rfl rfl ?_
    refine XO.lenS (ts := #[]) rfl Try.underlying40 rfl ?_
    refine XO.assign rfl rfl ?_
    refine XO.nil ?_
    refine XC.seq2 ?_
    refine XC.ret ?_
    refine ⟨rfl, _, [], rfl, (by repeat (first | exact List.Sublist.refl _ | apply List.Sublist.cons)), RetR.mk ?_⟩
    exact congrArg (Value.int .i64) (by rw [wide_cons hx7])

theorem judges_fn (a : Option Addr) (c : Nat) (m : Tb) (H : Hp) (hs : SlR tbR H a c m) (hl : m.length < 9223372036854775808) : FnC Try.prog 23 #[.slice a m.length c] H [] (RetR (fun v _ _ => v = .int .i64 (wideM m : Nat))) := by
  refine FnC.intro (args := [.slice a m.length c]) Try.func23 rfl rfl Try.ntmps23 rfl rfl rfl fun G rest => ?_
  refine XC.seq ?_
  refine XC.region ?_
  refine XO.assign rfl rfl ?_
  refine XO.nil ?_
  refine XC.seq2 ?_
  refine XC.seq ?_
  refine XC.seq ?_
  refine XC.region ?_
  refine XO.move rfl rfl ?_
  refine XO.lenS (ts := #[]) rfl Try.underlying22 rfl ?_
  refine XO.eql rfl rfl rfl ?_
  refine XO.nil ?_
  refine XC.seq2 ?_
  refine XC.cond rfl (fun c0_1 => ?_) (fun c0_1 => ?_)
  · refine XC.seq ?_
    refine XC.region ?_
    refine XO.assign rfl rfl ?_
    refine XO.nil ?_
    refine XC.seq2 ?_
    refine XC.ret ?_
    refine seqX_ret ?_
    refine ⟨rfl, _, [], rfl, (by repeat (first | exact List.Sublist.refl _ | apply List.Sublist.cons)), RetR.mk ?_⟩
    exact congrArg (Value.int .i64) (by rw [wide_nil (by omega)]; rfl)
  · refine XC.skip ?_
    refine XC.seq2 ?_
    refine XC.seq ?_
    refine XC.region ?_
    refine XO.move rfl rfl ?_
    refine XO.indexN (i := 0) rfl hs rfl Try.underlying22 ty_40 (by omega) rfl ?_
    rintro eb7 eo7 _ x7 hx7 ⟨ax7, cx7, rfl, hd7⟩ hp7
    refine XO.loadH rfl (by assumption) ty_40 rfl rfl rfl ?_
    refine XO.lenS (ts := #[]) rfl Try.underlying40 rfl ?_
    refine XO.assign rfl rfl ?_
    refine XO.nil ?_
    refine XC.seq2 ?_
    refine XC.ret ?_
    refine ⟨rfl, _, [], rfl, (by repeat (first | exact List.Sublist.refl _ | apply List.Sublist.cons)), RetR.mk ?_⟩
    exact congrArg (Value.int .i64) (by rw [wide_cons hx7])

theorem long_fn (x : List Bool) (a1 : Option Addr) (c1 : Nat) (H : Hp) : FnC Try.prog 37 #[.slice a1 x.length c1] H [] (RetR (fun v _ _ => v = .bool (decide ((16 : Int) < x.length)))) := by
  refine FnC.intro (args := [.slice a1 x.length c1]) Try.func37 rfl rfl Try.ntmps37 rfl rfl rfl fun G rest => ?_
  refine XC.seq ?_
  refine XC.region ?_
  refine XO.assign rfl rfl ?_
  refine XO.nil ?_
  refine XC.seq2 ?_
  refine XC.seq ?_
  refine XC.region ?_
  refine XO.move rfl rfl ?_
  refine XO.lenS (ts := #[]) rfl Try.underlying40 rfl ?_
  refine XO.gtr rfl rfl rfl ?_
  refine XO.assign rfl rfl ?_
  refine XO.nil ?_
  refine XC.seq2 ?_
  refine XC.ret ?_
  refine ⟨rfl, _, [], rfl, (by repeat (first | exact List.Sublist.refl _ | apply List.Sublist.cons)), RetR.mk ?_⟩
  rfl
theorem long_v (x : List Bool) (a1 : Option Addr) (c1 : Nat) (H : Hp) : FnV Try.prog (.func (.func 37) #[] #[]) [.slice a1 x.length c1] H [] (RetR fun u _ _ => ∃ b : Bool, u = .bool b ∧ (b = true ↔ 16 < x.length)) := by
  refine (FnV.of_fn (cap := []) (args := [.slice a1 x.length c1]) (long_fn x a1 c1 H)).mono ?_
  intro e _ _ _ h
  cases e with
  | returned v => exact ⟨_, h, by rw [decide_eq_true_iff]; omega⟩
  | panicked _ => exact h.elim
  | outgrown => exact h.elim

theorem odd_fn (x : List Bool) (a1 a : Option Addr) (c1 c b : Nat) (m : Tb) (H : Hp) (hpb : PtH H b 0 [.slice a m.length c]) (hs : SlR tbR H a c m) (hl : m.length < 9223372036854775808) : FnC Try.prog 38 #[.slice a1 x.length c1, .pointer (some ⟨b, 0, none⟩)] H [] (RetR (fun v _ _ => v = .bool (decide ((x.length : Int) ≠ (wideM m : Nat))))) := by
  refine FnC.intro (args := [.slice a1 x.length c1, .pointer (some ⟨b, 0, none⟩)]) Try.func38 rfl rfl Try.ntmps38 rfl rfl rfl fun G rest => ?_
  refine XC.seq ?_
  refine XC.region ?_
  refine XO.assign rfl rfl ?_
  refine XO.nil ?_
  refine XC.seq2 ?_
  refine XC.seq ?_
  refine XC.region ?_
  refine XO.move rfl rfl ?_
  refine XO.lenS (ts := #[]) rfl Try.underlying40 rfl ?_
  refine XO.loadH rfl (by assumption) ty_22 rfl rfl rfl ?_
  refine XO.callV rfl (wide_fn _ _ m _ hs hl) rfl ?_
  refine XO.neq rfl rfl rfl ?_
  refine XO.assign rfl rfl ?_
  refine XO.nil ?_
  refine XC.seq2 ?_
  refine XC.ret ?_
  refine ⟨rfl, _, [], rfl, (by repeat (first | exact List.Sublist.refl _ | apply List.Sublist.cons)), RetR.mk ?_⟩
  rfl
theorem odd_v (x : List Bool) (a1 a : Option Addr) (c1 c b : Nat) (m : Tb) (H : Hp) (hpb : PtH H b 0 [.slice a m.length c]) (hs : SlR tbR H a c m) (hl : m.length < 9223372036854775808) :
    FnV Try.prog (.func (.func 38) #[] #[.pointer (some ⟨b, 0, none⟩)]) [.slice a1 x.length c1] H [] (RetR fun u _ _ => ∃ b : Bool, u = .bool b ∧ (b = true ↔ x.length ≠ wideM m)) := by
  refine (FnV.of_fn (cap := [.pointer (some ⟨b, 0, none⟩)]) (args := [.slice a1 x.length c1]) (odd_fn x a1 a c1 c b m H hpb hs hl)).mono ?_
  intro e _ _ _ h
  cases e with
  | returned v => exact ⟨_, h, by rw [decide_eq_true_iff]; omega⟩
  | panicked _ => exact h.elim
  | outgrown => exact h.elim

theorem index_fn (a : Option Addr) (c : Nat) (l : Tb) (g : Value) (q : List Bool → Prop) (H : Hp) (hs : SlR tbR H a c l) (hl : l.length < 9223372036854775808) (hg : ∀ x ∈ l, ∀ a1 c1, FnV Try.prog g [.slice a1 x.length c1] H [] (RetR fun u _ _ => ∃ b : Bool, u = .bool b ∧ (b = true ↔ q x))) : FnC Try.prog 48 #[.slice a l.length c, g] H [] (RetR (fun v _ _ => ∃ i : Int, v = .int .i64 i ∧ (0 ≤ i ↔ ∃ x ∈ l, q x))) := by
  refine FnC.intro (args := [.slice a l.length c, g]) Try.func48 rfl rfl Try.ntmps48 rfl rfl rfl fun G rest => ?_
  refine XC.seq ?_
  refine XC.region ?_
  refine XO.assign rfl rfl ?_
  refine XO.nil ?_
  refine XC.seq2 ?_
  refine XC.seq ?_
  refine XC.seq ?_
  refine XC.region ?_
  refine XO.move rfl rfl ?_
  refine XO.lenS (ts := #[]) rfl Try.underlying22 rfl ?_
  refine XO.move rfl rfl ?_
  refine XO.nil ?_
  refine XC.seq2 ?_
  refine XC.block ?_
  refine XC.keep [8, 0, 1, 7] rfl ?_
  refine XC.loop (base := [(0, _), (1, _), (7, _)]) (fun ζ : Nat => [(8, .int .i64 (ζ : Nat))]) (fun ζ Hl own => ζ ≤ l.length ∧ rest = own ∧ (∀ x ∈ l.take ζ, ¬ q x) ∧ (H = Hl)) (fun ζ => l.length - ζ) 0 (prov_cons (rfl) (prov_cons (rfl) (prov_cons (rfl) (prov_cons (rfl) prov_nil)))) (by repeat (first | exact List.Sublist.refl _ | apply List.Sublist.cons_cons | apply List.Sublist.cons)) ⟨Nat.zero_le _, rfl, by simp, rfl⟩ ?_
  rintro k Hl0 _ hle0 ⟨hkk, rfl, hno, hHl⟩
  replace hs := hs.mono hle0
  try dsimp only at ⊢
  subst hHl
  refine XC.seq ?_
  refine XC.region ?_
  refine XO.lss rfl rfl rfl ?_
  refine XO.nil ?_
  refine XC.seq2 ?_
  refine XC.seq ?_
  refine XC.cond rfl (fun c0_1 => ?_) (fun c0_1 => ?_)
  · refine XC.skip ?_
    refine XC.seq2 ?_
    refine XC.seq ?_
    refine XC.block ?_
    refine XC.seq ?_
    refine XC.region ?_
    refine XO.move rfl rfl ?_
    refine XO.assign rfl rfl ?_
    refine XO.nil ?_
    refine XC.seq2 ?_
    refine XC.seq ?_
    refine XC.region ?_
    refine XO.move rfl rfl ?_
    refine XO.move rfl rfl ?_
    refine XO.move rfl rfl ?_
    refine XO.indexN rfl hs rfl Try.underlying22 ty_40 (by omega) rfl ?_
    rintro eb14 eo14 _ x14 hx14 ⟨ax14, cx14, rfl, hd14⟩ hp14
    refine XO.loadH rfl (by assumption) ty_40 rfl rfl rfl ?_
    refine XO.callValK rfl trivial rfl (hg x14 (List.mem_of_getElem? hx14) _ _) rfl ?_
    rintro _ ⟨bq, rfl, hqq⟩
    refine XO.nil ?_
    refine XC.seq2 ?_
    refine XC.condB rfl (fun c1_4 => ?_) (fun c1_4 => ?_)
    · refine XC.seq ?_
      refine XC.region ?_
      refine XO.move rfl rfl ?_
      refine XO.assign rfl rfl ?_
      refine XO.nil ?_
      refine XC.seq2 ?_
      refine XC.ret ?_
      refine blockR ?_
      refine seqX_ret ?_
      refine loopX_ret ?_
      refine blockR ?_
      refine seqX_ret ?_
      refine ⟨rfl, _, [], rfl, (by repeat (first | exact List.Sublist.refl _ | apply List.Sublist.cons)), RetR.mk ?_⟩
      exact ⟨_, rfl, ⟨fun _ => ⟨x14, List.mem_of_getElem? hx14, hqq.1 (by assumption)⟩, fun _ => by omega⟩⟩
    · refine XC.skip ?_
      refine blockN ?_
      refine XC.seq2 ?_
      refine XC.region ?_
      refine XO.add rfl rfl (wrap_i64 (by omega) (by omega)) rfl ?_
      refine XO.move rfl rfl ?_
      refine XO.nil ?_
      refine loop_next (k + 1) (by show l.length - (k + 1) < l.length - k; omega) (prov_cons (rfl) (prov_cons (rfl) (prov_cons (rfl) (prov_cons (rfl) prov_nil)))) (⟨by show k + 1 ≤ l.length; omega, rfl, all_snoc hno hx14 (fun h => by simp_all), rfl⟩) (by repeat (first | exact List.Sublist.refl _ | apply List.Sublist.cons_cons | apply List.Sublist.cons)) (hle0)
  · obtain rfl : k = l.length := by omega
    rw [List.take_length] at hno
    refine XC.exit ?_
    refine seqX_exit ?_
    refine loopX_exit ?_
    refine blockHit rfl ?_
    refine XC.seq2 ?_
    refine XC.seq ?_
    refine XC.region ?_
    refine XO.assign rfl rfl ?_
    refine XO.nil ?_
    refine XC.seq2 ?_
    refine XC.ret ?_
    refine ⟨rfl, _, [], rfl, (by repeat (first | exact List.Sublist.refl _ | apply List.Sublist.cons)), RetR.mk ?_⟩
    exact ⟨-1, rfl, ⟨fun h => absurd h (by decide), fun ⟨x, hx, hq⟩ => absurd hq (hno x hx)⟩⟩

theorem contains_fn (a : Option Addr) (c : Nat) (l : Tb) (g : Value) (q : List Bool → Prop) (H : Hp) (hs : SlR tbR H a c l) (hl : l.length < 9223372036854775808) (hg : ∀ x ∈ l, ∀ a1 c1, FnV Try.prog g [.slice a1 x.length c1] H [] (RetR fun u _ _ => ∃ b : Bool, u = .bool b ∧ (b = true ↔ q x))) : FnC Try.prog 39 #[.slice a l.length c, g] H [] (RetR (fun v _ _ => ∃ b : Bool, v = .bool b ∧ (b = true ↔ ∃ x ∈ l, q x))) := by
  refine FnC.intro (args := [.slice a l.length c, g]) Try.func39 rfl rfl Try.ntmps39 rfl rfl rfl fun G rest => ?_
  refine XC.seq ?_
  refine XC.region ?_
  refine XO.assign rfl rfl ?_
  refine XO.nil ?_
  refine XC.seq2 ?_
  refine XC.seq ?_
  refine XC.region ?_
  refine XO.move rfl rfl ?_
  refine XO.move rfl rfl ?_
  refine XO.callK rfl (index_fn _ _ _ _ _ _ hs hl hg) rfl ?_
  rintro _ ⟨iX, rfl, hX⟩
  refine XO.geq rfl rfl rfl ?_
  refine XO.assign rfl rfl ?_
  refine XO.nil ?_
  refine XC.seq2 ?_
  refine XC.ret ?_
  refine ⟨rfl, _, [], rfl, (by repeat (first | exact List.Sublist.refl _ | apply List.Sublist.cons)), RetR.mk ?_⟩
  exact ⟨_, rfl, by rw [decide_eq_true_iff, ← hX]⟩

theorem check_fn (a : Option Addr) (c : Nat) (m : Tb) (H : Hp) (hs : SlR tbR H a c m) (hl : m.length < 9223372036854775808) : FnC Try.prog 16 #[.slice a m.length c] H [] (RetR (fun v _ _ => v = .int .i64 (chkG m))) := by
  refine FnC.intro (args := [.slice a m.length c]) Try.func16 rfl rfl Try.ntmps16 rfl rfl rfl fun G rest => ?_
  refine XC.seq ?_
  refine XC.region ?_
  refine XO.box rfl rfl rfl (fun b1 => ?_)
  refine XO.assign rfl rfl ?_
  refine XO.nil ?_
  refine XC.seq2 ?_
  refine XC.seq ?_
  refine XC.region ?_
  refine XO.assign rfl rfl ?_
  refine XO.nil ?_
  refine XC.seq2 ?_
  refine XC.seq ?_
  refine XC.region ?_
  refine XO.publish 0 rfl rfl rfl (fun HK1 oK1 hleK1 hbK1 hoK1 => ?_)
  have hpK1 := PtH.of_is hbK1 hoK1
  replace hs := hs.mono hleK1
  refine XO.makeFunc rfl rfl ?_
  refine XO.assign rfl rfl ?_
  refine XO.nil ?_
  refine XC.seq2 ?_
  refine XC.seq ?_
  refine XC.block ?_
  refine XC.seq ?_
  refine XC.region ?_
  refine XO.loadH rfl (by assumption) ty_22 rfl rfl rfl ?_
  refine XO.lenS (ts := #[]) rfl Try.underlying22 rfl ?_
  refine XO.gtr rfl rfl rfl ?_
  refine XO.move rfl rfl ?_
  refine XO.guardC rfl rfl rfl rfl (fun g1 => ?_) (fun g1 => ?_)
  · have g1p := of_decide_eq_false g1
    refine XO.loadH rfl (by assumption) ty_22 rfl rfl rfl ?_
    refine XO.guardT rfl rfl (g1) rfl ?_
    refine XO.move rfl rfl ?_
    refine XO.guardT rfl rfl (g1) rfl ?_
    refine XO.callK rfl (contains_fn _ _ m _ (fun x => 16 < x.length) _ hs hl (fun x _ a1 c1 => long_v x a1 c1 _)) rfl ?_
    rintro _ ⟨bC, rfl, hC⟩
    refine XO.pickF rfl (g1) rfl rfl ?_
    refine XO.assign rfl rfl ?_
    refine XO.nil ?_
    refine XC.seq2 ?_
    refine XC.condB rfl (fun c0_3 => ?_) (fun c0_3 => ?_)
    · refine XC.seq ?_
      refine XC.region ?_
      refine XO.assign rfl rfl ?_
      refine XO.nil ?_
      refine XC.seq2 ?_
      refine XC.ret ?_
      refine blockR ?_
      refine seqX_ret ?_
      refine ⟨rfl, _, [], rfl, (by repeat (first | exact List.Sublist.refl _ | apply List.Sublist.cons)), RetR.mk ?_⟩
      exact congrArg (Value.int .i64) (chk_2 (Or.inr (hC.1 (by assumption)))).symm
    · refine XC.seq ?_
      refine XC.region ?_
      refine XO.loadH rfl (by assumption) ty_22 rfl rfl rfl ?_
      refine XO.move rfl rfl ?_
      refine XO.callK rfl (contains_fn _ _ m _ (fun x => x.length ≠ wideM m) _ hs hl (fun x _ a1 c1 => odd_v x a1 _ c1 _ _ m _ (by assumption) hs hl)) rfl ?_
      rintro _ ⟨bD, rfl, hD⟩
      refine XO.assign rfl rfl ?_
      refine XO.nil ?_
      refine XC.seq2 ?_
      refine XC.condB rfl (fun c1_5 => ?_) (fun c1_5 => ?_)
      · refine XC.seq ?_
        refine XC.region ?_
        refine XO.assign rfl rfl ?_
        refine XO.nil ?_
        refine XC.seq2 ?_
        refine XC.ret ?_
        refine blockR ?_
        refine seqX_ret ?_
        refine ⟨rfl, _, [], rfl, (by repeat (first | exact List.Sublist.refl _ | apply List.Sublist.cons)), RetR.mk ?_⟩
        exact congrArg (Value.int .i64) (chk_370 (fun h => by rcases h with h | h; omega; simp_all) (hD.1 (by assumption))).symm
      · refine XC.skip ?_
        refine blockN ?_
        refine XC.seq2 ?_
        refine XC.seq ?_
        refine XC.region ?_
        refine XO.assign rfl rfl ?_
        refine XO.nil ?_
        refine XC.seq2 ?_
        refine XC.ret ?_
        refine ⟨rfl, _, [], rfl, (by repeat (first | exact List.Sublist.refl _ | apply List.Sublist.cons)), RetR.mk ?_⟩
        exact congrArg (Value.int .i64) (chk_0 (fun h => by rcases h with h | h; omega; simp_all) (fun h => by simp_all)).symm
  · have g1p := of_decide_eq_true g1
    refine XO.guardF rfl rfl (g1) rfl rfl ?_
    refine XO.guardF rfl rfl (g1) rfl rfl ?_
    refine XO.pickT rfl (g1) rfl rfl ?_
    refine XO.assign rfl rfl ?_
    refine XO.nil ?_
    refine XC.seq2 ?_
    refine XC.condT rfl (rfl) ?_
    refine XC.seq ?_
    refine XC.region ?_
    refine XO.assign rfl rfl ?_
    refine XO.nil ?_
    refine XC.seq2 ?_
    refine XC.ret ?_
    refine blockR ?_
    refine seqX_ret ?_
    refine ⟨rfl, _, [], rfl, (by repeat (first | exact List.Sublist.refl _ | apply List.Sublist.cons)), RetR.mk ?_⟩
    exact congrArg (Value.int .i64) (chk_2 (Or.inl (by omega))).symm

end Go.Proofs
