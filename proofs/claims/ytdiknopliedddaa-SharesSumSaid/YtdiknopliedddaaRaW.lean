/- The walks of the functions that the laws of the field and of the shares call: what each of them computes, at any input. -/
import Derived.Test.YtdiknopliedddaaXLi
import Derived.Test.YtdiknopliedddaaXLk
import Derived.Test.YtdiknopliedddaaRaM
import Derived.Test.YtdiknopliedddaaProg
set_option autoImplicit false
set_option linter.unusedVariables false
set_option linter.unusedSimpArgs false
namespace Go.Proofs
open Go.XL

theorem follows : Try.prog.follows .mixedOrders = true := by kernel_rfl
theorem bf_38 : structF Try.prog 38 = some [(0, 1), (1, 1)] := by kernel_rfl
theorem bk_38 : structK Try.prog 38 = true := by kernel_rfl
theorem by_38 : Nat.ble (Try.prog.bytesOf 38) 4096 = true := by kernel_rfl
theorem fa_38_0 : fieldF Try.prog 38 0 = some 0 := by kernel_rfl
theorem fa_38_1 : fieldF Try.prog 38 1 = some 1 := by kernel_rfl
theorem ty_3 : tyF Try.prog 3 1 false = true := by kernel_rfl
theorem ty_30 : tyF Try.prog 30 1 false = true := by kernel_rfl
theorem ty_38 : tyF Try.prog 38 2 true = true := by kernel_rfl
theorem ze_3 : zeroC Try.prog 3 = some [.int .i64 0] := by kernel_rfl
theorem ze_38 : zeroC Try.prog 38 = some [.int .i64 0, .int .i64 0] := by kernel_rfl

theorem mod_fn (a : Int) (H : Hp) : FnC Try.prog 17 #[.int .i64 a] H [] (RetR fun v _ _ => v = .int .i64 (a % 1073741789)) := by
  have hm := tmod_bd a
  refine FnC.intro (args := [.int .i64 a]) Try.func17 rfl rfl Try.ntmps17 rfl rfl rfl fun G rest => ?_
  refine XC.seq ?_
  refine XC.region ?_
  refine XO.assign rfl rfl ?_
  refine XO.nil ?_
  refine XC.seq2 ?_
  refine XC.seq ?_
  refine XC.seq ?_
  refine XC.region ?_
  refine XO.move rfl rfl ?_
  refine XO.rem rfl rfl (by decide) rfl rfl ?_
  refine XO.assign rfl rfl ?_
  refine XO.nil ?_
  refine XC.seq2 ?_
  refine XC.seq ?_
  refine XC.region ?_
  refine XO.move rfl rfl ?_
  refine XO.lss rfl rfl rfl ?_
  refine XO.nil ?_
  refine XC.seq2 ?_
  refine XC.cond rfl (fun c0_2 => ?_) (fun c0_2 => ?_)
  · refine XC.region ?_
    refine XO.move rfl rfl ?_
    refine XO.add rfl rfl (wrap_i64 (by omega) (by omega)) rfl ?_
    refine XO.assign rfl rfl ?_
    refine XO.nil ?_
    refine XC.seq2 ?_
    refine XC.seq ?_
    refine XC.region ?_
    refine XO.move rfl rfl ?_
    refine XO.assign rfl rfl ?_
    refine XO.nil ?_
    refine XC.seq2 ?_
    refine XC.ret ?_
    refine ⟨rfl, _, [], rfl, (by repeat (first | exact List.Sublist.refl _ | apply List.Sublist.cons)), RetR.mk ?_⟩
    show Value.int _ _ = _; rw [tmod_neg _ ‹_›]
  · refine XC.skip ?_
    refine XC.seq2 ?_
    refine XC.seq ?_
    refine XC.region ?_
    refine XO.move rfl rfl ?_
    refine XO.assign rfl rfl ?_
    refine XO.nil ?_
    refine XC.seq2 ?_
    refine XC.ret ?_
    refine ⟨rfl, _, [], rfl, (by repeat (first | exact List.Sublist.refl _ | apply List.Sublist.cons)), RetR.mk ?_⟩
    show Value.int _ _ = _; rw [tmod_pos _ ‹_›]

theorem rmod_fn (a : Int) (H : Hp) : FnC Try.prog 18 #[.int .i64 a] H [] (RetR fun v _ _ => v = .int .i64 (a % 1073741789)) := by
  have hm := tmod_bd a
  refine FnC.intro (args := [.int .i64 a]) Try.func18 rfl rfl Try.ntmps18 rfl rfl rfl fun G rest => ?_
  refine XC.seq ?_
  refine XC.region ?_
  refine XO.assign rfl rfl ?_
  refine XO.nil ?_
  refine XC.seq2 ?_
  refine XC.seq ?_
  refine XC.region ?_
  refine XO.move rfl rfl ?_
  refine XO.rem rfl rfl (by decide) rfl rfl ?_
  refine XO.assign rfl rfl ?_
  refine XO.nil ?_
  refine XC.seq2 ?_
  refine XC.seq ?_
  refine XC.seq ?_
  refine XC.region ?_
  refine XO.move rfl rfl ?_
  refine XO.lss rfl rfl rfl ?_
  refine XO.nil ?_
  refine XC.seq2 ?_
  refine XC.cond rfl (fun c0_2 => ?_) (fun c0_2 => ?_)
  · refine XC.region ?_
    refine XO.move rfl rfl ?_
    refine XO.add rfl rfl (wrap_i64 (by omega) (by omega)) rfl ?_
    refine XO.assign rfl rfl ?_
    refine XO.nil ?_
    refine XC.seq2 ?_
    refine XC.seq ?_
    refine XC.region ?_
    refine XO.move rfl rfl ?_
    refine XO.assign rfl rfl ?_
    refine XO.nil ?_
    refine XC.seq2 ?_
    refine XC.ret ?_
    refine ⟨rfl, _, [], rfl, (by repeat (first | exact List.Sublist.refl _ | apply List.Sublist.cons)), RetR.mk ?_⟩
    show Value.int _ _ = _; rw [tmod_neg _ ‹_›]
  · refine XC.skip ?_
    refine XC.seq2 ?_
    refine XC.seq ?_
    refine XC.region ?_
    refine XO.move rfl rfl ?_
    refine XO.assign rfl rfl ?_
    refine XO.nil ?_
    refine XC.seq2 ?_
    refine XC.ret ?_
    refine ⟨rfl, _, [], rfl, (by repeat (first | exact List.Sublist.refl _ | apply List.Sublist.cons)), RetR.mk ?_⟩
    show Value.int _ _ = _; rw [tmod_pos _ ‹_›]

theorem mul_fn (a b : Int) (H : Hp) : FnC Try.prog 21 #[.int .i64 a, .int .i64 b] H [] (RetR fun v _ _ => v = .int .i64 (a * b % 1073741789)) := by
  have hm := mul_bd a b
  refine FnC.intro (args := [.int .i64 a, .int .i64 b]) Try.func21 rfl rfl Try.ntmps21 rfl rfl rfl fun G rest => ?_
  refine XC.seq ?_
  refine XC.region ?_
  refine XO.assign rfl rfl ?_
  refine XO.nil ?_
  refine XC.seq2 ?_
  refine XC.seq ?_
  refine XC.region ?_
  refine XO.move rfl rfl ?_
  refine XO.callV rfl (mod_fn _ _) rfl ?_
  refine XO.move rfl rfl ?_
  refine XO.callV rfl (mod_fn _ _) rfl ?_
  refine XO.mul rfl rfl (wrap_i64 (by omega) (by omega)) rfl ?_
  refine XO.rem rfl rfl (by omega) (rem_nn (by omega)) rfl ?_
  refine XO.assign rfl rfl ?_
  refine XO.nil ?_
  refine XC.seq2 ?_
  refine XC.ret ?_
  refine ⟨rfl, _, [], rfl, (by repeat (first | exact List.Sublist.refl _ | apply List.Sublist.cons)), RetR.mk ?_⟩
  show Value.int _ _ = _; rw [← Int.mul_emod]

theorem rmul_fn (a b : Int) (H : Hp) : FnC Try.prog 22 #[.int .i64 a, .int .i64 b] H [] (RetR fun v _ _ => v = .int .i64 (a * b % 1073741789)) := by
  have hm := mul_bd a b
  refine FnC.intro (args := [.int .i64 a, .int .i64 b]) Try.func22 rfl rfl Try.ntmps22 rfl rfl rfl fun G rest => ?_
  refine XC.seq ?_
  refine XC.region ?_
  refine XO.assign rfl rfl ?_
  refine XO.nil ?_
  refine XC.seq2 ?_
  refine XC.seq ?_
  refine XC.region ?_
  refine XO.move rfl rfl ?_
  refine XO.callV rfl (rmod_fn _ _) rfl ?_
  refine XO.move rfl rfl ?_
  refine XO.callV rfl (rmod_fn _ _) rfl ?_
  refine XO.mul rfl rfl (wrap_i64 (by omega) (by omega)) rfl ?_
  refine XO.rem rfl rfl (by omega) (rem_nn (by omega)) rfl ?_
  refine XO.assign rfl rfl ?_
  refine XO.nil ?_
  refine XC.seq2 ?_
  refine XC.ret ?_
  refine ⟨rfl, _, [], rfl, (by repeat (first | exact List.Sublist.refl _ | apply List.Sublist.cons)), RetR.mk ?_⟩
  show Value.int _ _ = _; rw [← Int.mul_emod]

theorem sum_fn (a : Option Addr) (c : Nat) (l : List Int) (H : Hp) (hs : SlR (intR .i64) H a c l) (hl : l.length < 4611686018427387904) : FnC Try.prog 39 #[.slice a l.length c] H [] (RetR fun v _ _ => v = .int .i64 (l.sum % 1073741789)) := by
  refine FnC.intro (args := [.slice a l.length c]) Try.func39 rfl rfl Try.ntmps39 rfl rfl rfl fun G rest => ?_
  refine XC.seq ?_
  refine XC.region ?_
  refine XO.assign rfl rfl ?_
  refine XO.nil ?_
  refine XC.seq2 ?_
  refine XC.seq ?_
  refine XC.region ?_
  refine XO.assign rfl rfl ?_
  refine XO.nil ?_
  refine XC.seq2 ?_
  refine XC.seq ?_
  refine XC.seq ?_
  refine XC.region ?_
  refine XO.move rfl rfl ?_
  refine XO.lenS (ts := #[]) rfl Try.underlying29 rfl ?_
  refine XO.move rfl rfl ?_
  refine XO.nil ?_
  refine XC.seq2 ?_
  refine XC.block ?_
  refine XC.keep [3, 8, 6, 7] rfl ?_
  refine XC.loop (base := [(6, _), (7, _)]) (fun k => [(3, .int .i64 ((l.take k).sum % 1073741789)), (8, .int .i64 (k : Nat))]) (fun k Hl own => k ≤ l.length ∧ rest = own ∧ H = Hl) (fun k => l.length - k) 0 (prov_cons (rfl) (prov_cons (rfl) (prov_cons (rfl) (prov_cons (rfl) prov_nil)))) (List.Sublist.refl _) ⟨Nat.zero_le _, rfl, rfl⟩ ?_
  rintro k Hl _ hle ⟨hk, rfl, rfl⟩
  refine XC.seq ?_
  refine XC.region ?_
  refine XO.lss rfl rfl rfl ?_
  refine XO.nil ?_
  refine XC.seq2 ?_
  refine XC.seq ?_
  refine XC.cond rfl (fun c0_1 => ?_) (fun c0_1 => ?_)
  · refine XC.skip ?_
    refine XC.seq2 ?_
    refine XC.seq ?_
    refine XC.block ?_
    refine XC.seq ?_
    refine XC.region ?_
    refine XO.indexN rfl (by assumption) rfl Try.underlying29 ty_3 (by omega) rfl ?_
    rintro eb eo _ xE hxE rfl hpE
    refine XO.loadH rfl (by assumption) ty_3 rfl rfl rfl ?_
    refine XO.assign rfl rfl ?_
    refine XO.nil ?_
    refine XC.seq2 ?_
    refine XC.region ?_
    refine XO.move rfl rfl ?_
    refine XO.move rfl rfl ?_
    refine XO.callV rfl (mod_fn _ _) rfl ?_
    refine XO.add rfl rfl (wrap_i64 (by omega) (by omega)) rfl ?_
    refine XO.rem rfl rfl (by omega) (rem_nn (by omega)) rfl ?_
    refine XO.assign rfl rfl ?_
    refine XO.nil ?_
    refine blockN ?_
    refine XC.seq2 ?_
    refine XC.region ?_
    refine XO.add rfl rfl (wrap_i64 (by omega) (by omega)) rfl ?_
    refine XO.move rfl rfl ?_
    refine XO.nil ?_
    refine loop_next (k + 1) (by omega) (prov_cons (by rw [sum_take _ _ _ hxE]; rfl) (prov_cons (rfl) (prov_cons (rfl) (prov_cons (rfl) prov_nil)))) (⟨by omega, rfl, rfl⟩) (by repeat (first | exact List.Sublist.refl _ | apply List.Sublist.cons)) hle
  · refine XC.exit ?_
    refine seqX_exit ?_
    refine loopX_exit ?_
    refine blockHit rfl ?_
    refine XC.seq2 ?_
    refine XC.seq ?_
    refine XC.region ?_
    refine XO.move rfl rfl ?_
    refine XO.assign rfl rfl ?_
    refine XO.nil ?_
    refine XC.seq2 ?_
    refine XC.ret ?_
    refine ⟨rfl, _, [], rfl, (by repeat (first | exact List.Sublist.refl _ | apply List.Sublist.cons)), RetR.mk ?_⟩
    show Value.int _ _ = _; rw [List.take_of_length_le (by omega)]

theorem add_fn (a b : Int) (H : Hp) : FnC Try.prog 19 #[.int .i64 a, .int .i64 b] H [] (RetR fun v _ _ => v = .int .i64 ((a + b) % 1073741789)) := by
  refine FnC.intro (args := [.int .i64 a, .int .i64 b]) Try.func19 rfl rfl Try.ntmps19 rfl rfl rfl fun G rest => ?_
  refine XC.seq ?_
  refine XC.region ?_
  refine XO.assign rfl rfl ?_
  refine XO.nil ?_
  refine XC.seq2 ?_
  refine XC.seq ?_
  refine XC.region ?_
  refine XO.move rfl rfl ?_
  refine XO.move rfl rfl ?_
  refine XO.buildSlice rfl Try.underlying29 ty_3 ze_3 rfl rfl rfl (fun b7 => ?_)
  refine XO.publish 0 rfl rfl rfl (fun HP oP hleP hbP hoP => ?_)
  have hsl := SlR.ints hbP hoP (l := [_, _]) rfl
  refine XO.callV rfl (sum_fn _ _ [_, _] _ hsl (by simp)) rfl ?_
  refine XO.assign rfl rfl ?_
  refine XO.nil ?_
  refine XC.seq2 ?_
  refine XC.ret ?_
  refine ⟨rfl, _, [], rfl, (by repeat (first | exact List.Sublist.refl _ | apply List.Sublist.cons)), RetR.mk ?_⟩
  show Value.int _ _ = _; simp

theorem radd_fn (a b : Int) (H : Hp) : FnC Try.prog 20 #[.int .i64 a, .int .i64 b] H [] (RetR fun v _ _ => v = .int .i64 ((a + b) % 1073741789)) := by
  refine FnC.intro (args := [.int .i64 a, .int .i64 b]) Try.func20 rfl rfl Try.ntmps20 rfl rfl rfl fun G rest => ?_
  refine XC.seq ?_
  refine XC.region ?_
  refine XO.assign rfl rfl ?_
  refine XO.nil ?_
  refine XC.seq2 ?_
  refine XC.seq ?_
  refine XC.region ?_
  refine XO.move rfl rfl ?_
  refine XO.callV rfl (rmod_fn _ _) rfl ?_
  refine XO.move rfl rfl ?_
  refine XO.callV rfl (rmod_fn _ _) rfl ?_
  refine XO.add rfl rfl (wrap_i64 (by omega) (by omega)) rfl ?_
  refine XO.rem rfl rfl (by omega) (rem_nn (by omega)) rfl ?_
  refine XO.assign rfl rfl ?_
  refine XO.nil ?_
  refine XC.seq2 ?_
  refine XC.ret ?_
  refine ⟨rfl, _, [], rfl, (by repeat (first | exact List.Sublist.refl _ | apply List.Sublist.cons)), RetR.mk ?_⟩
  show Value.int _ _ = _; rw [← Int.add_emod]

theorem power_fn (a : Int) (H : Hp) : FnC Try.prog 38 #[.int .i64 a, .int .i64 1073741787] H [] (RetR fun v _ _ => v = .int .i64 (invQ a)) := by
  refine FnC.intro (args := [.int .i64 a, .int .i64 1073741787]) Try.func38 rfl rfl Try.ntmps38 rfl rfl rfl fun G rest => ?_
  refine XC.seq ?_
  refine XC.region ?_
  refine XO.assign rfl rfl ?_
  refine XO.nil ?_
  refine XC.seq2 ?_
  refine XC.seq ?_
  refine XC.region ?_
  refine XO.assign rfl rfl ?_
  refine XO.nil ?_
  refine XC.seq2 ?_
  refine XC.seq ?_
  refine XC.block ?_
  refine XC.keep [0, 1, 5] rfl ?_
  refine XC.loop (base := []) (fun p : Int × Nat × Int => [(0, .int .i64 p.2.2), (1, .int .i64 (p.2.1 : Nat)), (5, .int .i64 p.1)]) (fun p Hl own => (∃ f : Nat, p.2.1 < 2 ^ f ∧ f ≤ 31 ∧ pwF f p.1 p.2.2 p.2.1 = invQ a) ∧ rest = own ∧ H = Hl) (fun p => p.2.1) (1, 1073741787, a) (prov_cons (rfl) (prov_cons (rfl) (prov_cons (rfl) prov_nil))) (List.Sublist.refl _) ⟨⟨31, (by show (1073741787 : Nat) < 2 ^ 31; decide), by decide, rfl⟩, rfl, rfl⟩ ?_
  rintro ⟨x, left, sq⟩ Hl _ hle ⟨⟨f, hf1, hf2, hf3⟩, rfl, rfl⟩
  have hf2 : left < 2147483648 := Nat.lt_of_lt_of_le hf1 (Nat.pow_le_pow_right (by decide) hf2)
  simp only at hf1 hf3 ⊢
  refine XC.seq ?_
  refine XC.seq ?_
  refine XC.region ?_
  refine XO.move rfl rfl ?_
  refine XO.gtr rfl rfl rfl ?_
  refine XO.nil ?_
  refine XC.seq2 ?_
  refine XC.cond rfl (fun c0_1 => ?_) (fun c0_1 => ?_)
  · have h0 : left ≠ 0 := by omega
    obtain ⟨f, rfl⟩ : ∃ g, f = g + 1 := by cases f with | zero => (simp at hf1; omega) | succ g => exact ⟨g, rfl⟩
    obtain ⟨hp1, hp2⟩ := pwF_step (x := x) (sq := sq) h0 hf1
    refine XC.skip ?_
    refine XC.seq2 ?_
    refine XC.block ?_
    refine XC.seq ?_
    refine XC.seq ?_
    refine XC.region ?_
    refine XO.move rfl rfl ?_
    refine XO.rem rfl rfl (by omega) (rem_nn (by omega)) rfl ?_
    refine XO.eql rfl rfl rfl ?_
    refine XO.nil ?_
    refine XC.seq2 ?_
    refine XC.cond rfl (fun c1_2 => ?_) (fun c1_2 => ?_)
    · have h1 : left % 2 = 1 := by omega
      rw [if_pos h1] at hp2
      refine XC.region ?_
      refine XO.move rfl rfl ?_
      refine XO.move rfl rfl ?_
      refine XO.callV rfl (rmul_fn _ _ _) rfl ?_
      refine XO.assign rfl rfl ?_
      refine XO.nil ?_
      refine XC.seq2 ?_
      refine XC.seq ?_
      refine XC.region ?_
      refine XO.move rfl rfl ?_
      refine XO.move rfl rfl ?_
      refine XO.callV rfl (rmul_fn _ _ _) rfl ?_
      refine XO.assign rfl rfl ?_
      refine XO.nil ?_
      refine XC.seq2 ?_
      refine XC.region ?_
      refine XO.move rfl rfl ?_
      refine XO.quo rfl rfl (by omega) (quo_i64 (by omega) (by omega) (by omega)) rfl ?_
      refine XO.assign rfl rfl ?_
      refine XO.nil ?_
      refine blockN ?_
      refine loop_next ((_, left / 2, sq * sq % 1073741789)) (by show left / 2 < left; omega) (prov_cons (rfl) (prov_cons (rfl) (prov_cons (rfl) prov_nil))) (⟨⟨f, hp1, by omega, by rw [← hf3, hp2]⟩, rfl, rfl⟩) (by repeat (first | exact List.Sublist.refl _ | apply List.Sublist.cons)) hle
    · have h1 : ¬ left % 2 = 1 := by omega
      rw [if_neg h1] at hp2
      refine XC.skip ?_
      refine XC.seq2 ?_
      refine XC.seq ?_
      refine XC.region ?_
      refine XO.move rfl rfl ?_
      refine XO.move rfl rfl ?_
      refine XO.callV rfl (rmul_fn _ _ _) rfl ?_
      refine XO.assign rfl rfl ?_
      refine XO.nil ?_
      refine XC.seq2 ?_
      refine XC.region ?_
      refine XO.move rfl rfl ?_
      refine XO.quo rfl rfl (by omega) (quo_i64 (by omega) (by omega) (by omega)) rfl ?_
      refine XO.assign rfl rfl ?_
      refine XO.nil ?_
      refine blockN ?_
      refine loop_next ((_, left / 2, sq * sq % 1073741789)) (by show left / 2 < left; omega) (prov_cons (rfl) (prov_cons (rfl) (prov_cons (rfl) prov_nil))) (⟨⟨f, hp1, by omega, by rw [← hf3, hp2]⟩, rfl, rfl⟩) (by repeat (first | exact List.Sublist.refl _ | apply List.Sublist.cons)) hle
  · obtain rfl : left = 0 := by omega
    rw [pwF_zero] at hf3; subst hf3
    refine XC.exit ?_
    refine seqX_exit ?_
    refine loopX_exit ?_
    refine blockHit rfl ?_
    refine XC.seq2 ?_
    refine XC.seq ?_
    refine XC.region ?_
    refine XO.move rfl rfl ?_
    refine XO.assign rfl rfl ?_
    refine XO.nil ?_
    refine XC.seq2 ?_
    refine XC.ret ?_
    refine ⟨rfl, _, [], rfl, (by repeat (first | exact List.Sublist.refl _ | apply List.Sublist.cons)), RetR.mk ?_⟩
    rfl

theorem rinv_fn (a : Int) (H : Hp) : FnC Try.prog 16 #[.int .i64 a] H [] (RetR fun v _ _ => v = .tuple #[.int .i64 (inv0 a), .int .i64 (invE a)]) := by
  refine FnC.intro (args := [.int .i64 a]) Try.func16 rfl rfl Try.ntmps16 rfl rfl rfl fun G rest => ?_
  refine XC.seq ?_
  refine XC.region ?_
  refine XO.assign rfl rfl ?_
  refine XO.assign rfl rfl ?_
  refine XO.nil ?_
  refine XC.seq2 ?_
  refine XC.seq ?_
  refine XC.seq ?_
  refine XC.region ?_
  refine XO.move rfl rfl ?_
  refine XO.callV rfl (rmod_fn _ _) rfl ?_
  refine XO.eql rfl rfl rfl ?_
  refine XO.nil ?_
  refine XC.seq2 ?_
  refine XC.cond rfl (fun c0_2 => ?_) (fun c0_2 => ?_)
  · refine XC.seq ?_
    refine XC.region ?_
    refine XO.assign rfl rfl ?_
    refine XO.assign rfl rfl ?_
    refine XO.nil ?_
    refine XC.seq2 ?_
    refine XC.ret ?_
    refine seqX_ret ?_
    refine ⟨rfl, _, [], rfl, (by repeat (first | exact List.Sublist.refl _ | apply List.Sublist.cons)), RetR.mk ?_⟩
    show _ = Value.tuple _; first | (rw [inv0, invE, if_pos ‹_›, if_pos ‹_›]; rfl) | (rw [inv0, invE, if_neg ‹_›, if_neg ‹_›]; rfl)
  · refine XC.skip ?_
    refine XC.seq2 ?_
    refine XC.seq ?_
    refine XC.region ?_
    refine XO.move rfl rfl ?_
    refine XO.callV rfl (power_fn _ _) rfl ?_
    refine XO.assign rfl rfl ?_
    refine XO.assign rfl rfl ?_
    refine XO.nil ?_
    refine XC.seq2 ?_
    refine XC.ret ?_
    refine ⟨rfl, _, [], rfl, (by repeat (first | exact List.Sublist.refl _ | apply List.Sublist.cons)), RetR.mk ?_⟩
    show _ = Value.tuple _; first | (rw [inv0, invE, if_pos ‹_›, if_pos ‹_›]; rfl) | (rw [inv0, invE, if_neg ‹_›, if_neg ‹_›]; rfl)

theorem inv_fn (a : Int) (H : Hp) : FnC Try.prog 15 #[.int .i64 a] H [] (RetR fun v _ _ => v = .tuple #[.int .i64 (inv0 a), .int .i64 (invE a)]) := by
  refine FnC.intro (args := [.int .i64 a]) Try.func15 rfl rfl Try.ntmps15 rfl rfl rfl fun G rest => ?_
  refine XC.seq ?_
  refine XC.region ?_
  refine XO.assign rfl rfl ?_
  refine XO.assign rfl rfl ?_
  refine XO.nil ?_
  refine XC.seq2 ?_
  refine XC.scope ?_
  refine XC.seq ?_
  refine XC.seq ?_
  refine XC.region ?_
  refine XO.move rfl rfl ?_
  refine XO.callV rfl (mod_fn _ _) rfl ?_
  refine XO.eql rfl rfl rfl ?_
  refine XO.nil ?_
  refine XC.seq2 ?_
  refine XC.cond rfl (fun c0_2 => ?_) (fun c0_2 => ?_)
  · refine XC.seq ?_
    refine XC.region ?_
    refine XO.assign rfl rfl ?_
    refine XO.assign rfl rfl ?_
    refine XO.nil ?_
    refine XC.seq2 ?_
    refine XC.ret ?_
    refine seqX_ret ?_
    refine scopeX_ret ?_
    refine ⟨rfl, _, [], rfl, (by repeat (first | exact List.Sublist.refl _ | apply List.Sublist.cons)), RetR.mk ?_⟩
    show _ = Value.tuple _; first | (rw [inv0, invE, if_pos ‹_›, if_pos ‹_›]; rfl) | (rw [inv0, invE, if_neg ‹_›, if_neg ‹_›]; rfl)
  · refine XC.skip ?_
    refine XC.seq2 ?_
    refine XC.seq ?_
    refine XC.region ?_
    refine XO.assign rfl rfl ?_
    refine XO.nil ?_
    refine XC.seq2 ?_
    refine XC.seq ?_
    refine XC.label ?_
    refine XC.seq2 ?_
    refine XC.seq ?_
    refine XC.seq ?_
    refine XC.region ?_
    refine XO.move rfl rfl ?_
    refine XO.assign rfl rfl ?_
    refine XO.assign rfl rfl ?_
    refine XO.nil ?_
    refine XC.seq2 ?_
    refine XC.block ?_
    refine XC.keep [2, 4, 5] rfl ?_
    refine XC.loop (base := []) (fun p : Int × Nat × Int => [(2, .int .i64 p.1), (4, .int .i64 (p.2.1 : Nat)), (5, .int .i64 p.2.2)]) (fun p Hl own => (∃ f : Nat, p.2.1 < 2 ^ f ∧ f ≤ 31 ∧ pwF f p.1 p.2.2 p.2.1 = invQ a) ∧ rest = own ∧ H = Hl) (fun p => p.2.1) (1, 1073741787, a) (prov_cons (rfl) (prov_cons (rfl) (prov_cons (rfl) prov_nil))) (List.Sublist.refl _) ⟨⟨31, (by show (1073741787 : Nat) < 2 ^ 31; decide), by decide, rfl⟩, rfl, rfl⟩ ?_
    rintro ⟨x, left, sq⟩ Hl _ hle ⟨⟨f, hf1, hf2, hf3⟩, rfl, rfl⟩
    have hf2 : left < 2147483648 := Nat.lt_of_lt_of_le hf1 (Nat.pow_le_pow_right (by decide) hf2)
    simp only at hf1 hf3 ⊢
    refine XC.seq ?_
    refine XC.block ?_
    refine XC.block ?_
    refine XC.seq ?_
    refine XC.region ?_
    refine XO.move rfl rfl ?_
    refine XO.eql rfl rfl rfl ?_
    refine XO.assign rfl rfl ?_
    refine XO.nil ?_
    refine XC.seq2 ?_
    refine XC.cond rfl (fun c1_3 => ?_) (fun c1_3 => ?_)
    · obtain rfl : left = 0 := by omega
      rw [pwF_zero] at hf3; subst hf3
      refine XC.exit ?_
      refine blockMiss rfl ?_
      refine blockMiss rfl ?_
      refine seqX_exit ?_
      refine loopX_exit ?_
      refine blockHit rfl ?_
      refine XC.seq2 ?_
      refine XC.seq ?_
      refine XC.region ?_
      refine XO.move rfl rfl ?_
      refine XO.assign rfl rfl ?_
      refine XO.assign rfl rfl ?_
      refine XO.nil ?_
      refine XC.seq2 ?_
      refine XC.ret ?_
      refine scopeX_ret ?_
      refine ⟨rfl, _, [], rfl, (by repeat (first | exact List.Sublist.refl _ | apply List.Sublist.cons)), RetR.mk ?_⟩
      show _ = Value.tuple _; first | (rw [inv0, invE, if_pos ‹_›, if_pos ‹_›]; rfl) | (rw [inv0, invE, if_neg ‹_›, if_neg ‹_›]; rfl)
    · have h0 : left ≠ 0 := by omega
      obtain ⟨f, rfl⟩ : ∃ g, f = g + 1 := by cases f with | zero => (simp at hf1; omega) | succ g => exact ⟨g, rfl⟩
      obtain ⟨hp1, hp2⟩ := pwF_step (x := x) (sq := sq) h0 hf1
      refine XC.seq ?_
      refine XC.region ?_
      refine XO.move rfl rfl ?_
      refine XO.rem rfl rfl (by omega) (rem_nn (by omega)) rfl ?_
      refine XO.eql rfl rfl rfl ?_
      refine XO.assign rfl rfl ?_
      refine XO.nil ?_
      refine XC.seq2 ?_
      refine XC.cond rfl (fun c2_4 => ?_) (fun c2_4 => ?_)
      · have h1 : left % 2 = 1 := by omega
        rw [if_pos h1] at hp2
        refine XC.region ?_
        refine XO.move rfl rfl ?_
        refine XO.move rfl rfl ?_
        refine XO.callV rfl (mul_fn _ _ _) rfl ?_
        refine XO.assign rfl rfl ?_
        refine XO.nil ?_
        refine blockN ?_
        refine blockN ?_
        refine XC.seq2 ?_
        refine XC.region ?_
        refine XO.move rfl rfl ?_
        refine XO.quo rfl rfl (by omega) (quo_i64 (by omega) (by omega) (by omega)) rfl ?_
        refine XO.move rfl rfl ?_
        refine XO.move rfl rfl ?_
        refine XO.callV rfl (mul_fn _ _ _) rfl ?_
        refine XO.assign rfl rfl ?_
        refine XO.assign rfl rfl ?_
        refine XO.nil ?_
        refine loop_next ((_, left / 2, sq * sq % 1073741789)) (by show left / 2 < left; omega) (prov_cons (rfl) (prov_cons (rfl) (prov_cons (rfl) prov_nil))) (⟨⟨f, hp1, by omega, by rw [← hf3, hp2]⟩, rfl, rfl⟩) (by repeat (first | exact List.Sublist.refl _ | apply List.Sublist.cons)) hle
      · have h1 : ¬ left % 2 = 1 := by omega
        rw [if_neg h1] at hp2
        refine XC.skip ?_
        refine blockN ?_
        refine blockN ?_
        refine XC.seq2 ?_
        refine XC.region ?_
        refine XO.move rfl rfl ?_
        refine XO.quo rfl rfl (by omega) (quo_i64 (by omega) (by omega) (by omega)) rfl ?_
        refine XO.move rfl rfl ?_
        refine XO.move rfl rfl ?_
        refine XO.callV rfl (mul_fn _ _ _) rfl ?_
        refine XO.assign rfl rfl ?_
        refine XO.assign rfl rfl ?_
        refine XO.nil ?_
        refine loop_next ((_, left / 2, sq * sq % 1073741789)) (by show left / 2 < left; omega) (prov_cons (rfl) (prov_cons (rfl) (prov_cons (rfl) prov_nil))) (⟨⟨f, hp1, by omega, by rw [← hf3, hp2]⟩, rfl, rfl⟩) (by repeat (first | exact List.Sublist.refl _ | apply List.Sublist.cons)) hle

theorem value_fn (a : Option Addr) (c : Nat) (l : List Int) (at_ : Int) (H : Hp) (hs : SlR (intR .i64) H a c l) (hl : l.length < 4611686018427387904) : FnC Try.prog 26 #[.slice a l.length c, .int .i64 at_] H [] (RetR fun v _ _ => v = .int .i64 (valP at_ l 0 1)) := by
  refine FnC.intro (args := [.slice a l.length c, .int .i64 at_]) Try.func26 rfl rfl Try.ntmps26 rfl rfl rfl fun G rest => ?_
  refine XC.seq ?_
  refine XC.region ?_
  refine XO.assign rfl rfl ?_
  refine XO.nil ?_
  refine XC.seq2 ?_
  refine XC.seq ?_
  refine XC.region ?_
  refine XO.assign rfl rfl ?_
  refine XO.nil ?_
  refine XC.seq2 ?_
  refine XC.seq ?_
  refine XC.seq ?_
  refine XC.region ?_
  refine XO.move rfl rfl ?_
  refine XO.lenS (ts := #[]) rfl Try.underlying29 rfl ?_
  refine XO.move rfl rfl ?_
  refine XO.nil ?_
  refine XC.seq2 ?_
  refine XC.block ?_
  refine XC.keep [4, 5, 10, 1, 8, 9] rfl ?_
  refine XC.loop (base := [(1, _), (8, _), (9, _)]) (fun p : Nat × Int × Int => [(4, .int .i64 p.2.1), (5, .int .i64 p.2.2), (10, .int .i64 (p.1 : Nat))]) (fun p Hl own => (valP at_ (l.drop p.1) p.2.1 p.2.2 = valP at_ l 0 1 ∧ p.1 ≤ l.length) ∧ rest = own ∧ Le H Hl) (fun p => l.length - p.1) (0, 0, 1) (prov_cons (rfl) (prov_cons (rfl) (prov_cons (rfl) (prov_cons (rfl) (prov_cons (rfl) (prov_cons (rfl) prov_nil)))))) (List.Sublist.refl _) ⟨⟨rfl, Nat.zero_le _⟩, rfl, Le.refl _⟩ ?_
  rintro ⟨k, y, pw⟩ Hl _ hle ⟨⟨hv, hk⟩, rfl, hH⟩
  replace hs := hs.mono hH
  simp only at hv hk ⊢
  refine XC.seq ?_
  refine XC.region ?_
  refine XO.lss rfl rfl rfl ?_
  refine XO.nil ?_
  refine XC.seq2 ?_
  refine XC.seq ?_
  refine XC.cond rfl (fun c0_1 => ?_) (fun c0_1 => ?_)
  · refine XC.skip ?_
    refine XC.seq2 ?_
    refine XC.seq ?_
    refine XC.block ?_
    refine XC.seq ?_
    refine XC.region ?_
    refine XO.indexN rfl (by assumption) rfl Try.underlying29 ty_3 (by omega) rfl ?_
    rintro eb eo _ xE hxE rfl hpE
    refine XO.loadH rfl (by assumption) ty_3 rfl rfl rfl ?_
    refine XO.assign rfl rfl ?_
    refine XO.nil ?_
    refine XC.seq2 ?_
    refine XC.seq ?_
    refine XC.region ?_
    refine XO.move rfl rfl ?_
    refine XO.move rfl rfl ?_
    refine XO.move rfl rfl ?_
    refine XO.callV rfl (mul_fn _ _ _) rfl ?_
    refine XO.buildSlice rfl Try.underlying29 ty_3 ze_3 rfl rfl rfl (fun b18 => ?_)
    refine XO.publish 0 rfl rfl rfl (fun HP oP hleP hbP hoP => ?_)
    have hsl := SlR.ints hbP hoP (l := [_, _]) rfl
    refine XO.callV rfl (sum_fn _ _ [_, _] _ hsl (by simp)) rfl ?_
    refine XO.assign rfl rfl ?_
    refine XO.nil ?_
    refine XC.seq2 ?_
    refine XC.region ?_
    refine XO.move rfl rfl ?_
    refine XO.move rfl rfl ?_
    refine XO.callV rfl (mul_fn _ _ _) rfl ?_
    refine XO.assign rfl rfl ?_
    refine XO.nil ?_
    refine blockN ?_
    refine XC.seq2 ?_
    refine XC.region ?_
    refine XO.add rfl rfl (wrap_i64 (by omega) (by omega)) rfl ?_
    refine XO.move rfl rfl ?_
    refine XO.nil ?_
    refine loop_next ((k + 1, _, _)) (by show l.length - (k + 1) < l.length - k; omega) (prov_cons (rfl) (prov_cons (rfl) (prov_cons (rfl) (prov_cons (rfl) (prov_cons (rfl) (prov_cons (rfl) prov_nil)))))) (⟨⟨by rw [drop_cons hxE] at hv; simpa [valP] using hv, by omega⟩, rfl, hH.trans hleP⟩) (by repeat (first | exact List.Sublist.refl _ | apply List.Sublist.cons)) (hle.trans hleP)
  · obtain rfl : k = l.length := by omega
    rw [List.drop_length] at hv
    refine XC.exit ?_
    refine seqX_exit ?_
    refine loopX_exit ?_
    refine blockHit rfl ?_
    refine XC.seq2 ?_
    refine XC.seq ?_
    refine XC.region ?_
    refine XO.move rfl rfl ?_
    refine XO.assign rfl rfl ?_
    refine XO.nil ?_
    refine XC.seq2 ?_
    refine XC.ret ?_
    refine ⟨rfl, _, [], rfl, (by repeat (first | exact List.Sublist.refl _ | apply List.Sublist.cons)), RetR.mk ?_⟩
    show Value.int _ _ = _; rw [← hv]; rfl

theorem rvalue_fn (a : Option Addr) (c : Nat) (l : List Int) (at_ : Int) (H : Hp) (hs : SlR (intR .i64) H a c l) (hl : l.length < 4611686018427387904) : FnC Try.prog 27 #[.slice a l.length c, .int .i64 at_] H [] (RetR fun v _ _ => v = .int .i64 (valR at_ l)) := by
  refine FnC.intro (args := [.slice a l.length c, .int .i64 at_]) Try.func27 rfl rfl Try.ntmps27 rfl rfl rfl fun G rest => ?_
  refine XC.seq ?_
  refine XC.region ?_
  refine XO.assign rfl rfl ?_
  refine XO.nil ?_
  refine XC.seq2 ?_
  refine XC.seq ?_
  refine XC.region ?_
  refine XO.assign rfl rfl ?_
  refine XO.nil ?_
  refine XC.seq2 ?_
  refine XC.seq ?_
  refine XC.seq ?_
  refine XC.region ?_
  refine XO.move rfl rfl ?_
  refine XO.lenS (ts := #[]) rfl Try.underlying29 rfl ?_
  refine XO.sub rfl rfl (wrap_i64 (by omega) (by omega)) rfl ?_
  refine XO.assign rfl rfl ?_
  refine XO.nil ?_
  refine XC.seq2 ?_
  refine XC.block ?_
  refine XC.keep [5, 6, 0, 1] rfl ?_
  refine XC.loop (base := [(0, _), (1, _)]) (fun k : Nat => [(5, .int .i64 (valR at_ (l.drop k))), (6, .int .i64 ((k : Int) - 1))]) (fun k Hl own => k ≤ l.length ∧ rest = own ∧ H = Hl) (fun k => k) l.length (prov_cons (by rw [List.drop_length]; rfl) (prov_cons (rfl) (prov_cons (rfl) (prov_cons (rfl) prov_nil)))) (List.Sublist.refl _) ⟨Nat.le_refl _, rfl, rfl⟩ ?_
  rintro k Hl _ hle ⟨hk, rfl, rfl⟩
  refine XC.seq ?_
  refine XC.seq ?_
  refine XC.region ?_
  refine XO.move rfl rfl ?_
  refine XO.geq rfl rfl rfl ?_
  refine XO.nil ?_
  refine XC.seq2 ?_
  refine XC.cond rfl (fun c0_1 => ?_) (fun c0_1 => ?_)
  · obtain ⟨k, rfl⟩ : ∃ j, k = j + 1 := ⟨k - 1, by omega⟩
    refine XC.skip ?_
    refine XC.seq2 ?_
    refine XC.seq ?_
    refine XC.block ?_
    refine XC.keep [0, 1, 5, 6] rfl ?_
    obtain ⟨b0, o0, rfl⟩ := hs.addr (by omega)
    obtain ⟨_, xE, hxE, rfl, hpE⟩ := hs.elem k (by omega)
    have e : (((k + 1 : Nat) : Int) - 1).toNat = k := by omega
    rw [← e] at hpE
    apply XC.draw 8 [eqF _, eqF _, eqF _, eqF _, eqF _, eqF _, eqF _, eqF _] follows (by kernel_rfl) (by kernel_rfl) ⟨eqF_mono _, eqF_mono _, eqF_mono _, eqF_mono _, eqF_mono _, eqF_mono _, eqF_mono _, eqF_mono _, trivial⟩ ?steps2 ?tail2
    case steps2 =>
      refine stepsK_cons rfl ?_ ?_
      · intro X
        refine withPreds_nil rfl ?_
        refine XO.move rfl rfl ?_
        refine XO.nil ?_
        exact stepQ_ok rfl (rfl)
      refine stepsK_cons rfl ?_ ?_
      · intro X
        refine withPreds_nil rfl ?_
        refine XO.move rfl rfl ?_
        refine XO.nil ?_
        exact stepQ_ok rfl (rfl)
      refine stepsK_cons rfl ?_ ?_
      · intro X
        refine withPreds_cons rfl rfl ?_
        rintro _ rfl
        refine withPreds_cons rfl rfl ?_
        rintro _ rfl
        refine withPreds_nil rfl ?_
        refine XO.callV rfl (rmul_fn _ _ _) rfl ?_
        refine XO.nil ?_
        exact stepQ_ok rfl (rfl)
      refine stepsK_cons rfl ?_ ?_
      · intro X
        refine withPreds_nil rfl ?_
        refine XO.move rfl rfl ?_
        refine XO.nil ?_
        exact stepQ_ok rfl (rfl)
      refine stepsK_cons rfl ?_ ?_
      · intro X
        refine withPreds_nil rfl ?_
        refine XO.move rfl rfl ?_
        refine XO.nil ?_
        exact stepQ_ok rfl (rfl)
      refine stepsK_cons rfl ?_ ?_
      · intro X
        refine withPreds_cons rfl rfl ?_
        rintro _ rfl
        refine withPreds_cons rfl rfl ?_
        rintro _ rfl
        refine withPreds_nil rfl ?_
        refine XO.indexE rfl rfl Try.underlying29 ty_3 (by omega) (by omega) rfl ?_
        refine XO.nil ?_
        exact stepQ_ok rfl (rfl)
      refine stepsK_cons rfl ?_ ?_
      · intro X
        refine withPreds_cons rfl rfl ?_
        rintro _ rfl
        refine withPreds_nil rfl ?_
        refine XO.loadH rfl (by assumption) ty_3 rfl rfl rfl ?_
        refine XO.nil ?_
        exact stepQ_ok rfl (rfl)
      refine stepsK_cons rfl ?_ ?_
      · intro X
        refine withPreds_cons rfl rfl ?_
        rintro _ rfl
        refine withPreds_cons rfl rfl ?_
        rintro _ rfl
        refine withPreds_nil rfl ?_
        refine XO.callV rfl (radd_fn _ _ _) rfl ?_
        refine XO.nil ?_
        exact stepQ_ok rfl (rfl)
      exact stepsD_end rfl
    case tail2 =>
      refine withPreds_cons rfl rfl ?_
      rintro _ rfl
      refine withPreds_cons rfl rfl ?_
      rintro _ rfl
      refine withPreds_cons rfl rfl ?_
      rintro _ rfl
      refine withPreds_cons rfl rfl ?_
      rintro _ rfl
      refine withPreds_cons rfl rfl ?_
      rintro _ rfl
      refine withPreds_cons rfl rfl ?_
      rintro _ rfl
      refine withPreds_cons rfl rfl ?_
      rintro _ rfl
      refine withPreds_cons rfl rfl ?_
      rintro _ rfl
      refine withPreds_nil rfl ?_
      refine XO.assign rfl rfl ?_
      refine XO.nil ?_
      refine blockN ?_
      refine XC.seq2 ?_
      refine XC.region ?_
      refine XO.move rfl rfl ?_
      refine XO.sub rfl rfl (wrap_i64 (by omega) (by omega)) rfl ?_
      refine XO.assign rfl rfl ?_
      refine XO.nil ?_
      refine loop_next (k) (by omega) (prov_cons (by rw [drop_cons hxE]; rfl) (prov_cons (provI rfl (by omega)) (prov_cons (rfl) (prov_cons (rfl) prov_nil)))) (⟨by omega, rfl, rfl⟩) (by repeat (first | exact List.Sublist.refl _ | apply List.Sublist.cons)) hle
  · obtain rfl : k = 0 := by omega
    refine XC.exit ?_
    refine seqX_exit ?_
    refine loopX_exit ?_
    refine blockHit rfl ?_
    refine XC.seq2 ?_
    refine XC.seq ?_
    refine XC.region ?_
    refine XO.move rfl rfl ?_
    refine XO.assign rfl rfl ?_
    refine XO.nil ?_
    refine XC.seq2 ?_
    refine XC.ret ?_
    refine ⟨rfl, _, [], rfl, (by repeat (first | exact List.Sublist.refl _ | apply List.Sublist.cons)), RetR.mk ?_⟩
    rfl

theorem few_fn (a : Option Addr) (c : Nat) (l : List Pt) (H : Hp) : FnC Try.prog 23 #[.slice a l.length c] H [] (RetR fun v _ _ => v = .bool (decide ((l.length : Int) ≤ 60))) := by
  refine FnC.intro (args := [.slice a l.length c]) Try.func23 rfl rfl Try.ntmps23 rfl rfl rfl fun G rest => ?_
  refine XC.seq ?_
  refine XC.region ?_
  refine XO.assign rfl rfl ?_
  refine XO.nil ?_
  refine XC.seq2 ?_
  refine XC.seq ?_
  refine XC.region ?_
  refine XO.move rfl rfl ?_
  refine XO.lenS (ts := #[]) rfl Try.underlying30 rfl ?_
  refine XO.leq rfl rfl rfl ?_
  refine XO.assign rfl rfl ?_
  refine XO.nil ?_
  refine XC.seq2 ?_
  refine XC.ret ?_
  refine ⟨rfl, _, [], rfl, (by repeat (first | exact List.Sublist.refl _ | apply List.Sublist.cons)), RetR.mk ?_⟩
  rfl

theorem in_fn (n : Int) (H : Hp) : FnC Try.prog 28 #[.int .i64 n] H [] (RetR fun v _ _ => v = .bool (decide (0 ≤ n ∧ n < 1073741789))) := by
  refine FnC.intro (args := [.int .i64 n]) Try.func28 rfl rfl Try.ntmps28 rfl rfl rfl fun G rest => ?_
  refine XC.seq ?_
  refine XC.region ?_
  refine XO.assign rfl rfl ?_
  refine XO.nil ?_
  refine XC.seq2 ?_
  refine XC.seq ?_
  refine XC.region ?_
  refine XO.move rfl rfl ?_
  refine XO.geq rfl rfl rfl ?_
  refine XO.move rfl rfl ?_
  refine XO.guardC rfl rfl rfl rfl (fun g1 => ?_) (fun g1 => ?_)
  · have g1p := of_decide_eq_true g1
    refine XO.move rfl rfl ?_
    refine XO.guardT rfl rfl (g1) rfl ?_
    refine XO.lss rfl rfl rfl ?_
    refine XO.pickT rfl (g1) rfl rfl ?_
    refine XO.assign rfl rfl ?_
    refine XO.nil ?_
    refine XC.seq2 ?_
    refine XC.ret ?_
    refine ⟨rfl, _, [], rfl, (by repeat (first | exact List.Sublist.refl _ | apply List.Sublist.cons)), RetR.mk ?_⟩
    show Value.bool _ = _; congr 1; simp_all <;> omega
  · have g1p := of_decide_eq_false g1
    refine XO.guardF rfl rfl (g1) rfl rfl ?_
    refine XO.pickF rfl (g1) rfl rfl ?_
    refine XO.assign rfl rfl ?_
    refine XO.nil ?_
    refine XC.seq2 ?_
    refine XC.ret ?_
    refine ⟨rfl, _, [], rfl, (by repeat (first | exact List.Sublist.refl _ | apply List.Sublist.cons)), RetR.mk ?_⟩
    show Value.bool _ = _; congr 1; simp_all <;> omega

theorem diff_fn (a : Option Addr) (c : Nat) (l : List Pt) (H : Hp) (hs : SlR ptR H a c l) (hl : l.length < 4611686018427387904) : FnC Try.prog 29 #[.slice a l.length c] H [] (RetR fun v _ _ => ∃ b : Bool, v = .bool b ∧ (b = true ↔ Diff l)) := by
  refine FnC.intro (args := [.slice a l.length c]) Try.func29 rfl rfl Try.ntmps29 rfl rfl rfl fun G rest => ?_
  refine XC.seq ?_
  refine XC.region ?_
  refine XO.assign rfl rfl ?_
  refine XO.nil ?_
  refine XC.seq2 ?_
  refine XC.seq ?_
  refine XC.seq ?_
  refine XC.region ?_
  refine XO.assign rfl rfl ?_
  refine XO.nil ?_
  refine XC.seq2 ?_
  refine XC.block ?_
  refine XC.keep [3, 0] rfl ?_
  refine XC.loop (base := [(0, _)]) (fun i : Nat => [(3, .int .i64 (i : Nat))]) (fun i Hl own => i ≤ l.length ∧ rest = own ∧ H = Hl ∧ Diff (l.take i)) (fun i => l.length - i) 0 (prov_cons (rfl) (prov_cons (rfl) prov_nil)) (List.Sublist.refl _) ⟨Nat.zero_le _, rfl, rfl, diff_nil⟩ ?_
  rintro i Hl _ hle ⟨hi, rfl, rfl, hd⟩
  refine XC.seq ?_
  refine XC.seq ?_
  refine XC.region ?_
  refine XO.move rfl rfl ?_
  refine XO.move rfl rfl ?_
  refine XO.lenS (ts := #[]) rfl Try.underlying30 rfl ?_
  refine XO.lss rfl rfl rfl ?_
  refine XO.nil ?_
  refine XC.seq2 ?_
  refine XC.cond rfl (fun c0_1 => ?_) (fun c0_1 => ?_)
  · refine XC.skip ?_
    refine XC.seq2 ?_
    refine XC.seq ?_
    refine XC.block ?_
    refine XC.seq ?_
    refine XC.region ?_
    refine XO.assign rfl rfl ?_
    refine XO.nil ?_
    refine XC.seq2 ?_
    refine XC.block ?_
    refine XC.keep [4, 0, 3] rfl ?_
    refine XC.loop (base := [(0, _), (3, _)]) (fun k : Nat => [(4, .int .i64 (k : Nat))]) (fun k Hl own => k ≤ i ∧ rest = own ∧ H = Hl ∧ (∀ (j : Nat) x y, j < k → l[i]? = some x → l[j]? = some y → x.X % 1073741789 ≠ y.X % 1073741789)) (fun k => i - k) 0 (prov_cons (rfl) (prov_cons (rfl) (prov_cons (rfl) prov_nil))) (List.Sublist.refl _) ⟨Nat.zero_le _, rfl, rfl, fun j x y h => absurd h (Nat.not_lt_zero _)⟩ ?_
    rintro k Hl _ hle ⟨hk, rfl, rfl, hk2⟩
    refine XC.seq ?_
    refine XC.seq ?_
    refine XC.region ?_
    refine XO.move rfl rfl ?_
    refine XO.move rfl rfl ?_
    refine XO.lss rfl rfl rfl ?_
    refine XO.nil ?_
    refine XC.seq2 ?_
    refine XC.cond rfl (fun c1_2 => ?_) (fun c1_2 => ?_)
    · refine XC.skip ?_
      refine XC.seq2 ?_
      refine XC.seq ?_
      refine XC.block ?_
      refine XC.seq ?_
      refine XC.keep [0, 3, 4] rfl ?_
      obtain ⟨b0, o0, rfl⟩ := hs.addr (by omega)
      obtain ⟨_, x1, hx1, rfl, hp1⟩ := hs.elem i (by omega)
      obtain ⟨_, x2, hx2, rfl, hp2⟩ := hs.elem k (by omega)
      apply XC.draw 13 [eqF _, eqF _, eqF _, eqF _, eqF _, eqF _, eqF _, eqF _, eqF _, eqF _, eqF _, eqF _, eqF _] follows (by kernel_rfl) (by kernel_rfl) ⟨eqF_mono _, eqF_mono _, eqF_mono _, eqF_mono _, eqF_mono _, eqF_mono _, eqF_mono _, eqF_mono _, eqF_mono _, eqF_mono _, eqF_mono _, eqF_mono _, eqF_mono _, trivial⟩ ?steps3 ?tail3
      case steps3 =>
        refine stepsK_cons rfl ?_ ?_
        · intro X
          refine withPreds_nil rfl ?_
          refine XO.move rfl rfl ?_
          refine XO.nil ?_
          exact stepQ_ok rfl (rfl)
        refine stepsK_cons rfl ?_ ?_
        · intro X
          refine withPreds_nil rfl ?_
          refine XO.move rfl rfl ?_
          refine XO.nil ?_
          exact stepQ_ok rfl (rfl)
        refine stepsK_cons rfl ?_ ?_
        · intro X
          refine withPreds_cons rfl rfl ?_
          rintro _ rfl
          refine withPreds_cons rfl rfl ?_
          rintro _ rfl
          refine withPreds_nil rfl ?_
          refine XO.indexE rfl rfl Try.underlying30 ty_38 (by omega) (by omega) rfl ?_
          refine XO.nil ?_
          exact stepQ_ok rfl (rfl)
        refine stepsK_cons rfl ?_ ?_
        · intro X
          refine withPreds_cons rfl rfl ?_
          rintro _ rfl
          refine withPreds_nil rfl ?_
          refine XO.fieldAddr rfl fa_38_0 rfl ?_
          refine XO.nil ?_
          exact stepQ_ok rfl (rfl)
        refine stepsK_cons rfl ?_ ?_
        · intro X
          refine withPreds_cons rfl rfl ?_
          rintro _ rfl
          refine withPreds_nil rfl ?_
          refine XO.loadHF rfl (by assumption) ty_3 rfl rfl rfl ?_
          refine XO.nil ?_
          exact stepQ_ok rfl (rfl)
        refine stepsK_cons rfl ?_ ?_
        · intro X
          refine withPreds_cons rfl rfl ?_
          rintro _ rfl
          refine withPreds_nil rfl ?_
          refine XO.callV rfl (rmod_fn _ _) rfl ?_
          refine XO.nil ?_
          exact stepQ_ok rfl (rfl)
        refine stepsK_cons rfl ?_ ?_
        · intro X
          refine withPreds_nil rfl ?_
          refine XO.move rfl rfl ?_
          refine XO.nil ?_
          exact stepQ_ok rfl (rfl)
        refine stepsK_cons rfl ?_ ?_
        · intro X
          refine withPreds_nil rfl ?_
          refine XO.move rfl rfl ?_
          refine XO.nil ?_
          exact stepQ_ok rfl (rfl)
        refine stepsK_cons rfl ?_ ?_
        · intro X
          refine withPreds_cons rfl rfl ?_
          rintro _ rfl
          refine withPreds_cons rfl rfl ?_
          rintro _ rfl
          refine withPreds_nil rfl ?_
          refine XO.indexE rfl rfl Try.underlying30 ty_38 (by omega) (by omega) rfl ?_
          refine XO.nil ?_
          exact stepQ_ok rfl (rfl)
        refine stepsK_cons rfl ?_ ?_
        · intro X
          refine withPreds_cons rfl rfl ?_
          rintro _ rfl
          refine withPreds_nil rfl ?_
          refine XO.fieldAddr rfl fa_38_0 rfl ?_
          refine XO.nil ?_
          exact stepQ_ok rfl (rfl)
        refine stepsK_cons rfl ?_ ?_
        · intro X
          refine withPreds_cons rfl rfl ?_
          rintro _ rfl
          refine withPreds_nil rfl ?_
          refine XO.loadHF rfl (by assumption) ty_3 rfl rfl rfl ?_
          refine XO.nil ?_
          exact stepQ_ok rfl (rfl)
        refine stepsK_cons rfl ?_ ?_
        · intro X
          refine withPreds_cons rfl rfl ?_
          rintro _ rfl
          refine withPreds_nil rfl ?_
          refine XO.callV rfl (rmod_fn _ _) rfl ?_
          refine XO.nil ?_
          exact stepQ_ok rfl (rfl)
        refine stepsK_cons rfl ?_ ?_
        · intro X
          refine withPreds_cons rfl rfl ?_
          rintro _ rfl
          refine withPreds_cons rfl rfl ?_
          rintro _ rfl
          refine withPreds_nil rfl ?_
          refine XO.eql rfl rfl rfl ?_
          refine XO.nil ?_
          exact stepQ_ok rfl (rfl)
        exact stepsD_end rfl
      case tail3 =>
        refine withPreds_cons rfl rfl ?_
        rintro _ rfl
        refine withPreds_cons rfl rfl ?_
        rintro _ rfl
        refine withPreds_cons rfl rfl ?_
        rintro _ rfl
        refine withPreds_cons rfl rfl ?_
        rintro _ rfl
        refine withPreds_cons rfl rfl ?_
        rintro _ rfl
        refine withPreds_cons rfl rfl ?_
        rintro _ rfl
        refine withPreds_cons rfl rfl ?_
        rintro _ rfl
        refine withPreds_cons rfl rfl ?_
        rintro _ rfl
        refine withPreds_cons rfl rfl ?_
        rintro _ rfl
        refine withPreds_cons rfl rfl ?_
        rintro _ rfl
        refine withPreds_cons rfl rfl ?_
        rintro _ rfl
        refine withPreds_cons rfl rfl ?_
        rintro _ rfl
        refine withPreds_cons rfl rfl ?_
        rintro _ rfl
        refine withPreds_nil rfl ?_
        refine XO.nil ?_
        refine XC.seq2 ?_
        refine XC.cond rfl (fun c2_8 => ?_) (fun c2_8 => ?_)
        · refine XC.seq ?_
          refine XC.region ?_
          refine XO.assign rfl rfl ?_
          refine XO.nil ?_
          refine XC.seq2 ?_
          refine XC.ret ?_
          refine blockR ?_
          refine seqX_ret ?_
          refine loopX_ret ?_
          refine blockR ?_
          refine blockR ?_
          refine seqX_ret ?_
          refine loopX_ret ?_
          refine blockR ?_
          refine seqX_ret ?_
          refine ⟨rfl, _, [], rfl, (by repeat (first | exact List.Sublist.refl _ | apply List.Sublist.cons)), RetR.mk ?_⟩
          exact ⟨false, rfl, by simp; intro h; exact h i k x1 x2 (by omega) hx1 hx2 (by assumption)⟩
        · refine XC.skip ?_
          refine blockN ?_
          refine XC.seq2 ?_
          refine XC.region ?_
          refine XO.move rfl rfl ?_
          refine XO.add rfl rfl (wrap_i64 (by omega) (by omega)) rfl ?_
          refine XO.assign rfl rfl ?_
          refine XO.nil ?_
          refine loop_next (k + 1) (by omega) (prov_cons (rfl) (prov_cons (rfl) (prov_cons (rfl) prov_nil))) (⟨by omega, rfl, rfl, fun j x y hj hx hy => by
                rcases Nat.lt_or_ge j k with h | h
                · exact hk2 j x y h hx hy
                · obtain rfl : j = k := by omega
                  rw [hx1] at hx; rw [hx2] at hy; cases hx; cases hy; assumption⟩) (by repeat (first | exact List.Sublist.refl _ | apply List.Sublist.cons)) hle
    · obtain rfl : i = k := by omega
      refine XC.exit ?_
      refine seqX_exit ?_
      refine loopX_exit ?_
      refine blockHit rfl ?_
      refine blockN ?_
      refine XC.seq2 ?_
      refine XC.region ?_
      refine XO.move rfl rfl ?_
      refine XO.add rfl rfl (wrap_i64 (by omega) (by omega)) rfl ?_
      refine XO.assign rfl rfl ?_
      refine XO.nil ?_
      refine loop_next (i + 1) (by omega) (prov_cons (rfl) (prov_cons (rfl) prov_nil)) (⟨by omega, rfl, rfl, diff_succ hd hk2⟩) (by repeat (first | exact List.Sublist.refl _ | apply List.Sublist.cons)) hle
  · obtain rfl : i = l.length := by omega
    rw [List.take_length] at hd
    refine XC.exit ?_
    refine seqX_exit ?_
    refine loopX_exit ?_
    refine blockHit rfl ?_
    refine XC.seq2 ?_
    refine XC.seq ?_
    refine XC.region ?_
    refine XO.assign rfl rfl ?_
    refine XO.nil ?_
    refine XC.seq2 ?_
    refine XC.ret ?_
    refine ⟨rfl, _, [], rfl, (by repeat (first | exact List.Sublist.refl _ | apply List.Sublist.cons)), RetR.mk ?_⟩
    exact ⟨true, rfl, by simpa using hd⟩

theorem others_fn (a : Option Addr) (c n : Nat) (i : Int) (H : Hp) : FnC Try.prog 40 #[.slice a n c, .int .i64 i] H [] (RetR fun v H _ => ∃ b1 b2, v = .func (.func 46) #[] #[.pointer (some ⟨b1, 0, none⟩), .pointer (some ⟨b2, 0, none⟩)] ∧ PtH H b1 0 [.slice a n c] ∧ PtH H b2 0 [.int .i64 i]) := by
  refine FnC.intro (args := [.slice a n c, .int .i64 i]) Try.func40 rfl rfl Try.ntmps40 rfl rfl rfl fun G rest => ?_
  refine XC.seq ?_
  refine XC.region ?_
  refine XO.box rfl rfl rfl (fun b2 => ?_)
  refine XO.box rfl rfl rfl (fun b3 => ?_)
  refine XO.assign rfl rfl ?_
  refine XO.nil ?_
  refine XC.seq2 ?_
  refine XC.seq ?_
  refine XC.region ?_
  refine XO.makeFunc rfl rfl ?_
  refine XO.publish 0 rfl rfl rfl (fun HA o1 hle1 hb1 ho1 => ?_)
  refine XO.publish 0 rfl rfl rfl (fun HB o2 hle2 hb2 ho2 => ?_)
  refine XO.assign rfl rfl ?_
  refine XO.nil ?_
  refine XC.seq2 ?_
  refine XC.ret ?_
  refine ⟨rfl, _, [], rfl, (by repeat (first | exact List.Sublist.refl _ | apply List.Sublist.cons)), RetR.mk ?_⟩
  exact ⟨_, _, rfl, PtH.of_is hb2 ho2, (PtH.of_is hb1 ho1).mono hle2⟩

theorem others_seq (a : Option Addr) (c : Nat) (l : List Pt) (i : Nat) (H : Hp) (b1 b2 : Nat) (hs : SlR ptR H a c l) (hl : l.length < 4611686018427387904) (h1 : PtH H b1 0 [.slice a l.length c]) (h2 : PtH H b2 0 [.int .i64 (i : Nat)]) : SeqC Try.prog 46 [.pointer (some ⟨b1, 0, none⟩), .pointer (some ⟨b2, 0, none⟩)] H [] (fun p : Pt => [.agg ⟨[.int .i64 p.X, .int .i64 p.Y]⟩]) (l.eraseIdx i) := by
  intro yv J K ownY hy hJ0
  refine FnC.intro (args := [yv, .pointer (some ⟨b1, 0, none⟩), .pointer (some ⟨b2, 0, none⟩)]) Try.func46 rfl rfl Try.ntmps46 rfl rfl rfl fun G rest => ?_
  refine XC.seq ?_
  refine XC.region ?_
  refine XO.loadH rfl h1 ty_30 rfl rfl rfl ?_
  refine XO.lenS (ts := #[]) rfl Try.underlying30 rfl ?_
  refine XO.move rfl rfl ?_
  refine XO.nil ?_
  refine XC.seq2 ?_
  refine XC.block ?_
  refine XC.keep [8, 0, 2, 6, 7] rfl ?_
  refine XC.loop (base := [(0, _), (2, _), (6, _), (7, _)]) (fun k : Nat => [(8, .int .i64 (k : Nat))]) (fun k Hl own => k ≤ l.length ∧ Le H Hl ∧ ∃ oy, oy ++ rest = own ∧ J ((l.take k).eraseIdx i) Hl oy) (fun k => l.length - k) 0 (prov_cons (rfl) (prov_cons (rfl) (prov_cons (rfl) (prov_cons (rfl) (prov_cons (rfl) prov_nil))))) (List.Sublist.refl _) ⟨Nat.zero_le _, Le.refl _, ownY, rfl, by simpa using hJ0⟩ ?_
  rintro k Hl _ hle ⟨hk, hH, oy, rfl, hJ⟩
  replace hs := hs.mono hH
  replace h1 := h1.mono hH
  replace h2 := h2.mono hH
  refine XC.seq ?_
  refine XC.region ?_
  refine XO.lss rfl rfl rfl ?_
  refine XO.nil ?_
  refine XC.seq2 ?_
  refine XC.seq ?_
  refine XC.cond rfl (fun c0_2 => ?_) (fun c0_2 => ?_)
  · refine XC.skip ?_
    refine XC.seq2 ?_
    refine XC.seq ?_
    refine XC.block ?_
    refine XC.seq ?_
    refine XC.region ?_
    refine XO.move rfl rfl ?_
    refine XO.indexN rfl (by assumption) rfl Try.underlying30 ty_38 (by omega) rfl ?_
    rintro eb eo _ xE hxE rfl hpE
    refine XO.loadH rfl (by assumption) ty_38 rfl rfl rfl ?_
    refine XO.alloc ze_38 rfl (fun b5 => ?_)
    refine XO.assign rfl rfl ?_
    refine XO.storeO 0 rfl rfl rfl rfl ty_38 rfl rfl rfl rfl rfl ?_
    refine XO.nil ?_
    refine XC.seq2 ?_
    refine XC.seq ?_
    refine XC.region ?_
    refine XO.move rfl rfl ?_
    refine XO.loadH rfl h2 ty_3 rfl rfl rfl ?_
    refine XO.neq rfl rfl rfl ?_
    refine XO.move rfl rfl ?_
    refine XO.guardC rfl rfl rfl rfl (fun g5 => ?_) (fun g5 => ?_)
    · have g5p := of_decide_eq_true g5
      refine XO.move rfl rfl ?_
      refine XO.guardT rfl rfl (g5) rfl ?_
      refine XO.loadO 0 rfl rfl ty_38 rfl rfl rfl ?_
      refine XO.guardT rfl rfl (g5) rfl ?_
      obtain ⟨post, hpost⟩ := erase_split hxE (show k ≠ i by omega)
      refine XO.callVal [_] (ownF := oy) (rst := rest) rfl trivial rfl (hy _ xE post hpost Hl oy hH hJ) rfl rfl ?_
      rintro u HY oy2 hleY hR
      rcases hR with ⟨rfl, hJ2⟩ | ⟨rfl, hK2⟩
      · have hH2 := hH.trans hleY
        rw [← erase_succ hxE (show k ≠ i by omega)] at hJ2
        refine XO.guardT rfl rfl (g5) rfl ?_
        refine XO.notB rfl rfl ?_
        refine XO.pickT rfl (g5) rfl rfl ?_
        refine XO.nil ?_
        refine XC.seq2 ?_
        refine XC.condF rfl (rfl) ?_
        refine XC.skip ?_
        refine blockN ?_
        refine XC.seq2 ?_
        refine XC.region ?_
        refine XO.add rfl rfl (wrap_i64 (by omega) (by omega)) rfl ?_
        refine XO.move rfl rfl ?_
        refine XO.nil ?_
        refine loop_next (k + 1) (by omega) (prov_cons (rfl) (prov_cons (rfl) (prov_cons (rfl) (prov_cons (rfl) (prov_cons (rfl) prov_nil))))) (by first | exact ⟨by omega, hH2, oy2, rfl, hJ2⟩ | exact ⟨by omega, hH, oy, rfl, (by obtain rfl : i = k := (by omega); rw [erase_same hxE]; exact hJ)⟩) (by repeat (first | exact List.Sublist.refl _ | apply List.Sublist.cons)) (by first | exact hle.trans hleY | exact hle)
      · have hH2 := hH.trans hleY
        refine XO.guardT rfl rfl (g5) rfl ?_
        refine XO.notB rfl rfl ?_
        refine XO.pickT rfl (g5) rfl rfl ?_
        refine XO.nil ?_
        refine XC.seq2 ?_
        refine XC.condT rfl (rfl) ?_
        refine XC.ret ?_
        refine blockR ?_
        refine seqX_ret ?_
        refine loopX_ret ?_
        refine blockR ?_
        exact ⟨rfl, _, oy2, rfl, (by repeat (first | exact List.Sublist.refl _ | apply List.Sublist.cons)), RetR.mk ⟨rfl, [], oy2, rfl, .inr hK2⟩⟩
    · have g5p := of_decide_eq_false g5
      refine XO.guardF rfl rfl (g5) rfl rfl ?_
      refine XO.guardF rfl rfl (g5) rfl rfl ?_
      refine XO.guardF rfl rfl (g5) rfl rfl ?_
      refine XO.pickF rfl (g5) rfl rfl ?_
      refine XO.nil ?_
      refine XC.seq2 ?_
      refine XC.condF rfl (rfl) ?_
      refine XC.skip ?_
      refine blockN ?_
      refine XC.seq2 ?_
      refine XC.region ?_
      refine XO.add rfl rfl (wrap_i64 (by omega) (by omega)) rfl ?_
      refine XO.move rfl rfl ?_
      refine XO.nil ?_
      refine loop_next (k + 1) (by omega) (prov_cons (rfl) (prov_cons (rfl) (prov_cons (rfl) (prov_cons (rfl) (prov_cons (rfl) prov_nil))))) (by first | exact ⟨by omega, hH2, oy2, rfl, hJ2⟩ | exact ⟨by omega, hH, oy, rfl, (by obtain rfl : i = k := (by omega); rw [erase_same hxE]; exact hJ)⟩) (by repeat (first | exact List.Sublist.refl _ | apply List.Sublist.cons)) (by first | exact hle.trans hleY | exact hle)
  · obtain rfl : k = l.length := by omega
    rw [List.take_length] at hJ
    refine XC.exit ?_
    refine seqX_exit ?_
    refine loopX_exit ?_
    refine blockHit rfl ?_
    exact ⟨rfl, _, oy, rfl, (by repeat (first | exact List.Sublist.refl _ | apply List.Sublist.cons)), RetR.mk ⟨rfl, [], oy, rfl, .inl hJ⟩⟩

set_option maxRecDepth 100000 in
theorem at_fn (a : Option Addr) (c : Nat) (l : List Pt) (at_ : Int) (H : Hp) (hs : SlR ptR H a c l) : FnC Try.prog 24 #[.slice a l.length c, .int .i64 at_] H [] (RetR fun v _ _ => v = .tuple #[.int .i64 (atV at_ l).1, .int .i64 (atV at_ l).2]) := by
  refine FnC.intro (args := [.slice a l.length c, .int .i64 at_]) Try.func24 rfl rfl Try.ntmps24 rfl rfl rfl fun G rest => ?_
  refine XC.seq ?_
  refine XC.region ?_
  refine XO.box rfl rfl rfl (fun b3 => ?_)
  refine XO.assign rfl rfl ?_
  refine XO.assign rfl rfl ?_
  refine XO.nil ?_
  refine XC.seq2 ?_
  refine XC.seq ?_
  refine XC.seq ?_
  refine XC.region ?_
  refine XO.move rfl rfl ?_
  refine XO.lenS (ts := #[]) rfl Try.underlying30 rfl ?_
  refine XO.gtr rfl rfl rfl ?_
  refine XO.nil ?_
  refine XC.seq2 ?_
  refine XC.cond rfl (fun c0_1 => ?_) (fun c0_1 => ?_)
  · refine XC.seq ?_
    refine XC.region ?_
    refine XO.assign rfl rfl ?_
    refine XO.assign rfl rfl ?_
    refine XO.nil ?_
    refine XC.seq2 ?_
    refine XC.ret ?_
    refine seqX_ret ?_
    refine ⟨rfl, _, [], rfl, (by repeat (first | exact List.Sublist.refl _ | apply List.Sublist.cons)), RetR.mk ?_⟩
    show _ = _; rw [atV, if_pos (by omega)]; rfl
  · have hlen : l.length ≤ 24 := by omega
    refine XC.skip ?_
    refine XC.seq2 ?_
    refine XC.seq ?_
    refine XC.region ?_
    refine XO.makeMap rfl (fun bm => ?_)
    refine XO.assign rfl rfl ?_
    refine XO.nil ?_
    refine XC.seq2 ?_
    refine XC.seq ?_
    refine XC.seq ?_
    refine XC.region ?_
    refine XO.move rfl rfl ?_
    refine XO.lenS (ts := #[]) rfl Try.underlying30 rfl ?_
    refine XO.move rfl rfl ?_
    refine XO.nil ?_
    refine XC.seq2 ?_
    refine XC.block ?_
    refine XC.keep [22, 0, 3, 4, 6, 20, 21] rfl ?_
    refine XC.loop (base := [(0, _), (3, _), (4, _), (6, _), (20, _), (21, _)]) (fun k : Nat => [(22, .int .i64 (k : Nat))]) (fun k Hl own => k ≤ l.length ∧ H = Hl ∧ ∃ es cl, (bm, .obj (.map es cl)) :: (b3, .cells 3 [.int .i64 at_]) :: rest = own ∧ MapI .i64 es (seenM (l.take k))) (fun k => l.length - k) 0 (prov_cons (rfl) (prov_cons (rfl) (prov_cons (rfl) (prov_cons (rfl) (prov_cons (rfl) (prov_cons (rfl) (prov_cons (rfl) prov_nil))))))) (List.Sublist.refl _) ⟨Nat.zero_le _, rfl, #[], 0, rfl, MapI.nil _⟩ ?_
    rintro k Hl _ hle ⟨hk, rfl, es, cl, rfl, hM⟩
    refine XC.seq ?_
    refine XC.region ?_
    refine XO.lss rfl rfl rfl ?_
    refine XO.nil ?_
    refine XC.seq2 ?_
    refine XC.seq ?_
    refine XC.cond rfl (fun c1_3 => ?_) (fun c1_3 => ?_)
    · refine XC.skip ?_
      refine XC.seq2 ?_
      refine XC.seq ?_
      refine XC.block ?_
      refine XC.seq ?_
      refine XC.region ?_
      refine XO.indexN rfl (by assumption) rfl Try.underlying30 ty_38 (by omega) rfl ?_
      rintro eb eo _ xE hxE rfl hpE
      refine XO.loadH rfl (by assumption) ty_38 rfl rfl rfl ?_
      refine XO.alloc ze_38 rfl (fun b8 => ?_)
      refine XO.storeO 0 rfl rfl rfl rfl ty_38 rfl rfl rfl rfl rfl ?_
      refine XO.nil ?_
      refine XC.seq2 ?_
      refine XC.region ?_
      refine XO.move rfl rfl ?_
      refine XO.fieldAddr rfl fa_38_0 rfl ?_
      refine XO.loadO 0 rfl rfl ty_3 rfl rfl rfl ?_
      refine XO.callV rfl (mod_fn _ _) rfl ?_
      refine XO.mapSet 1 rfl rfl rfl rfl hM Try.underlying58 Try.underlying3 rfl ?_
      intro es2 cl2 hM2
      refine XO.nil ?_
      refine blockN ?_
      refine XC.seq2 ?_
      refine XC.region ?_
      refine XO.add rfl rfl (wrap_i64 (by omega) (by omega)) rfl ?_
      refine XO.move rfl rfl ?_
      refine XO.nil ?_
      refine loop_next (k + 1) (by omega) (prov_cons (rfl) (prov_cons (rfl) (prov_cons (rfl) (prov_cons (rfl) (prov_cons (rfl) (prov_cons (rfl) (prov_cons (rfl) prov_nil))))))) (⟨by omega, rfl, es2, cl2, rfl, by rw [seen_succ hxE]; exact hM2⟩) (by repeat (first | exact List.Sublist.refl _ | apply List.Sublist.cons)) hle
    · obtain rfl : k = l.length := by omega
      rw [List.take_length] at hM
      refine XC.exit ?_
      refine seqX_exit ?_
      refine loopX_exit ?_
      refine blockHit rfl ?_
      refine XC.seq2 ?_
      refine XC.seq ?_
      refine XC.seq ?_
      refine XC.region ?_
      refine XO.move rfl rfl ?_
      refine XO.mapLen 0 rfl rfl hM Try.underlying58 rfl ?_
      refine XO.move rfl rfl ?_
      refine XO.lenS (ts := #[]) rfl Try.underlying30 rfl ?_
      refine XO.lss rfl rfl rfl ?_
      refine XO.nil ?_
      refine XC.seq2 ?_
      refine XC.cond rfl (fun c2_8 => ?_) (fun c2_8 => ?_)
      · have hnd : ¬ (l.map fun p => p.X % 1073741789).Nodup := fun h => by have := seen_full l h; omega
        refine XC.seq ?_
        refine XC.region ?_
        refine XO.assign rfl rfl ?_
        refine XO.assign rfl rfl ?_
        refine XO.nil ?_
        refine XC.seq2 ?_
        refine XC.ret ?_
        refine seqX_ret ?_
        refine ⟨rfl, _, [], rfl, (by repeat (first | exact List.Sublist.refl _ | apply List.Sublist.cons)), RetR.mk ?_⟩
        show _ = _; rw [atV, if_neg (by omega), if_pos hnd]; rfl
      · have hnd : (l.map fun p => p.X % 1073741789).Nodup := seen_nodup l (by omega)
        refine XC.skip ?_
        refine XC.seq2 ?_
        refine XC.seq ?_
        refine XC.seq ?_
        refine XC.region ?_
        refine XO.move rfl rfl ?_
        refine XO.lenS (ts := #[]) rfl Try.underlying30 rfl ?_
        refine XO.move rfl rfl ?_
        refine XO.nil ?_
        refine XC.seq2 ?_
        refine XC.block ?_
        refine XC.keep [4, 38, 0, 3, 36, 37] rfl ?_
        refine XC.loop (base := [(0, _), (3, _), (36, _), (37, _)]) (fun k : Nat => [(4, .int .i64 (atF at_ l k)), (38, .int .i64 (k : Nat))]) (fun k Hl own => k ≤ l.length ∧ Le H Hl ∧ (b3, .cells 3 [.int .i64 at_]) :: rest = own) (fun k => l.length - k) 0 (prov_cons (rfl) (prov_cons (rfl) (prov_cons (rfl) (prov_cons (rfl) (prov_cons (rfl) (prov_cons (rfl) prov_nil)))))) (List.Sublist.cons _ (List.Sublist.refl _)) ⟨Nat.zero_le _, Le.refl _, rfl⟩ ?_
        rintro k Hl _ hle ⟨hk, hH, rfl⟩
        replace hs := hs.mono hH
        refine XC.seq ?_
        refine XC.region ?_
        refine XO.lss rfl rfl rfl ?_
        refine XO.nil ?_
        refine XC.seq2 ?_
        refine XC.seq ?_
        refine XC.cond rfl (fun c3_9 => ?_) (fun c3_9 => ?_)
        · refine XC.skip ?_
          refine XC.seq2 ?_
          refine XC.seq ?_
          refine XC.block ?_
          refine XC.seq ?_
          refine XC.region ?_
          refine XO.move rfl rfl ?_
          refine XO.indexN rfl (by assumption) rfl Try.underlying30 ty_38 (by omega) rfl ?_
          rintro eb eo _ xE hxE rfl hpE
          refine XO.loadH rfl (by assumption) ty_38 rfl rfl rfl ?_
          refine XO.alloc ze_38 rfl (fun b10 => ?_)
          refine XO.assign rfl rfl ?_
          refine XO.storeO 0 rfl rfl rfl rfl ty_38 rfl rfl rfl rfl rfl ?_
          refine XO.nil ?_
          refine XC.seq2 ?_
          refine XC.seq ?_
          refine XC.region ?_
          refine XO.fieldAddr rfl fa_38_1 rfl ?_
          refine XO.loadO 0 rfl rfl ty_3 rfl rfl rfl ?_
          refine XO.callV rfl (mod_fn _ _) rfl ?_
          refine XO.alloc ze_3 rfl (fun b11 => ?_)
          refine XO.alloc ze_3 rfl (fun b12 => ?_)
          refine XO.storeO 1 rfl rfl rfl rfl ty_3 rfl rfl rfl rfl rfl ?_
          refine XO.storeO 0 rfl rfl rfl rfl ty_3 rfl rfl rfl rfl rfl ?_
          refine XO.nil ?_
          refine XC.seq2 ?_
          refine XC.seq ?_
          refine XC.seq ?_
          refine XC.region ?_
          refine XO.move rfl rfl ?_
          refine XO.move rfl rfl ?_
          refine XO.callH rfl (others_fn _ _ _ _ _) rfl ?_
          rintro _ HO hleO ⟨bo1, bo2, rfl, hpo1, hpo2⟩
          replace hs := hs.mono hleO
          refine XO.nil ?_
          refine XC.seq2 ?_
          refine XC.block ?_
          refine XC.keep [0, 3, 4, 10, 11, 12, 36, 37, 38, 48] rfl ?_
          refine XC.rangeFunc (enc := fun p : Pt => [.agg ⟨[.int .i64 p.X, .int .i64 p.Y]⟩]) rfl (others_seq _ _ l k _ _ _ hs (by omega) hpo1 hpo2) (fun _ => rfl) rfl rfl (fun pre Hl own => Le HO Hl ∧ (b12, .cells 3 [.int .i64 (belF xE.X pre 1)]) :: (b11, .cells 3 [.int .i64 (abvF at_ pre (xE.Y % 1073741789))]) :: (b10, .cells 38 [.int .i64 xE.X, .int .i64 xE.Y]) :: (b3, .cells 3 [.int .i64 at_]) :: rest = own) (fun _ _ _ => False) (⟨Le.refl _, rfl⟩) (.inl rfl) ?_ ?_ ?_
          · rintro G lp hd1 hd2 hrec pre x post hxs Hl ownL hleL ⟨hHl, rfl⟩
            refine XC.region ?_
            refine XO.alloc ze_38 rfl (fun b13 => ?_)
            refine XO.storeO 0 rfl rfl rfl rfl ty_38 rfl rfl rfl rfl rfl ?_
            refine XO.nil ?_
            refine assignN ?_
            refine XC.block ?_
            refine XC.keep [3, 10, 11, 12, 13] rfl ?_
            apply XC.drawG (fun _ => True) trivial 19 [eqF _, eqF _, eqF _, eqF _, eqF _, eqF _, slF (intR .i64) [_, _], eqF _, eqF _, eqF _, eqF _, eqF _, eqF _, eqF _, eqF _, eqF _, slF (intR .i64) [_, _], eqF _, eqF _] follows (by kernel_rfl) (by kernel_rfl) ⟨eqF_mono _, eqF_mono _, eqF_mono _, eqF_mono _, eqF_mono _, eqF_mono _, slF_mono _ _, eqF_mono _, eqF_mono _, eqF_mono _, eqF_mono _, eqF_mono _, eqF_mono _, eqF_mono _, eqF_mono _, eqF_mono _, slF_mono _ _, eqF_mono _, eqF_mono _, trivial⟩ ?steps13 ?tail13
            case steps13 =>
              refine stepsD_cons rfl ?_ ?_
              · intro X HD hleD _
                refine withPreds_nil rfl ?_
                refine XO.loadO 2 rfl rfl ty_3 rfl rfl rfl ?_
                refine XO.nil ?_
                exact stepQ_ok trivial (rfl)
              refine stepsD_cons rfl ?_ ?_
              · intro X HD hleD _
                refine withPreds_nil rfl ?_
                refine XO.loadO 4 rfl rfl ty_3 rfl rfl rfl ?_
                refine XO.nil ?_
                exact stepQ_ok trivial (rfl)
              refine stepsD_cons rfl ?_ ?_
              · intro X HD hleD _
                refine withPreds_nil rfl ?_
                refine XO.fieldAddr rfl fa_38_0 rfl ?_
                refine XO.nil ?_
                exact stepQ_ok trivial (rfl)
              refine stepsD_cons rfl ?_ ?_
              · intro X HD hleD _
                refine withPreds_cons rfl rfl ?_
                rintro _ rfl
                refine withPreds_nil rfl ?_
                refine XO.loadO 0 rfl rfl ty_3 rfl rfl rfl ?_
                refine XO.nil ?_
                exact stepQ_ok trivial (rfl)
              refine stepsD_cons rfl ?_ ?_
              · intro X HD hleD _
                refine withPreds_cons rfl rfl ?_
                rintro _ rfl
                refine withPreds_nil rfl ?_
                refine XO.callV rfl (mod_fn _ _) rfl ?_
                refine XO.nil ?_
                exact stepQ_ok trivial (rfl)
              refine stepsD_cons rfl ?_ ?_
              · intro X HD hleD _
                refine withPreds_cons rfl rfl ?_
                rintro _ rfl
                refine withPreds_nil rfl ?_
                refine XO.neg rfl (wrap_i64 (by omega) (by omega)) rfl ?_
                refine XO.nil ?_
                exact stepQ_ok trivial (rfl)
              refine stepsD_cons rfl ?_ ?_
              · intro X HD hleD _
                refine withPreds_cons rfl rfl ?_
                rintro _ rfl
                refine withPreds_cons rfl rfl ?_
                rintro _ rfl
                refine withPreds_nil rfl ?_
                refine XO.buildSlice rfl Try.underlying29 ty_3 ze_3 rfl rfl rfl (fun b56 => ?_)
                refine XO.publish 0 rfl rfl rfl (fun HP oP hleP hbP hoP => ?_)
                have hsl := SlR.ints hbP hoP (l := [_, _]) rfl
                refine XO.nil ?_
                exact stepQ_ok trivial (⟨_, rfl, hsl⟩)
              refine stepsD_cons rfl ?_ ?_
              · intro X HD hleD _
                refine withPreds_cons rfl rfl ?_
                rintro _ ⟨bs, rfl, hsl⟩
                refine withPreds_nil rfl ?_
                refine XO.callV rfl (sum_fn _ _ [_, _] _ hsl (by simp)) rfl ?_
                refine XO.nil ?_
                exact stepQ_ok trivial (rfl)
              refine stepsD_cons rfl ?_ ?_
              · intro X HD hleD _
                refine withPreds_cons rfl rfl ?_
                rintro _ rfl
                refine withPreds_cons rfl rfl ?_
                rintro _ rfl
                refine withPreds_nil rfl ?_
                refine XO.callV rfl (mul_fn _ _ _) rfl ?_
                refine XO.nil ?_
                exact stepQ_ok trivial (rfl)
              refine stepsD_cons rfl ?_ ?_
              · intro X HD hleD _
                refine withPreds_nil rfl ?_
                refine XO.loadO 1 rfl rfl ty_3 rfl rfl rfl ?_
                refine XO.nil ?_
                exact stepQ_ok trivial (rfl)
              refine stepsD_cons rfl ?_ ?_
              · intro X HD hleD _
                refine withPreds_nil rfl ?_
                refine XO.fieldAddr rfl fa_38_0 rfl ?_
                refine XO.nil ?_
                exact stepQ_ok trivial (rfl)
              refine stepsD_cons rfl ?_ ?_
              · intro X HD hleD _
                refine withPreds_cons rfl rfl ?_
                rintro _ rfl
                refine withPreds_nil rfl ?_
                refine XO.loadO 3 rfl rfl ty_3 rfl rfl rfl ?_
                refine XO.nil ?_
                exact stepQ_ok trivial (rfl)
              refine stepsD_cons rfl ?_ ?_
              · intro X HD hleD _
                refine withPreds_nil rfl ?_
                refine XO.fieldAddr rfl fa_38_0 rfl ?_
                refine XO.nil ?_
                exact stepQ_ok trivial (rfl)
              refine stepsD_cons rfl ?_ ?_
              · intro X HD hleD _
                refine withPreds_cons rfl rfl ?_
                rintro _ rfl
                refine withPreds_nil rfl ?_
                refine XO.loadO 0 rfl rfl ty_3 rfl rfl rfl ?_
                refine XO.nil ?_
                exact stepQ_ok trivial (rfl)
              refine stepsD_cons rfl ?_ ?_
              · intro X HD hleD _
                refine withPreds_cons rfl rfl ?_
                rintro _ rfl
                refine withPreds_nil rfl ?_
                refine XO.callV rfl (mod_fn _ _) rfl ?_
                refine XO.nil ?_
                exact stepQ_ok trivial (rfl)
              refine stepsD_cons rfl ?_ ?_
              · intro X HD hleD _
                refine withPreds_cons rfl rfl ?_
                rintro _ rfl
                refine withPreds_nil rfl ?_
                refine XO.neg rfl (wrap_i64 (by omega) (by omega)) rfl ?_
                refine XO.nil ?_
                exact stepQ_ok trivial (rfl)
              refine stepsD_cons rfl ?_ ?_
              · intro X HD hleD _
                refine withPreds_cons rfl rfl ?_
                rintro _ rfl
                refine withPreds_cons rfl rfl ?_
                rintro _ rfl
                refine withPreds_nil rfl ?_
                refine XO.buildSlice rfl Try.underlying29 ty_3 ze_3 rfl rfl rfl (fun b66 => ?_)
                refine XO.publish 0 rfl rfl rfl (fun HP oP hleP hbP hoP => ?_)
                have hsl := SlR.ints hbP hoP (l := [_, _]) rfl
                refine XO.nil ?_
                exact stepQ_ok trivial (⟨_, rfl, hsl⟩)
              refine stepsD_cons rfl ?_ ?_
              · intro X HD hleD _
                refine withPreds_cons rfl rfl ?_
                rintro _ ⟨bs, rfl, hsl⟩
                refine withPreds_nil rfl ?_
                refine XO.callV rfl (sum_fn _ _ [_, _] _ hsl (by simp)) rfl ?_
                refine XO.nil ?_
                exact stepQ_ok trivial (rfl)
              refine stepsD_cons rfl ?_ ?_
              · intro X HD hleD _
                refine withPreds_cons rfl rfl ?_
                rintro _ rfl
                refine withPreds_cons rfl rfl ?_
                rintro _ rfl
                refine withPreds_nil rfl ?_
                refine XO.callV rfl (mul_fn _ _ _) rfl ?_
                refine XO.nil ?_
                exact stepQ_ok trivial (rfl)
              exact stepsD_end rfl
            case tail13 =>
              intro HD hleD _
              refine withPreds_cons rfl rfl ?_
              rintro _ rfl
              refine withPreds_cons rfl rfl ?_
              rintro _ rfl
              refine withPreds_cons rfl rfl ?_
              rintro _ rfl
              refine withPreds_cons rfl rfl ?_
              rintro _ rfl
              refine withPreds_cons rfl rfl ?_
              rintro _ rfl
              refine withPreds_cons rfl rfl ?_
              rintro _ rfl
              refine withPreds_cons rfl rfl ?_
              rintro _ ⟨bs, rfl, hsl⟩
              refine withPreds_cons rfl rfl ?_
              rintro _ rfl
              refine withPreds_cons rfl rfl ?_
              rintro _ rfl
              refine withPreds_cons rfl rfl ?_
              rintro _ rfl
              refine withPreds_cons rfl rfl ?_
              rintro _ rfl
              refine withPreds_cons rfl rfl ?_
              rintro _ rfl
              refine withPreds_cons rfl rfl ?_
              rintro _ rfl
              refine withPreds_cons rfl rfl ?_
              rintro _ rfl
              refine withPreds_cons rfl rfl ?_
              rintro _ rfl
              refine withPreds_cons rfl rfl ?_
              rintro _ rfl
              refine withPreds_cons rfl rfl ?_
              rintro _ ⟨bs, rfl, hsl⟩
              refine withPreds_cons rfl rfl ?_
              rintro _ rfl
              refine withPreds_cons rfl rfl ?_
              rintro _ rfl
              refine withPreds_nil rfl ?_
              refine XO.storeO 2 rfl rfl rfl rfl ty_3 rfl rfl rfl rfl rfl ?_
              refine XO.storeO 1 rfl rfl rfl rfl ty_3 rfl rfl rfl rfl rfl ?_
              refine XO.nil ?_
              refine blockN ?_
              refine ⟨rfl, ((b12, .cells 3 [.int .i64 (belF xE.X pre 1 * ([xE.X, 0 - x.X % 1073741789].sum % 1073741789) % 1073741789)]) :: (b11, .cells 3 [.int .i64 (abvF at_ pre (xE.Y % 1073741789) * ([at_, 0 - x.X % 1073741789].sum % 1073741789) % 1073741789)]) :: (b10, .cells 38 [.int .i64 xE.X, .int .i64 xE.Y]) :: (b3, .cells 3 [.int .i64 at_]) :: rest), (by repeat (first | exact List.Sublist.refl _ | apply List.Sublist.cons)), ?_⟩
              exact ⟨hHl.trans hleD, by rw [belF_snoc, abvF_snoc]⟩
          · rintro Hl ownL hleL ⟨hHl, rfl⟩
            have hH3 := (hH.trans hleO).trans hHl
            refine blockN ?_
            refine XC.seq2 ?_
            refine XC.seq ?_
            refine XC.region ?_
            refine XO.loadO 0 rfl rfl ty_3 rfl rfl rfl ?_
            refine XO.callV rfl (inv_fn _ _) rfl ?_
            refine XO.move rfl rfl ?_
            refine XO.extract rfl rfl rfl ?_
            refine XO.extract rfl rfl rfl ?_
            refine XO.assign rfl rfl ?_
            refine XO.assign rfl rfl ?_
            refine XO.nil ?_
            refine XC.seq2 ?_
            refine XC.region ?_
            refine XO.move rfl rfl ?_
            refine XO.loadO 1 rfl rfl ty_3 rfl rfl rfl ?_
            refine XO.move rfl rfl ?_
            refine XO.callV rfl (mul_fn _ _ _) rfl ?_
            refine XO.buildSlice rfl Try.underlying29 ty_3 ze_3 rfl rfl rfl (fun b78 => ?_)
            refine XO.publish 0 rfl rfl rfl (fun HP oP hleP hbP hoP => ?_)
            have hsl := SlR.ints hbP hoP (l := [_, _]) rfl
            refine XO.callV rfl (sum_fn _ _ [_, _] _ hsl (by simp)) rfl ?_
            refine XO.assign rfl rfl ?_
            refine XO.nil ?_
            refine blockN ?_
            refine XC.seq2 ?_
            refine XC.region ?_
            refine XO.add rfl rfl (wrap_i64 (by omega) (by omega)) rfl ?_
            refine XO.move rfl rfl ?_
            refine XO.nil ?_
            refine loop_next (k + 1) (by omega) (prov_cons (by rw [atF_succ hxE, atT]; rfl) (prov_cons (rfl) (prov_cons (rfl) (prov_cons (rfl) (prov_cons (rfl) (prov_cons (rfl) prov_nil)))))) (⟨by omega, hH3.trans hleP, rfl⟩) (by repeat (first | exact List.Sublist.refl _ | apply List.Sublist.cons)) (hH3.trans hleP)
          · rintro c Hl ownL hleL hK
            exact hK.elim
        · obtain rfl : k = l.length := by omega
          refine XC.exit ?_
          refine seqX_exit ?_
          refine loopX_exit ?_
          refine blockHit rfl ?_
          refine XC.seq2 ?_
          refine XC.seq ?_
          refine XC.region ?_
          refine XO.move rfl rfl ?_
          refine XO.assign rfl rfl ?_
          refine XO.assign rfl rfl ?_
          refine XO.nil ?_
          refine XC.seq2 ?_
          refine XC.ret ?_
          refine ⟨rfl, _, [], rfl, (by repeat (first | exact List.Sublist.refl _ | apply List.Sublist.cons)), RetR.mk ?_⟩
          show _ = _; rw [atV, if_neg (by omega), if_neg (Decidable.not_not.2 hnd)]; rfl

set_option maxRecDepth 100000 in
theorem rat_fn (a : Option Addr) (c : Nat) (l : List Pt) (at_ : Int) (H : Hp) (hs : SlR ptR H a c l) : FnC Try.prog 25 #[.slice a l.length c, .int .i64 at_] H [] (RetR fun v _ _ => v = .tuple #[.int .i64 (ratV at_ l).1, .int .i64 (ratV at_ l).2]) := by
  refine FnC.intro (args := [.slice a l.length c, .int .i64 at_]) Try.func25 rfl rfl Try.ntmps25 rfl rfl rfl fun G rest => ?_
  refine XC.seq ?_
  refine XC.region ?_
  refine XO.assign rfl rfl ?_
  refine XO.assign rfl rfl ?_
  refine XO.nil ?_
  refine XC.seq2 ?_
  refine XC.seq ?_
  refine XC.seq ?_
  refine XC.region ?_
  refine XO.move rfl rfl ?_
  refine XO.lenS (ts := #[]) rfl Try.underlying30 rfl ?_
  refine XO.gtr rfl rfl rfl ?_
  refine XO.nil ?_
  refine XC.seq2 ?_
  refine XC.cond rfl (fun c0_1 => ?_) (fun c0_1 => ?_)
  · refine XC.seq ?_
    refine XC.region ?_
    refine XO.assign rfl rfl ?_
    refine XO.assign rfl rfl ?_
    refine XO.nil ?_
    refine XC.seq2 ?_
    refine XC.ret ?_
    refine seqX_ret ?_
    refine ⟨rfl, _, [], rfl, (by repeat (first | exact List.Sublist.refl _ | apply List.Sublist.cons)), RetR.mk ?_⟩
    show _ = _; rw [ratV, if_pos (by omega)]; rfl
  · have hlen : l.length ≤ 24 := by omega
    refine XC.skip ?_
    refine XC.seq2 ?_
    refine XC.seq ?_
    refine XC.seq ?_
    refine XC.region ?_
    refine XO.move rfl rfl ?_
    refine XO.callK rfl (diff_fn _ _ _ _ (by assumption) (by omega)) rfl ?_
    rintro _ ⟨bD, rfl, hD⟩
    refine XO.notB rfl rfl ?_
    refine XO.nil ?_
    refine XC.seq2 ?_
    refine XC.condB rfl (fun c1_3 => ?_) (fun c1_3 => ?_)
    · have hnd : ¬ (l.map fun p => p.X % 1073741789).Nodup := by rw [← diff_iff, ← hD]; simp_all
      refine XC.seq ?_
      refine XC.region ?_
      refine XO.assign rfl rfl ?_
      refine XO.assign rfl rfl ?_
      refine XO.nil ?_
      refine XC.seq2 ?_
      refine XC.ret ?_
      refine seqX_ret ?_
      refine ⟨rfl, _, [], rfl, (by repeat (first | exact List.Sublist.refl _ | apply List.Sublist.cons)), RetR.mk ?_⟩
      show _ = _; rw [ratV, if_neg (by omega), if_pos hnd]; rfl
    · have hnd : (l.map fun p => p.X % 1073741789).Nodup := by rw [← diff_iff, ← hD]; simp_all
      refine XC.skip ?_
      refine XC.seq2 ?_
      refine XC.seq ?_
      refine XC.region ?_
      refine XO.assign rfl rfl ?_
      refine XO.nil ?_
      refine XC.seq2 ?_
      refine XC.seq ?_
      refine XC.seq ?_
      refine XC.region ?_
      refine XO.assign rfl rfl ?_
      refine XO.nil ?_
      refine XC.seq2 ?_
      refine XC.block ?_
      refine XC.keep [6, 7, 0, 1] rfl ?_
      refine XC.loop (base := [(0, _), (1, _)]) (fun i : Nat => [(6, .int .i64 (ratF at_ l i)), (7, .int .i64 (i : Nat))]) (fun i Hl own => i ≤ l.length ∧ rest = own ∧ H = Hl) (fun i => l.length - i) 0 (prov_cons (rfl) (prov_cons (rfl) (prov_cons (rfl) (prov_cons (rfl) prov_nil)))) (List.Sublist.refl _) ⟨Nat.zero_le _, rfl, rfl⟩ ?_
      rintro i Hl _ hle ⟨hi, rfl, rfl⟩
      refine XC.seq ?_
      refine XC.seq ?_
      refine XC.region ?_
      refine XO.move rfl rfl ?_
      refine XO.move rfl rfl ?_
      refine XO.lenS (ts := #[]) rfl Try.underlying30 rfl ?_
      refine XO.lss rfl rfl rfl ?_
      refine XO.nil ?_
      refine XC.seq2 ?_
      refine XC.cond rfl (fun c2_4 => ?_) (fun c2_4 => ?_)
      · refine XC.skip ?_
        refine XC.seq2 ?_
        refine XC.seq ?_
        refine XC.block ?_
        refine XC.seq ?_
        refine XC.region ?_
        refine XO.move rfl rfl ?_
        refine XO.move rfl rfl ?_
        refine XO.indexN rfl (by assumption) rfl Try.underlying30 ty_38 (by omega) rfl ?_
        rintro eb eo _ xI hxI rfl hpI
        refine XO.fieldAddr rfl fa_38_1 rfl ?_
        refine XO.loadHF rfl (by assumption) ty_3 rfl rfl rfl ?_
        refine XO.callV rfl (rmod_fn _ _) rfl ?_
        refine XO.assign rfl rfl ?_
        refine XO.nil ?_
        refine XC.seq2 ?_
        refine XC.seq ?_
        refine XC.seq ?_
        refine XC.region ?_
        refine XO.assign rfl rfl ?_
        refine XO.nil ?_
        refine XC.seq2 ?_
        refine XC.block ?_
        refine XC.keep [8, 9, 0, 1, 6, 7] rfl ?_
        refine XC.loop (base := [(0, _), (1, _), (6, _), (7, _)]) (fun k : Nat => [(8, .int .i64 (rpF at_ xI.X ((l.take k).eraseIdx i) (xI.Y % 1073741789))), (9, .int .i64 (k : Nat))]) (fun k Hl own => k ≤ l.length ∧ rest = own ∧ H = Hl) (fun k => l.length - k) 0 (prov_cons (by simp [rpF]; rfl) (prov_cons (rfl) (prov_cons (rfl) (prov_cons (rfl) (prov_cons (rfl) (prov_cons (rfl) prov_nil)))))) (List.Sublist.refl _) ⟨Nat.zero_le _, rfl, rfl⟩ ?_
        rintro k Hl _ hle ⟨hk, rfl, rfl⟩
        refine XC.seq ?_
        refine XC.seq ?_
        refine XC.region ?_
        refine XO.move rfl rfl ?_
        refine XO.move rfl rfl ?_
        refine XO.lenS (ts := #[]) rfl Try.underlying30 rfl ?_
        refine XO.lss rfl rfl rfl ?_
        refine XO.nil ?_
        refine XC.seq2 ?_
        refine XC.cond rfl (fun c3_7 => ?_) (fun c3_7 => ?_)
        · refine XC.skip ?_
          refine XC.seq2 ?_
          refine XC.seq ?_
          refine XC.block ?_
          refine XC.seq ?_
          refine XC.region ?_
          refine XO.move rfl rfl ?_
          refine XO.move rfl rfl ?_
          refine XO.neq rfl rfl rfl ?_
          refine XO.nil ?_
          refine XC.seq2 ?_
          refine XC.cond rfl (fun c4_8 => ?_) (fun c4_8 => ?_)
          · refine XC.seq ?_
            refine XC.keep [0, 1, 6, 7, 8, 9] rfl ?_
            obtain ⟨b0, o0, rfl⟩ := hs.addr (by omega)
            obtain ⟨_, x1, hx1, rfl, hp1⟩ := hs.elem i (by omega)
            obtain ⟨_, x2, hx2, rfl, hp2⟩ := hs.elem k (by omega)
            obtain rfl : xI = x1 := Option.some.inj (hxI.symm.trans hx1)
            have hm2 := Int.emod_nonneg x2.X (b := 1073741789) (by decide)
            have hm3 := Int.emod_lt_of_pos x2.X (b := 1073741789) (by decide)
            apply XC.draw 18 [eqF _, eqF _, eqF _, eqF _, eqF _, eqF _, eqF _, eqF _, eqF _, eqF _, eqF _, eqF _, eqF _, eqF _, eqF _, eqF _, eqF _, eqF _] follows (by kernel_rfl) (by kernel_rfl) ⟨eqF_mono _, eqF_mono _, eqF_mono _, eqF_mono _, eqF_mono _, eqF_mono _, eqF_mono _, eqF_mono _, eqF_mono _, eqF_mono _, eqF_mono _, eqF_mono _, eqF_mono _, eqF_mono _, eqF_mono _, eqF_mono _, eqF_mono _, eqF_mono _, trivial⟩ ?steps9 ?tail9
            case steps9 =>
              refine stepsK_cons rfl ?_ ?_
              · intro X
                refine withPreds_nil rfl ?_
                refine XO.move rfl rfl ?_
                refine XO.nil ?_
                exact stepQ_ok rfl (rfl)
              refine stepsK_cons rfl ?_ ?_
              · intro X
                refine withPreds_nil rfl ?_
                refine XO.move rfl rfl ?_
                refine XO.nil ?_
                exact stepQ_ok rfl (rfl)
              refine stepsK_cons rfl ?_ ?_
              · intro X
                refine withPreds_cons rfl rfl ?_
                rintro _ rfl
                refine withPreds_cons rfl rfl ?_
                rintro _ rfl
                refine withPreds_nil rfl ?_
                refine XO.indexE rfl rfl Try.underlying30 ty_38 (by omega) (by omega) rfl ?_
                refine XO.nil ?_
                exact stepQ_ok rfl (rfl)
              refine stepsK_cons rfl ?_ ?_
              · intro X
                refine withPreds_cons rfl rfl ?_
                rintro _ rfl
                refine withPreds_nil rfl ?_
                refine XO.fieldAddr rfl fa_38_0 rfl ?_
                refine XO.nil ?_
                exact stepQ_ok rfl (rfl)
              refine stepsK_cons rfl ?_ ?_
              · intro X
                refine withPreds_cons rfl rfl ?_
                rintro _ rfl
                refine withPreds_nil rfl ?_
                refine XO.loadHF rfl (by assumption) ty_3 rfl rfl rfl ?_
                refine XO.nil ?_
                exact stepQ_ok rfl (rfl)
              refine stepsK_cons rfl ?_ ?_
              · intro X
                refine withPreds_nil rfl ?_
                refine XO.move rfl rfl ?_
                refine XO.nil ?_
                exact stepQ_ok rfl (rfl)
              refine stepsK_cons rfl ?_ ?_
              · intro X
                refine withPreds_nil rfl ?_
                refine XO.move rfl rfl ?_
                refine XO.nil ?_
                exact stepQ_ok rfl (rfl)
              refine stepsK_cons rfl ?_ ?_
              · intro X
                refine withPreds_cons rfl rfl ?_
                rintro _ rfl
                refine withPreds_cons rfl rfl ?_
                rintro _ rfl
                refine withPreds_nil rfl ?_
                refine XO.indexE rfl rfl Try.underlying30 ty_38 (by omega) (by omega) rfl ?_
                refine XO.nil ?_
                exact stepQ_ok rfl (rfl)
              refine stepsK_cons rfl ?_ ?_
              · intro X
                refine withPreds_cons rfl rfl ?_
                rintro _ rfl
                refine withPreds_nil rfl ?_
                refine XO.fieldAddr rfl fa_38_0 rfl ?_
                refine XO.nil ?_
                exact stepQ_ok rfl (rfl)
              refine stepsK_cons rfl ?_ ?_
              · intro X
                refine withPreds_cons rfl rfl ?_
                rintro _ rfl
                refine withPreds_nil rfl ?_
                refine XO.loadHF rfl (by assumption) ty_3 rfl rfl rfl ?_
                refine XO.nil ?_
                exact stepQ_ok rfl (rfl)
              refine stepsK_cons rfl ?_ ?_
              · intro X
                refine withPreds_cons rfl rfl ?_
                rintro _ rfl
                refine withPreds_nil rfl ?_
                refine XO.callV rfl (rmod_fn _ _) rfl ?_
                refine XO.nil ?_
                exact stepQ_ok rfl (rfl)
              refine stepsK_cons rfl ?_ ?_
              · intro X
                refine withPreds_cons rfl rfl ?_
                rintro _ rfl
                refine withPreds_nil rfl ?_
                refine XO.neg rfl (wrap_i64 (by omega) (by omega)) rfl ?_
                refine XO.nil ?_
                exact stepQ_ok rfl (rfl)
              refine stepsK_cons rfl ?_ ?_
              · intro X
                refine withPreds_cons rfl rfl ?_
                rintro _ rfl
                refine withPreds_cons rfl rfl ?_
                rintro _ rfl
                refine withPreds_nil rfl ?_
                refine XO.callV rfl (radd_fn _ _ _) rfl ?_
                refine XO.nil ?_
                exact stepQ_ok rfl (rfl)
              refine stepsK_cons rfl ?_ ?_
              · intro X
                refine withPreds_cons rfl rfl ?_
                rintro _ rfl
                refine withPreds_nil rfl ?_
                refine XO.callV rfl (rinv_fn _ _) rfl ?_
                refine XO.nil ?_
                exact stepQ_ok rfl (rfl)
              refine stepsK_cons rfl ?_ ?_
              · intro X
                refine withPreds_cons rfl rfl ?_
                rintro _ rfl
                refine withPreds_nil rfl ?_
                refine XO.move rfl rfl ?_
                refine XO.nil ?_
                exact stepQ_ok rfl (rfl)
              refine stepsK_cons rfl ?_ ?_
              · intro X
                refine withPreds_cons rfl rfl ?_
                rintro _ rfl
                refine withPreds_nil rfl ?_
                refine XO.extract rfl rfl rfl ?_
                refine XO.nil ?_
                exact stepQ_ok rfl (rfl)
              refine stepsK_cons rfl ?_ ?_
              · intro X
                refine withPreds_cons rfl rfl ?_
                rintro _ rfl
                refine withPreds_nil rfl ?_
                refine XO.extract rfl rfl rfl ?_
                refine XO.nil ?_
                exact stepQ_ok rfl (rfl)
              refine stepsK_cons rfl ?_ ?_
              · intro X
                refine withPreds_cons rfl rfl ?_
                rintro _ rfl
                refine withPreds_nil rfl ?_
                refine XO.assign rfl rfl ?_
                refine XO.nil ?_
                exact stepQ_ok rfl (rfl)
              exact stepsD_end rfl
            case tail9 =>
              refine withPreds_cons rfl rfl ?_
              rintro _ rfl
              refine withPreds_cons rfl rfl ?_
              rintro _ rfl
              refine withPreds_cons rfl rfl ?_
              rintro _ rfl
              refine withPreds_cons rfl rfl ?_
              rintro _ rfl
              refine withPreds_cons rfl rfl ?_
              rintro _ rfl
              refine withPreds_cons rfl rfl ?_
              rintro _ rfl
              refine withPreds_cons rfl rfl ?_
              rintro _ rfl
              refine withPreds_cons rfl rfl ?_
              rintro _ rfl
              refine withPreds_cons rfl rfl ?_
              rintro _ rfl
              refine withPreds_cons rfl rfl ?_
              rintro _ rfl
              refine withPreds_cons rfl rfl ?_
              rintro _ rfl
              refine withPreds_cons rfl rfl ?_
              rintro _ rfl
              refine withPreds_cons rfl rfl ?_
              rintro _ rfl
              refine withPreds_cons rfl rfl ?_
              rintro _ rfl
              refine withPreds_cons rfl rfl ?_
              rintro _ rfl
              refine withPreds_cons rfl rfl ?_
              rintro _ rfl
              refine withPreds_cons rfl rfl ?_
              rintro _ rfl
              refine withPreds_cons rfl rfl ?_
              rintro _ rfl
              refine withPreds_nil rfl ?_
              refine XO.assign rfl rfl ?_
              refine XO.nil ?_
              refine XC.seq2 ?_
              refine XC.region ?_
              refine XO.move rfl rfl ?_
              refine XO.move rfl rfl ?_
              refine XO.move rfl rfl ?_
              refine XO.move rfl rfl ?_
              refine XO.indexN rfl (by assumption) rfl Try.underlying30 ty_38 (by omega) rfl ?_
              rintro eb eo _ xE hxE rfl hpE
              refine XO.fieldAddr rfl fa_38_0 rfl ?_
              refine XO.loadHF rfl (by assumption) ty_3 rfl rfl rfl ?_
              refine XO.callV rfl (rmod_fn _ _) rfl ?_
              refine XO.neg rfl (wrap_i64 (by omega) (by omega)) rfl ?_
              refine XO.callV rfl (radd_fn _ _ _) rfl ?_
              refine XO.move rfl rfl ?_
              refine XO.callV rfl (rmul_fn _ _ _) rfl ?_
              refine XO.callV rfl (rmul_fn _ _ _) rfl ?_
              refine XO.assign rfl rfl ?_
              refine XO.nil ?_
              refine blockN ?_
              refine XC.seq2 ?_
              refine XC.region ?_
              refine XO.move rfl rfl ?_
              refine XO.add rfl rfl (wrap_i64 (by omega) (by omega)) rfl ?_
              refine XO.assign rfl rfl ?_
              refine XO.nil ?_
              try (obtain rfl : x2 = xE := Option.some.inj (hx2.symm.trans hxE))
              refine loop_next (k + 1) (by omega) (prov_cons (by first | (rw [erase_succ hxE (show k ≠ i by omega), rpF_snoc]; rfl) | (obtain rfl : k = i := (by omega); rw [erase_same hxI]; rfl)) (prov_cons (rfl) (prov_cons (rfl) (prov_cons (rfl) (prov_cons (rfl) (prov_cons (rfl) prov_nil)))))) (⟨by omega, rfl, rfl⟩) (by repeat (first | exact List.Sublist.refl _ | apply List.Sublist.cons)) hle
          · refine XC.skip ?_
            refine blockN ?_
            refine XC.seq2 ?_
            refine XC.region ?_
            refine XO.move rfl rfl ?_
            refine XO.add rfl rfl (wrap_i64 (by omega) (by omega)) rfl ?_
            refine XO.assign rfl rfl ?_
            refine XO.nil ?_
            try (obtain rfl : x2 = xE := Option.some.inj (hx2.symm.trans hxE))
            refine loop_next (k + 1) (by omega) (prov_cons (by first | (rw [erase_succ hxE (show k ≠ i by omega), rpF_snoc]; rfl) | (obtain rfl : k = i := (by omega); rw [erase_same hxI]; rfl)) (prov_cons (rfl) (prov_cons (rfl) (prov_cons (rfl) (prov_cons (rfl) (prov_cons (rfl) prov_nil)))))) (⟨by omega, rfl, rfl⟩) (by repeat (first | exact List.Sublist.refl _ | apply List.Sublist.cons)) hle
        · obtain rfl : k = l.length := by omega
          refine XC.exit ?_
          refine seqX_exit ?_
          refine loopX_exit ?_
          refine blockHit rfl ?_
          refine XC.seq2 ?_
          refine XC.region ?_
          refine XO.move rfl rfl ?_
          refine XO.move rfl rfl ?_
          refine XO.callV rfl (radd_fn _ _ _) rfl ?_
          refine XO.assign rfl rfl ?_
          refine XO.nil ?_
          refine blockN ?_
          refine XC.seq2 ?_
          refine XC.region ?_
          refine XO.move rfl rfl ?_
          refine XO.add rfl rfl (wrap_i64 (by omega) (by omega)) rfl ?_
          refine XO.assign rfl rfl ?_
          refine XO.nil ?_
          refine loop_next (i + 1) (by omega) (prov_cons (by rw [ratF_succ hxI, List.take_length]; rfl) (prov_cons (rfl) (prov_cons (rfl) (prov_cons (rfl) prov_nil)))) (⟨by omega, rfl, rfl⟩) (by repeat (first | exact List.Sublist.refl _ | apply List.Sublist.cons)) hle
      · obtain rfl : i = l.length := by omega
        refine XC.exit ?_
        refine seqX_exit ?_
        refine loopX_exit ?_
        refine blockHit rfl ?_
        refine XC.seq2 ?_
        refine XC.seq ?_
        refine XC.region ?_
        refine XO.move rfl rfl ?_
        refine XO.assign rfl rfl ?_
        refine XO.assign rfl rfl ?_
        refine XO.nil ?_
        refine XC.seq2 ?_
        refine XC.ret ?_
        refine ⟨rfl, _, [], rfl, (by repeat (first | exact List.Sublist.refl _ | apply List.Sublist.cons)), RetR.mk ?_⟩
        show _ = _; rw [ratV, if_neg (by omega), if_neg (Decidable.not_not.2 hnd)]; rfl

set_option maxRecDepth 100000 in
theorem sane12 (H : Hp) : FnC Try.prog 14 #[] H [] (RetR fun v _ _ => v = .bool true) := by
  refine FnC.intro (args := []) Try.func14 rfl rfl Try.ntmps14 rfl rfl rfl fun G rest => ?_
  refine XC.seq ?_
  refine XC.region ?_
  refine XO.assign rfl rfl ?_
  refine XO.nil ?_
  refine XC.seq2 ?_
  refine XC.seq ?_
  refine XC.region ?_
  refine XO.callV rfl (inv_fn _ _) rfl ?_
  refine XO.move rfl rfl ?_
  refine XO.extract rfl rfl rfl ?_
  refine XO.extract rfl rfl rfl ?_
  refine XO.assign rfl rfl ?_
  refine XO.assign rfl rfl ?_
  refine XO.nil ?_
  refine XC.seq2 ?_
  refine XC.seq ?_
  refine XC.region ?_
  refine XO.callV rfl (inv_fn _ _) rfl ?_
  refine XO.move rfl rfl ?_
  refine XO.extract rfl rfl rfl ?_
  refine XO.extract rfl rfl rfl ?_
  refine XO.assign rfl rfl ?_
  refine XO.assign rfl rfl ?_
  refine XO.nil ?_
  refine XC.seq2 ?_
  refine XC.seq ?_
  refine XC.region ?_
  refine XO.callV rfl (inv_fn _ _) rfl ?_
  refine XO.move rfl rfl ?_
  refine XO.extract rfl rfl rfl ?_
  refine XO.extract rfl rfl rfl ?_
  refine XO.assign rfl rfl ?_
  refine XO.assign rfl rfl ?_
  refine XO.nil ?_
  refine XC.seq2 ?_
  refine XC.seq ?_
  refine XC.region ?_
  refine XO.build bk_38 bf_38 ze_38 rfl rfl rfl ?_
  refine XO.build bk_38 bf_38 ze_38 rfl rfl rfl ?_
  refine XO.buildSlice rfl Try.underlying30 ty_38 ze_38 rfl rfl rfl (fun b31 => ?_)
  refine XO.publish 0 rfl rfl rfl (fun HP oP hleP hbP hoP => ?_)
  have hsA := SlR.lit (ρ := ptR) (l := [⟨1, 3⟩, ⟨2, 5⟩]) hbP hoP (RowsR.cons1 (cs := [_, _]) rfl (RowsR.one1 rfl))
  refine XO.assign rfl rfl ?_
  refine XO.nil ?_
  refine XC.seq2 ?_
  refine XC.seq ?_
  refine XC.region ?_
  refine XO.move rfl rfl ?_
  refine XO.callV rfl (at_fn _ _ [⟨1, 3⟩, ⟨2, 5⟩] _ _ hsA) rfl ?_
  refine XO.move rfl rfl ?_
  refine XO.extract rfl rfl rfl ?_
  refine XO.extract rfl rfl rfl ?_
  refine XO.assign rfl rfl ?_
  refine XO.assign rfl rfl ?_
  refine XO.nil ?_
  refine XC.seq2 ?_
  refine XC.seq ?_
  refine XC.region ?_
  refine XO.callV rfl (at_fn _ _ [] _ _ (SlR.nil0 _ _)) rfl ?_
  refine XO.move rfl rfl ?_
  refine XO.extract rfl rfl rfl ?_
  refine XO.extract rfl rfl rfl ?_
  refine XO.assign rfl rfl ?_
  refine XO.assign rfl rfl ?_
  refine XO.nil ?_
  refine XC.seq2 ?_
  refine XC.seq ?_
  refine XC.region ?_
  refine XO.build bk_38 bf_38 ze_38 rfl rfl rfl ?_
  refine XO.build bk_38 bf_38 ze_38 rfl rfl rfl ?_
  refine XO.buildSlice rfl Try.underlying30 ty_38 ze_38 rfl rfl rfl (fun b44 => ?_)
  refine XO.publish 0 rfl rfl rfl (fun HP oP hleP hbP hoP => ?_)
  have hsB := SlR.lit (ρ := ptR) (l := [⟨1, 5⟩, ⟨(-1073741788), 5⟩]) hbP hoP (RowsR.cons1 (cs := [_, _]) rfl (RowsR.one1 rfl))
  refine XO.callV rfl (at_fn _ _ [⟨1, 5⟩, ⟨(-1073741788), 5⟩] _ _ hsB) rfl ?_
  refine XO.move rfl rfl ?_
  refine XO.extract rfl rfl rfl ?_
  refine XO.extract rfl rfl rfl ?_
  refine XO.assign rfl rfl ?_
  refine XO.assign rfl rfl ?_
  refine XO.nil ?_
  refine XC.seq2 ?_
  refine XC.seq ?_
  refine XC.region ?_
  refine XO.makeSlice (ρ := ptR) ⟨0, 0⟩ rfl rfl Try.underlying30 ty_38 ze_38 rfl by_38 (by decide) rfl rfl (fun b49 hacc => ?_)
  refine XO.publishA 0 rfl hacc rfl (fun HP hleP hsC => ?_)
  refine XO.callV rfl (at_fn _ _ (List.replicate 25 ⟨0, 0⟩) _ _ hsC) rfl ?_
  refine XO.move rfl rfl ?_
  refine XO.extract rfl rfl rfl ?_
  refine XO.extract rfl rfl rfl ?_
  refine XO.assign rfl rfl ?_
  refine XO.assign rfl rfl ?_
  refine XO.nil ?_
  refine XC.seq2 ?_
  refine XC.seq ?_
  refine XC.region ?_
  refine XO.move rfl rfl ?_
  refine XO.eql rfl rfl rfl ?_
  refine XO.move rfl rfl ?_
  refine XO.guardT rfl rfl (by decide +kernel) rfl ?_
  refine XO.move rfl rfl ?_
  refine XO.guardT rfl rfl (by decide +kernel) rfl ?_
  refine XO.eql rfl rfl rfl ?_
  refine XO.pickT rfl (by decide +kernel) rfl rfl ?_
  refine XO.move rfl rfl ?_
  refine XO.guardT rfl rfl (by decide +kernel) rfl ?_
  refine XO.move rfl rfl ?_
  refine XO.guardT rfl rfl (by decide +kernel) rfl ?_
  refine XO.eql rfl rfl rfl ?_
  refine XO.pickT rfl (by decide +kernel) rfl rfl ?_
  refine XO.move rfl rfl ?_
  refine XO.guardT rfl rfl (by decide +kernel) rfl ?_
  refine XO.move rfl rfl ?_
  refine XO.guardT rfl rfl (by decide +kernel) rfl ?_
  refine XO.eql rfl rfl rfl ?_
  refine XO.pickT rfl (by decide +kernel) rfl rfl ?_
  refine XO.move rfl rfl ?_
  refine XO.guardT rfl rfl (by decide +kernel) rfl ?_
  refine XO.move rfl rfl ?_
  refine XO.guardT rfl rfl (by decide +kernel) rfl ?_
  refine XO.eql rfl rfl rfl ?_
  refine XO.pickT rfl (by decide +kernel) rfl rfl ?_
  refine XO.move rfl rfl ?_
  refine XO.guardT rfl rfl (by decide +kernel) rfl ?_
  refine XO.move rfl rfl ?_
  refine XO.guardT rfl rfl (by decide +kernel) rfl ?_
  refine XO.eql rfl rfl rfl ?_
  refine XO.pickT rfl (by decide +kernel) rfl rfl ?_
  refine XO.move rfl rfl ?_
  refine XO.guardT rfl rfl (by decide +kernel) rfl ?_
  refine XO.move rfl rfl ?_
  refine XO.guardT rfl rfl (by decide +kernel) rfl ?_
  refine XO.eql rfl rfl rfl ?_
  refine XO.pickT rfl (by decide +kernel) rfl rfl ?_
  refine XO.assign rfl rfl ?_
  refine XO.nil ?_
  refine XC.seq2 ?_
  refine XC.seq ?_
  refine XC.region ?_
  refine XO.move rfl rfl ?_
  refine XO.move rfl rfl ?_
  refine XO.guardT rfl rfl (by decide +kernel) rfl ?_
  refine XO.move rfl rfl ?_
  refine XO.guardT rfl rfl (by decide +kernel) rfl ?_
  refine XO.eql rfl rfl rfl ?_
  refine XO.pickT rfl (by decide +kernel) rfl rfl ?_
  refine XO.move rfl rfl ?_
  refine XO.guardT rfl rfl (by decide +kernel) rfl ?_
  refine XO.move rfl rfl ?_
  refine XO.guardT rfl rfl (by decide +kernel) rfl ?_
  refine XO.eql rfl rfl rfl ?_
  refine XO.pickT rfl (by decide +kernel) rfl rfl ?_
  refine XO.move rfl rfl ?_
  refine XO.guardT rfl rfl (by decide +kernel) rfl ?_
  refine XO.move rfl rfl ?_
  refine XO.guardT rfl rfl (by decide +kernel) rfl ?_
  refine XO.eql rfl rfl rfl ?_
  refine XO.pickT rfl (by decide +kernel) rfl rfl ?_
  refine XO.move rfl rfl ?_
  refine XO.guardT rfl rfl (by decide +kernel) rfl ?_
  refine XO.callV rfl (mod_fn _ _) rfl ?_
  refine XO.guardT rfl rfl (by decide +kernel) rfl ?_
  refine XO.eql rfl rfl rfl ?_
  refine XO.pickT rfl (by decide +kernel) rfl rfl ?_
  refine XO.move rfl rfl ?_
  refine XO.guardT rfl rfl (by decide +kernel) rfl ?_
  refine XO.callV rfl (mul_fn _ _ _) rfl ?_
  refine XO.guardT rfl rfl (by decide +kernel) rfl ?_
  refine XO.eql rfl rfl rfl ?_
  refine XO.pickT rfl (by decide +kernel) rfl rfl ?_
  refine XO.move rfl rfl ?_
  refine XO.guardT rfl rfl (by decide +kernel) rfl ?_
  refine XO.callV rfl (add_fn _ _ _) rfl ?_
  refine XO.guardT rfl rfl (by decide +kernel) rfl ?_
  refine XO.eql rfl rfl rfl ?_
  refine XO.pickT rfl (by decide +kernel) rfl rfl ?_
  refine XO.move rfl rfl ?_
  refine XO.guardT rfl rfl (by decide +kernel) rfl ?_
  refine XO.buildSlice rfl Try.underlying29 ty_3 ze_3 rfl rfl rfl (fun b105 => ?_)
  refine XO.publish 0 rfl rfl rfl (fun HP oP hleP hbP hoP => ?_)
  have hsl := SlR.ints hbP hoP (l := [_, _, _]) rfl
  refine XO.guardT rfl rfl (by decide +kernel) rfl ?_
  refine XO.callV rfl (value_fn _ _ [_, _, _] _ _ hsl (by simp)) rfl ?_
  refine XO.guardT rfl rfl (by decide +kernel) rfl ?_
  refine XO.eql rfl rfl rfl ?_
  refine XO.pickT rfl (by decide +kernel) rfl rfl ?_
  refine XO.move rfl rfl ?_
  refine XO.guardT rfl rfl (by decide +kernel) rfl ?_
  refine XO.callV rfl (value_fn _ _ [] _ _ (SlR.nil0 _ _) (by simp)) rfl ?_
  refine XO.guardT rfl rfl (by decide +kernel) rfl ?_
  refine XO.eql rfl rfl rfl ?_
  refine XO.pickT rfl (by decide +kernel) rfl rfl ?_
  refine XO.assign rfl rfl ?_
  refine XO.nil ?_
  refine XC.seq2 ?_
  refine XC.ret ?_
  refine ⟨rfl, _, [], rfl, (by repeat (first | exact List.Sublist.refl _ | apply List.Sublist.cons)), RetR.mk ?_⟩
  exact congrArg Value.bool (by decide +kernel)

end Go.Proofs
