/- The reference's reader: what it does, in plain words. -/
import Derived.Test.YtngedgknbebgpaaB5
set_option autoImplicit false
set_option linter.unusedVariables false
set_option linter.unusedSimpArgs false
namespace Go.Proofs
open Go.XL
/-- the next byte -/
def NX (b : List UInt8) (p c p2 : Nat) (bad : Bool) : Prop := (bad = false → ∃ y : UInt8, y.toNat = c ∧ b.drop p = y :: b.drop p2) ∧ (bad = true → c = 0 ∧ b.drop p = [])
/-- what is read -/
def PR {α : Type} (b : List UInt8) (o : Option (α × List UInt8)) (x : α) (p2 : Nat) (bad : Bool) : Prop := p2 ≤ b.length ∧ (bad = false → o = some (x, b.drop p2)) ∧ (bad = true → o = none)
theorem NX.yes {b : List UInt8} {p : Nat} {y : UInt8} (h : b[p]? = some y) : NX b p y.toNat (p + 1) false :=
  ⟨fun _ => ⟨y, rfl, by rw [List.drop_eq_getElem?_toList_append, h]; rfl⟩, fun h => by cases h⟩
theorem NX.no {b : List UInt8} {p : Nat} (h : b.length ≤ p) : NX b p 0 p true := ⟨fun h => (by cases h), fun _ => ⟨rfl, List.drop_eq_nil_of_le h⟩⟩
theorem NX.pos {b : List UInt8} {p c p2 : Nat} {bad : Bool} (h : NX b p c p2 bad) (hc : c ≠ 0) : bad = false := by
  cases bad with
  | false => rfl
  | true => exact absurd (h.2 rfl).1 hc
theorem rn_bad {b : List UInt8} {p c p2 i u : Nat} {bad : Bool} (h : NX b p c p2 bad) (hc : ¬ ((i = 0 ∨ c ≠ 0) ∧ (i < 9 ∨ c ≤ 1))) : numP i u (b.drop p) = none := by
  cases bad with
  | false => obtain ⟨y, rfl, h2⟩ := h.1 rfl; rw [h2]; exact numP_bad hc
  | true => rw [(h.2 rfl).2]; rfl
theorem rn_ret {b : List UInt8} {p c p2 i u : Nat} {bad : Bool} {o : Option (Nat × List UInt8)} (h : NX b p c p2 bad) (hP : o = numP i u (b.drop p)) (hc : (i = 0 ∨ c ≠ 0) ∧ (i < 9 ∨ c ≤ 1)) (hlt : c < 128) (hp : p2 ≤ b.length) : PR b o (u + c % 128 * 2 ^ (7 * i)) p2 bad := by
  refine ⟨hp, fun hb => ?_, fun hb => ?_⟩
  · obtain ⟨y, rfl, h2⟩ := h.1 hb
    rw [hP, h2, numP_next hc, if_pos hlt, Nat.mod_eq_of_lt hlt]
  · rw [hP, (h.2 hb).2]; rfl
theorem rn_next {b : List UInt8} {p c p2 i u : Nat} {o : Option (Nat × List UInt8)} (h : NX b p c p2 false) (hP : o = numP i u (b.drop p)) (hc : (i = 0 ∨ c ≠ 0) ∧ (i < 9 ∨ c ≤ 1)) (hlt : ¬ c < 128) : o = numP (i + 1) (u + c % 128 * 2 ^ (7 * i)) (b.drop p2) := by
  obtain ⟨y, rfl, h2⟩ := h.1 rfl
  rw [hP, h2, numP_next hc, if_neg hlt]
theorem shl_lt {u c i : Nat} (hu : u < 2 ^ (7 * i)) (hi : i ≤ 9) (hc : c < 256) (h9 : i < 9 ∨ c ≤ 1) : u + c % 128 * 2 ^ (7 * i) < 18446744073709551616 := by
  have hp : 2 ^ (7 * i) ≤ 2 ^ 63 := Nat.pow_le_pow_right (by omega) (by omega)
  rcases Nat.lt_or_ge i 9 with h | h
  · have h8 : 2 ^ (7 * i) ≤ 2 ^ 56 := Nat.pow_le_pow_right (by omega) (by omega)
    have : c % 128 * 2 ^ (7 * i) ≤ 127 * 2 ^ 56 := Nat.mul_le_mul (by omega) h8
    omega
  · have hc1 : c % 128 ≤ 1 := by omega
    have : c % 128 * 2 ^ (7 * i) ≤ 1 * 2 ^ 63 := Nat.mul_le_mul hc1 hp
    omega
abbrev RBo (a : Option Addr) (c n p : Nat) (bad : Bool) : SObj := .cells 62 [.slice a n c, .int .i64 (p : Nat), .bool bad]
/-- the reference's reader while a value of a list is read and put into a literal -/
def FOr (br : Nat) (a : Option Addr) (c : Nat) (b : List UInt8) (o : Option (Val × List UInt8)) (s0 : SObj) (j : Nat) (v : Value) (p : Nat × SObj) (H : Hp) : Prop :=
  (j = 0 → p = (br, s0)) ∧
  (j = 1 → ∃ w p2 bad, PR b o w p2 bad ∧ p = (br, RBo a c b.length p2 bad) ∧ VV H v w) ∧
  (j = 2 → ∃ w p2 bad a2 c2, PR b o w p2 bad ∧ p = (br, RBo a c b.length p2 bad) ∧ v = .slice a2 [w].length c2 ∧ SlR valR H a2 c2 [w])
theorem FOr_mono (br : Nat) (a : Option Addr) (c : Nat) (b : List UInt8) (o : Option (Val × List UInt8)) (s0 : SObj) : ∀ (j : Nat) (v : Value) (p : Nat × SObj) (H H' : Hp), Le H H' → FOr br a c b o s0 j v p H → FOr br a c b o s0 j v p H' := by
  rintro j v p H H' hle ⟨h0, h1, h2⟩
  refine ⟨h0, fun hj => ?_, fun hj => ?_⟩
  · obtain ⟨w, p2, bad, e1, e2, e4⟩ := h1 hj
    exact ⟨w, p2, bad, e1, e2, e4.mono hle⟩
  · obtain ⟨w, p2, bad, a2, c2, e1, e2, e4, e5⟩ := h2 hj
    exact ⟨w, p2, bad, a2, c2, e1, e2, e4, e5.mono hle⟩
theorem FOr_0 {br : Nat} {a : Option Addr} {c : Nat} {b : List UInt8} {o : Option (Val × List UInt8)} {s0 : SObj} {v : Value} {H : Hp} : FOr br a c b o s0 0 v (br, s0) H := ⟨fun _ => rfl, fun h => absurd h (by decide), fun h => absurd h (by decide)⟩
theorem FOr_1 {br : Nat} {a : Option Addr} {c : Nat} {b : List UInt8} {o : Option (Val × List UInt8)} {s0 : SObj} {v : Value} {H : Hp} {w : Val} {p2 : Nat} {bad : Bool} (h1 : PR b o w p2 bad) (h3 : VV H v w) : FOr br a c b o s0 1 v (br, RBo a c b.length p2 bad) H :=
  ⟨fun h => absurd h (by decide), fun _ => ⟨w, p2, bad, h1, rfl, h3⟩, fun h => absurd h (by decide)⟩
theorem FOr_2 {br : Nat} {a : Option Addr} {c : Nat} {b : List UInt8} {o : Option (Val × List UInt8)} {s0 : SObj} {H : Hp} {w : Val} {p2 : Nat} {bad : Bool} {a2 : Option Addr} {c2 n : Nat} (h1 : PR b o w p2 bad) (h3 : SlR valR H a2 c2 [w]) (hn : n = [w].length) : FOr br a c b o s0 2 (.slice a2 n c2) (br, RBo a c b.length p2 bad) H :=
  ⟨fun h => absurd h (by decide), fun h => absurd h (by decide), fun _ => ⟨w, p2, bad, a2, c2, h1, rfl, by rw [hn], h3⟩⟩
/-- j of n values are read, or a value of them cannot be read -/
def itR (f : List UInt8 → Option (Val × List UInt8)) (n : Nat) (r0 b : List UInt8) (j : Nat) (L : List Val) (q : Nat) (bad : Bool) : Prop :=
  (bad = false → itS f n r0 j L (b.drop q)) ∧ (bad = true → iterP f n r0 = none)
theorem itR_0 {f : List UInt8 → Option (Val × List UInt8)} {n q : Nat} {b : List UInt8} : itR f n (b.drop q) b 0 [] q false := ⟨fun _ => itS_0, fun h => by cases h⟩
theorem itR_step {f : List UInt8 → Option (Val × List UInt8)} {n j q q2 : Nat} {r0 b : List UInt8} {L : List Val} {w : Val} {bad : Bool} (h : itR f n r0 b j L q false) (hj : j < n) (hp : PR b (f (b.drop q)) w q2 bad) : itR f n r0 b (j + 1) (L ++ [w]) q2 bad :=
  ⟨fun hb => itS_step (h.1 rfl) hj (hp.2.1 hb), fun hb => itS_none (h.1 rfl) hj (hp.2.2 hb)⟩
end Go.Proofs

/- The walks of the functions of the codec: what each of them computes, at any input. -/
set_option autoImplicit false
set_option linter.unusedVariables false
set_option linter.unusedSimpArgs false
namespace Go.Proofs
open Go.XL

theorem fa_62_0 : fieldF Try.prog 62 0 = some 0 := by kernel_rfl
theorem fa_62_1 : fieldF Try.prog 62 1 = some 1 := by kernel_rfl
theorem fa_62_2 : fieldF Try.prog 62 2 = some 2 := by kernel_rfl

theorem next_fn (br : Nat) (a : Option Addr) (c : Nat) (b : List UInt8) (p : Nat) (H : Hp) (hs : SlR u8R H a c b) (hlen : b.length ≤ 1000000) (hp : p ≤ b.length) : FnC Try.prog 48 #[.pointer (some ⟨br, 0, none⟩)] H [(br, RBo a c b.length p false)] (RetR (fun v H2 own => ∃ (c2 p2 : Nat) (bad : Bool), v = .int .u8 (c2 : Nat) ∧ c2 < 256 ∧ own = [(br, RBo a c b.length p2 bad)] ∧ p2 ≤ b.length ∧ NX b p c2 p2 bad)) := by
  refine FnC.intro (args := [.pointer (some ⟨br, 0, none⟩)]) Try.func48 rfl rfl Try.ntmps48 rfl rfl rfl fun G rest => ?_
  refine XC.seq ?_
  refine XC.region ?_
  refine XO.assign rfl rfl ?_
  refine XO.nil ?_
  refine XC.seq2 ?_
  refine XC.seq ?_
  refine XC.seq ?_
  refine XC.keep [0] rfl ?_
  apply XC.draw 9 [eqF _, eqF _, eqF _, eqF _, eqF _, eqF _, eqF _, eqF _, eqF _] follows (by kernel_rfl) (by kernel_rfl) ⟨eqF_mono _, eqF_mono _, eqF_mono _, eqF_mono _, eqF_mono _, eqF_mono _, eqF_mono _, eqF_mono _, eqF_mono _, trivial⟩ ?steps1 ?tail1
  case steps1 =>
    refine stepsK_cons rfl ?_ ?_
    · intro X
      refine withPreds_nil rfl ?_
      refine XO.move rfl rfl ?_
      refine XO.nil ?_
      exact stepQ_ok rfl (rfl)
    refine stepsK_cons rfl ?_ ?_
    · intro X
      refine withPreds_cons rfl rfl ?_
      rintro _ rfl
      refine withPreds_nil rfl ?_
      refine XO.nilCheckP rfl rfl ?_
      refine XO.nil ?_
      exact stepQ_ok rfl (rfl)
    refine stepsK_cons rfl ?_ ?_
    · intro X
      refine withPreds_cons rfl rfl ?_
      rintro _ rfl
      refine withPreds_nil rfl ?_
      refine XO.fieldAddr rfl fa_62_1 rfl ?_
      refine XO.nil ?_
      exact stepQ_ok rfl (rfl)
    refine stepsK_cons rfl ?_ ?_
    · intro X
      refine withPreds_cons rfl rfl ?_
      rintro _ rfl
      refine withPreds_nil rfl ?_
      refine XO.loadO 0 rfl rfl ty_3 rfl rfl rfl ?_
      refine XO.nil ?_
      exact stepQ_ok rfl (rfl)
    refine stepsK_cons rfl ?_ ?_
    · intro X
      refine withPreds_nil rfl ?_
      refine XO.move rfl rfl ?_
      refine XO.nil ?_
      exact stepQ_ok rfl (rfl)
    refine stepsK_cons rfl ?_ ?_
    · intro X
      refine withPreds_cons rfl rfl ?_
      rintro _ rfl
      refine withPreds_nil rfl ?_
      refine XO.nilCheckP rfl rfl ?_
      refine XO.nil ?_
      exact stepQ_ok rfl (rfl)
    refine stepsK_cons rfl ?_ ?_
    · intro X
      refine withPreds_cons rfl rfl ?_
      rintro _ rfl
      refine withPreds_nil rfl ?_
      refine XO.fieldAddr rfl fa_62_0 rfl ?_
      refine XO.nil ?_
      exact stepQ_ok rfl (rfl)
    refine stepsK_cons rfl ?_ ?_
    · intro X
      refine withPreds_cons rfl rfl ?_
      rintro _ rfl
      refine withPreds_nil rfl ?_
      refine XO.loadO 0 rfl rfl ty_27 rfl rfl rfl ?_
      refine XO.nil ?_
      exact stepQ_ok rfl (rfl)
    refine stepsK_cons rfl ?_ ?_
    · intro X
      refine withPreds_cons rfl rfl ?_
      rintro _ rfl
      refine withPreds_nil rfl ?_
      refine XO.lenS (ts := #[]) rfl Try.underlying27 rfl ?_
      refine XO.nil ?_
      exact stepQ_ok rfl (rfl)
    exact stepsD_end rfl
  case tail1 =>
    refine withPreds_cons rfl rfl ?_
    rintro _ rfl
    refine withPreds_cons rfl rfl ?_
    rintro _ rfl
    refine withPreds_cons rfl rfl ?_
    rintro _ rfl
    refine withPreds_cons rfl rfl ?_
    rintro _ rfl
    refine withPreds_cons rfl rfl ?_
    rintro _ rfl
    refine withPreds_cons rfl rfl ?_
    rintro _ rfl
    refine withPreds_cons rfl rfl ?_
    rintro _ rfl
    refine withPreds_cons rfl rfl ?_
    rintro _ rfl
    refine withPreds_cons rfl rfl ?_
    rintro _ rfl
    refine withPreds_nil rfl ?_
    refine XO.geq rfl rfl rfl ?_
    refine XO.nil ?_
    refine XC.seq2 ?_
    refine XC.cond rfl (fun c0_2 => ?_) (fun c0_2 => ?_)
    · refine XC.seq ?_
      refine XC.region ?_
      refine XO.move rfl rfl ?_
      refine XO.nilCheckP rfl rfl ?_
      refine XO.fieldAddr rfl fa_62_2 rfl ?_
      refine XO.storeO 0 rfl rfl rfl rfl ty_4 rfl rfl rfl rfl rfl ?_
      refine XO.nil ?_
      refine XC.seq2 ?_
      refine XC.seq ?_
      refine XC.region ?_
      refine XO.assign rfl rfl ?_
      refine XO.nil ?_
      refine XC.seq2 ?_
      refine XC.ret ?_
      refine seqX_ret ?_
      refine ⟨rfl, _, [_], rfl, (by repeat (first | exact List.Sublist.refl _ | apply List.Sublist.cons_cons | apply List.Sublist.cons)), RetR.mk ?_⟩
      exact ⟨0, p, true, rfl, by decide, rfl, hp, NX.no (by omega)⟩
    · refine XC.skip ?_
      refine XC.seq2 ?_
      refine XC.seq ?_
      refine XC.region ?_
      refine XO.move rfl rfl ?_
      refine XO.nilCheckP rfl rfl ?_
      refine XO.fieldAddr rfl fa_62_1 rfl ?_
      refine XO.loadO 0 rfl rfl ty_3 rfl rfl rfl ?_
      refine XO.add (c := ((p + 1 : Nat) : Int)) rfl rfl ((wrap_i64 (by omega) (by omega)).trans (by omega)) rfl ?_
      refine XO.nilCheckP rfl rfl ?_
      refine XO.fieldAddr rfl fa_62_1 rfl ?_
      refine XO.storeO 0 rfl rfl rfl rfl ty_3 rfl rfl rfl rfl rfl ?_
      refine XO.nil ?_
      refine XC.seq2 ?_
      refine XC.seq ?_
      refine XC.keep [0] rfl ?_
      obtain ⟨bEX, oEX, rfl⟩ := hs.addr (by omega)
      obtain ⟨_, xX, hxX, rfl, hpX⟩ := hs.elem (p) (by omega)
      apply XC.draw 9 [eqF _, eqF _, eqF _, eqF _, eqF _, eqF _, eqF _, eqF _, eqF _] follows (by kernel_rfl) (by kernel_rfl) ⟨eqF_mono _, eqF_mono _, eqF_mono _, eqF_mono _, eqF_mono _, eqF_mono _, eqF_mono _, eqF_mono _, eqF_mono _, trivial⟩ ?steps4 ?tail4
      case steps4 =>
        refine stepsK_cons rfl ?_ ?_
        · intro X
          refine withPreds_nil rfl ?_
          refine XO.move rfl rfl ?_
          refine XO.nil ?_
          exact stepQ_ok rfl (rfl)
        refine stepsK_cons rfl ?_ ?_
        · intro X
          refine withPreds_cons rfl rfl ?_
          rintro _ rfl
          refine withPreds_nil rfl ?_
          refine XO.nilCheckP rfl rfl ?_
          refine XO.nil ?_
          exact stepQ_ok rfl (rfl)
        refine stepsK_cons rfl ?_ ?_
        · intro X
          refine withPreds_cons rfl rfl ?_
          rintro _ rfl
          refine withPreds_nil rfl ?_
          refine XO.fieldAddr rfl fa_62_0 rfl ?_
          refine XO.nil ?_
          exact stepQ_ok rfl (rfl)
        refine stepsK_cons rfl ?_ ?_
        · intro X
          refine withPreds_cons rfl rfl ?_
          rintro _ rfl
          refine withPreds_nil rfl ?_
          refine XO.loadO 0 rfl rfl ty_27 rfl rfl rfl ?_
          refine XO.nil ?_
          exact stepQ_ok rfl (rfl)
        refine stepsK_cons rfl ?_ ?_
        · intro X
          refine withPreds_nil rfl ?_
          refine XO.move rfl rfl ?_
          refine XO.nil ?_
          exact stepQ_ok rfl (rfl)
        refine stepsK_cons rfl ?_ ?_
        · intro X
          refine withPreds_cons rfl rfl ?_
          rintro _ rfl
          refine withPreds_nil rfl ?_
          refine XO.nilCheckP rfl rfl ?_
          refine XO.nil ?_
          exact stepQ_ok rfl (rfl)
        refine stepsK_cons rfl ?_ ?_
        · intro X
          refine withPreds_cons rfl rfl ?_
          rintro _ rfl
          refine withPreds_nil rfl ?_
          refine XO.fieldAddr rfl fa_62_1 rfl ?_
          refine XO.nil ?_
          exact stepQ_ok rfl (rfl)
        refine stepsK_cons rfl ?_ ?_
        · intro X
          refine withPreds_cons rfl rfl ?_
          rintro _ rfl
          refine withPreds_nil rfl ?_
          refine XO.loadO 0 rfl rfl ty_3 rfl rfl rfl ?_
          refine XO.nil ?_
          exact stepQ_ok rfl (rfl)
        refine stepsK_cons rfl ?_ ?_
        · intro X
          refine withPreds_cons rfl rfl ?_
          rintro _ rfl
          refine withPreds_nil rfl ?_
          refine XO.sub (c := ((p : Nat) : Int)) rfl rfl ((wrap_i64 (by omega) (by omega)).trans (by omega)) rfl ?_
          refine XO.nil ?_
          exact stepQ_ok rfl (rfl)
        exact stepsD_end rfl
      case tail4 =>
        refine withPreds_cons rfl rfl ?_
        rintro _ rfl
        refine withPreds_cons rfl rfl ?_
        rintro _ rfl
        refine withPreds_cons rfl rfl ?_
        rintro _ rfl
        refine withPreds_cons rfl rfl ?_
        rintro _ rfl
        refine withPreds_cons rfl rfl ?_
        rintro _ rfl
        refine withPreds_cons rfl rfl ?_
        rintro _ rfl
        refine withPreds_cons rfl rfl ?_
        rintro _ rfl
        refine withPreds_cons rfl rfl ?_
        rintro _ rfl
        refine withPreds_cons rfl rfl ?_
        rintro _ rfl
        refine withPreds_nil rfl ?_
        refine XO.indexN rfl (by assumption) rfl Try.underlying27 ty_5 (by omega) rfl ?_
        rintro eb32 eo32 _ x32 hx32 rfl hp32
        refine XO.loadH rfl (by assumption) ty_5 rfl rfl rfl ?_
        refine XO.assign rfl rfl ?_
        refine XO.nil ?_
        refine XC.seq2 ?_
        refine XC.ret ?_
        refine ⟨rfl, _, [_], rfl, (by repeat (first | exact List.Sublist.refl _ | apply List.Sublist.cons_cons | apply List.Sublist.cons)), RetR.mk ?_⟩
        exact ⟨_, p + 1, false, rfl, toNat_lt _, rfl, by omega, NX.yes hx32⟩

theorem rnumber_fn (br : Nat) (a : Option Addr) (c : Nat) (b : List UInt8) (p : Nat) (H : Hp) (hs : SlR u8R H a c b) (hlen : b.length ≤ 1000000) (hp : p ≤ b.length) : FnC Try.prog 49 #[.pointer (some ⟨br, 0, none⟩)] H [(br, RBo a c b.length p false)] (RetR (fun v H2 own => ∃ (u p2 : Nat) (bad : Bool), v = .int .u64 (u : Nat) ∧ u < 18446744073709551616 ∧ own = [(br, RBo a c b.length p2 bad)] ∧ PR b (numG (b.drop p)) u p2 bad)) := by
  refine FnC.intro (args := [.pointer (some ⟨br, 0, none⟩)]) Try.func49 rfl rfl Try.ntmps49 rfl rfl rfl fun G rest => ?_
  refine XC.seq ?_
  refine XC.region ?_
  refine XO.assign rfl rfl ?_
  refine XO.nil ?_
  refine XC.seq2 ?_
  refine XC.seq ?_
  refine XC.region ?_
  refine XO.assign rfl rfl ?_
  refine XO.nil ?_
  refine XC.seq2 ?_
  refine XC.seq ?_
  refine XC.seq ?_
  refine XC.region ?_
  refine XO.assign rfl rfl ?_
  refine XO.nil ?_
  refine XC.seq2 ?_
  refine XC.block ?_
  refine XC.keep [3, 4, 0] rfl ?_
  refine XC.loop (base := [(0, _)]) (fun ζ : Nat × (Nat) × (Nat) => [(3, .int .u64 (ζ.2.1 : Nat)), (4, .int .i64 (ζ.1 : Nat))]) (fun ζ Hl own => (br, RBo a c b.length ζ.2.2 false) :: rest = own ∧ (numG (b.drop p) = numP ζ.1 ζ.2.1 (b.drop ζ.2.2)) ∧ (ζ.2.1 < 2 ^ (7 * ζ.1)) ∧ (ζ.1 ≤ 9) ∧ (ζ.2.2 ≤ b.length)) (fun ζ => 10 - ζ.1) (0, 0, p) (prov_cons (rfl) (prov_cons (rfl) (prov_cons (rfl) prov_nil))) (by repeat (first | exact List.Sublist.refl _ | apply List.Sublist.cons_cons | apply List.Sublist.cons)) ⟨rfl, rfl, by show 0 < 2 ^ (7 * 0); decide, by show 0 ≤ 9; omega, hp⟩ ?_
  rintro ⟨i, u, q⟩ Hl0 _ hle0 ⟨rfl, hP, hu, hi, hq⟩
  replace hs := hs.mono hle0
  try dsimp only at hP hu hi hq ⊢
  refine XC.seq ?_
  refine XC.seq ?_
  refine XC.region ?_
  refine XO.move rfl rfl ?_
  refine XO.nilCheckP rfl rfl ?_
  refine XO.fieldAddr rfl fa_62_2 rfl ?_
  refine XO.loadO 0 rfl rfl ty_4 rfl rfl rfl ?_
  refine XO.notB rfl rfl ?_
  refine XO.nil ?_
  refine XC.seq2 ?_
  refine XC.condT rfl (rfl) ?_
  refine XC.skip ?_
  refine XC.seq2 ?_
  refine XC.seq ?_
  refine XC.block ?_
  refine XC.seq ?_
  refine XC.region ?_
  refine XO.move rfl rfl ?_
  refine XO.callF 0 rfl (next_fn br a c b q _ hs hlen hq) rfl rfl ?_
  rintro _ HN14 _ hleN14 ⟨c14, p14, bad14, rfl, hc14, rfl, hp14, hnx14⟩
  refine ⟨_, rfl, ?_⟩
  replace hs := hs.mono hleN14
  replace hle0 := hle0.trans hleN14
  refine XO.assign rfl rfl ?_
  refine XO.nil ?_
  refine XC.seq2 ?_
  refine XC.seq ?_
  refine XC.seq ?_
  refine XC.region ?_
  refine XO.move rfl rfl ?_
  refine XO.eql rfl rfl rfl ?_
  refine XO.move rfl rfl ?_
  refine XO.guardC rfl rfl rfl rfl (fun g2 => ?_) (fun g2 => ?_)
  · have g2p := of_decide_eq_true g2
    refine XO.move rfl rfl ?_
    refine XO.guardT rfl rfl (g2) rfl ?_
    refine XO.gtr rfl rfl rfl ?_
    refine XO.pickT rfl (g2) rfl rfl ?_
    refine XO.move rfl rfl ?_
    refine XO.guardC rfl rfl rfl rfl (fun g3 => ?_) (fun g3 => ?_)
    · have g3p := of_decide_eq_false g3
      refine XO.move rfl rfl ?_
      refine XO.guardT rfl rfl (g3) rfl ?_
      refine XO.gtr rfl rfl rfl ?_
      refine XO.guardT rfl rfl (g3) rfl ?_
      refine XO.move rfl rfl ?_
      refine XO.guardC rfl rfl rfl rfl (fun g4 => ?_) (fun g4 => ?_)
      · have g4p := of_decide_eq_true g4
        refine XO.move rfl rfl ?_
        refine XO.guardT rfl rfl (g4) rfl ?_
        refine XO.eql rfl rfl rfl ?_
        refine XO.guardT rfl rfl (g3) rfl ?_
        refine XO.pickT rfl (g4) rfl rfl ?_
        refine XO.pickF rfl (g3) rfl rfl ?_
        refine XO.nil ?_
        refine XC.seq2 ?_
        refine XC.condB rfl (fun c1_5 => ?_) (fun c1_5 => ?_)
        · refine XC.seq ?_
          refine XC.region ?_
          have hno : ¬ ((i = 0 ∨ c14 ≠ 0) ∧ (i < 9 ∨ c14 ≤ 1)) := by first | omega | (simp_all; omega)
          refine XO.move rfl rfl ?_
          refine XO.nilCheckP rfl rfl ?_
          refine XO.fieldAddr rfl fa_62_2 rfl ?_
          refine XO.storeO 0 rfl rfl rfl rfl ty_4 rfl rfl rfl rfl rfl ?_
          refine XO.nil ?_
          refine XC.seq2 ?_
          refine XC.seq ?_
          refine XC.region ?_
          refine XO.assign rfl rfl ?_
          refine XO.nil ?_
          refine XC.seq2 ?_
          refine XC.ret ?_
          refine seqX_ret ?_
          refine blockR ?_
          refine seqX_ret ?_
          refine loopX_ret ?_
          refine blockR ?_
          refine seqX_ret ?_
          refine ⟨rfl, _, [_], rfl, (by repeat (first | exact List.Sublist.refl _ | apply List.Sublist.cons_cons | apply List.Sublist.cons)), RetR.mk ?_⟩
          first | exact ⟨0, p14, true, rfl, by decide, rfl, hp14, fun h => (by cases h), fun _ => hP.trans (rn_bad hnx14 hno)⟩ | exact ⟨_, _, _, rfl, by omega, rfl, rn_ret hnx14 hP hok (by omega) hp14⟩
        · refine XC.skip ?_
          refine XC.seq2 ?_
          refine XC.seq ?_
          refine XC.region ?_
          have hok : (i = 0 ∨ c14 ≠ 0) ∧ (i < 9 ∨ c14 ≤ 1) := by first | omega | (simp_all; omega)
          have hsl := shl_lt hu hi hc14 hok.2
          refine XO.move rfl rfl ?_
          refine XO.move rfl rfl ?_
          refine XO.rem (c := ((c14 % 128 : Nat) : Int)) rfl rfl (by decide) (rem_nn (by omega)) rfl ?_
          refine XO.convI (c := ((c14 % 128 : Nat) : Int)) rfl Try.underlying5 Try.underlying68 (wrap_u64 (by omega) (by omega)) rfl ?_
          refine XO.move rfl rfl ?_
          refine XO.mul (c := ((7 * i : Nat) : Int)) rfl rfl ((wrap_i64 (by omega) (by omega)).trans (by omega)) rfl ?_
          refine XO.shl rfl rfl (by omega) rfl ?_
          rw [shl_7 hi hc14 hok.2]
          refine XO.add (c := ((u + c14 % 128 * 2 ^ (7 * i) : Nat) : Int)) rfl rfl ((wrap_u64 (by omega) (by omega)).trans (by omega)) rfl ?_
          refine XO.assign rfl rfl ?_
          refine XO.nil ?_
          refine XC.seq2 ?_
          refine XC.seq ?_
          refine XC.region ?_
          refine XO.move rfl rfl ?_
          refine XO.lss rfl rfl rfl ?_
          refine XO.nil ?_
          refine XC.seq2 ?_
          refine XC.cond rfl (fun c2_11 => ?_) (fun c2_11 => ?_)
          · refine XC.seq ?_
            refine XC.region ?_
            refine XO.move rfl rfl ?_
            refine XO.assign rfl rfl ?_
            refine XO.nil ?_
            refine XC.seq2 ?_
            refine XC.ret ?_
            refine blockR ?_
            refine seqX_ret ?_
            refine loopX_ret ?_
            refine blockR ?_
            refine seqX_ret ?_
            refine ⟨rfl, _, [_], rfl, (by repeat (first | exact List.Sublist.refl _ | apply List.Sublist.cons_cons | apply List.Sublist.cons)), RetR.mk ?_⟩
            first | exact ⟨0, p14, true, rfl, by decide, rfl, hp14, fun h => (by cases h), fun _ => hP.trans (rn_bad hnx14 hno)⟩ | exact ⟨_, _, _, rfl, by omega, rfl, rn_ret hnx14 hP hok (by omega) hp14⟩
          · obtain rfl : bad14 = false := hnx14.pos (by omega)
            refine XC.skip ?_
            refine blockN ?_
            refine XC.seq2 ?_
            refine XC.region ?_
            refine XO.move rfl rfl ?_
            refine XO.add rfl rfl (wrap_i64 (by omega) (by omega)) rfl ?_
            refine XO.assign rfl rfl ?_
            refine XO.nil ?_
            refine loop_next ((i + 1, u + c14 % 128 * 2 ^ (7 * i), p14)) (by show 10 - (i + 1) < 10 - i; omega) (prov_cons (rfl) (prov_cons (rfl) (prov_cons (rfl) prov_nil))) (⟨rfl, rn_next hnx14 hP hok (by omega), numP_lt hu (by omega), by show i + 1 ≤ 9; omega, hp14⟩) (by repeat (first | exact List.Sublist.refl _ | apply List.Sublist.cons_cons | apply List.Sublist.cons)) (hle0)
      · have g4p := of_decide_eq_false g4
        refine XO.guardF rfl rfl (g4) rfl rfl ?_
        refine XO.guardT rfl rfl (g3) rfl ?_
        refine XO.pickF rfl (g4) rfl rfl ?_
        refine XO.pickF rfl (g3) rfl rfl ?_
        refine XO.nil ?_
        refine XC.seq2 ?_
        refine XC.condF rfl (rfl) ?_
        refine XC.skip ?_
        refine XC.seq2 ?_
        refine XC.seq ?_
        refine XC.region ?_
        have hok : (i = 0 ∨ c14 ≠ 0) ∧ (i < 9 ∨ c14 ≤ 1) := by first | omega | (simp_all; omega)
        have hsl := shl_lt hu hi hc14 hok.2
        refine XO.move rfl rfl ?_
        refine XO.move rfl rfl ?_
        refine XO.rem (c := ((c14 % 128 : Nat) : Int)) rfl rfl (by decide) (rem_nn (by omega)) rfl ?_
        refine XO.convI (c := ((c14 % 128 : Nat) : Int)) rfl Try.underlying5 Try.underlying68 (wrap_u64 (by omega) (by omega)) rfl ?_
        refine XO.move rfl rfl ?_
        refine XO.mul (c := ((7 * i : Nat) : Int)) rfl rfl ((wrap_i64 (by omega) (by omega)).trans (by omega)) rfl ?_
        refine XO.shl rfl rfl (by omega) rfl ?_
        rw [shl_7 hi hc14 hok.2]
        refine XO.add (c := ((u + c14 % 128 * 2 ^ (7 * i) : Nat) : Int)) rfl rfl ((wrap_u64 (by omega) (by omega)).trans (by omega)) rfl ?_
        refine XO.assign rfl rfl ?_
        refine XO.nil ?_
        refine XC.seq2 ?_
        refine XC.seq ?_
        refine XC.region ?_
        refine XO.move rfl rfl ?_
        refine XO.lss rfl rfl rfl ?_
        refine XO.nil ?_
        refine XC.seq2 ?_
        refine XC.cond rfl (fun c2_17 => ?_) (fun c2_17 => ?_)
        · refine XC.seq ?_
          refine XC.region ?_
          refine XO.move rfl rfl ?_
          refine XO.assign rfl rfl ?_
          refine XO.nil ?_
          refine XC.seq2 ?_
          refine XC.ret ?_
          refine blockR ?_
          refine seqX_ret ?_
          refine loopX_ret ?_
          refine blockR ?_
          refine seqX_ret ?_
          refine ⟨rfl, _, [_], rfl, (by repeat (first | exact List.Sublist.refl _ | apply List.Sublist.cons_cons | apply List.Sublist.cons)), RetR.mk ?_⟩
          first | exact ⟨0, p14, true, rfl, by decide, rfl, hp14, fun h => (by cases h), fun _ => hP.trans (rn_bad hnx14 hno)⟩ | exact ⟨_, _, _, rfl, by omega, rfl, rn_ret hnx14 hP hok (by omega) hp14⟩
        · obtain rfl : bad14 = false := hnx14.pos (by omega)
          refine XC.skip ?_
          refine blockN ?_
          refine XC.seq2 ?_
          refine XC.region ?_
          refine XO.move rfl rfl ?_
          refine XO.add rfl rfl (wrap_i64 (by omega) (by omega)) rfl ?_
          refine XO.assign rfl rfl ?_
          refine XO.nil ?_
          refine loop_next ((i + 1, u + c14 % 128 * 2 ^ (7 * i), p14)) (by show 10 - (i + 1) < 10 - i; omega) (prov_cons (rfl) (prov_cons (rfl) (prov_cons (rfl) prov_nil))) (⟨rfl, rn_next hnx14 hP hok (by omega), numP_lt hu (by omega), by show i + 1 ≤ 9; omega, hp14⟩) (by repeat (first | exact List.Sublist.refl _ | apply List.Sublist.cons_cons | apply List.Sublist.cons)) (hle0)
    · have g3p := of_decide_eq_true g3
      refine XO.guardF rfl rfl (g3) rfl rfl ?_
      refine XO.guardF rfl rfl (g3) rfl rfl ?_
      refine XO.guardU rfl rfl rfl rfl ?_
      refine XO.guardU rfl rfl rfl rfl ?_
      refine XO.guardF rfl rfl (g3) rfl rfl ?_
      refine XO.pickT rfl (g3) rfl rfl ?_
      refine XO.nil ?_
      refine XC.seq2 ?_
      refine XC.condT rfl (rfl) ?_
      refine XC.seq ?_
      refine XC.region ?_
      have hno : ¬ ((i = 0 ∨ c14 ≠ 0) ∧ (i < 9 ∨ c14 ≤ 1)) := by first | omega | (simp_all; omega)
      refine XO.move rfl rfl ?_
      refine XO.nilCheckP rfl rfl ?_
      refine XO.fieldAddr rfl fa_62_2 rfl ?_
      refine XO.storeO 0 rfl rfl rfl rfl ty_4 rfl rfl rfl rfl rfl ?_
      refine XO.nil ?_
      refine XC.seq2 ?_
      refine XC.seq ?_
      refine XC.region ?_
      refine XO.assign rfl rfl ?_
      refine XO.nil ?_
      refine XC.seq2 ?_
      refine XC.ret ?_
      refine seqX_ret ?_
      refine blockR ?_
      refine seqX_ret ?_
      refine loopX_ret ?_
      refine blockR ?_
      refine seqX_ret ?_
      refine ⟨rfl, _, [_], rfl, (by repeat (first | exact List.Sublist.refl _ | apply List.Sublist.cons_cons | apply List.Sublist.cons)), RetR.mk ?_⟩
      first | exact ⟨0, p14, true, rfl, by decide, rfl, hp14, fun h => (by cases h), fun _ => hP.trans (rn_bad hnx14 hno)⟩ | exact ⟨_, _, _, rfl, by omega, rfl, rn_ret hnx14 hP hok (by omega) hp14⟩
  · have g2p := of_decide_eq_false g2
    refine XO.guardF rfl rfl (g2) rfl rfl ?_
    refine XO.pickF rfl (g2) rfl rfl ?_
    refine XO.move rfl rfl ?_
    refine XO.guardT rfl rfl (rfl) rfl ?_
    refine XO.move rfl rfl ?_
    refine XO.guardT rfl rfl (rfl) rfl ?_
    refine XO.gtr rfl rfl rfl ?_
    refine XO.guardT rfl rfl (rfl) rfl ?_
    refine XO.move rfl rfl ?_
    refine XO.guardC rfl rfl rfl rfl (fun g18 => ?_) (fun g18 => ?_)
    · have g18p := of_decide_eq_true g18
      refine XO.move rfl rfl ?_
      refine XO.guardT rfl rfl (g18) rfl ?_
      refine XO.eql rfl rfl rfl ?_
      refine XO.guardT rfl rfl (rfl) rfl ?_
      refine XO.pickT rfl (g18) rfl rfl ?_
      refine XO.pickF rfl (rfl) rfl rfl ?_
      refine XO.nil ?_
      refine XC.seq2 ?_
      refine XC.condB rfl (fun c1_19 => ?_) (fun c1_19 => ?_)
      · refine XC.seq ?_
        refine XC.region ?_
        have hno : ¬ ((i = 0 ∨ c14 ≠ 0) ∧ (i < 9 ∨ c14 ≤ 1)) := by first | omega | (simp_all; omega)
        refine XO.move rfl rfl ?_
        refine XO.nilCheckP rfl rfl ?_
        refine XO.fieldAddr rfl fa_62_2 rfl ?_
        refine XO.storeO 0 rfl rfl rfl rfl ty_4 rfl rfl rfl rfl rfl ?_
        refine XO.nil ?_
        refine XC.seq2 ?_
        refine XC.seq ?_
        refine XC.region ?_
        refine XO.assign rfl rfl ?_
        refine XO.nil ?_
        refine XC.seq2 ?_
        refine XC.ret ?_
        refine seqX_ret ?_
        refine blockR ?_
        refine seqX_ret ?_
        refine loopX_ret ?_
        refine blockR ?_
        refine seqX_ret ?_
        refine ⟨rfl, _, [_], rfl, (by repeat (first | exact List.Sublist.refl _ | apply List.Sublist.cons_cons | apply List.Sublist.cons)), RetR.mk ?_⟩
        first | exact ⟨0, p14, true, rfl, by decide, rfl, hp14, fun h => (by cases h), fun _ => hP.trans (rn_bad hnx14 hno)⟩ | exact ⟨_, _, _, rfl, by omega, rfl, rn_ret hnx14 hP hok (by omega) hp14⟩
      · refine XC.skip ?_
        refine XC.seq2 ?_
        refine XC.seq ?_
        refine XC.region ?_
        have hok : (i = 0 ∨ c14 ≠ 0) ∧ (i < 9 ∨ c14 ≤ 1) := by first | omega | (simp_all; omega)
        have hsl := shl_lt hu hi hc14 hok.2
        refine XO.move rfl rfl ?_
        refine XO.move rfl rfl ?_
        refine XO.rem (c := ((c14 % 128 : Nat) : Int)) rfl rfl (by decide) (rem_nn (by omega)) rfl ?_
        refine XO.convI (c := ((c14 % 128 : Nat) : Int)) rfl Try.underlying5 Try.underlying68 (wrap_u64 (by omega) (by omega)) rfl ?_
        refine XO.move rfl rfl ?_
        refine XO.mul (c := ((7 * i : Nat) : Int)) rfl rfl ((wrap_i64 (by omega) (by omega)).trans (by omega)) rfl ?_
        refine XO.shl rfl rfl (by omega) rfl ?_
        rw [shl_7 hi hc14 hok.2]
        refine XO.add (c := ((u + c14 % 128 * 2 ^ (7 * i) : Nat) : Int)) rfl rfl ((wrap_u64 (by omega) (by omega)).trans (by omega)) rfl ?_
        refine XO.assign rfl rfl ?_
        refine XO.nil ?_
        refine XC.seq2 ?_
        refine XC.seq ?_
        refine XC.region ?_
        refine XO.move rfl rfl ?_
        refine XO.lss rfl rfl rfl ?_
        refine XO.nil ?_
        refine XC.seq2 ?_
        refine XC.cond rfl (fun c2_25 => ?_) (fun c2_25 => ?_)
        · refine XC.seq ?_
          refine XC.region ?_
          refine XO.move rfl rfl ?_
          refine XO.assign rfl rfl ?_
          refine XO.nil ?_
          refine XC.seq2 ?_
          refine XC.ret ?_
          refine blockR ?_
          refine seqX_ret ?_
          refine loopX_ret ?_
          refine blockR ?_
          refine seqX_ret ?_
          refine ⟨rfl, _, [_], rfl, (by repeat (first | exact List.Sublist.refl _ | apply List.Sublist.cons_cons | apply List.Sublist.cons)), RetR.mk ?_⟩
          first | exact ⟨0, p14, true, rfl, by decide, rfl, hp14, fun h => (by cases h), fun _ => hP.trans (rn_bad hnx14 hno)⟩ | exact ⟨_, _, _, rfl, by omega, rfl, rn_ret hnx14 hP hok (by omega) hp14⟩
        · obtain rfl : bad14 = false := hnx14.pos (by omega)
          refine XC.skip ?_
          refine blockN ?_
          refine XC.seq2 ?_
          refine XC.region ?_
          refine XO.move rfl rfl ?_
          refine XO.add rfl rfl (wrap_i64 (by omega) (by omega)) rfl ?_
          refine XO.assign rfl rfl ?_
          refine XO.nil ?_
          refine loop_next ((i + 1, u + c14 % 128 * 2 ^ (7 * i), p14)) (by show 10 - (i + 1) < 10 - i; omega) (prov_cons (rfl) (prov_cons (rfl) (prov_cons (rfl) prov_nil))) (⟨rfl, rn_next hnx14 hP hok (by omega), numP_lt hu (by omega), by show i + 1 ≤ 9; omega, hp14⟩) (by repeat (first | exact List.Sublist.refl _ | apply List.Sublist.cons_cons | apply List.Sublist.cons)) (hle0)
    · have g18p := of_decide_eq_false g18
      refine XO.guardF rfl rfl (g18) rfl rfl ?_
      refine XO.guardT rfl rfl (rfl) rfl ?_
      refine XO.pickF rfl (g18) rfl rfl ?_
      refine XO.pickF rfl (rfl) rfl rfl ?_
      refine XO.nil ?_
      refine XC.seq2 ?_
      refine XC.condF rfl (rfl) ?_
      refine XC.skip ?_
      refine XC.seq2 ?_
      refine XC.seq ?_
      refine XC.region ?_
      have hok : (i = 0 ∨ c14 ≠ 0) ∧ (i < 9 ∨ c14 ≤ 1) := by first | omega | (simp_all; omega)
      have hsl := shl_lt hu hi hc14 hok.2
      refine XO.move rfl rfl ?_
      refine XO.move rfl rfl ?_
      refine XO.rem (c := ((c14 % 128 : Nat) : Int)) rfl rfl (by decide) (rem_nn (by omega)) rfl ?_
      refine XO.convI (c := ((c14 % 128 : Nat) : Int)) rfl Try.underlying5 Try.underlying68 (wrap_u64 (by omega) (by omega)) rfl ?_
      refine XO.move rfl rfl ?_
      refine XO.mul (c := ((7 * i : Nat) : Int)) rfl rfl ((wrap_i64 (by omega) (by omega)).trans (by omega)) rfl ?_
      refine XO.shl rfl rfl (by omega) rfl ?_
      rw [shl_7 hi hc14 hok.2]
      refine XO.add (c := ((u + c14 % 128 * 2 ^ (7 * i) : Nat) : Int)) rfl rfl ((wrap_u64 (by omega) (by omega)).trans (by omega)) rfl ?_
      refine XO.assign rfl rfl ?_
      refine XO.nil ?_
      refine XC.seq2 ?_
      refine XC.seq ?_
      refine XC.region ?_
      refine XO.move rfl rfl ?_
      refine XO.lss rfl rfl rfl ?_
      refine XO.nil ?_
      refine XC.seq2 ?_
      refine XC.cond rfl (fun c2_31 => ?_) (fun c2_31 => ?_)
      · refine XC.seq ?_
        refine XC.region ?_
        refine XO.move rfl rfl ?_
        refine XO.assign rfl rfl ?_
        refine XO.nil ?_
        refine XC.seq2 ?_
        refine XC.ret ?_
        refine blockR ?_
        refine seqX_ret ?_
        refine loopX_ret ?_
        refine blockR ?_
        refine seqX_ret ?_
        refine ⟨rfl, _, [_], rfl, (by repeat (first | exact List.Sublist.refl _ | apply List.Sublist.cons_cons | apply List.Sublist.cons)), RetR.mk ?_⟩
        first | exact ⟨0, p14, true, rfl, by decide, rfl, hp14, fun h => (by cases h), fun _ => hP.trans (rn_bad hnx14 hno)⟩ | exact ⟨_, _, _, rfl, by omega, rfl, rn_ret hnx14 hP hok (by omega) hp14⟩
      · obtain rfl : bad14 = false := hnx14.pos (by omega)
        refine XC.skip ?_
        refine blockN ?_
        refine XC.seq2 ?_
        refine XC.region ?_
        refine XO.move rfl rfl ?_
        refine XO.add rfl rfl (wrap_i64 (by omega) (by omega)) rfl ?_
        refine XO.assign rfl rfl ?_
        refine XO.nil ?_
        refine loop_next ((i + 1, u + c14 % 128 * 2 ^ (7 * i), p14)) (by show 10 - (i + 1) < 10 - i; omega) (prov_cons (rfl) (prov_cons (rfl) (prov_cons (rfl) prov_nil))) (⟨rfl, rn_next hnx14 hP hok (by omega), numP_lt hu (by omega), by show i + 1 ≤ 9; omega, hp14⟩) (by repeat (first | exact List.Sublist.refl _ | apply List.Sublist.cons_cons | apply List.Sublist.cons)) (hle0)

end Go.Proofs

/- The reference's reader against the parser. -/
set_option autoImplicit false
set_option linter.unusedVariables false
set_option linter.unusedSimpArgs false
namespace Go.Proofs
open Go.XL
theorem VV_1 {H : Hp} {n m : Int} (h : n = m) : VV H (.agg ⟨[.int .i64 1, .int .i64 n, .string (bsOf []), .slice none 0 0]⟩) (.mk 1 m [] []) := by
  subst h; exact ⟨none, 0, rfl, SlR.nil0 _ _⟩
theorem VV_2 {H : Hp} {s : List UInt8} : VV H (.agg ⟨[.int .i64 2, .int .i64 0, .string (bsOf s), .slice none 0 0]⟩) (.mk 2 0 s []) := ⟨none, 0, rfl, SlR.nil0 _ _⟩
theorem VV_3 {H : Hp} {l : List Val} {a : Option Addr} {c : Nat} (hs : SlR valR H a c l) : VV H (.agg ⟨[.int .i64 3, .int .i64 0, .string (bsOf []), .slice a l.length c]⟩) (.mk 3 0 [] l) := ⟨a, c, rfl, hs⟩
theorem VV_0 {H : Hp} : VV H (.agg ⟨[.int .i64 0, .int .i64 0, .string (bsOf []), .slice none 0 0]⟩) v0 := ⟨none, 0, rfl, SlR.nil0 _ _⟩
section
variable {b : List UInt8} {p c p2 u p3 D : Nat} {bad bad3 : Bool}
theorem NX.byte (h : NX b p c p2 bad) (hc : c ≠ 0) : ∃ y : UInt8, y.toNat = c ∧ b.drop p = y :: b.drop p2 := h.1 (h.pos hc)
theorem rv_1 (h : NX b p c p2 bad) (hc : c = 1) (hn : PR b (numG (b.drop p2)) u p3 bad3) : PR b (valP D (b.drop p)) (.mk 1 (sgnV u) [] []) p3 bad3 := by
  obtain ⟨y, hy, h2⟩ := h.byte (by omega)
  rw [h2]
  exact ⟨hn.1, fun hb => valP1s (by omega) (hn.2.1 hb), fun hb => valP1n (by omega) (hn.2.2 hb)⟩
theorem len_no (hn : PR b (numG (b.drop p2)) u p3 bad3) (h : bad3 = true ∨ b.length - p3 < u) : lenG (b.drop p2) = none := by
  unfold lenG
  cases bad3 with
  | true => rw [hn.2.2 rfl]
  | false =>
    rw [hn.2.1 rfl]
    have h := h.resolve_left (by simp)
    exact if_neg (by rw [List.length_drop]; omega)
theorem len_yes (hn : PR b (numG (b.drop p2)) u p3 false) (h : ¬ b.length - p3 < u) : lenG (b.drop p2) = some (u, b.drop p3) := by
  unfold lenG
  rw [hn.2.1 rfl]
  exact if_pos (by rw [List.length_drop]; omega)
theorem rv_2no (h : NX b p c p2 bad) (hc : c = 2) (hn : PR b (numG (b.drop p2)) u p3 bad3) (hb : bad3 = true ∨ b.length - p3 < u) : valP D (b.drop p) = none := by
  obtain ⟨y, hy, h2⟩ := h.byte (by omega)
  rw [h2]
  exact valP2n (by omega) (len_no hn hb)
theorem rv_2 (h : NX b p c p2 bad) (hc : c = 2) (hn : PR b (numG (b.drop p2)) u p3 false) (hb : ¬ b.length - p3 < u) : PR b (valP D (b.drop p)) (.mk 2 0 ((b.drop p3).take u) []) (p3 + u) false := by
  obtain ⟨y, hy, h2⟩ := h.byte (by omega)
  rw [h2]
  have := hn.1
  exact ⟨by omega, fun _ => by rw [valP2s (by omega) (len_yes hn hb), List.drop_drop], fun hb => by cases hb⟩
theorem rv_3no (h : NX b p c p2 bad) (hc : c = 3) (hn : PR b (numG (b.drop p2)) u p3 bad3) (hb : (bad3 = true ∨ b.length - p3 < u) ∨ D = 0) : valP D (b.drop p) = none := by
  obtain ⟨y, hy, h2⟩ := h.byte (by omega)
  rw [h2]
  rcases hb with hb | rfl
  · exact valP3n (by omega) (len_no hn hb)
  · exact valP30 (by omega)
theorem rv_3 {j q : Nat} {L : List Val} {bad4 : Bool} (h : NX b p c p2 bad) (hc : c = 3) (hn : PR b (numG (b.drop p2)) u p3 false) (hb : ¬ b.length - p3 < u) (hi : itR (valP D) u (b.drop p3) b j L q bad4) (hq : q ≤ b.length) (hj : bad4 = false → j = u) : PR b (valP (D + 1) (b.drop p)) (.mk 3 0 [] L) q bad4 := by
  obtain ⟨y, hy, h2⟩ := h.byte (by omega)
  rw [h2]
  refine ⟨hq, fun hb4 => ?_, fun hb4 => valP3i (by omega) (len_yes hn hb) (hi.2 hb4)⟩
  have := hi.1 hb4
  rw [hj hb4] at this
  exact valP3s (by omega) (len_yes hn hb) (itS_end this)
theorem rv_0 (h : NX b p c p2 bad) (hc : c ≠ 1 ∧ c ≠ 2 ∧ c ≠ 3) : valP D (b.drop p) = none := by
  cases bad with
  | false => obtain ⟨y, hy, h2⟩ := h.1 rfl; rw [h2]; exact valP0 (by omega)
  | true => rw [(h.2 rfl).2, valP_nil]
end
theorem sgn_odd {u : Nat} (h : u % 2 = 1) : (0 : Int) - ((u / 2 : Nat) : Int) - 1 = sgnV u := by unfold sgnV; rw [if_neg (by omega)]; omega
theorem sgn_even {u : Nat} (h : ¬ u % 2 = 1) : ((u / 2 : Nat) : Int) = sgnV u := by unfold sgnV; rw [if_pos (by omega)]
end Go.Proofs

/- The walks of the functions of the codec: what each of them computes, at any input. -/
set_option autoImplicit false
set_option linter.unusedVariables false
set_option linter.unusedSimpArgs false
namespace Go.Proofs
open Go.XL



set_option maxRecDepth 100000 in
set_option maxHeartbeats 1600000 in
theorem rvalue_all : ∀ (D : Nat) (br : Nat) (a : Option Addr) (c : Nat) (b : List UInt8) (p : Nat) (H : Hp), D ≤ 16 → SlR u8R H a c b → b.length ≤ 1000000 → p ≤ b.length → FnC Try.prog 34 #[.pointer (some ⟨br, 0, none⟩), .int .i64 ((16 : Int) - (D : Nat))] H [(br, RBo a c b.length p false)] (RetR (fun v H2 own => ∃ w p2 bad, VV H2 v w ∧ own = [(br, RBo a c b.length p2 bad)] ∧ PR b (valP D (b.drop p)) w p2 bad)) := by
  intro D
  refine Nat.strongRecOn D ?_
  clear D
  intro D ih br a c b p H hD hs hlen hp
  have hcb := hs.le
  refine FnC.introC (args := [.pointer (some ⟨br, 0, none⟩), .int .i64 ((16 : Int) - (D : Nat))]) Try.func34 rfl rfl Try.ntmps34 rfl rfl rfl fun G rest => ?_
  refine XC.seq ?_
  refine XC.region ?_
  refine XO.alloc ze_24 rfl (fun b4 => ?_)
  refine XO.perm (List.Perm.swap _ _ _) ?_
  refine XO.nil ?_
  refine XC.seq2 ?_
  refine XC.seq ?_
  refine XC.seq ?_
  refine XC.region ?_
  refine XO.move rfl rfl ?_
  refine XO.callF 0 rfl (next_fn br a c b p _ hs hlen hp) rfl rfl ?_
  rintro _ HN11 _ hleN11 ⟨c11, p11, bad11, rfl, hc11, rfl, hp11, hnx11⟩
  refine ⟨_, rfl, ?_⟩
  replace hs := hs.mono hleN11
  refine XO.nil ?_
  refine XC.seq2 ?_
  refine XC.block ?_
  refine XC.seq ?_
  refine XC.region ?_
  refine XO.eql rfl rfl rfl ?_
  refine XO.assign rfl rfl ?_
  refine XO.nil ?_
  refine XC.seq2 ?_
  refine XC.cond rfl (fun c0_2 => ?_) (fun c0_2 => ?_)
  · obtain rfl : bad11 = false := hnx11.pos (by omega)
    refine XC.seq ?_
    refine XC.region ?_
    refine XO.move rfl rfl ?_
    refine XO.callF 0 rfl (rnumber_fn br a c b p11 _ hs hlen hp11) rfl rfl ?_
    rintro _ HN15 _ hleN15 ⟨u15, p15, bad15, rfl, hu15, rfl, hpr15⟩
    refine ⟨_, rfl, ?_⟩
    have hq15 := hpr15.1
    replace hs := hs.mono hleN15
    refine XO.assign rfl rfl ?_
    refine XO.nil ?_
    refine XC.seq2 ?_
    refine XC.seq ?_
    refine XC.seq ?_
    refine XC.region ?_
    refine XO.move rfl rfl ?_
    refine XO.rem (c := ((u15 % 2 : Nat) : Int)) rfl rfl (by decide) (rem_nn (by omega)) rfl ?_
    refine XO.eql rfl rfl rfl ?_
    refine XO.nil ?_
    refine XC.seq2 ?_
    refine XC.cond rfl (fun c1_5 => ?_) (fun c1_5 => ?_)
    · refine XC.seq ?_
      refine XC.region ?_
      refine XO.move rfl rfl ?_
      refine XO.quo (c := ((u15 / 2 : Nat) : Int)) rfl rfl (by decide) (by rw [Int.tdiv_eq_ediv_of_nonneg (by omega)]; exact (wrap_u64 (by omega) (by omega)).trans (by omega)) rfl ?_
      refine XO.convI (c := ((u15 / 2 : Nat) : Int)) rfl Try.underlying68 Try.underlying3 (wrap_i64 (by omega) (by omega)) rfl ?_
      refine XO.neg rfl (wrap_i64 (by omega) (by omega)) rfl ?_
      refine XO.sub rfl rfl (wrap_i64 (by omega) (by omega)) rfl ?_
      refine XO.build bk_24 bf_24 ze_24 rfl rfl rfl ?_
      refine XO.storeO 1 rfl rfl rfl rfl ty_24 rfl rfl rfl rfl rfl ?_
      refine XO.nil ?_
      refine XC.seq2 ?_
      refine XC.ret ?_
      refine seqX_ret ?_
      refine blockR ?_
      refine seqX_ret ?_
      refine ⟨rfl, _, [_], (resC_cell 1 rfl rfl ty_24 rfl rfl resC_nil), (by repeat (first | exact List.Sublist.refl _ | apply List.Sublist.cons_cons | apply List.Sublist.cons)), RetR.mk ?_⟩
      first | exact ⟨_, _, _, VV_1 (sgn_odd (by omega)), rfl, rv_1 hnx11 (by omega) hpr15⟩ | exact ⟨_, _, _, VV_1 (sgn_even (by omega)), rfl, rv_1 hnx11 (by omega) hpr15⟩ | exact ⟨v0, _, true, VV_0, rfl, hq32, fun h => (by cases h), fun _ => rv_2no hnx11 (by omega) hpr32 (by first | exact Or.inl rfl | exact Or.inr (by omega))⟩ | exact ⟨_, _, _, VV_2, rfl, rv_2 hnx11 (by omega) hpr32 (by omega)⟩ | exact ⟨v0, _, true, VV_0, rfl, hq87, fun h => (by cases h), fun _ => rv_3no hnx11 (by omega) hpr87 (by first | exact Or.inl (Or.inl rfl) | exact Or.inl (Or.inr (by omega)) | exact Or.inr (by omega))⟩ | exact ⟨_, _, _, VV_3 hsQ, rfl, rv_3 hnx11 (by omega) hpr87 (by omega) hit hq (by first | (intro; omega) | (intro; simp_all; done))⟩ | exact ⟨v0, _, true, VV_0, rfl, hp11, fun h => (by cases h), fun _ => rv_0 hnx11 (by omega)⟩
    · refine XC.skip ?_
      refine XC.seq2 ?_
      refine XC.seq ?_
      refine XC.region ?_
      refine XO.move rfl rfl ?_
      refine XO.quo (c := ((u15 / 2 : Nat) : Int)) rfl rfl (by decide) (by rw [Int.tdiv_eq_ediv_of_nonneg (by omega)]; exact (wrap_u64 (by omega) (by omega)).trans (by omega)) rfl ?_
      refine XO.convI (c := ((u15 / 2 : Nat) : Int)) rfl Try.underlying68 Try.underlying3 (wrap_i64 (by omega) (by omega)) rfl ?_
      refine XO.build bk_24 bf_24 ze_24 rfl rfl rfl ?_
      refine XO.storeO 1 rfl rfl rfl rfl ty_24 rfl rfl rfl rfl rfl ?_
      refine XO.nil ?_
      refine XC.seq2 ?_
      refine XC.ret ?_
      refine blockR ?_
      refine seqX_ret ?_
      refine ⟨rfl, _, [_], (resC_cell 1 rfl rfl ty_24 rfl rfl resC_nil), (by repeat (first | exact List.Sublist.refl _ | apply List.Sublist.cons_cons | apply List.Sublist.cons)), RetR.mk ?_⟩
      first | exact ⟨_, _, _, VV_1 (sgn_odd (by omega)), rfl, rv_1 hnx11 (by omega) hpr15⟩ | exact ⟨_, _, _, VV_1 (sgn_even (by omega)), rfl, rv_1 hnx11 (by omega) hpr15⟩ | exact ⟨v0, _, true, VV_0, rfl, hq32, fun h => (by cases h), fun _ => rv_2no hnx11 (by omega) hpr32 (by first | exact Or.inl rfl | exact Or.inr (by omega))⟩ | exact ⟨_, _, _, VV_2, rfl, rv_2 hnx11 (by omega) hpr32 (by omega)⟩ | exact ⟨v0, _, true, VV_0, rfl, hq87, fun h => (by cases h), fun _ => rv_3no hnx11 (by omega) hpr87 (by first | exact Or.inl (Or.inl rfl) | exact Or.inl (Or.inr (by omega)) | exact Or.inr (by omega))⟩ | exact ⟨_, _, _, VV_3 hsQ, rfl, rv_3 hnx11 (by omega) hpr87 (by omega) hit hq (by first | (intro; omega) | (intro; simp_all; done))⟩ | exact ⟨v0, _, true, VV_0, rfl, hp11, fun h => (by cases h), fun _ => rv_0 hnx11 (by omega)⟩
  · refine XC.seq ?_
    refine XC.region ?_
    refine XO.eql rfl rfl rfl ?_
    refine XO.assign rfl rfl ?_
    refine XO.nil ?_
    refine XC.seq2 ?_
    refine XC.cond rfl (fun c2_10 => ?_) (fun c2_10 => ?_)
    · obtain rfl : bad11 = false := hnx11.pos (by omega)
      refine XC.seq ?_
      refine XC.region ?_
      refine XO.move rfl rfl ?_
      refine XO.callF 0 rfl (rnumber_fn br a c b p11 _ hs hlen hp11) rfl rfl ?_
      rintro _ HN32 _ hleN32 ⟨u32, p32, bad32, rfl, hu32, rfl, hpr32⟩
      refine ⟨_, rfl, ?_⟩
      have hq32 := hpr32.1
      replace hs := hs.mono hleN32
      refine XO.assign rfl rfl ?_
      refine XO.nil ?_
      refine XC.seq2 ?_
      refine XC.seq ?_
      refine XC.seq ?_
      cases bad32
      · skip
        refine XC.keep [0, 4, 6] rfl ?_
        apply XC.drawH (fun _ => True) trivial [] (by decide) (fun _ _ _ _ => True) (fun _ _ _ _ _ _ h => h) 17 [eqF _, eqF _, eqF _, eqF _, eqF _, eqF _, eqF _, eqF _, eqF _, eqF _, eqF _, eqF _, eqF _, eqF _, eqF _, eqF _, eqF _] follows (by kernel_rfl) ⟨eqF_mono _, eqF_mono _, eqF_mono _, eqF_mono _, eqF_mono _, eqF_mono _, eqF_mono _, eqF_mono _, eqF_mono _, eqF_mono _, eqF_mono _, eqF_mono _, eqF_mono _, eqF_mono _, eqF_mono _, eqF_mono _, eqF_mono _, trivial⟩ (by decide) ?steps12 ?tail12
        case steps12 =>
          refine stepsH_cons rfl ?_ ?_
          · intro X ext HD hleD _
            replace hs := hs.mono hleD
            refine withP_nil rfl ?_
            refine XO.move rfl rfl ?_
            refine XO.nil ?_
            exact stepQN_ok rfl trivial (rfl)
          refine stepsH_cons rfl ?_ ?_
          · intro X ext HD hleD _
            replace hs := hs.mono hleD
            refine withP_cons rfl rfl ?_
            rintro _ rfl
            refine withP_nil rfl ?_
            refine XO.nilCheckP rfl rfl ?_
            refine XO.nil ?_
            exact stepQN_ok rfl trivial (rfl)
          refine stepsH_cons rfl ?_ ?_
          · intro X ext HD hleD _
            replace hs := hs.mono hleD
            refine withP_cons rfl rfl ?_
            rintro _ rfl
            refine withP_nil rfl ?_
            refine XO.fieldAddr rfl fa_62_2 rfl ?_
            refine XO.nil ?_
            exact stepQN_ok rfl trivial (rfl)
          refine stepsH_cons rfl ?_ ?_
          · intro X ext HD hleD _
            replace hs := hs.mono hleD
            refine withP_cons rfl rfl ?_
            rintro _ rfl
            refine withP_nil rfl ?_
            refine XO.loadO 0 rfl rfl ty_4 rfl rfl rfl ?_
            refine XO.nil ?_
            exact stepQN_ok rfl trivial (rfl)
          refine stepsH_cons rfl ?_ ?_
          · intro X ext HD hleD _
            replace hs := hs.mono hleD
            refine withP_cons rfl rfl ?_
            rintro _ rfl
            refine withP_nil rfl ?_
            refine XO.move rfl rfl ?_
            refine XO.nil ?_
            exact stepQN_ok rfl trivial (rfl)
          refine stepsH_cons rfl ?_ ?_
          · intro X ext HD hleD _
            replace hs := hs.mono hleD
            refine withP_cons rfl rfl ?_
            rintro _ rfl
            refine withP_nil rfl ?_
            refine XO.guardT rfl rfl (rfl) rfl ?_
            refine XO.move rfl rfl ?_
            refine XO.nil ?_
            exact stepQN_ok rfl trivial (rfl)
          refine stepsH_cons rfl ?_ ?_
          · intro X ext HD hleD _
            replace hs := hs.mono hleD
            refine withP_cons rfl rfl ?_
            rintro _ rfl
            refine withP_nil rfl ?_
            refine XO.guardT rfl rfl (rfl) rfl ?_
            refine XO.move rfl rfl ?_
            refine XO.nil ?_
            exact stepQN_ok rfl trivial (rfl)
          refine stepsH_cons rfl ?_ ?_
          · intro X ext HD hleD _
            replace hs := hs.mono hleD
            refine withP_cons rfl rfl ?_
            rintro _ rfl
            refine withP_cons rfl rfl ?_
            rintro _ rfl
            refine withP_nil rfl ?_
            refine XO.guardT rfl rfl (rfl) rfl ?_
            refine XO.nilCheckP rfl rfl ?_
            refine XO.nil ?_
            exact stepQN_ok rfl trivial (rfl)
          refine stepsH_cons rfl ?_ ?_
          · intro X ext HD hleD _
            replace hs := hs.mono hleD
            refine withP_cons rfl rfl ?_
            rintro _ rfl
            refine withP_cons rfl rfl ?_
            rintro _ rfl
            refine withP_nil rfl ?_
            refine XO.guardT rfl rfl (rfl) rfl ?_
            refine XO.fieldAddr rfl fa_62_0 rfl ?_
            refine XO.nil ?_
            exact stepQN_ok rfl trivial (rfl)
          refine stepsH_cons rfl ?_ ?_
          · intro X ext HD hleD _
            replace hs := hs.mono hleD
            refine withP_cons rfl rfl ?_
            rintro _ rfl
            refine withP_cons rfl rfl ?_
            rintro _ rfl
            refine withP_nil rfl ?_
            refine XO.guardT rfl rfl (rfl) rfl ?_
            refine XO.loadO 0 rfl rfl ty_27 rfl rfl rfl ?_
            refine XO.nil ?_
            exact stepQN_ok rfl trivial (rfl)
          refine stepsH_cons rfl ?_ ?_
          · intro X ext HD hleD _
            replace hs := hs.mono hleD
            refine withP_cons rfl rfl ?_
            rintro _ rfl
            refine withP_cons rfl rfl ?_
            rintro _ rfl
            refine withP_nil rfl ?_
            refine XO.guardT rfl rfl (rfl) rfl ?_
            refine XO.lenS (ts := #[]) rfl Try.underlying27 rfl ?_
            refine XO.nil ?_
            exact stepQN_ok rfl trivial (rfl)
          refine stepsH_cons rfl ?_ ?_
          · intro X ext HD hleD _
            replace hs := hs.mono hleD
            refine withP_cons rfl rfl ?_
            rintro _ rfl
            refine withP_nil rfl ?_
            refine XO.guardT rfl rfl (rfl) rfl ?_
            refine XO.move rfl rfl ?_
            refine XO.nil ?_
            exact stepQN_ok rfl trivial (rfl)
          refine stepsH_cons rfl ?_ ?_
          · intro X ext HD hleD _
            replace hs := hs.mono hleD
            refine withP_cons rfl rfl ?_
            rintro _ rfl
            refine withP_cons rfl rfl ?_
            rintro _ rfl
            refine withP_nil rfl ?_
            refine XO.guardT rfl rfl (rfl) rfl ?_
            refine XO.nilCheckP rfl rfl ?_
            refine XO.nil ?_
            exact stepQN_ok rfl trivial (rfl)
          refine stepsH_cons rfl ?_ ?_
          · intro X ext HD hleD _
            replace hs := hs.mono hleD
            refine withP_cons rfl rfl ?_
            rintro _ rfl
            refine withP_cons rfl rfl ?_
            rintro _ rfl
            refine withP_nil rfl ?_
            refine XO.guardT rfl rfl (rfl) rfl ?_
            refine XO.fieldAddr rfl fa_62_1 rfl ?_
            refine XO.nil ?_
            exact stepQN_ok rfl trivial (rfl)
          refine stepsH_cons rfl ?_ ?_
          · intro X ext HD hleD _
            replace hs := hs.mono hleD
            refine withP_cons rfl rfl ?_
            rintro _ rfl
            refine withP_cons rfl rfl ?_
            rintro _ rfl
            refine withP_nil rfl ?_
            refine XO.guardT rfl rfl (rfl) rfl ?_
            refine XO.loadO 0 rfl rfl ty_3 rfl rfl rfl ?_
            refine XO.nil ?_
            exact stepQN_ok rfl trivial (rfl)
          refine stepsH_cons rfl ?_ ?_
          · intro X ext HD hleD _
            replace hs := hs.mono hleD
            refine withP_cons rfl rfl ?_
            rintro _ rfl
            refine withP_cons rfl rfl ?_
            rintro _ rfl
            refine withP_cons rfl rfl ?_
            rintro _ rfl
            refine withP_nil rfl ?_
            refine XO.guardT rfl rfl (rfl) rfl ?_
            refine XO.sub (c := ((b.length - p32 : Nat) : Int)) rfl rfl ((wrap_i64 (by omega) (by omega)).trans (by omega)) rfl ?_
            refine XO.nil ?_
            exact stepQN_ok rfl trivial (rfl)
          refine stepsH_cons rfl ?_ ?_
          · intro X ext HD hleD _
            replace hs := hs.mono hleD
            refine withP_cons rfl rfl ?_
            rintro _ rfl
            refine withP_cons rfl rfl ?_
            rintro _ rfl
            refine withP_nil rfl ?_
            refine XO.guardT rfl rfl (rfl) rfl ?_
            refine XO.convI (c := ((b.length - p32 : Nat) : Int)) rfl Try.underlying3 Try.underlying68 (wrap_u64 (by omega) (by omega)) rfl ?_
            refine XO.nil ?_
            exact stepQN_ok rfl trivial (rfl)
          exact stepsH_end rfl
        case tail12 =>
          intro HD hleD _
          replace hs := hs.mono hleD
          refine withP_cons rfl rfl ?_
          rintro _ rfl
          refine withP_cons rfl rfl ?_
          rintro _ rfl
          refine withP_cons rfl rfl ?_
          rintro _ rfl
          refine withP_cons rfl rfl ?_
          rintro _ rfl
          refine withP_cons rfl rfl ?_
          rintro _ rfl
          refine withP_cons rfl rfl ?_
          rintro _ rfl
          refine withP_cons rfl rfl ?_
          rintro _ rfl
          refine withP_cons rfl rfl ?_
          rintro _ rfl
          refine withP_cons rfl rfl ?_
          rintro _ rfl
          refine withP_cons rfl rfl ?_
          rintro _ rfl
          refine withP_cons rfl rfl ?_
          rintro _ rfl
          refine withP_cons rfl rfl ?_
          rintro _ rfl
          refine withP_cons rfl rfl ?_
          rintro _ rfl
          refine withP_cons rfl rfl ?_
          rintro _ rfl
          refine withP_cons rfl rfl ?_
          rintro _ rfl
          refine withP_cons rfl rfl ?_
          rintro _ rfl
          refine withP_cons rfl rfl ?_
          rintro _ rfl
          refine withP_nil rfl ?_
          refine withEnts_nil ?_
          refine XO.guardT rfl rfl (rfl) rfl ?_
          refine XO.gtr rfl rfl rfl ?_
          refine XO.pickF rfl (rfl) rfl rfl ?_
          refine XO.nil ?_
          refine XC.seq2 ?_
          refine XC.cond rfl (fun c3_15 => ?_) (fun c3_15 => ?_)
          · refine XC.seq ?_
            refine XC.region ?_
            refine XO.move rfl rfl ?_
            refine XO.nilCheckP rfl rfl ?_
            refine XO.fieldAddr rfl fa_62_2 rfl ?_
            refine XO.storeO 0 rfl rfl rfl rfl ty_4 rfl rfl rfl rfl rfl ?_
            refine XO.nil ?_
            refine XC.seq2 ?_
            refine XC.seq ?_
            refine XC.region ?_
            refine XO.build bk_24 bf_24 ze_24 rfl rfl rfl ?_
            refine XO.storeO 1 rfl rfl rfl rfl ty_24 rfl rfl rfl rfl rfl ?_
            refine XO.nil ?_
            refine XC.seq2 ?_
            refine XC.ret ?_
            refine seqX_ret ?_
            refine blockR ?_
            refine seqX_ret ?_
            refine ⟨rfl, _, [_], (resC_cell 1 rfl rfl ty_24 rfl rfl resC_nil), (by repeat (first | exact List.Sublist.refl _ | apply List.Sublist.cons_cons | apply List.Sublist.cons)), RetR.mk ?_⟩
            first | exact ⟨_, _, _, VV_1 (sgn_odd (by omega)), rfl, rv_1 hnx11 (by omega) hpr15⟩ | exact ⟨_, _, _, VV_1 (sgn_even (by omega)), rfl, rv_1 hnx11 (by omega) hpr15⟩ | exact ⟨v0, _, true, VV_0, rfl, hq32, fun h => (by cases h), fun _ => rv_2no hnx11 (by omega) hpr32 (by first | exact Or.inl rfl | exact Or.inr (by omega))⟩ | exact ⟨_, _, _, VV_2, rfl, rv_2 hnx11 (by omega) hpr32 (by omega)⟩ | exact ⟨v0, _, true, VV_0, rfl, hq87, fun h => (by cases h), fun _ => rv_3no hnx11 (by omega) hpr87 (by first | exact Or.inl (Or.inl rfl) | exact Or.inl (Or.inr (by omega)) | exact Or.inr (by omega))⟩ | exact ⟨_, _, _, VV_3 hsQ, rfl, rv_3 hnx11 (by omega) hpr87 (by omega) hit hq (by first | (intro; omega) | (intro; simp_all; done))⟩ | exact ⟨v0, _, true, VV_0, rfl, hp11, fun h => (by cases h), fun _ => rv_0 hnx11 (by omega)⟩
          · refine XC.skip ?_
            refine XC.seq2 ?_
            refine XC.seq ?_
            refine XC.region ?_
            refine XO.move rfl rfl ?_
            refine XO.move rfl rfl ?_
            refine XO.nilCheckP rfl rfl ?_
            refine XO.fieldAddr rfl fa_62_1 rfl ?_
            refine XO.loadO 0 rfl rfl ty_3 rfl rfl rfl ?_
            refine XO.move rfl rfl ?_
            refine XO.convI (c := ((u32 : Nat) : Int)) rfl Try.underlying68 Try.underlying3 (wrap_i64 (by omega) (by omega)) rfl ?_
            refine XO.add (c := ((p32 + u32 : Nat) : Int)) rfl rfl ((wrap_i64 (by omega) (by omega)).trans (by omega)) rfl ?_
            refine XO.nilCheckP rfl rfl ?_
            refine XO.fieldAddr rfl fa_62_1 rfl ?_
            refine XO.storeO 0 rfl rfl rfl rfl ty_3 rfl rfl rfl rfl rfl ?_
            refine XO.nil ?_
            refine XC.seq2 ?_
            refine XC.seq ?_
            refine XC.keep [0, 4, 6] rfl ?_
            apply XC.drawG (fun _ => True) trivial 18 [eqF _, eqF _, eqF _, eqF _, eqF _, eqF _, eqF _, eqF _, eqF _, eqF _, eqF _, eqF _, eqF _, eqF _, eqF _, fun v H => ∃ a c, v = .slice a ((b.drop p32).take u32).length c ∧ SlR u8R H a c ((b.drop p32).take u32), eqF _, eqF _] follows (by kernel_rfl) (by kernel_rfl) ⟨eqF_mono _, eqF_mono _, eqF_mono _, eqF_mono _, eqF_mono _, eqF_mono _, eqF_mono _, eqF_mono _, eqF_mono _, eqF_mono _, eqF_mono _, eqF_mono _, eqF_mono _, eqF_mono _, eqF_mono _, fun _ _ _ hle ⟨a, c, h1, h2⟩ => ⟨a, c, h1, h2.mono hle⟩, eqF_mono _, eqF_mono _, trivial⟩ ?steps18 ?tail18
            case steps18 =>
              refine stepsD_cons rfl ?_ ?_
              · intro X HD hleD _
                replace hs := hs.mono hleD
                refine withPreds_nil rfl ?_
                refine XO.move rfl rfl ?_
                refine XO.nil ?_
                exact stepQ_ok trivial (rfl)
              refine stepsD_cons rfl ?_ ?_
              · intro X HD hleD _
                replace hs := hs.mono hleD
                refine withPreds_cons rfl rfl ?_
                rintro _ rfl
                refine withPreds_nil rfl ?_
                refine XO.nilCheckP rfl rfl ?_
                refine XO.nil ?_
                exact stepQ_ok trivial (rfl)
              refine stepsD_cons rfl ?_ ?_
              · intro X HD hleD _
                replace hs := hs.mono hleD
                refine withPreds_cons rfl rfl ?_
                rintro _ rfl
                refine withPreds_nil rfl ?_
                refine XO.fieldAddr rfl fa_62_0 rfl ?_
                refine XO.nil ?_
                exact stepQ_ok trivial (rfl)
              refine stepsD_cons rfl ?_ ?_
              · intro X HD hleD _
                replace hs := hs.mono hleD
                refine withPreds_cons rfl rfl ?_
                rintro _ rfl
                refine withPreds_nil rfl ?_
                refine XO.loadO 0 rfl rfl ty_27 rfl rfl rfl ?_
                refine XO.nil ?_
                exact stepQ_ok trivial (rfl)
              refine stepsD_cons rfl ?_ ?_
              · intro X HD hleD _
                replace hs := hs.mono hleD
                refine withPreds_nil rfl ?_
                refine XO.move rfl rfl ?_
                refine XO.nil ?_
                exact stepQ_ok trivial (rfl)
              refine stepsD_cons rfl ?_ ?_
              · intro X HD hleD _
                replace hs := hs.mono hleD
                refine withPreds_cons rfl rfl ?_
                rintro _ rfl
                refine withPreds_nil rfl ?_
                refine XO.nilCheckP rfl rfl ?_
                refine XO.nil ?_
                exact stepQ_ok trivial (rfl)
              refine stepsD_cons rfl ?_ ?_
              · intro X HD hleD _
                replace hs := hs.mono hleD
                refine withPreds_cons rfl rfl ?_
                rintro _ rfl
                refine withPreds_nil rfl ?_
                refine XO.fieldAddr rfl fa_62_1 rfl ?_
                refine XO.nil ?_
                exact stepQ_ok trivial (rfl)
              refine stepsD_cons rfl ?_ ?_
              · intro X HD hleD _
                replace hs := hs.mono hleD
                refine withPreds_cons rfl rfl ?_
                rintro _ rfl
                refine withPreds_nil rfl ?_
                refine XO.loadO 0 rfl rfl ty_3 rfl rfl rfl ?_
                refine XO.nil ?_
                exact stepQ_ok trivial (rfl)
              refine stepsD_cons rfl ?_ ?_
              · intro X HD hleD _
                replace hs := hs.mono hleD
                refine withPreds_nil rfl ?_
                refine XO.move rfl rfl ?_
                refine XO.nil ?_
                exact stepQ_ok trivial (rfl)
              refine stepsD_cons rfl ?_ ?_
              · intro X HD hleD _
                replace hs := hs.mono hleD
                refine withPreds_cons rfl rfl ?_
                rintro _ rfl
                refine withPreds_nil rfl ?_
                refine XO.convI (c := ((u32 : Nat) : Int)) rfl Try.underlying68 Try.underlying3 (wrap_i64 (by omega) (by omega)) rfl ?_
                refine XO.nil ?_
                exact stepQ_ok trivial (rfl)
              refine stepsD_cons rfl ?_ ?_
              · intro X HD hleD _
                replace hs := hs.mono hleD
                refine withPreds_cons rfl rfl ?_
                rintro _ rfl
                refine withPreds_cons rfl rfl ?_
                rintro _ rfl
                refine withPreds_nil rfl ?_
                refine XO.sub (c := ((p32 : Nat) : Int)) rfl rfl ((wrap_i64 (by omega) (by omega)).trans (by omega)) rfl ?_
                refine XO.nil ?_
                exact stepQ_ok trivial (rfl)
              refine stepsD_cons rfl ?_ ?_
              · intro X HD hleD _
                replace hs := hs.mono hleD
                refine withPreds_nil rfl ?_
                refine XO.move rfl rfl ?_
                refine XO.nil ?_
                exact stepQ_ok trivial (rfl)
              refine stepsD_cons rfl ?_ ?_
              · intro X HD hleD _
                replace hs := hs.mono hleD
                refine withPreds_cons rfl rfl ?_
                rintro _ rfl
                refine withPreds_nil rfl ?_
                refine XO.nilCheckP rfl rfl ?_
                refine XO.nil ?_
                exact stepQ_ok trivial (rfl)
              refine stepsD_cons rfl ?_ ?_
              · intro X HD hleD _
                replace hs := hs.mono hleD
                refine withPreds_cons rfl rfl ?_
                rintro _ rfl
                refine withPreds_nil rfl ?_
                refine XO.fieldAddr rfl fa_62_1 rfl ?_
                refine XO.nil ?_
                exact stepQ_ok trivial (rfl)
              refine stepsD_cons rfl ?_ ?_
              · intro X HD hleD _
                replace hs := hs.mono hleD
                refine withPreds_cons rfl rfl ?_
                rintro _ rfl
                refine withPreds_nil rfl ?_
                refine XO.loadO 0 rfl rfl ty_3 rfl rfl rfl ?_
                refine XO.nil ?_
                exact stepQ_ok trivial (rfl)
              refine stepsD_cons rfl ?_ ?_
              · intro X HD hleD _
                replace hs := hs.mono hleD
                refine withPreds_cons rfl rfl ?_
                rintro _ rfl
                refine withPreds_cons rfl rfl ?_
                rintro _ rfl
                refine withPreds_cons rfl rfl ?_
                rintro _ rfl
                refine withPreds_nil rfl ?_
                refine XO.slice (lo' := (p32 : Int)) (hi' := ((p32 + u32 : Nat) : Int)) (m' := (c : Int)) rfl (by assumption) (ev?_some rfl) (ev?_some rfl) ev?_none (by simp) (by omega) (by omega) (by omega) (by omega) (by omega) Try.underlying27 ty_5 rfl (fun as81 ls81 hls81 hss81 => ?_)
                obtain rfl : ls81 = (b.drop p32).take u32 := by first | (rw [hls81]; simp only [Int.toNat_natCast, Nat.add_sub_cancel_left]; done) | (rw [hls81]; simp; done) | (rw [hls81]; simp; rw [List.take_of_length_le (by simp)])
                refine XO.nil ?_
                exact stepQ_ok trivial (⟨_, _, rfl, hss81⟩)
              refine stepsD_cons rfl ?_ ?_
              · intro X HD hleD _
                replace hs := hs.mono hleD
                refine withPreds_cons rfl rfl ?_
                rintro _ ⟨a81, c81, rfl, h81⟩
                refine withPreds_nil rfl ?_
                refine XO.b2s rfl h81 Try.underlying27 Try.underlying5 Try.underlying9 rfl ?_
                refine XO.nil ?_
                exact stepQ_ok trivial (rfl)
              refine stepsD_cons rfl ?_ ?_
              · intro X HD hleD _
                replace hs := hs.mono hleD
                refine withPreds_cons rfl rfl ?_
                rintro _ rfl
                refine withPreds_nil rfl ?_
                refine XO.build bk_24 bf_24 ze_24 rfl rfl rfl ?_
                refine XO.nil ?_
                exact stepQ_ok trivial (rfl)
              exact stepsD_end rfl
            case tail18 =>
              intro HD hleD _
              replace hs := hs.mono hleD
              refine withPreds_cons rfl rfl ?_
              rintro _ rfl
              refine withPreds_cons rfl rfl ?_
              rintro _ rfl
              refine withPreds_cons rfl rfl ?_
              rintro _ rfl
              refine withPreds_cons rfl rfl ?_
              rintro _ rfl
              refine withPreds_cons rfl rfl ?_
              rintro _ rfl
              refine withPreds_cons rfl rfl ?_
              rintro _ rfl
              refine withPreds_cons rfl rfl ?_
              rintro _ rfl
              refine withPreds_cons rfl rfl ?_
              rintro _ rfl
              refine withPreds_cons rfl rfl ?_
              rintro _ rfl
              refine withPreds_cons rfl rfl ?_
              rintro _ rfl
              refine withPreds_cons rfl rfl ?_
              rintro _ rfl
              refine withPreds_cons rfl rfl ?_
              rintro _ rfl
              refine withPreds_cons rfl rfl ?_
              rintro _ rfl
              refine withPreds_cons rfl rfl ?_
              rintro _ rfl
              refine withPreds_cons rfl rfl ?_
              rintro _ rfl
              refine withPreds_cons rfl rfl ?_
              rintro _ ⟨a81, c81, rfl, h81⟩
              refine withPreds_cons rfl rfl ?_
              rintro _ rfl
              refine withPreds_cons rfl rfl ?_
              rintro _ rfl
              refine withPreds_nil rfl ?_
              refine XO.storeO 1 rfl rfl rfl rfl ty_24 rfl rfl rfl rfl rfl ?_
              refine XO.nil ?_
              refine XC.seq2 ?_
              refine XC.ret ?_
              refine blockR ?_
              refine seqX_ret ?_
              refine ⟨rfl, _, [_], (resC_cell 1 rfl rfl ty_24 rfl rfl resC_nil), (by repeat (first | exact List.Sublist.refl _ | apply List.Sublist.cons_cons | apply List.Sublist.cons)), RetR.mk ?_⟩
              first | exact ⟨_, _, _, VV_1 (sgn_odd (by omega)), rfl, rv_1 hnx11 (by omega) hpr15⟩ | exact ⟨_, _, _, VV_1 (sgn_even (by omega)), rfl, rv_1 hnx11 (by omega) hpr15⟩ | exact ⟨v0, _, true, VV_0, rfl, hq32, fun h => (by cases h), fun _ => rv_2no hnx11 (by omega) hpr32 (by first | exact Or.inl rfl | exact Or.inr (by omega))⟩ | exact ⟨_, _, _, VV_2, rfl, rv_2 hnx11 (by omega) hpr32 (by omega)⟩ | exact ⟨v0, _, true, VV_0, rfl, hq87, fun h => (by cases h), fun _ => rv_3no hnx11 (by omega) hpr87 (by first | exact Or.inl (Or.inl rfl) | exact Or.inl (Or.inr (by omega)) | exact Or.inr (by omega))⟩ | exact ⟨_, _, _, VV_3 hsQ, rfl, rv_3 hnx11 (by omega) hpr87 (by omega) hit hq (by first | (intro; omega) | (intro; simp_all; done))⟩ | exact ⟨v0, _, true, VV_0, rfl, hp11, fun h => (by cases h), fun _ => rv_0 hnx11 (by omega)⟩
      · skip
        refine XC.keep [0, 4, 6] rfl ?_
        apply XC.drawH (fun _ => True) trivial [] (by decide) (fun _ _ _ _ => True) (fun _ _ _ _ _ _ h => h) 17 [eqF _, eqF _, eqF _, eqF _, eqF _, eqF _, eqF _, eqF _, eqF _, eqF _, eqF _, eqF _, eqF _, eqF _, eqF _, eqF _, eqF _] follows (by kernel_rfl) ⟨eqF_mono _, eqF_mono _, eqF_mono _, eqF_mono _, eqF_mono _, eqF_mono _, eqF_mono _, eqF_mono _, eqF_mono _, eqF_mono _, eqF_mono _, eqF_mono _, eqF_mono _, eqF_mono _, eqF_mono _, eqF_mono _, eqF_mono _, trivial⟩ (by decide) ?steps22 ?tail22
        case steps22 =>
          refine stepsH_cons rfl ?_ ?_
          · intro X ext HD hleD _
            replace hs := hs.mono hleD
            refine withP_nil rfl ?_
            refine XO.move rfl rfl ?_
            refine XO.nil ?_
            exact stepQN_ok rfl trivial (rfl)
          refine stepsH_cons rfl ?_ ?_
          · intro X ext HD hleD _
            replace hs := hs.mono hleD
            refine withP_cons rfl rfl ?_
            rintro _ rfl
            refine withP_nil rfl ?_
            refine XO.nilCheckP rfl rfl ?_
            refine XO.nil ?_
            exact stepQN_ok rfl trivial (rfl)
          refine stepsH_cons rfl ?_ ?_
          · intro X ext HD hleD _
            replace hs := hs.mono hleD
            refine withP_cons rfl rfl ?_
            rintro _ rfl
            refine withP_nil rfl ?_
            refine XO.fieldAddr rfl fa_62_2 rfl ?_
            refine XO.nil ?_
            exact stepQN_ok rfl trivial (rfl)
          refine stepsH_cons rfl ?_ ?_
          · intro X ext HD hleD _
            replace hs := hs.mono hleD
            refine withP_cons rfl rfl ?_
            rintro _ rfl
            refine withP_nil rfl ?_
            refine XO.loadO 0 rfl rfl ty_4 rfl rfl rfl ?_
            refine XO.nil ?_
            exact stepQN_ok rfl trivial (rfl)
          refine stepsH_cons rfl ?_ ?_
          · intro X ext HD hleD _
            replace hs := hs.mono hleD
            refine withP_cons rfl rfl ?_
            rintro _ rfl
            refine withP_nil rfl ?_
            refine XO.move rfl rfl ?_
            refine XO.nil ?_
            exact stepQN_ok rfl trivial (rfl)
          refine stepsH_cons rfl ?_ ?_
          · intro X ext HD hleD _
            replace hs := hs.mono hleD
            refine withP_cons rfl rfl ?_
            rintro _ rfl
            refine withP_nil rfl ?_
            refine XO.guardF rfl rfl (rfl) rfl rfl ?_
            refine XO.nil ?_
            exact stepQN_ok rfl trivial (rfl)
          refine stepsH_cons rfl ?_ ?_
          · intro X ext HD hleD _
            replace hs := hs.mono hleD
            refine withP_cons rfl rfl ?_
            rintro _ rfl
            refine withP_nil rfl ?_
            refine XO.guardF rfl rfl (rfl) rfl rfl ?_
            refine XO.nil ?_
            exact stepQN_ok rfl trivial (rfl)
          refine stepsH_cons rfl ?_ ?_
          · intro X ext HD hleD _
            replace hs := hs.mono hleD
            refine withP_cons rfl rfl ?_
            rintro _ rfl
            refine withP_cons rfl rfl ?_
            rintro _ rfl
            refine withP_nil rfl ?_
            refine XO.guardF rfl rfl (rfl) rfl rfl ?_
            refine XO.nil ?_
            exact stepQN_ok rfl trivial (rfl)
          refine stepsH_cons rfl ?_ ?_
          · intro X ext HD hleD _
            replace hs := hs.mono hleD
            refine withP_cons rfl rfl ?_
            rintro _ rfl
            refine withP_cons rfl rfl ?_
            rintro _ rfl
            refine withP_nil rfl ?_
            refine XO.guardF rfl rfl (rfl) rfl rfl ?_
            refine XO.nil ?_
            exact stepQN_ok rfl trivial (rfl)
          refine stepsH_cons rfl ?_ ?_
          · intro X ext HD hleD _
            replace hs := hs.mono hleD
            refine withP_cons rfl rfl ?_
            rintro _ rfl
            refine withP_cons rfl rfl ?_
            rintro _ rfl
            refine withP_nil rfl ?_
            refine XO.guardF rfl rfl (rfl) rfl rfl ?_
            refine XO.nil ?_
            exact stepQN_ok rfl trivial (rfl)
          refine stepsH_cons rfl ?_ ?_
          · intro X ext HD hleD _
            replace hs := hs.mono hleD
            refine withP_cons rfl rfl ?_
            rintro _ rfl
            refine withP_cons rfl rfl ?_
            rintro _ rfl
            refine withP_nil rfl ?_
            refine XO.guardF rfl rfl (rfl) rfl rfl ?_
            refine XO.nil ?_
            exact stepQN_ok rfl trivial (rfl)
          refine stepsH_cons rfl ?_ ?_
          · intro X ext HD hleD _
            replace hs := hs.mono hleD
            refine withP_cons rfl rfl ?_
            rintro _ rfl
            refine withP_nil rfl ?_
            refine XO.guardF rfl rfl (rfl) rfl rfl ?_
            refine XO.nil ?_
            exact stepQN_ok rfl trivial (rfl)
          refine stepsH_cons rfl ?_ ?_
          · intro X ext HD hleD _
            replace hs := hs.mono hleD
            refine withP_cons rfl rfl ?_
            rintro _ rfl
            refine withP_cons rfl rfl ?_
            rintro _ rfl
            refine withP_nil rfl ?_
            refine XO.guardF rfl rfl (rfl) rfl rfl ?_
            refine XO.nil ?_
            exact stepQN_ok rfl trivial (rfl)
          refine stepsH_cons rfl ?_ ?_
          · intro X ext HD hleD _
            replace hs := hs.mono hleD
            refine withP_cons rfl rfl ?_
            rintro _ rfl
            refine withP_cons rfl rfl ?_
            rintro _ rfl
            refine withP_nil rfl ?_
            refine XO.guardF rfl rfl (rfl) rfl rfl ?_
            refine XO.nil ?_
            exact stepQN_ok rfl trivial (rfl)
          refine stepsH_cons rfl ?_ ?_
          · intro X ext HD hleD _
            replace hs := hs.mono hleD
            refine withP_cons rfl rfl ?_
            rintro _ rfl
            refine withP_cons rfl rfl ?_
            rintro _ rfl
            refine withP_nil rfl ?_
            refine XO.guardF rfl rfl (rfl) rfl rfl ?_
            refine XO.nil ?_
            exact stepQN_ok rfl trivial (rfl)
          refine stepsH_cons rfl ?_ ?_
          · intro X ext HD hleD _
            replace hs := hs.mono hleD
            refine withP_cons rfl rfl ?_
            rintro _ rfl
            refine withP_cons rfl rfl ?_
            rintro _ rfl
            refine withP_cons rfl rfl ?_
            rintro _ rfl
            refine withP_nil rfl ?_
            refine XO.guardF rfl rfl (rfl) rfl rfl ?_
            refine XO.nil ?_
            exact stepQN_ok rfl trivial (rfl)
          refine stepsH_cons rfl ?_ ?_
          · intro X ext HD hleD _
            replace hs := hs.mono hleD
            refine withP_cons rfl rfl ?_
            rintro _ rfl
            refine withP_cons rfl rfl ?_
            rintro _ rfl
            refine withP_nil rfl ?_
            refine XO.guardF rfl rfl (rfl) rfl rfl ?_
            refine XO.nil ?_
            exact stepQN_ok rfl trivial (rfl)
          exact stepsH_end rfl
        case tail22 =>
          intro HD hleD _
          replace hs := hs.mono hleD
          refine withP_cons rfl rfl ?_
          rintro _ rfl
          refine withP_cons rfl rfl ?_
          rintro _ rfl
          refine withP_cons rfl rfl ?_
          rintro _ rfl
          refine withP_cons rfl rfl ?_
          rintro _ rfl
          refine withP_cons rfl rfl ?_
          rintro _ rfl
          refine withP_cons rfl rfl ?_
          rintro _ rfl
          refine withP_cons rfl rfl ?_
          rintro _ rfl
          refine withP_cons rfl rfl ?_
          rintro _ rfl
          refine withP_cons rfl rfl ?_
          rintro _ rfl
          refine withP_cons rfl rfl ?_
          rintro _ rfl
          refine withP_cons rfl rfl ?_
          rintro _ rfl
          refine withP_cons rfl rfl ?_
          rintro _ rfl
          refine withP_cons rfl rfl ?_
          rintro _ rfl
          refine withP_cons rfl rfl ?_
          rintro _ rfl
          refine withP_cons rfl rfl ?_
          rintro _ rfl
          refine withP_cons rfl rfl ?_
          rintro _ rfl
          refine withP_cons rfl rfl ?_
          rintro _ rfl
          refine withP_nil rfl ?_
          refine withEnts_nil ?_
          refine XO.guardF rfl rfl (rfl) rfl rfl ?_
          refine XO.pickT rfl (rfl) rfl rfl ?_
          refine XO.nil ?_
          refine XC.seq2 ?_
          refine XC.condT rfl (rfl) ?_
          refine XC.seq ?_
          refine XC.region ?_
          refine XO.move rfl rfl ?_
          refine XO.nilCheckP rfl rfl ?_
          refine XO.fieldAddr rfl fa_62_2 rfl ?_
          refine XO.storeO 0 rfl rfl rfl rfl ty_4 rfl rfl rfl rfl rfl ?_
          refine XO.nil ?_
          refine XC.seq2 ?_
          refine XC.seq ?_
          refine XC.region ?_
          refine XO.build bk_24 bf_24 ze_24 rfl rfl rfl ?_
          refine XO.storeO 1 rfl rfl rfl rfl ty_24 rfl rfl rfl rfl rfl ?_
          refine XO.nil ?_
          refine XC.seq2 ?_
          refine XC.ret ?_
          refine seqX_ret ?_
          refine blockR ?_
          refine seqX_ret ?_
          refine ⟨rfl, _, [_], (resC_cell 1 rfl rfl ty_24 rfl rfl resC_nil), (by repeat (first | exact List.Sublist.refl _ | apply List.Sublist.cons_cons | apply List.Sublist.cons)), RetR.mk ?_⟩
          first | exact ⟨_, _, _, VV_1 (sgn_odd (by omega)), rfl, rv_1 hnx11 (by omega) hpr15⟩ | exact ⟨_, _, _, VV_1 (sgn_even (by omega)), rfl, rv_1 hnx11 (by omega) hpr15⟩ | exact ⟨v0, _, true, VV_0, rfl, hq32, fun h => (by cases h), fun _ => rv_2no hnx11 (by omega) hpr32 (by first | exact Or.inl rfl | exact Or.inr (by omega))⟩ | exact ⟨_, _, _, VV_2, rfl, rv_2 hnx11 (by omega) hpr32 (by omega)⟩ | exact ⟨v0, _, true, VV_0, rfl, hq87, fun h => (by cases h), fun _ => rv_3no hnx11 (by omega) hpr87 (by first | exact Or.inl (Or.inl rfl) | exact Or.inl (Or.inr (by omega)) | exact Or.inr (by omega))⟩ | exact ⟨_, _, _, VV_3 hsQ, rfl, rv_3 hnx11 (by omega) hpr87 (by omega) hit hq (by first | (intro; omega) | (intro; simp_all; done))⟩ | exact ⟨v0, _, true, VV_0, rfl, hp11, fun h => (by cases h), fun _ => rv_0 hnx11 (by omega)⟩
    · refine XC.seq ?_
      refine XC.region ?_
      refine XO.eql rfl rfl rfl ?_
      refine XO.assign rfl rfl ?_
      refine XO.nil ?_
      refine XC.seq2 ?_
      refine XC.cond rfl (fun c4_23 => ?_) (fun c4_23 => ?_)
      · obtain rfl : bad11 = false := hnx11.pos (by omega)
        refine XC.seq ?_
        refine XC.region ?_
        refine XO.move rfl rfl ?_
        refine XO.callF 0 rfl (rnumber_fn br a c b p11 _ hs hlen hp11) rfl rfl ?_
        rintro _ HN87 _ hleN87 ⟨u87, p87, bad87, rfl, hu87, rfl, hpr87⟩
        refine ⟨_, rfl, ?_⟩
        have hq87 := hpr87.1
        replace hs := hs.mono hleN87
        refine XO.assign rfl rfl ?_
        refine XO.nil ?_
        refine XC.seq2 ?_
        refine XC.seq ?_
        refine XC.seq ?_
        cases bad87
        · skip
          by_cases hG : ((b.length - p87 : Nat) : Int) < ((u87 : Nat) : Int)
          · skip
            refine XC.keep [0, 1, 4, 7] rfl ?_
            apply XC.drawH (fun _ => True) trivial [] (by decide) (fun _ _ _ _ => True) (fun _ _ _ _ _ _ h => h) 17 [eqF _, eqF _, eqF _, eqF _, eqF _, eqF _, eqF _, eqF _, eqF _, eqF _, eqF _, eqF _, eqF _, eqF _, eqF _, eqF _, eqF _] follows (by kernel_rfl) ⟨eqF_mono _, eqF_mono _, eqF_mono _, eqF_mono _, eqF_mono _, eqF_mono _, eqF_mono _, eqF_mono _, eqF_mono _, eqF_mono _, eqF_mono _, eqF_mono _, eqF_mono _, eqF_mono _, eqF_mono _, eqF_mono _, eqF_mono _, trivial⟩ (by decide) ?steps25 ?tail25
            case steps25 =>
              refine stepsH_cons rfl ?_ ?_
              · intro X ext HD hleD _
                replace hs := hs.mono hleD
                refine withP_nil rfl ?_
                refine XO.move rfl rfl ?_
                refine XO.nil ?_
                exact stepQN_ok rfl trivial (rfl)
              refine stepsH_cons rfl ?_ ?_
              · intro X ext HD hleD _
                replace hs := hs.mono hleD
                refine withP_cons rfl rfl ?_
                rintro _ rfl
                refine withP_nil rfl ?_
                refine XO.nilCheckP rfl rfl ?_
                refine XO.nil ?_
                exact stepQN_ok rfl trivial (rfl)
              refine stepsH_cons rfl ?_ ?_
              · intro X ext HD hleD _
                replace hs := hs.mono hleD
                refine withP_cons rfl rfl ?_
                rintro _ rfl
                refine withP_nil rfl ?_
                refine XO.fieldAddr rfl fa_62_2 rfl ?_
                refine XO.nil ?_
                exact stepQN_ok rfl trivial (rfl)
              refine stepsH_cons rfl ?_ ?_
              · intro X ext HD hleD _
                replace hs := hs.mono hleD
                refine withP_cons rfl rfl ?_
                rintro _ rfl
                refine withP_nil rfl ?_
                refine XO.loadO 0 rfl rfl ty_4 rfl rfl rfl ?_
                refine XO.nil ?_
                exact stepQN_ok rfl trivial (rfl)
              refine stepsH_cons rfl ?_ ?_
              · intro X ext HD hleD _
                replace hs := hs.mono hleD
                refine withP_cons rfl rfl ?_
                rintro _ rfl
                refine withP_nil rfl ?_
                refine XO.move rfl rfl ?_
                refine XO.nil ?_
                exact stepQN_ok rfl trivial (rfl)
              refine stepsH_cons rfl ?_ ?_
              · intro X ext HD hleD _
                replace hs := hs.mono hleD
                refine withP_cons rfl rfl ?_
                rintro _ rfl
                refine withP_nil rfl ?_
                refine XO.guardT rfl rfl (rfl) rfl ?_
                refine XO.move rfl rfl ?_
                refine XO.nil ?_
                exact stepQN_ok rfl trivial (rfl)
              refine stepsH_cons rfl ?_ ?_
              · intro X ext HD hleD _
                replace hs := hs.mono hleD
                refine withP_cons rfl rfl ?_
                rintro _ rfl
                refine withP_nil rfl ?_
                refine XO.guardT rfl rfl (rfl) rfl ?_
                refine XO.move rfl rfl ?_
                refine XO.nil ?_
                exact stepQN_ok rfl trivial (rfl)
              refine stepsH_cons rfl ?_ ?_
              · intro X ext HD hleD _
                replace hs := hs.mono hleD
                refine withP_cons rfl rfl ?_
                rintro _ rfl
                refine withP_cons rfl rfl ?_
                rintro _ rfl
                refine withP_nil rfl ?_
                refine XO.guardT rfl rfl (rfl) rfl ?_
                refine XO.nilCheckP rfl rfl ?_
                refine XO.nil ?_
                exact stepQN_ok rfl trivial (rfl)
              refine stepsH_cons rfl ?_ ?_
              · intro X ext HD hleD _
                replace hs := hs.mono hleD
                refine withP_cons rfl rfl ?_
                rintro _ rfl
                refine withP_cons rfl rfl ?_
                rintro _ rfl
                refine withP_nil rfl ?_
                refine XO.guardT rfl rfl (rfl) rfl ?_
                refine XO.fieldAddr rfl fa_62_0 rfl ?_
                refine XO.nil ?_
                exact stepQN_ok rfl trivial (rfl)
              refine stepsH_cons rfl ?_ ?_
              · intro X ext HD hleD _
                replace hs := hs.mono hleD
                refine withP_cons rfl rfl ?_
                rintro _ rfl
                refine withP_cons rfl rfl ?_
                rintro _ rfl
                refine withP_nil rfl ?_
                refine XO.guardT rfl rfl (rfl) rfl ?_
                refine XO.loadO 0 rfl rfl ty_27 rfl rfl rfl ?_
                refine XO.nil ?_
                exact stepQN_ok rfl trivial (rfl)
              refine stepsH_cons rfl ?_ ?_
              · intro X ext HD hleD _
                replace hs := hs.mono hleD
                refine withP_cons rfl rfl ?_
                rintro _ rfl
                refine withP_cons rfl rfl ?_
                rintro _ rfl
                refine withP_nil rfl ?_
                refine XO.guardT rfl rfl (rfl) rfl ?_
                refine XO.lenS (ts := #[]) rfl Try.underlying27 rfl ?_
                refine XO.nil ?_
                exact stepQN_ok rfl trivial (rfl)
              refine stepsH_cons rfl ?_ ?_
              · intro X ext HD hleD _
                replace hs := hs.mono hleD
                refine withP_cons rfl rfl ?_
                rintro _ rfl
                refine withP_nil rfl ?_
                refine XO.guardT rfl rfl (rfl) rfl ?_
                refine XO.move rfl rfl ?_
                refine XO.nil ?_
                exact stepQN_ok rfl trivial (rfl)
              refine stepsH_cons rfl ?_ ?_
              · intro X ext HD hleD _
                replace hs := hs.mono hleD
                refine withP_cons rfl rfl ?_
                rintro _ rfl
                refine withP_cons rfl rfl ?_
                rintro _ rfl
                refine withP_nil rfl ?_
                refine XO.guardT rfl rfl (rfl) rfl ?_
                refine XO.nilCheckP rfl rfl ?_
                refine XO.nil ?_
                exact stepQN_ok rfl trivial (rfl)
              refine stepsH_cons rfl ?_ ?_
              · intro X ext HD hleD _
                replace hs := hs.mono hleD
                refine withP_cons rfl rfl ?_
                rintro _ rfl
                refine withP_cons rfl rfl ?_
                rintro _ rfl
                refine withP_nil rfl ?_
                refine XO.guardT rfl rfl (rfl) rfl ?_
                refine XO.fieldAddr rfl fa_62_1 rfl ?_
                refine XO.nil ?_
                exact stepQN_ok rfl trivial (rfl)
              refine stepsH_cons rfl ?_ ?_
              · intro X ext HD hleD _
                replace hs := hs.mono hleD
                refine withP_cons rfl rfl ?_
                rintro _ rfl
                refine withP_cons rfl rfl ?_
                rintro _ rfl
                refine withP_nil rfl ?_
                refine XO.guardT rfl rfl (rfl) rfl ?_
                refine XO.loadO 0 rfl rfl ty_3 rfl rfl rfl ?_
                refine XO.nil ?_
                exact stepQN_ok rfl trivial (rfl)
              refine stepsH_cons rfl ?_ ?_
              · intro X ext HD hleD _
                replace hs := hs.mono hleD
                refine withP_cons rfl rfl ?_
                rintro _ rfl
                refine withP_cons rfl rfl ?_
                rintro _ rfl
                refine withP_cons rfl rfl ?_
                rintro _ rfl
                refine withP_nil rfl ?_
                refine XO.guardT rfl rfl (rfl) rfl ?_
                refine XO.sub (c := ((b.length - p87 : Nat) : Int)) rfl rfl ((wrap_i64 (by omega) (by omega)).trans (by omega)) rfl ?_
                refine XO.nil ?_
                exact stepQN_ok rfl trivial (rfl)
              refine stepsH_cons rfl ?_ ?_
              · intro X ext HD hleD _
                replace hs := hs.mono hleD
                refine withP_cons rfl rfl ?_
                rintro _ rfl
                refine withP_cons rfl rfl ?_
                rintro _ rfl
                refine withP_nil rfl ?_
                refine XO.guardT rfl rfl (rfl) rfl ?_
                refine XO.convI (c := ((b.length - p87 : Nat) : Int)) rfl Try.underlying3 Try.underlying68 (wrap_u64 (by omega) (by omega)) rfl ?_
                refine XO.nil ?_
                exact stepQN_ok rfl trivial (rfl)
              exact stepsH_end rfl
            case tail25 =>
              intro HD hleD _
              replace hs := hs.mono hleD
              refine withP_cons rfl rfl ?_
              rintro _ rfl
              refine withP_cons rfl rfl ?_
              rintro _ rfl
              refine withP_cons rfl rfl ?_
              rintro _ rfl
              refine withP_cons rfl rfl ?_
              rintro _ rfl
              refine withP_cons rfl rfl ?_
              rintro _ rfl
              refine withP_cons rfl rfl ?_
              rintro _ rfl
              refine withP_cons rfl rfl ?_
              rintro _ rfl
              refine withP_cons rfl rfl ?_
              rintro _ rfl
              refine withP_cons rfl rfl ?_
              rintro _ rfl
              refine withP_cons rfl rfl ?_
              rintro _ rfl
              refine withP_cons rfl rfl ?_
              rintro _ rfl
              refine withP_cons rfl rfl ?_
              rintro _ rfl
              refine withP_cons rfl rfl ?_
              rintro _ rfl
              refine withP_cons rfl rfl ?_
              rintro _ rfl
              refine withP_cons rfl rfl ?_
              rintro _ rfl
              refine withP_cons rfl rfl ?_
              rintro _ rfl
              refine withP_cons rfl rfl ?_
              rintro _ rfl
              refine withP_nil rfl ?_
              refine withEnts_nil ?_
              refine XO.guardT rfl rfl (rfl) rfl ?_
              refine XO.gtr rfl rfl rfl ?_
              refine XO.pickF rfl (rfl) rfl rfl ?_
              refine XO.move rfl rfl ?_
              refine XO.guardC rfl rfl rfl rfl (fun g28 => ?_) (fun g28 => ?_)
              · have g28p := of_decide_eq_false g28
                refine XO.move rfl rfl ?_
                refine XO.guardT rfl rfl (g28) rfl ?_
                refine XO.eql rfl rfl rfl ?_
                refine XO.pickF rfl (g28) rfl rfl ?_
                refine XO.nil ?_
                refine XC.seq2 ?_
                refine XC.cond rfl (fun c5_29 => ?_) (fun c5_29 => ?_)
                · refine XC.seq ?_
                  refine XC.region ?_
                  refine XO.move rfl rfl ?_
                  refine XO.nilCheckP rfl rfl ?_
                  refine XO.fieldAddr rfl fa_62_2 rfl ?_
                  refine XO.storeO 0 rfl rfl rfl rfl ty_4 rfl rfl rfl rfl rfl ?_
                  refine XO.nil ?_
                  refine XC.seq2 ?_
                  refine XC.seq ?_
                  refine XC.region ?_
                  refine XO.build bk_24 bf_24 ze_24 rfl rfl rfl ?_
                  refine XO.storeO 1 rfl rfl rfl rfl ty_24 rfl rfl rfl rfl rfl ?_
                  refine XO.nil ?_
                  refine XC.seq2 ?_
                  refine XC.ret ?_
                  refine seqX_ret ?_
                  refine blockR ?_
                  refine seqX_ret ?_
                  refine ⟨rfl, _, [_], (resC_cell 1 rfl rfl ty_24 rfl rfl resC_nil), (by repeat (first | exact List.Sublist.refl _ | apply List.Sublist.cons_cons | apply List.Sublist.cons)), RetR.mk ?_⟩
                  first | exact ⟨_, _, _, VV_1 (sgn_odd (by omega)), rfl, rv_1 hnx11 (by omega) hpr15⟩ | exact ⟨_, _, _, VV_1 (sgn_even (by omega)), rfl, rv_1 hnx11 (by omega) hpr15⟩ | exact ⟨v0, _, true, VV_0, rfl, hq32, fun h => (by cases h), fun _ => rv_2no hnx11 (by omega) hpr32 (by first | exact Or.inl rfl | exact Or.inr (by omega))⟩ | exact ⟨_, _, _, VV_2, rfl, rv_2 hnx11 (by omega) hpr32 (by omega)⟩ | exact ⟨v0, _, true, VV_0, rfl, hq87, fun h => (by cases h), fun _ => rv_3no hnx11 (by omega) hpr87 (by first | exact Or.inl (Or.inl rfl) | exact Or.inl (Or.inr (by omega)) | exact Or.inr (by omega))⟩ | exact ⟨_, _, _, VV_3 hsQ, rfl, rv_3 hnx11 (by omega) hpr87 (by omega) hit hq (by first | (intro; omega) | (intro; simp_all; done))⟩ | exact ⟨v0, _, true, VV_0, rfl, hp11, fun h => (by cases h), fun _ => rv_0 hnx11 (by omega)⟩
                · obtain ⟨E, rfl⟩ : ∃ E, D = E + 1 := ⟨D - 1, by omega⟩
                  refine XC.skip ?_
                  refine XC.seq2 ?_
                  refine XC.seq ?_
                  refine XC.region ?_
                  refine XO.build bk_24 bf_24 ze_24 rfl rfl rfl ?_
                  refine XO.alloc ze_24 rfl (fun b8 => ?_)
                  refine XO.perm (List.Perm.swap _ _ _) ?_
                  refine XO.storeO 1 rfl rfl rfl rfl ty_24 rfl rfl rfl rfl rfl ?_
                  refine XO.nil ?_
                  refine XC.seq2 ?_
                  refine XC.seq ?_
                  refine XC.seq ?_
                  refine XC.region ?_
                  refine XO.assign rfl rfl ?_
                  refine XO.open0 (σ := []) (fun b0 => ?_)
                  refine XO.perm (List.Perm.swap _ _ _) ?_
                  refine XO.nil ?_
                  refine XC.seq2 ?_
                  refine XC.block ?_
                  refine XC.keep [9, 0, 1, 4, 7, 8] rfl ?_
                  refine XC.loop (base := [(0, _), (1, _), (4, _), (7, _), (8, _)]) (fun ζ : Nat × (Nat × SObj) × (Option Addr) × (Nat) × (List Val) × (Nat) × (Bool) => [(9, .int .u64 (ζ.1 : Nat))]) (fun ζ Hl own => (br, RBo a c b.length ζ.2.2.2.2.2.1 ζ.2.2.2.2.2.2) :: ζ.2.1 :: (b8, .cells 24 [.int .i64 3, .int .i64 0, .string (bsOf []), .slice ζ.2.2.1 ζ.2.2.2.2.1.length ζ.2.2.2.1]) :: (b4, .cells 24 [.int .i64 0, .int .i64 0, .string (bsOf []), .slice none 0 0]) :: rest = own ∧ (ζ.1 ≤ u87) ∧ (ζ.2.2.2.2.2.1 ≤ b.length) ∧ (itR (valP E) u87 (b.drop p87) b ζ.1 ζ.2.2.2.2.1 ζ.2.2.2.2.2.1 ζ.2.2.2.2.2.2) ∧ (XL.Acc valR 24 Hl ζ.2.1 ζ.2.2.1 ζ.2.2.2.1 ζ.2.2.2.2.1) ∧ (ζ.2.2.2.2.1.length = ζ.1)) (fun ζ => u87 - ζ.1) (0, (b0, .nothing), none, 0, [], p87, false) (prov_cons (rfl) (prov_cons (rfl) (prov_cons (rfl) (prov_cons (rfl) (prov_cons (rfl) (prov_cons (rfl) prov_nil)))))) (by repeat (first | exact List.Sublist.refl _ | apply List.Sublist.cons_cons | apply List.Sublist.cons)) ⟨rfl, Nat.zero_le _, hq87, itR_0, Acc.nil _ _ _ _, rfl⟩ ?_
                  rintro ⟨j, po, ao, co, L, q, bad⟩ Hl0 _ hle0 ⟨rfl, hjle, hq, hit, hacc, hLl⟩
                  replace hs := hs.mono hle0
                  try dsimp only at hjle hq hit hacc hLl ⊢
                  refine XC.seq ?_
                  refine XC.seq ?_
                  refine XC.region ?_
                  refine XO.move rfl rfl ?_
                  refine XO.move rfl rfl ?_
                  refine XO.lss rfl rfl rfl ?_
                  refine XO.move rfl rfl ?_
                  refine XO.guardC rfl rfl rfl rfl (fun g30 => ?_) (fun g30 => ?_)
                  · have g30p := of_decide_eq_true g30
                    refine XO.move rfl rfl ?_
                    refine XO.guardT rfl rfl (g30) rfl ?_
                    refine XO.nilCheckP rfl rfl ?_
                    refine XO.guardT rfl rfl (g30) rfl ?_
                    refine XO.fieldAddr rfl fa_62_2 rfl ?_
                    refine XO.guardT rfl rfl (g30) rfl ?_
                    refine XO.loadO 0 rfl rfl ty_4 rfl rfl rfl ?_
                    refine XO.guardT rfl rfl (g30) rfl ?_
                    refine XO.notB rfl rfl ?_
                    refine XO.pickT rfl (g30) rfl rfl ?_
                    refine XO.nil ?_
                    refine XC.seq2 ?_
                    refine XC.condB rfl (fun c6_31 => ?_) (fun c6_31 => ?_)
                    · obtain rfl : bad = false := by simpa using c6_31
                      have hjn : j < u87 := by omega
                      refine XC.skip ?_
                      refine XC.seq2 ?_
                      refine XC.seq ?_
                      refine XC.block ?_
                      refine XC.keep [0, 1, 4, 7, 8, 9] rfl ?_
                      apply XC.drawQ (fun _ => True) trivial [5, 6] (FOr br a c b (valP E (b.drop q)) (RBo a c b.length q false)) (FOr_mono _ _ _ _ _ _) 7 [eqF _, eqF _, eqF _, eqF _, eqF _, anyF, anyF] follows (by kernel_rfl) ⟨eqF_mono _, eqF_mono _, eqF_mono _, eqF_mono _, eqF_mono _, anyF_mono, anyF_mono, trivial⟩ (by kernel_rfl) (FOr_0) ?steps32 ?tail32
                      case steps32 =>
                        refine stepsQ_cons rfl ?_ ?_
                        · intro X e HD hleD _
                          replace hs := hs.mono hleD
                          replace hacc := hacc.mono hleD
                          replace hle0 := hle0.trans hleD
                          refine withP_nil rfl ?_
                          intro hfa
                          refine XO.fieldAddr rfl fa_24_3 rfl ?_
                          refine XO.nil ?_
                          exact stepQV_ok trivial (rfl) (foQ_no rfl)
                        refine stepsQ_cons rfl ?_ ?_
                        · intro X e HD hleD _
                          replace hs := hs.mono hleD
                          replace hacc := hacc.mono hleD
                          replace hle0 := hle0.trans hleD
                          refine withP_cons rfl rfl ?_
                          rintro _ rfl
                          refine withP_nil rfl ?_
                          intro hfa
                          refine XO.loadO 2 rfl rfl ty_22 rfl rfl rfl ?_
                          refine XO.nil ?_
                          exact stepQV_ok trivial (rfl) (foQ_no rfl)
                        refine stepsQ_cons rfl ?_ ?_
                        · intro X e HD hleD _
                          replace hs := hs.mono hleD
                          replace hacc := hacc.mono hleD
                          replace hle0 := hle0.trans hleD
                          refine withP_nil rfl ?_
                          intro hfa
                          refine XO.move rfl rfl ?_
                          refine XO.nil ?_
                          exact stepQV_ok trivial (rfl) (foQ_no rfl)
                        refine stepsQ_cons rfl ?_ ?_
                        · intro X e HD hleD _
                          replace hs := hs.mono hleD
                          replace hacc := hacc.mono hleD
                          replace hle0 := hle0.trans hleD
                          refine withP_nil rfl ?_
                          intro hfa
                          refine XO.move rfl rfl ?_
                          refine XO.nil ?_
                          exact stepQV_ok trivial (rfl) (foQ_no rfl)
                        refine stepsQ_cons rfl ?_ ?_
                        · intro X e HD hleD _
                          replace hs := hs.mono hleD
                          replace hacc := hacc.mono hleD
                          replace hle0 := hle0.trans hleD
                          refine withP_cons rfl rfl ?_
                          rintro _ rfl
                          refine withP_nil rfl ?_
                          intro hfa
                          refine XO.add (c := ((16 : Int) - (E : Nat))) rfl rfl ((wrap_i64 (by omega) (by omega)).trans (by omega)) rfl ?_
                          refine XO.nil ?_
                          exact stepQV_ok trivial (rfl) (foQ_no rfl)
                        refine stepsQ_cons rfl ?_ ?_
                        · intro X e HD hleD _
                          replace hs := hs.mono hleD
                          replace hacc := hacc.mono hleD
                          replace hle0 := hle0.trans hleD
                          refine withP_cons rfl rfl ?_
                          rintro _ rfl
                          refine withP_cons rfl rfl ?_
                          rintro _ rfl
                          refine withP_nil rfl ?_
                          intro hfa
                          obtain rfl := (factQ_0 rfl hfa).1 rfl
                          have hcall := ih E (by omega) br a c b q _ (by omega) hs hlen hq
                          refine XO.callF 0 rfl hcall rfl rfl ?_
                          rintro _ HN5 _ hleN5 ⟨w5, p5, bad5, hv5, rfl, hpr5⟩
                          refine ⟨_, rfl, ?_⟩
                          refine XO.nil ?_
                          exact stepQV_ok trivial (trivial) (foQ_mod rfl (by exact FOr_1 hpr5 hv5))
                        refine stepsQ_cons rfl ?_ ?_
                        · intro X e HD hleD _
                          replace hs := hs.mono hleD
                          replace hacc := hacc.mono hleD
                          replace hle0 := hle0.trans hleD
                          refine withP_cons rfl rfl ?_
                          rintro _ _
                          refine withP_nil rfl ?_
                          intro hfa
                          have hfb := factQ_s rfl hfa rfl rfl
                          obtain ⟨⟨kw, nw, sw, lw⟩, p5, bad5, hpr5, rfl, aw, cw, rfl, hw⟩ := hfb.2.1 rfl
                          refine XO.buildSlice rfl Try.underlying22 ty_24 ze_24 rfl rfl rfl (fun b134 => ?_)
                          refine XO.publish 0 rfl rfl rfl (fun HP134 hoP134 hleP134 hbP134 hsoP134 => ?_)
                          have hsl134 := SlR.lit (ρ := valR) (l := [.mk kw nw sw lw]) hbP134 hsoP134 (RowsR.one1 (valR_iff.2 ⟨aw, cw, rfl, hw.mono hleP134⟩))
                          refine XO.nil ?_
                          exact stepQV_ok trivial (trivial) (foQ_mod rfl (by exact FOr_2 hpr5 hsl134 rfl))
                        exact stepsQ_end rfl
                      case tail32 =>
                        intro HD hleD _
                        replace hs := hs.mono hleD
                        replace hacc := hacc.mono hleD
                        replace hle0 := hle0.trans hleD
                        refine withP_cons rfl rfl ?_
                        rintro _ rfl
                        refine withP_cons rfl rfl ?_
                        rintro _ rfl
                        refine withP_cons rfl rfl ?_
                        rintro _ rfl
                        refine withP_cons rfl rfl ?_
                        rintro _ rfl
                        refine withP_cons rfl rfl ?_
                        rintro _ rfl
                        refine withP_cons rfl rfl ?_
                        rintro _ _
                        refine withP_cons rfl rfl ?_
                        rintro _ _
                        refine withP_nil rfl ?_
                        intro e he
                        have hfb := lastQ_s rfl he rfl rfl
                        obtain ⟨w, p5, bad5, a134, c134, hpr5, rfl, rfl, hsl134⟩ := hfb.2.2 rfl
                        refine XO.appendA 1 rfl rfl hacc rfl rfl hsl134 rfl Try.underlying22 ty_24 ze_24 rfl by_24 (by simp; omega) rfl (fun p135 a135 c135 hacc135 => ?_)
                        refine XO.fieldAddr rfl fa_24_3 rfl ?_
                        refine XO.storeO 2 rfl rfl rfl rfl ty_22 rfl rfl rfl rfl rfl ?_
                        refine XO.nil ?_
                        refine blockN ?_
                        refine XC.seq2 ?_
                        refine XC.region ?_
                        refine XO.move rfl rfl ?_
                        refine XO.add rfl rfl (wrap_u64 (by omega) (by omega)) rfl ?_
                        refine XO.assign rfl rfl ?_
                        refine XO.nil ?_
                        refine loop_next ((j + 1, p135, a135, c135, L ++ [w], p5, bad5)) (by show u87 - (j + 1) < u87 - j; omega) (prov_cons (rfl) (prov_cons (rfl) (prov_cons (rfl) (prov_cons (rfl) (prov_cons (rfl) (prov_cons (rfl) prov_nil)))))) (⟨rfl, by show j + 1 ≤ u87; omega, hpr5.1, itR_step hit hjn hpr5, hacc135, by simp [hLl]⟩) (by repeat (first | exact List.Sublist.refl _ | apply List.Sublist.cons_cons | apply List.Sublist.cons)) (hle0)
                    · have hbt : bad = true := by simpa using c6_31
                      refine XC.exit ?_
                      refine seqX_exit ?_
                      refine loopX_exit ?_
                      refine blockHit rfl ?_
                      refine XC.seq2 ?_
                      refine XC.seq ?_
                      refine XC.region ?_
                      refine XO.publishA 1 rfl hacc rfl (fun HQ hleQ hsQ => ?_)
                      replace hs := hs.mono hleQ
                      replace hle0 := hle0.trans hleQ
                      refine XO.loadO 1 rfl rfl ty_24 rfl rfl rfl ?_
                      refine XO.storeO 2 rfl rfl rfl rfl ty_24 rfl rfl rfl rfl rfl ?_
                      refine XO.nil ?_
                      refine XC.seq2 ?_
                      refine XC.ret ?_
                      refine blockR ?_
                      refine seqX_ret ?_
                      refine ⟨rfl, _, [_], (resC_cell 2 rfl rfl ty_24 rfl rfl resC_nil), (by repeat (first | exact List.Sublist.refl _ | apply List.Sublist.cons_cons | apply List.Sublist.cons)), RetR.mk ?_⟩
                      first | exact ⟨_, _, _, VV_1 (sgn_odd (by omega)), rfl, rv_1 hnx11 (by omega) hpr15⟩ | exact ⟨_, _, _, VV_1 (sgn_even (by omega)), rfl, rv_1 hnx11 (by omega) hpr15⟩ | exact ⟨v0, _, true, VV_0, rfl, hq32, fun h => (by cases h), fun _ => rv_2no hnx11 (by omega) hpr32 (by first | exact Or.inl rfl | exact Or.inr (by omega))⟩ | exact ⟨_, _, _, VV_2, rfl, rv_2 hnx11 (by omega) hpr32 (by omega)⟩ | exact ⟨v0, _, true, VV_0, rfl, hq87, fun h => (by cases h), fun _ => rv_3no hnx11 (by omega) hpr87 (by first | exact Or.inl (Or.inl rfl) | exact Or.inl (Or.inr (by omega)) | exact Or.inr (by omega))⟩ | exact ⟨_, _, _, VV_3 hsQ, rfl, rv_3 hnx11 (by omega) hpr87 (by omega) hit hq (by first | (intro; omega) | (intro; simp_all; done))⟩ | exact ⟨v0, _, true, VV_0, rfl, hp11, fun h => (by cases h), fun _ => rv_0 hnx11 (by omega)⟩
                  · have g30p := of_decide_eq_false g30
                    refine XO.guardF rfl rfl (g30) rfl rfl ?_
                    refine XO.guardF rfl rfl (g30) rfl rfl ?_
                    refine XO.guardF rfl rfl (g30) rfl rfl ?_
                    refine XO.guardF rfl rfl (g30) rfl rfl ?_
                    refine XO.pickF rfl (g30) rfl rfl ?_
                    refine XO.nil ?_
                    refine XC.seq2 ?_
                    refine XC.condF rfl (rfl) ?_
                    refine XC.exit ?_
                    refine seqX_exit ?_
                    refine loopX_exit ?_
                    refine blockHit rfl ?_
                    refine XC.seq2 ?_
                    refine XC.seq ?_
                    refine XC.region ?_
                    refine XO.publishA 1 rfl hacc rfl (fun HQ hleQ hsQ => ?_)
                    replace hs := hs.mono hleQ
                    replace hle0 := hle0.trans hleQ
                    refine XO.loadO 1 rfl rfl ty_24 rfl rfl rfl ?_
                    refine XO.storeO 2 rfl rfl rfl rfl ty_24 rfl rfl rfl rfl rfl ?_
                    refine XO.nil ?_
                    refine XC.seq2 ?_
                    refine XC.ret ?_
                    refine blockR ?_
                    refine seqX_ret ?_
                    refine ⟨rfl, _, [_], (resC_cell 2 rfl rfl ty_24 rfl rfl resC_nil), (by repeat (first | exact List.Sublist.refl _ | apply List.Sublist.cons_cons | apply List.Sublist.cons)), RetR.mk ?_⟩
                    first | exact ⟨_, _, _, VV_1 (sgn_odd (by omega)), rfl, rv_1 hnx11 (by omega) hpr15⟩ | exact ⟨_, _, _, VV_1 (sgn_even (by omega)), rfl, rv_1 hnx11 (by omega) hpr15⟩ | exact ⟨v0, _, true, VV_0, rfl, hq32, fun h => (by cases h), fun _ => rv_2no hnx11 (by omega) hpr32 (by first | exact Or.inl rfl | exact Or.inr (by omega))⟩ | exact ⟨_, _, _, VV_2, rfl, rv_2 hnx11 (by omega) hpr32 (by omega)⟩ | exact ⟨v0, _, true, VV_0, rfl, hq87, fun h => (by cases h), fun _ => rv_3no hnx11 (by omega) hpr87 (by first | exact Or.inl (Or.inl rfl) | exact Or.inl (Or.inr (by omega)) | exact Or.inr (by omega))⟩ | exact ⟨_, _, _, VV_3 hsQ, rfl, rv_3 hnx11 (by omega) hpr87 (by omega) hit hq (by first | (intro; omega) | (intro; simp_all; done))⟩ | exact ⟨v0, _, true, VV_0, rfl, hp11, fun h => (by cases h), fun _ => rv_0 hnx11 (by omega)⟩
              · have g28p := of_decide_eq_true g28
                refine XO.guardF rfl rfl (g28) rfl rfl ?_
                refine XO.pickT rfl (g28) rfl rfl ?_
                refine XO.nil ?_
                refine XC.seq2 ?_
                refine XC.condT rfl (rfl) ?_
                refine XC.seq ?_
                refine XC.region ?_
                refine XO.move rfl rfl ?_
                refine XO.nilCheckP rfl rfl ?_
                refine XO.fieldAddr rfl fa_62_2 rfl ?_
                refine XO.storeO 0 rfl rfl rfl rfl ty_4 rfl rfl rfl rfl rfl ?_
                refine XO.nil ?_
                refine XC.seq2 ?_
                refine XC.seq ?_
                refine XC.region ?_
                refine XO.build bk_24 bf_24 ze_24 rfl rfl rfl ?_
                refine XO.storeO 1 rfl rfl rfl rfl ty_24 rfl rfl rfl rfl rfl ?_
                refine XO.nil ?_
                refine XC.seq2 ?_
                refine XC.ret ?_
                refine seqX_ret ?_
                refine blockR ?_
                refine seqX_ret ?_
                refine ⟨rfl, _, [_], (resC_cell 1 rfl rfl ty_24 rfl rfl resC_nil), (by repeat (first | exact List.Sublist.refl _ | apply List.Sublist.cons_cons | apply List.Sublist.cons)), RetR.mk ?_⟩
                first | exact ⟨_, _, _, VV_1 (sgn_odd (by omega)), rfl, rv_1 hnx11 (by omega) hpr15⟩ | exact ⟨_, _, _, VV_1 (sgn_even (by omega)), rfl, rv_1 hnx11 (by omega) hpr15⟩ | exact ⟨v0, _, true, VV_0, rfl, hq32, fun h => (by cases h), fun _ => rv_2no hnx11 (by omega) hpr32 (by first | exact Or.inl rfl | exact Or.inr (by omega))⟩ | exact ⟨_, _, _, VV_2, rfl, rv_2 hnx11 (by omega) hpr32 (by omega)⟩ | exact ⟨v0, _, true, VV_0, rfl, hq87, fun h => (by cases h), fun _ => rv_3no hnx11 (by omega) hpr87 (by first | exact Or.inl (Or.inl rfl) | exact Or.inl (Or.inr (by omega)) | exact Or.inr (by omega))⟩ | exact ⟨_, _, _, VV_3 hsQ, rfl, rv_3 hnx11 (by omega) hpr87 (by omega) hit hq (by first | (intro; omega) | (intro; simp_all; done))⟩ | exact ⟨v0, _, true, VV_0, rfl, hp11, fun h => (by cases h), fun _ => rv_0 hnx11 (by omega)⟩
          · skip
            refine XC.keep [0, 1, 4, 7] rfl ?_
            apply XC.drawH (fun _ => True) trivial [] (by decide) (fun _ _ _ _ => True) (fun _ _ _ _ _ _ h => h) 17 [eqF _, eqF _, eqF _, eqF _, eqF _, eqF _, eqF _, eqF _, eqF _, eqF _, eqF _, eqF _, eqF _, eqF _, eqF _, eqF _, eqF _] follows (by kernel_rfl) ⟨eqF_mono _, eqF_mono _, eqF_mono _, eqF_mono _, eqF_mono _, eqF_mono _, eqF_mono _, eqF_mono _, eqF_mono _, eqF_mono _, eqF_mono _, eqF_mono _, eqF_mono _, eqF_mono _, eqF_mono _, eqF_mono _, eqF_mono _, trivial⟩ (by decide) ?steps36 ?tail36
            case steps36 =>
              refine stepsH_cons rfl ?_ ?_
              · intro X ext HD hleD _
                replace hs := hs.mono hleD
                refine withP_nil rfl ?_
                refine XO.move rfl rfl ?_
                refine XO.nil ?_
                exact stepQN_ok rfl trivial (rfl)
              refine stepsH_cons rfl ?_ ?_
              · intro X ext HD hleD _
                replace hs := hs.mono hleD
                refine withP_cons rfl rfl ?_
                rintro _ rfl
                refine withP_nil rfl ?_
                refine XO.nilCheckP rfl rfl ?_
                refine XO.nil ?_
                exact stepQN_ok rfl trivial (rfl)
              refine stepsH_cons rfl ?_ ?_
              · intro X ext HD hleD _
                replace hs := hs.mono hleD
                refine withP_cons rfl rfl ?_
                rintro _ rfl
                refine withP_nil rfl ?_
                refine XO.fieldAddr rfl fa_62_2 rfl ?_
                refine XO.nil ?_
                exact stepQN_ok rfl trivial (rfl)
              refine stepsH_cons rfl ?_ ?_
              · intro X ext HD hleD _
                replace hs := hs.mono hleD
                refine withP_cons rfl rfl ?_
                rintro _ rfl
                refine withP_nil rfl ?_
                refine XO.loadO 0 rfl rfl ty_4 rfl rfl rfl ?_
                refine XO.nil ?_
                exact stepQN_ok rfl trivial (rfl)
              refine stepsH_cons rfl ?_ ?_
              · intro X ext HD hleD _
                replace hs := hs.mono hleD
                refine withP_cons rfl rfl ?_
                rintro _ rfl
                refine withP_nil rfl ?_
                refine XO.move rfl rfl ?_
                refine XO.nil ?_
                exact stepQN_ok rfl trivial (rfl)
              refine stepsH_cons rfl ?_ ?_
              · intro X ext HD hleD _
                replace hs := hs.mono hleD
                refine withP_cons rfl rfl ?_
                rintro _ rfl
                refine withP_nil rfl ?_
                refine XO.guardT rfl rfl (rfl) rfl ?_
                refine XO.move rfl rfl ?_
                refine XO.nil ?_
                exact stepQN_ok rfl trivial (rfl)
              refine stepsH_cons rfl ?_ ?_
              · intro X ext HD hleD _
                replace hs := hs.mono hleD
                refine withP_cons rfl rfl ?_
                rintro _ rfl
                refine withP_nil rfl ?_
                refine XO.guardT rfl rfl (rfl) rfl ?_
                refine XO.move rfl rfl ?_
                refine XO.nil ?_
                exact stepQN_ok rfl trivial (rfl)
              refine stepsH_cons rfl ?_ ?_
              · intro X ext HD hleD _
                replace hs := hs.mono hleD
                refine withP_cons rfl rfl ?_
                rintro _ rfl
                refine withP_cons rfl rfl ?_
                rintro _ rfl
                refine withP_nil rfl ?_
                refine XO.guardT rfl rfl (rfl) rfl ?_
                refine XO.nilCheckP rfl rfl ?_
                refine XO.nil ?_
                exact stepQN_ok rfl trivial (rfl)
              refine stepsH_cons rfl ?_ ?_
              · intro X ext HD hleD _
                replace hs := hs.mono hleD
                refine withP_cons rfl rfl ?_
                rintro _ rfl
                refine withP_cons rfl rfl ?_
                rintro _ rfl
                refine withP_nil rfl ?_
                refine XO.guardT rfl rfl (rfl) rfl ?_
                refine XO.fieldAddr rfl fa_62_0 rfl ?_
                refine XO.nil ?_
                exact stepQN_ok rfl trivial (rfl)
              refine stepsH_cons rfl ?_ ?_
              · intro X ext HD hleD _
                replace hs := hs.mono hleD
                refine withP_cons rfl rfl ?_
                rintro _ rfl
                refine withP_cons rfl rfl ?_
                rintro _ rfl
                refine withP_nil rfl ?_
                refine XO.guardT rfl rfl (rfl) rfl ?_
                refine XO.loadO 0 rfl rfl ty_27 rfl rfl rfl ?_
                refine XO.nil ?_
                exact stepQN_ok rfl trivial (rfl)
              refine stepsH_cons rfl ?_ ?_
              · intro X ext HD hleD _
                replace hs := hs.mono hleD
                refine withP_cons rfl rfl ?_
                rintro _ rfl
                refine withP_cons rfl rfl ?_
                rintro _ rfl
                refine withP_nil rfl ?_
                refine XO.guardT rfl rfl (rfl) rfl ?_
                refine XO.lenS (ts := #[]) rfl Try.underlying27 rfl ?_
                refine XO.nil ?_
                exact stepQN_ok rfl trivial (rfl)
              refine stepsH_cons rfl ?_ ?_
              · intro X ext HD hleD _
                replace hs := hs.mono hleD
                refine withP_cons rfl rfl ?_
                rintro _ rfl
                refine withP_nil rfl ?_
                refine XO.guardT rfl rfl (rfl) rfl ?_
                refine XO.move rfl rfl ?_
                refine XO.nil ?_
                exact stepQN_ok rfl trivial (rfl)
              refine stepsH_cons rfl ?_ ?_
              · intro X ext HD hleD _
                replace hs := hs.mono hleD
                refine withP_cons rfl rfl ?_
                rintro _ rfl
                refine withP_cons rfl rfl ?_
                rintro _ rfl
                refine withP_nil rfl ?_
                refine XO.guardT rfl rfl (rfl) rfl ?_
                refine XO.nilCheckP rfl rfl ?_
                refine XO.nil ?_
                exact stepQN_ok rfl trivial (rfl)
              refine stepsH_cons rfl ?_ ?_
              · intro X ext HD hleD _
                replace hs := hs.mono hleD
                refine withP_cons rfl rfl ?_
                rintro _ rfl
                refine withP_cons rfl rfl ?_
                rintro _ rfl
                refine withP_nil rfl ?_
                refine XO.guardT rfl rfl (rfl) rfl ?_
                refine XO.fieldAddr rfl fa_62_1 rfl ?_
                refine XO.nil ?_
                exact stepQN_ok rfl trivial (rfl)
              refine stepsH_cons rfl ?_ ?_
              · intro X ext HD hleD _
                replace hs := hs.mono hleD
                refine withP_cons rfl rfl ?_
                rintro _ rfl
                refine withP_cons rfl rfl ?_
                rintro _ rfl
                refine withP_nil rfl ?_
                refine XO.guardT rfl rfl (rfl) rfl ?_
                refine XO.loadO 0 rfl rfl ty_3 rfl rfl rfl ?_
                refine XO.nil ?_
                exact stepQN_ok rfl trivial (rfl)
              refine stepsH_cons rfl ?_ ?_
              · intro X ext HD hleD _
                replace hs := hs.mono hleD
                refine withP_cons rfl rfl ?_
                rintro _ rfl
                refine withP_cons rfl rfl ?_
                rintro _ rfl
                refine withP_cons rfl rfl ?_
                rintro _ rfl
                refine withP_nil rfl ?_
                refine XO.guardT rfl rfl (rfl) rfl ?_
                refine XO.sub (c := ((b.length - p87 : Nat) : Int)) rfl rfl ((wrap_i64 (by omega) (by omega)).trans (by omega)) rfl ?_
                refine XO.nil ?_
                exact stepQN_ok rfl trivial (rfl)
              refine stepsH_cons rfl ?_ ?_
              · intro X ext HD hleD _
                replace hs := hs.mono hleD
                refine withP_cons rfl rfl ?_
                rintro _ rfl
                refine withP_cons rfl rfl ?_
                rintro _ rfl
                refine withP_nil rfl ?_
                refine XO.guardT rfl rfl (rfl) rfl ?_
                refine XO.convI (c := ((b.length - p87 : Nat) : Int)) rfl Try.underlying3 Try.underlying68 (wrap_u64 (by omega) (by omega)) rfl ?_
                refine XO.nil ?_
                exact stepQN_ok rfl trivial (rfl)
              exact stepsH_end rfl
            case tail36 =>
              intro HD hleD _
              replace hs := hs.mono hleD
              refine withP_cons rfl rfl ?_
              rintro _ rfl
              refine withP_cons rfl rfl ?_
              rintro _ rfl
              refine withP_cons rfl rfl ?_
              rintro _ rfl
              refine withP_cons rfl rfl ?_
              rintro _ rfl
              refine withP_cons rfl rfl ?_
              rintro _ rfl
              refine withP_cons rfl rfl ?_
              rintro _ rfl
              refine withP_cons rfl rfl ?_
              rintro _ rfl
              refine withP_cons rfl rfl ?_
              rintro _ rfl
              refine withP_cons rfl rfl ?_
              rintro _ rfl
              refine withP_cons rfl rfl ?_
              rintro _ rfl
              refine withP_cons rfl rfl ?_
              rintro _ rfl
              refine withP_cons rfl rfl ?_
              rintro _ rfl
              refine withP_cons rfl rfl ?_
              rintro _ rfl
              refine withP_cons rfl rfl ?_
              rintro _ rfl
              refine withP_cons rfl rfl ?_
              rintro _ rfl
              refine withP_cons rfl rfl ?_
              rintro _ rfl
              refine withP_cons rfl rfl ?_
              rintro _ rfl
              refine withP_nil rfl ?_
              refine withEnts_nil ?_
              refine XO.guardT rfl rfl (rfl) rfl ?_
              refine XO.gtr rfl rfl rfl ?_
              refine XO.pickF rfl (rfl) rfl rfl ?_
              refine XO.move rfl rfl ?_
              refine XO.guardC rfl rfl rfl rfl (fun g39 => ?_) (fun g39 => ?_)
              · have g39p := of_decide_eq_false g39
                refine XO.move rfl rfl ?_
                refine XO.guardT rfl rfl (g39) rfl ?_
                refine XO.eql rfl rfl rfl ?_
                refine XO.pickF rfl (g39) rfl rfl ?_
                refine XO.nil ?_
                refine XC.seq2 ?_
                refine XC.cond rfl (fun c5_40 => ?_) (fun c5_40 => ?_)
                · refine XC.seq ?_
                  refine XC.region ?_
                  refine XO.move rfl rfl ?_
                  refine XO.nilCheckP rfl rfl ?_
                  refine XO.fieldAddr rfl fa_62_2 rfl ?_
                  refine XO.storeO 0 rfl rfl rfl rfl ty_4 rfl rfl rfl rfl rfl ?_
                  refine XO.nil ?_
                  refine XC.seq2 ?_
                  refine XC.seq ?_
                  refine XC.region ?_
                  refine XO.build bk_24 bf_24 ze_24 rfl rfl rfl ?_
                  refine XO.storeO 1 rfl rfl rfl rfl ty_24 rfl rfl rfl rfl rfl ?_
                  refine XO.nil ?_
                  refine XC.seq2 ?_
                  refine XC.ret ?_
                  refine seqX_ret ?_
                  refine blockR ?_
                  refine seqX_ret ?_
                  refine ⟨rfl, _, [_], (resC_cell 1 rfl rfl ty_24 rfl rfl resC_nil), (by repeat (first | exact List.Sublist.refl _ | apply List.Sublist.cons_cons | apply List.Sublist.cons)), RetR.mk ?_⟩
                  first | exact ⟨_, _, _, VV_1 (sgn_odd (by omega)), rfl, rv_1 hnx11 (by omega) hpr15⟩ | exact ⟨_, _, _, VV_1 (sgn_even (by omega)), rfl, rv_1 hnx11 (by omega) hpr15⟩ | exact ⟨v0, _, true, VV_0, rfl, hq32, fun h => (by cases h), fun _ => rv_2no hnx11 (by omega) hpr32 (by first | exact Or.inl rfl | exact Or.inr (by omega))⟩ | exact ⟨_, _, _, VV_2, rfl, rv_2 hnx11 (by omega) hpr32 (by omega)⟩ | exact ⟨v0, _, true, VV_0, rfl, hq87, fun h => (by cases h), fun _ => rv_3no hnx11 (by omega) hpr87 (by first | exact Or.inl (Or.inl rfl) | exact Or.inl (Or.inr (by omega)) | exact Or.inr (by omega))⟩ | exact ⟨_, _, _, VV_3 hsQ, rfl, rv_3 hnx11 (by omega) hpr87 (by omega) hit hq (by first | (intro; omega) | (intro; simp_all; done))⟩ | exact ⟨v0, _, true, VV_0, rfl, hp11, fun h => (by cases h), fun _ => rv_0 hnx11 (by omega)⟩
                · obtain ⟨E, rfl⟩ : ∃ E, D = E + 1 := ⟨D - 1, by omega⟩
                  refine XC.skip ?_
                  refine XC.seq2 ?_
                  refine XC.seq ?_
                  refine XC.region ?_
                  refine XO.build bk_24 bf_24 ze_24 rfl rfl rfl ?_
                  refine XO.alloc ze_24 rfl (fun b8 => ?_)
                  refine XO.perm (List.Perm.swap _ _ _) ?_
                  refine XO.storeO 1 rfl rfl rfl rfl ty_24 rfl rfl rfl rfl rfl ?_
                  refine XO.nil ?_
                  refine XC.seq2 ?_
                  refine XC.seq ?_
                  refine XC.seq ?_
                  refine XC.region ?_
                  refine XO.assign rfl rfl ?_
                  refine XO.open0 (σ := []) (fun b0 => ?_)
                  refine XO.perm (List.Perm.swap _ _ _) ?_
                  refine XO.nil ?_
                  refine XC.seq2 ?_
                  refine XC.block ?_
                  refine XC.keep [9, 0, 1, 4, 7, 8] rfl ?_
                  refine XC.loop (base := [(0, _), (1, _), (4, _), (7, _), (8, _)]) (fun ζ : Nat × (Nat × SObj) × (Option Addr) × (Nat) × (List Val) × (Nat) × (Bool) => [(9, .int .u64 (ζ.1 : Nat))]) (fun ζ Hl own => (br, RBo a c b.length ζ.2.2.2.2.2.1 ζ.2.2.2.2.2.2) :: ζ.2.1 :: (b8, .cells 24 [.int .i64 3, .int .i64 0, .string (bsOf []), .slice ζ.2.2.1 ζ.2.2.2.2.1.length ζ.2.2.2.1]) :: (b4, .cells 24 [.int .i64 0, .int .i64 0, .string (bsOf []), .slice none 0 0]) :: rest = own ∧ (ζ.1 ≤ u87) ∧ (ζ.2.2.2.2.2.1 ≤ b.length) ∧ (itR (valP E) u87 (b.drop p87) b ζ.1 ζ.2.2.2.2.1 ζ.2.2.2.2.2.1 ζ.2.2.2.2.2.2) ∧ (XL.Acc valR 24 Hl ζ.2.1 ζ.2.2.1 ζ.2.2.2.1 ζ.2.2.2.2.1) ∧ (ζ.2.2.2.2.1.length = ζ.1)) (fun ζ => u87 - ζ.1) (0, (b0, .nothing), none, 0, [], p87, false) (prov_cons (rfl) (prov_cons (rfl) (prov_cons (rfl) (prov_cons (rfl) (prov_cons (rfl) (prov_cons (rfl) prov_nil)))))) (by repeat (first | exact List.Sublist.refl _ | apply List.Sublist.cons_cons | apply List.Sublist.cons)) ⟨rfl, Nat.zero_le _, hq87, itR_0, Acc.nil _ _ _ _, rfl⟩ ?_
                  rintro ⟨j, po, ao, co, L, q, bad⟩ Hl0 _ hle0 ⟨rfl, hjle, hq, hit, hacc, hLl⟩
                  replace hs := hs.mono hle0
                  try dsimp only at hjle hq hit hacc hLl ⊢
                  refine XC.seq ?_
                  refine XC.seq ?_
                  refine XC.region ?_
                  refine XO.move rfl rfl ?_
                  refine XO.move rfl rfl ?_
                  refine XO.lss rfl rfl rfl ?_
                  refine XO.move rfl rfl ?_
                  refine XO.guardC rfl rfl rfl rfl (fun g41 => ?_) (fun g41 => ?_)
                  · have g41p := of_decide_eq_true g41
                    refine XO.move rfl rfl ?_
                    refine XO.guardT rfl rfl (g41) rfl ?_
                    refine XO.nilCheckP rfl rfl ?_
                    refine XO.guardT rfl rfl (g41) rfl ?_
                    refine XO.fieldAddr rfl fa_62_2 rfl ?_
                    refine XO.guardT rfl rfl (g41) rfl ?_
                    refine XO.loadO 0 rfl rfl ty_4 rfl rfl rfl ?_
                    refine XO.guardT rfl rfl (g41) rfl ?_
                    refine XO.notB rfl rfl ?_
                    refine XO.pickT rfl (g41) rfl rfl ?_
                    refine XO.nil ?_
                    refine XC.seq2 ?_
                    refine XC.condB rfl (fun c6_42 => ?_) (fun c6_42 => ?_)
                    · obtain rfl : bad = false := by simpa using c6_42
                      have hjn : j < u87 := by omega
                      refine XC.skip ?_
                      refine XC.seq2 ?_
                      refine XC.seq ?_
                      refine XC.block ?_
                      refine XC.keep [0, 1, 4, 7, 8, 9] rfl ?_
                      apply XC.drawQ (fun _ => True) trivial [5, 6] (FOr br a c b (valP E (b.drop q)) (RBo a c b.length q false)) (FOr_mono _ _ _ _ _ _) 7 [eqF _, eqF _, eqF _, eqF _, eqF _, anyF, anyF] follows (by kernel_rfl) ⟨eqF_mono _, eqF_mono _, eqF_mono _, eqF_mono _, eqF_mono _, anyF_mono, anyF_mono, trivial⟩ (by kernel_rfl) (FOr_0) ?steps43 ?tail43
                      case steps43 =>
                        refine stepsQ_cons rfl ?_ ?_
                        · intro X e HD hleD _
                          replace hs := hs.mono hleD
                          replace hacc := hacc.mono hleD
                          replace hle0 := hle0.trans hleD
                          refine withP_nil rfl ?_
                          intro hfa
                          refine XO.fieldAddr rfl fa_24_3 rfl ?_
                          refine XO.nil ?_
                          exact stepQV_ok trivial (rfl) (foQ_no rfl)
                        refine stepsQ_cons rfl ?_ ?_
                        · intro X e HD hleD _
                          replace hs := hs.mono hleD
                          replace hacc := hacc.mono hleD
                          replace hle0 := hle0.trans hleD
                          refine withP_cons rfl rfl ?_
                          rintro _ rfl
                          refine withP_nil rfl ?_
                          intro hfa
                          refine XO.loadO 2 rfl rfl ty_22 rfl rfl rfl ?_
                          refine XO.nil ?_
                          exact stepQV_ok trivial (rfl) (foQ_no rfl)
                        refine stepsQ_cons rfl ?_ ?_
                        · intro X e HD hleD _
                          replace hs := hs.mono hleD
                          replace hacc := hacc.mono hleD
                          replace hle0 := hle0.trans hleD
                          refine withP_nil rfl ?_
                          intro hfa
                          refine XO.move rfl rfl ?_
                          refine XO.nil ?_
                          exact stepQV_ok trivial (rfl) (foQ_no rfl)
                        refine stepsQ_cons rfl ?_ ?_
                        · intro X e HD hleD _
                          replace hs := hs.mono hleD
                          replace hacc := hacc.mono hleD
                          replace hle0 := hle0.trans hleD
                          refine withP_nil rfl ?_
                          intro hfa
                          refine XO.move rfl rfl ?_
                          refine XO.nil ?_
                          exact stepQV_ok trivial (rfl) (foQ_no rfl)
                        refine stepsQ_cons rfl ?_ ?_
                        · intro X e HD hleD _
                          replace hs := hs.mono hleD
                          replace hacc := hacc.mono hleD
                          replace hle0 := hle0.trans hleD
                          refine withP_cons rfl rfl ?_
                          rintro _ rfl
                          refine withP_nil rfl ?_
                          intro hfa
                          refine XO.add (c := ((16 : Int) - (E : Nat))) rfl rfl ((wrap_i64 (by omega) (by omega)).trans (by omega)) rfl ?_
                          refine XO.nil ?_
                          exact stepQV_ok trivial (rfl) (foQ_no rfl)
                        refine stepsQ_cons rfl ?_ ?_
                        · intro X e HD hleD _
                          replace hs := hs.mono hleD
                          replace hacc := hacc.mono hleD
                          replace hle0 := hle0.trans hleD
                          refine withP_cons rfl rfl ?_
                          rintro _ rfl
                          refine withP_cons rfl rfl ?_
                          rintro _ rfl
                          refine withP_nil rfl ?_
                          intro hfa
                          obtain rfl := (factQ_0 rfl hfa).1 rfl
                          have hcall := ih E (by omega) br a c b q _ (by omega) hs hlen hq
                          refine XO.callF 0 rfl hcall rfl rfl ?_
                          rintro _ HN5 _ hleN5 ⟨w5, p5, bad5, hv5, rfl, hpr5⟩
                          refine ⟨_, rfl, ?_⟩
                          refine XO.nil ?_
                          exact stepQV_ok trivial (trivial) (foQ_mod rfl (by exact FOr_1 hpr5 hv5))
                        refine stepsQ_cons rfl ?_ ?_
                        · intro X e HD hleD _
                          replace hs := hs.mono hleD
                          replace hacc := hacc.mono hleD
                          replace hle0 := hle0.trans hleD
                          refine withP_cons rfl rfl ?_
                          rintro _ _
                          refine withP_nil rfl ?_
                          intro hfa
                          have hfb := factQ_s rfl hfa rfl rfl
                          obtain ⟨⟨kw, nw, sw, lw⟩, p5, bad5, hpr5, rfl, aw, cw, rfl, hw⟩ := hfb.2.1 rfl
                          refine XO.buildSlice rfl Try.underlying22 ty_24 ze_24 rfl rfl rfl (fun b134 => ?_)
                          refine XO.publish 0 rfl rfl rfl (fun HP134 hoP134 hleP134 hbP134 hsoP134 => ?_)
                          have hsl134 := SlR.lit (ρ := valR) (l := [.mk kw nw sw lw]) hbP134 hsoP134 (RowsR.one1 (valR_iff.2 ⟨aw, cw, rfl, hw.mono hleP134⟩))
                          refine XO.nil ?_
                          exact stepQV_ok trivial (trivial) (foQ_mod rfl (by exact FOr_2 hpr5 hsl134 rfl))
                        exact stepsQ_end rfl
                      case tail43 =>
                        intro HD hleD _
                        replace hs := hs.mono hleD
                        replace hacc := hacc.mono hleD
                        replace hle0 := hle0.trans hleD
                        refine withP_cons rfl rfl ?_
                        rintro _ rfl
                        refine withP_cons rfl rfl ?_
                        rintro _ rfl
                        refine withP_cons rfl rfl ?_
                        rintro _ rfl
                        refine withP_cons rfl rfl ?_
                        rintro _ rfl
                        refine withP_cons rfl rfl ?_
                        rintro _ rfl
                        refine withP_cons rfl rfl ?_
                        rintro _ _
                        refine withP_cons rfl rfl ?_
                        rintro _ _
                        refine withP_nil rfl ?_
                        intro e he
                        have hfb := lastQ_s rfl he rfl rfl
                        obtain ⟨w, p5, bad5, a134, c134, hpr5, rfl, rfl, hsl134⟩ := hfb.2.2 rfl
                        refine XO.appendA 1 rfl rfl hacc rfl rfl hsl134 rfl Try.underlying22 ty_24 ze_24 rfl by_24 (by simp; omega) rfl (fun p135 a135 c135 hacc135 => ?_)
                        refine XO.fieldAddr rfl fa_24_3 rfl ?_
                        refine XO.storeO 2 rfl rfl rfl rfl ty_22 rfl rfl rfl rfl rfl ?_
                        refine XO.nil ?_
                        refine blockN ?_
                        refine XC.seq2 ?_
                        refine XC.region ?_
                        refine XO.move rfl rfl ?_
                        refine XO.add rfl rfl (wrap_u64 (by omega) (by omega)) rfl ?_
                        refine XO.assign rfl rfl ?_
                        refine XO.nil ?_
                        refine loop_next ((j + 1, p135, a135, c135, L ++ [w], p5, bad5)) (by show u87 - (j + 1) < u87 - j; omega) (prov_cons (rfl) (prov_cons (rfl) (prov_cons (rfl) (prov_cons (rfl) (prov_cons (rfl) (prov_cons (rfl) prov_nil)))))) (⟨rfl, by show j + 1 ≤ u87; omega, hpr5.1, itR_step hit hjn hpr5, hacc135, by simp [hLl]⟩) (by repeat (first | exact List.Sublist.refl _ | apply List.Sublist.cons_cons | apply List.Sublist.cons)) (hle0)
                    · have hbt : bad = true := by simpa using c6_42
                      refine XC.exit ?_
                      refine seqX_exit ?_
                      refine loopX_exit ?_
                      refine blockHit rfl ?_
                      refine XC.seq2 ?_
                      refine XC.seq ?_
                      refine XC.region ?_
                      refine XO.publishA 1 rfl hacc rfl (fun HQ hleQ hsQ => ?_)
                      replace hs := hs.mono hleQ
                      replace hle0 := hle0.trans hleQ
                      refine XO.loadO 1 rfl rfl ty_24 rfl rfl rfl ?_
                      refine XO.storeO 2 rfl rfl rfl rfl ty_24 rfl rfl rfl rfl rfl ?_
                      refine XO.nil ?_
                      refine XC.seq2 ?_
                      refine XC.ret ?_
                      refine blockR ?_
                      refine seqX_ret ?_
                      refine ⟨rfl, _, [_], (resC_cell 2 rfl rfl ty_24 rfl rfl resC_nil), (by repeat (first | exact List.Sublist.refl _ | apply List.Sublist.cons_cons | apply List.Sublist.cons)), RetR.mk ?_⟩
                      first | exact ⟨_, _, _, VV_1 (sgn_odd (by omega)), rfl, rv_1 hnx11 (by omega) hpr15⟩ | exact ⟨_, _, _, VV_1 (sgn_even (by omega)), rfl, rv_1 hnx11 (by omega) hpr15⟩ | exact ⟨v0, _, true, VV_0, rfl, hq32, fun h => (by cases h), fun _ => rv_2no hnx11 (by omega) hpr32 (by first | exact Or.inl rfl | exact Or.inr (by omega))⟩ | exact ⟨_, _, _, VV_2, rfl, rv_2 hnx11 (by omega) hpr32 (by omega)⟩ | exact ⟨v0, _, true, VV_0, rfl, hq87, fun h => (by cases h), fun _ => rv_3no hnx11 (by omega) hpr87 (by first | exact Or.inl (Or.inl rfl) | exact Or.inl (Or.inr (by omega)) | exact Or.inr (by omega))⟩ | exact ⟨_, _, _, VV_3 hsQ, rfl, rv_3 hnx11 (by omega) hpr87 (by omega) hit hq (by first | (intro; omega) | (intro; simp_all; done))⟩ | exact ⟨v0, _, true, VV_0, rfl, hp11, fun h => (by cases h), fun _ => rv_0 hnx11 (by omega)⟩
                  · have g41p := of_decide_eq_false g41
                    refine XO.guardF rfl rfl (g41) rfl rfl ?_
                    refine XO.guardF rfl rfl (g41) rfl rfl ?_
                    refine XO.guardF rfl rfl (g41) rfl rfl ?_
                    refine XO.guardF rfl rfl (g41) rfl rfl ?_
                    refine XO.pickF rfl (g41) rfl rfl ?_
                    refine XO.nil ?_
                    refine XC.seq2 ?_
                    refine XC.condF rfl (rfl) ?_
                    refine XC.exit ?_
                    refine seqX_exit ?_
                    refine loopX_exit ?_
                    refine blockHit rfl ?_
                    refine XC.seq2 ?_
                    refine XC.seq ?_
                    refine XC.region ?_
                    refine XO.publishA 1 rfl hacc rfl (fun HQ hleQ hsQ => ?_)
                    replace hs := hs.mono hleQ
                    replace hle0 := hle0.trans hleQ
                    refine XO.loadO 1 rfl rfl ty_24 rfl rfl rfl ?_
                    refine XO.storeO 2 rfl rfl rfl rfl ty_24 rfl rfl rfl rfl rfl ?_
                    refine XO.nil ?_
                    refine XC.seq2 ?_
                    refine XC.ret ?_
                    refine blockR ?_
                    refine seqX_ret ?_
                    refine ⟨rfl, _, [_], (resC_cell 2 rfl rfl ty_24 rfl rfl resC_nil), (by repeat (first | exact List.Sublist.refl _ | apply List.Sublist.cons_cons | apply List.Sublist.cons)), RetR.mk ?_⟩
                    first | exact ⟨_, _, _, VV_1 (sgn_odd (by omega)), rfl, rv_1 hnx11 (by omega) hpr15⟩ | exact ⟨_, _, _, VV_1 (sgn_even (by omega)), rfl, rv_1 hnx11 (by omega) hpr15⟩ | exact ⟨v0, _, true, VV_0, rfl, hq32, fun h => (by cases h), fun _ => rv_2no hnx11 (by omega) hpr32 (by first | exact Or.inl rfl | exact Or.inr (by omega))⟩ | exact ⟨_, _, _, VV_2, rfl, rv_2 hnx11 (by omega) hpr32 (by omega)⟩ | exact ⟨v0, _, true, VV_0, rfl, hq87, fun h => (by cases h), fun _ => rv_3no hnx11 (by omega) hpr87 (by first | exact Or.inl (Or.inl rfl) | exact Or.inl (Or.inr (by omega)) | exact Or.inr (by omega))⟩ | exact ⟨_, _, _, VV_3 hsQ, rfl, rv_3 hnx11 (by omega) hpr87 (by omega) hit hq (by first | (intro; omega) | (intro; simp_all; done))⟩ | exact ⟨v0, _, true, VV_0, rfl, hp11, fun h => (by cases h), fun _ => rv_0 hnx11 (by omega)⟩
              · have g39p := of_decide_eq_true g39
                refine XO.guardF rfl rfl (g39) rfl rfl ?_
                refine XO.pickT rfl (g39) rfl rfl ?_
                refine XO.nil ?_
                refine XC.seq2 ?_
                refine XC.condT rfl (rfl) ?_
                refine XC.seq ?_
                refine XC.region ?_
                refine XO.move rfl rfl ?_
                refine XO.nilCheckP rfl rfl ?_
                refine XO.fieldAddr rfl fa_62_2 rfl ?_
                refine XO.storeO 0 rfl rfl rfl rfl ty_4 rfl rfl rfl rfl rfl ?_
                refine XO.nil ?_
                refine XC.seq2 ?_
                refine XC.seq ?_
                refine XC.region ?_
                refine XO.build bk_24 bf_24 ze_24 rfl rfl rfl ?_
                refine XO.storeO 1 rfl rfl rfl rfl ty_24 rfl rfl rfl rfl rfl ?_
                refine XO.nil ?_
                refine XC.seq2 ?_
                refine XC.ret ?_
                refine seqX_ret ?_
                refine blockR ?_
                refine seqX_ret ?_
                refine ⟨rfl, _, [_], (resC_cell 1 rfl rfl ty_24 rfl rfl resC_nil), (by repeat (first | exact List.Sublist.refl _ | apply List.Sublist.cons_cons | apply List.Sublist.cons)), RetR.mk ?_⟩
                first | exact ⟨_, _, _, VV_1 (sgn_odd (by omega)), rfl, rv_1 hnx11 (by omega) hpr15⟩ | exact ⟨_, _, _, VV_1 (sgn_even (by omega)), rfl, rv_1 hnx11 (by omega) hpr15⟩ | exact ⟨v0, _, true, VV_0, rfl, hq32, fun h => (by cases h), fun _ => rv_2no hnx11 (by omega) hpr32 (by first | exact Or.inl rfl | exact Or.inr (by omega))⟩ | exact ⟨_, _, _, VV_2, rfl, rv_2 hnx11 (by omega) hpr32 (by omega)⟩ | exact ⟨v0, _, true, VV_0, rfl, hq87, fun h => (by cases h), fun _ => rv_3no hnx11 (by omega) hpr87 (by first | exact Or.inl (Or.inl rfl) | exact Or.inl (Or.inr (by omega)) | exact Or.inr (by omega))⟩ | exact ⟨_, _, _, VV_3 hsQ, rfl, rv_3 hnx11 (by omega) hpr87 (by omega) hit hq (by first | (intro; omega) | (intro; simp_all; done))⟩ | exact ⟨v0, _, true, VV_0, rfl, hp11, fun h => (by cases h), fun _ => rv_0 hnx11 (by omega)⟩
        · skip
          refine XC.keep [0, 1, 4, 7] rfl ?_
          apply XC.drawH (fun _ => True) trivial [] (by decide) (fun _ _ _ _ => True) (fun _ _ _ _ _ _ h => h) 17 [eqF _, eqF _, eqF _, eqF _, eqF _, eqF _, eqF _, eqF _, eqF _, eqF _, eqF _, eqF _, eqF _, eqF _, eqF _, eqF _, eqF _] follows (by kernel_rfl) ⟨eqF_mono _, eqF_mono _, eqF_mono _, eqF_mono _, eqF_mono _, eqF_mono _, eqF_mono _, eqF_mono _, eqF_mono _, eqF_mono _, eqF_mono _, eqF_mono _, eqF_mono _, eqF_mono _, eqF_mono _, eqF_mono _, eqF_mono _, trivial⟩ (by decide) ?steps47 ?tail47
          case steps47 =>
            refine stepsH_cons rfl ?_ ?_
            · intro X ext HD hleD _
              replace hs := hs.mono hleD
              refine withP_nil rfl ?_
              refine XO.move rfl rfl ?_
              refine XO.nil ?_
              exact stepQN_ok rfl trivial (rfl)
            refine stepsH_cons rfl ?_ ?_
            · intro X ext HD hleD _
              replace hs := hs.mono hleD
              refine withP_cons rfl rfl ?_
              rintro _ rfl
              refine withP_nil rfl ?_
              refine XO.nilCheckP rfl rfl ?_
              refine XO.nil ?_
              exact stepQN_ok rfl trivial (rfl)
            refine stepsH_cons rfl ?_ ?_
            · intro X ext HD hleD _
              replace hs := hs.mono hleD
              refine withP_cons rfl rfl ?_
              rintro _ rfl
              refine withP_nil rfl ?_
              refine XO.fieldAddr rfl fa_62_2 rfl ?_
              refine XO.nil ?_
              exact stepQN_ok rfl trivial (rfl)
            refine stepsH_cons rfl ?_ ?_
            · intro X ext HD hleD _
              replace hs := hs.mono hleD
              refine withP_cons rfl rfl ?_
              rintro _ rfl
              refine withP_nil rfl ?_
              refine XO.loadO 0 rfl rfl ty_4 rfl rfl rfl ?_
              refine XO.nil ?_
              exact stepQN_ok rfl trivial (rfl)
            refine stepsH_cons rfl ?_ ?_
            · intro X ext HD hleD _
              replace hs := hs.mono hleD
              refine withP_cons rfl rfl ?_
              rintro _ rfl
              refine withP_nil rfl ?_
              refine XO.move rfl rfl ?_
              refine XO.nil ?_
              exact stepQN_ok rfl trivial (rfl)
            refine stepsH_cons rfl ?_ ?_
            · intro X ext HD hleD _
              replace hs := hs.mono hleD
              refine withP_cons rfl rfl ?_
              rintro _ rfl
              refine withP_nil rfl ?_
              refine XO.guardF rfl rfl (rfl) rfl rfl ?_
              refine XO.nil ?_
              exact stepQN_ok rfl trivial (rfl)
            refine stepsH_cons rfl ?_ ?_
            · intro X ext HD hleD _
              replace hs := hs.mono hleD
              refine withP_cons rfl rfl ?_
              rintro _ rfl
              refine withP_nil rfl ?_
              refine XO.guardF rfl rfl (rfl) rfl rfl ?_
              refine XO.nil ?_
              exact stepQN_ok rfl trivial (rfl)
            refine stepsH_cons rfl ?_ ?_
            · intro X ext HD hleD _
              replace hs := hs.mono hleD
              refine withP_cons rfl rfl ?_
              rintro _ rfl
              refine withP_cons rfl rfl ?_
              rintro _ rfl
              refine withP_nil rfl ?_
              refine XO.guardF rfl rfl (rfl) rfl rfl ?_
              refine XO.nil ?_
              exact stepQN_ok rfl trivial (rfl)
            refine stepsH_cons rfl ?_ ?_
            · intro X ext HD hleD _
              replace hs := hs.mono hleD
              refine withP_cons rfl rfl ?_
              rintro _ rfl
              refine withP_cons rfl rfl ?_
              rintro _ rfl
              refine withP_nil rfl ?_
              refine XO.guardF rfl rfl (rfl) rfl rfl ?_
              refine XO.nil ?_
              exact stepQN_ok rfl trivial (rfl)
            refine stepsH_cons rfl ?_ ?_
            · intro X ext HD hleD _
              replace hs := hs.mono hleD
              refine withP_cons rfl rfl ?_
              rintro _ rfl
              refine withP_cons rfl rfl ?_
              rintro _ rfl
              refine withP_nil rfl ?_
              refine XO.guardF rfl rfl (rfl) rfl rfl ?_
              refine XO.nil ?_
              exact stepQN_ok rfl trivial (rfl)
            refine stepsH_cons rfl ?_ ?_
            · intro X ext HD hleD _
              replace hs := hs.mono hleD
              refine withP_cons rfl rfl ?_
              rintro _ rfl
              refine withP_cons rfl rfl ?_
              rintro _ rfl
              refine withP_nil rfl ?_
              refine XO.guardF rfl rfl (rfl) rfl rfl ?_
              refine XO.nil ?_
              exact stepQN_ok rfl trivial (rfl)
            refine stepsH_cons rfl ?_ ?_
            · intro X ext HD hleD _
              replace hs := hs.mono hleD
              refine withP_cons rfl rfl ?_
              rintro _ rfl
              refine withP_nil rfl ?_
              refine XO.guardF rfl rfl (rfl) rfl rfl ?_
              refine XO.nil ?_
              exact stepQN_ok rfl trivial (rfl)
            refine stepsH_cons rfl ?_ ?_
            · intro X ext HD hleD _
              replace hs := hs.mono hleD
              refine withP_cons rfl rfl ?_
              rintro _ rfl
              refine withP_cons rfl rfl ?_
              rintro _ rfl
              refine withP_nil rfl ?_
              refine XO.guardF rfl rfl (rfl) rfl rfl ?_
              refine XO.nil ?_
              exact stepQN_ok rfl trivial (rfl)
            refine stepsH_cons rfl ?_ ?_
            · intro X ext HD hleD _
              replace hs := hs.mono hleD
              refine withP_cons rfl rfl ?_
              rintro _ rfl
              refine withP_cons rfl rfl ?_
              rintro _ rfl
              refine withP_nil rfl ?_
              refine XO.guardF rfl rfl (rfl) rfl rfl ?_
              refine XO.nil ?_
              exact stepQN_ok rfl trivial (rfl)
            refine stepsH_cons rfl ?_ ?_
            · intro X ext HD hleD _
              replace hs := hs.mono hleD
              refine withP_cons rfl rfl ?_
              rintro _ rfl
              refine withP_cons rfl rfl ?_
              rintro _ rfl
              refine withP_nil rfl ?_
              refine XO.guardF rfl rfl (rfl) rfl rfl ?_
              refine XO.nil ?_
              exact stepQN_ok rfl trivial (rfl)
            refine stepsH_cons rfl ?_ ?_
            · intro X ext HD hleD _
              replace hs := hs.mono hleD
              refine withP_cons rfl rfl ?_
              rintro _ rfl
              refine withP_cons rfl rfl ?_
              rintro _ rfl
              refine withP_cons rfl rfl ?_
              rintro _ rfl
              refine withP_nil rfl ?_
              refine XO.guardF rfl rfl (rfl) rfl rfl ?_
              refine XO.nil ?_
              exact stepQN_ok rfl trivial (rfl)
            refine stepsH_cons rfl ?_ ?_
            · intro X ext HD hleD _
              replace hs := hs.mono hleD
              refine withP_cons rfl rfl ?_
              rintro _ rfl
              refine withP_cons rfl rfl ?_
              rintro _ rfl
              refine withP_nil rfl ?_
              refine XO.guardF rfl rfl (rfl) rfl rfl ?_
              refine XO.nil ?_
              exact stepQN_ok rfl trivial (rfl)
            exact stepsH_end rfl
          case tail47 =>
            intro HD hleD _
            replace hs := hs.mono hleD
            refine withP_cons rfl rfl ?_
            rintro _ rfl
            refine withP_cons rfl rfl ?_
            rintro _ rfl
            refine withP_cons rfl rfl ?_
            rintro _ rfl
            refine withP_cons rfl rfl ?_
            rintro _ rfl
            refine withP_cons rfl rfl ?_
            rintro _ rfl
            refine withP_cons rfl rfl ?_
            rintro _ rfl
            refine withP_cons rfl rfl ?_
            rintro _ rfl
            refine withP_cons rfl rfl ?_
            rintro _ rfl
            refine withP_cons rfl rfl ?_
            rintro _ rfl
            refine withP_cons rfl rfl ?_
            rintro _ rfl
            refine withP_cons rfl rfl ?_
            rintro _ rfl
            refine withP_cons rfl rfl ?_
            rintro _ rfl
            refine withP_cons rfl rfl ?_
            rintro _ rfl
            refine withP_cons rfl rfl ?_
            rintro _ rfl
            refine withP_cons rfl rfl ?_
            rintro _ rfl
            refine withP_cons rfl rfl ?_
            rintro _ rfl
            refine withP_cons rfl rfl ?_
            rintro _ rfl
            refine withP_nil rfl ?_
            refine withEnts_nil ?_
            refine XO.guardF rfl rfl (rfl) rfl rfl ?_
            refine XO.pickT rfl (rfl) rfl rfl ?_
            refine XO.move rfl rfl ?_
            refine XO.guardF rfl rfl (rfl) rfl rfl ?_
            refine XO.guardF rfl rfl (rfl) rfl rfl ?_
            refine XO.pickT rfl (rfl) rfl rfl ?_
            refine XO.nil ?_
            refine XC.seq2 ?_
            refine XC.condT rfl (rfl) ?_
            refine XC.seq ?_
            refine XC.region ?_
            refine XO.move rfl rfl ?_
            refine XO.nilCheckP rfl rfl ?_
            refine XO.fieldAddr rfl fa_62_2 rfl ?_
            refine XO.storeO 0 rfl rfl rfl rfl ty_4 rfl rfl rfl rfl rfl ?_
            refine XO.nil ?_
            refine XC.seq2 ?_
            refine XC.seq ?_
            refine XC.region ?_
            refine XO.build bk_24 bf_24 ze_24 rfl rfl rfl ?_
            refine XO.storeO 1 rfl rfl rfl rfl ty_24 rfl rfl rfl rfl rfl ?_
            refine XO.nil ?_
            refine XC.seq2 ?_
            refine XC.ret ?_
            refine seqX_ret ?_
            refine blockR ?_
            refine seqX_ret ?_
            refine ⟨rfl, _, [_], (resC_cell 1 rfl rfl ty_24 rfl rfl resC_nil), (by repeat (first | exact List.Sublist.refl _ | apply List.Sublist.cons_cons | apply List.Sublist.cons)), RetR.mk ?_⟩
            first | exact ⟨_, _, _, VV_1 (sgn_odd (by omega)), rfl, rv_1 hnx11 (by omega) hpr15⟩ | exact ⟨_, _, _, VV_1 (sgn_even (by omega)), rfl, rv_1 hnx11 (by omega) hpr15⟩ | exact ⟨v0, _, true, VV_0, rfl, hq32, fun h => (by cases h), fun _ => rv_2no hnx11 (by omega) hpr32 (by first | exact Or.inl rfl | exact Or.inr (by omega))⟩ | exact ⟨_, _, _, VV_2, rfl, rv_2 hnx11 (by omega) hpr32 (by omega)⟩ | exact ⟨v0, _, true, VV_0, rfl, hq87, fun h => (by cases h), fun _ => rv_3no hnx11 (by omega) hpr87 (by first | exact Or.inl (Or.inl rfl) | exact Or.inl (Or.inr (by omega)) | exact Or.inr (by omega))⟩ | exact ⟨_, _, _, VV_3 hsQ, rfl, rv_3 hnx11 (by omega) hpr87 (by omega) hit hq (by first | (intro; omega) | (intro; simp_all; done))⟩ | exact ⟨v0, _, true, VV_0, rfl, hp11, fun h => (by cases h), fun _ => rv_0 hnx11 (by omega)⟩
      · refine XC.skip ?_
        refine blockN ?_
        refine XC.seq2 ?_
        refine XC.seq ?_
        refine XC.region ?_
        refine XO.move rfl rfl ?_
        refine XO.nilCheckP rfl rfl ?_
        refine XO.fieldAddr rfl fa_62_2 rfl ?_
        refine XO.storeO 0 rfl rfl rfl rfl ty_4 rfl rfl rfl rfl rfl ?_
        refine XO.nil ?_
        refine XC.seq2 ?_
        refine XC.seq ?_
        refine XC.region ?_
        refine XO.build bk_24 bf_24 ze_24 rfl rfl rfl ?_
        refine XO.storeO 1 rfl rfl rfl rfl ty_24 rfl rfl rfl rfl rfl ?_
        refine XO.nil ?_
        refine XC.seq2 ?_
        refine XC.ret ?_
        refine ⟨rfl, _, [_], (resC_cell 1 rfl rfl ty_24 rfl rfl resC_nil), (by repeat (first | exact List.Sublist.refl _ | apply List.Sublist.cons_cons | apply List.Sublist.cons)), RetR.mk ?_⟩
        first | exact ⟨_, _, _, VV_1 (sgn_odd (by omega)), rfl, rv_1 hnx11 (by omega) hpr15⟩ | exact ⟨_, _, _, VV_1 (sgn_even (by omega)), rfl, rv_1 hnx11 (by omega) hpr15⟩ | exact ⟨v0, _, true, VV_0, rfl, hq32, fun h => (by cases h), fun _ => rv_2no hnx11 (by omega) hpr32 (by first | exact Or.inl rfl | exact Or.inr (by omega))⟩ | exact ⟨_, _, _, VV_2, rfl, rv_2 hnx11 (by omega) hpr32 (by omega)⟩ | exact ⟨v0, _, true, VV_0, rfl, hq87, fun h => (by cases h), fun _ => rv_3no hnx11 (by omega) hpr87 (by first | exact Or.inl (Or.inl rfl) | exact Or.inl (Or.inr (by omega)) | exact Or.inr (by omega))⟩ | exact ⟨_, _, _, VV_3 hsQ, rfl, rv_3 hnx11 (by omega) hpr87 (by omega) hit hq (by first | (intro; omega) | (intro; simp_all; done))⟩ | exact ⟨v0, _, true, VV_0, rfl, hp11, fun h => (by cases h), fun _ => rv_0 hnx11 (by omega)⟩

end Go.Proofs

/- What is decoded is neither large nor out of range. -/
set_option autoImplicit false
set_option linter.unusedVariables false
set_option linter.unusedSimpArgs false
namespace Go.Proofs
open Go.XL
theorem wsz_enc (v : Val) : formedB v = true → wszV v ≤ 10 * (encV v).length := by
  refine Val.ind (motive := fun v => formedB v = true → wszV v ≤ 10 * (encV v).length) ?_ v
  intro k n s l ih hf
  rcases formed_kind hf with rfl | rfl | rfl
  · obtain ⟨rfl, rfl⟩ := formed1.1 hf
    have := numL_pos (unsV n)
    rw [wszV, encV1]; simp [wszL]; omega
  · obtain ⟨rfl, rfl⟩ := formed2.1 hf
    have := numL_pos s.length
    rw [wszV, encV2]; simp [wszL]; omega
  · obtain ⟨⟨rfl, rfl⟩, hfl⟩ := formed3.1 hf
    have hL : wszL l ≤ 10 * (encL l).length := by
      clear hf
      induction l with
      | nil => simp [wszL]
      | cons x r ihr =>
        simp only [formedL, Bool.and_eq_true] at hfl
        have h1 := ih x (by simp) hfl.1
        have h2 := ihr (fun y hy => ih y (by simp [hy])) hfl.2
        rw [wszL, encL, List.length_append]; omega
    have := numL_pos l.length
    rw [wszV, encV3]; simp; omega
theorem sgn_fit {u : Nat} (h : u < 2 ^ 64) : -9223372036854775808 ≤ sgnV u ∧ sgnV u ≤ 9223372036854775807 := by
  unfold sgnV; split <;> omega
theorem encL_mem {x : Val} : ∀ {l : List Val}, x ∈ l → (encV x).length ≤ (encL l).length
  | y :: r, hx => by
    rw [encL, List.length_append]
    rcases List.mem_cons.1 hx with rfl | hx
    · omega
    · have := encL_mem hx; omega
theorem valP_fit : ∀ (d : Nat) (b : List UInt8) (v : Val) (r : List UInt8), valP d b = some (v, r) → (encV v).length < 2 ^ 63 → Fit v := by
  intro d
  induction d with
  | zero =>
    intro b v r h hlen
    cases b with
    | nil => rw [valP_nil] at h; cases h
    | cons c b =>
      rw [valP] at h
      split at h
      · split at h
        · cases h
        · rename_i u r2 hn; cases h
          exact .mk _ _ _ _ (sgn_fit (numG_of hn).2) (by simp) (by simp) (fun x hx => by cases hx)
      · split at h
        · split at h
          · cases h
          · rename_i u r2 hn; cases h
            rw [encV2] at hlen
            refine .mk _ _ _ _ (by omega) ?_ (by simp) (fun x hx => by cases hx)
            simp at hlen ⊢; omega
        · cases h
  | succ d ih =>
    intro b v r h hlen
    cases b with
    | nil => rw [valP_nil] at h; cases h
    | cons c b =>
      rw [valP] at h
      split at h
      · split at h
        · cases h
        · rename_i u r2 hn; cases h
          exact .mk _ _ _ _ (sgn_fit (numG_of hn).2) (by simp) (by simp) (fun x hx => by cases hx)
      · split at h
        · split at h
          · cases h
          · rename_i u r2 hn; cases h
            rw [encV2] at hlen
            refine .mk _ _ _ _ (by omega) ?_ (by simp) (fun x hx => by cases hx)
            simp at hlen ⊢; omega
        · split at h
          · split at h
            · cases h
            · rename_i u r2 hn
              split at h
              · cases h
              · rename_i l r3 hl
                cases h
                obtain ⟨h3, h4, h5⟩ := iterP_of (q := fun v => (encV v).length < 2 ^ 63 → Fit v) (fun b v r h => ⟨(valP_of h).1, ih b v r h⟩) hl
                rw [encV3] at hlen
                simp at hlen
                have hll := encL_len (l := l)
                refine .mk _ _ _ _ (by omega) (by simp) (by omega) (fun x hx => h5 x hx ?_)
                have := encL_mem hx
                omega
          · cases h
theorem rd_fit {b : List UInt8} {w : Val} {p : Nat} (h : PR b (valP 16 (b.drop 0)) w p false) (hl : b.length ≤ 100000) : wszV w ≤ 1000000 ∧ Fit w ∧ chkV w = 0 ∧ (p = b.length → b = encV w) := by
  have h1 := h.2.1 rfl
  rw [List.drop_zero] at h1
  obtain ⟨h2, h3, h4⟩ := valP_of h1
  have h5 := congrArg List.length h2
  rw [List.length_append] at h5
  have := wsz_enc w h3
  refine ⟨by omega, valP_fit _ _ _ _ h1 (by omega), chk_0 h3 (by omega), fun hp => ?_⟩
  rw [hp, List.drop_length, List.append_nil] at h2
  exact h2
theorem rd_none {b : List UInt8} {w : Val} {p : Nat} (h : PR b (valP 16 (b.drop 0)) w p true) : decV b = (v0, 10) := dec_none (by have := h.2.2 rfl; rwa [List.drop_zero] at this)
theorem rd_rest {b : List UInt8} {w : Val} {p : Nat} (h : PR b (valP 16 (b.drop 0)) w p false) (hp : ((p : Nat) : Int) ≠ ((b.length : Nat) : Int)) : decV b = (v0, 10) := by
  have h1 := h.2.1 rfl
  rw [List.drop_zero] at h1
  exact dec_rest h1 (by rw [List.length_drop]; have := h.1; omega)
theorem rd_all {b : List UInt8} {w : Val} {p : Nat} (h : PR b (valP 16 (b.drop 0)) w p false) (hp : ¬ ((p : Nat) : Int) ≠ ((b.length : Nat) : Int)) : decV b = (w, 0) := by
  have h1 := h.2.1 rfl
  rw [List.drop_zero] at h1
  exact dec_all h1 (by rw [List.length_drop]; omega)
end Go.Proofs
