/- Repairs: reasons, jobs in memory, denials. -/
import Derived.Test.YtnckfcgnmhplnaaB4
import Derived.Test.YtnckfcgnmhplnaaB2
import Derived.Test.YtnckfcgnmhplnaaB3
set_option autoImplicit false
set_option linter.unusedVariables false
set_option linter.unusedSimpArgs false
namespace Go.Proofs
open Go.XL
theorem chg_le {old l : Ls} {m k : Nat} (h : ∀ x ∈ l, x.length ≤ m) : chg old (l.take k) ≤ m * k := by
  refine Nat.le_trans (chg_wid _ _) ?_
  have : ∀ (l : Ls) (k : Nat), (∀ x ∈ l, x.length ≤ m) → wid (l.take k) ≤ m * k := by
    intro l
    induction l with
    | nil => intro k _; simp [wid]
    | cons x r ih =>
      intro k h
      cases k with
      | zero => simp [wid]
      | succ k =>
        have h1 := h x (by simp)
        have h2 := ih k fun y hy => h y (by simp [hy])
        simp only [wid, List.take_succ_cons, List.map_cons, List.sum_cons] at h2 ⊢
        rw [Nat.mul_succ]; omega
  exact this l k h
theorem mul_b {a b m n : Int} (ha : 0 ≤ a) (ha2 : a ≤ m) (hb : 0 ≤ b) (hb2 : b ≤ n) : 0 ≤ a * b ∧ a * b ≤ m * n :=
 ⟨Int.mul_nonneg ha hb, Int.mul_le_mul ha2 hb2 hb (by omega)⟩
/-- a job in memory -/
def JobH (H : Hp) (bj : Nat) (w : Wi) (old : Ls) (pr : List Int) : Prop := ∃ aB cB aO cO aP cP aA nA cA,
 PtH H bj 0 [.int .i64 w.J, .int .i64 w.S, .int .i64 w.N, .slice aB w.B.length cB, .slice aO old.length cO, .slice aP pr.length cP, .slice aA nA cA] ∧ SlR tbR H aB cB w.B ∧ SlR ilR H aO cO old ∧ SlR (intR .i64) H aP cP pr
theorem JobH.mono {H H' : Hp} {bj : Nat} {w : Wi} {old : Ls} {pr : List Int} (h : JobH H bj w old pr) (hle : Le H H') : JobH H' bj w old pr := by
 obtain ⟨aB, cB, aO, cO, aP, cP, aA, nA, cA, h1, h2, h3, h4⟩ := h
 exact ⟨aB, cB, aO, cO, aP, cP, aA, nA, cA, h1.mono hle, h2.mono hle, h3.mono hle, h4.mono hle⟩
theorem unbal_t {w : Wi} {pr : List Int} {l : Ls} {x : Int} (hx : x ∈ pr) (h : offK w.B.length pr.length w.S l.length (loadL l x : Nat)) : unbalB w pr l = true := by
 unfold unbalB; rw [List.any_eq_true]; exact ⟨x, hx, decide_eq_true h⟩
theorem unbal_f {w : Wi} {pr : List Int} {l : Ls} (h : ∀ y ∈ pr, ¬ offK w.B.length pr.length w.S l.length (loadL l y : Nat)) : unbalB w pr l = false := by
 unfold unbalB; rw [List.any_eq_false]; intro y hy; rw [decide_eq_false (h y hy)]; decide
theorem apart_nil {w : Wi} {l : Ls} (h : l.length = 0) : apartB w l = false := by
 obtain rfl := List.length_eq_zero_iff.1 h; rfl
theorem apart_eq {w : Wi} {l : Ls} {y : List Int} (hy : l[l.length - 1]? = some y) : apartB w l = (l.take (l.length - 1)).any fun x => decide (((cmn x y : Nat) : Int) < w.N) := by
 unfold apartB
 rw [List.getLast?_eq_getElem?, hy, List.dropLast_eq_take]
theorem apart_t {w : Wi} {l : Ls} {x y : List Int} {k : Nat} (hk : k + 1 < l.length) (hy : l[l.length - 1]? = some y) (hx : l[k]? = some x) (h : ((cmn x y : Nat) : Int) < w.N) : apartB w l = true := by
 rw [apart_eq hy, List.any_eq_true]
 refine ⟨x, ?_, decide_eq_true h⟩; refine List.mem_of_getElem? (i := k) ?_
 rw [List.getElem?_take]; simp [show k < l.length - 1 by omega, hx]
theorem apart_f {w : Wi} {l : Ls} {y : List Int} (hy : l[l.length - 1]? = some y) (h : ∀ x ∈ l.take (l.length - 1), ¬ ((cmn x y : Nat) : Int) < w.N) : apartB w l = false := by
 rw [apart_eq hy, List.any_eq_false]; intro x hx; rw [decide_eq_false (h x hx)]; decide
/-- reasons in memory: a number, and the method of the job at bj with a number -/
def reR : Rep (Int × Nat × Nat) where
 sz := 2
 R := fun _ cs p => cs = [.int .i64 p.1, .func (.func p.2.1) #[.pointer (some ⟨p.2.2, 0, none⟩)] #[]]
 len := fun h => by subst h; rfl
 one := fun h => by subst h; rfl
 mono := fun _ h => h
def rsL (bj : Nat) : List (Int × Nat × Nat) := [(3, 62, bj), (1, 63, bj), (2, 64, bj)]
def isY (w : Wi) (old : Ls) (pr : List Int) (l : Ls) (lim y : Int) : Bool := if y = 3 then decide (lim ≤ (chg old l : Nat)) else if y = 1 then unbalB w pr l else apartB w l
theorem why_found {w : Wi} {old : Ls} {pr : List Int} {l : Ls} {lim : Int} {bj k : Nat} {x : Int × Nat × Nat} (hx : (rsL bj)[k]? = some x) (h : ∀ y ∈ (rsL bj).take k, ¬ isY w old pr l lim y.1 = true) (hy : isY w old pr l lim x.1 = true) : x.1 = whyW w old pr l lim := by
  unfold whyW
  match k, hx with
  | 0, hx =>
    simp [rsL] at hx; subst hx
    simp only [isY, if_true, decide_eq_true_eq] at hy
    rw [if_pos hy]
  | 1, hx =>
    simp [rsL] at hx; subst hx
    have h0 := h (3, 62, bj) (by simp [rsL])
    simp [isY] at h0 hy
    rw [if_neg (by omega), if_pos hy]
  | 2, hx =>
    simp [rsL] at hx; subst hx
    have h0 := h (3, 62, bj) (by simp [rsL])
    have h1 := h (1, 63, bj) (by simp [rsL])
    simp [isY] at h0 h1 hy
    rw [if_neg (by omega), if_neg (by rw [h1]; decide), if_pos hy]
  | k + 3, hx => simp [rsL] at hx
theorem why_none {w : Wi} {old : Ls} {pr : List Int} {l : Ls} {lim : Int} {bj : Nat} (h : ∀ y ∈ rsL bj, ¬ isY w old pr l lim y.1 = true) : (0 : Int) = whyW w old pr l lim := by
 have h0 := h (3, 62, bj) (by simp [rsL])
 have h1 := h (1, 63, bj) (by simp [rsL])
 have h2 := h (2, 64, bj) (by simp [rsL])
 simp [isY] at h0 h1 h2
 unfold whyW
 rw [if_neg (by omega), if_neg (by rw [h1]; decide), if_neg (by rw [h2]; decide)]
/-- the reference's way to say that a load cannot become balanced -/
theorem offK_ref {n many S len ld : Int} (hm : 0 < many) (hn : 0 ≤ n * S) : offK n many S len ld ↔ (n * S + many - 1) / many < ld ∨ ld < n * S / many - (n - len) := by
 unfold offK
 have h1 := Int.mul_ediv_add_emod (n * S + many - 1) many
 have h2 := Int.emod_nonneg (n * S + many - 1) (show many ≠ 0 by omega)
 have h3 := Int.emod_lt_of_pos (n * S + many - 1) hm
 have key : n * S + many ≤ ld * many ↔ (n * S + many - 1) / many < ld := by
  constructor
  ·intro h
   apply Decidable.byContradiction
   intro hn
   have h4 : ld * many ≤ (n * S + many - 1) / many * many := Int.mul_le_mul_of_nonneg_right (by omega) (by omega)
   rw [Int.mul_comm ((n * S + many - 1) / many) many] at h4
   omega
  ·intro h
   have h4 : ((n * S + many - 1) / many + 1) * many ≤ ld * many := Int.mul_le_mul_of_nonneg_right (by omega) (by omega)
   rw [Int.add_mul, Int.one_mul, Int.mul_comm ((n * S + many - 1) / many) many] at h4
   omega
 rw [key]
 constructor
 ·rintro (h | h)
  ·exact Or.inl h
  ·exact Or.inr (by omega)
 ·rintro (h | h)
  ·exact Or.inl h
  ·exact Or.inr (by omega)
end Go.Proofs

/- The walks of the functions of repairs: what each of them computes, at any input. -/
set_option autoImplicit false
set_option linter.unusedVariables false
set_option linter.unusedSimpArgs false
namespace Go.Proofs
open Go.XL

theorem bf_80 : structF Try.prog 80 = some [(0, 1), (1, 1)] := by kernel_rfl
theorem bk_80 : structK Try.prog 80 = true := by kernel_rfl
theorem fa_70_0 : fieldF Try.prog 70 0 = some 0 := by kernel_rfl
theorem fa_70_1 : fieldF Try.prog 70 1 = some 4 := by kernel_rfl
theorem fa_70_2 : fieldF Try.prog 70 2 = some 5 := by kernel_rfl
theorem fa_80_0 : fieldF Try.prog 80 0 = some 0 := by kernel_rfl
theorem fa_80_1 : fieldF Try.prog 80 1 = some 1 := by kernel_rfl
theorem ty_25 : tyF Try.prog 25 1 false = true := by kernel_rfl
theorem ty_52 : tyF Try.prog 52 1 false = true := by kernel_rfl
theorem ty_78 : tyF Try.prog 78 1 false = true := by kernel_rfl
theorem ty_80 : tyF Try.prog 80 2 true = true := by kernel_rfl
theorem ze_26 : zeroC Try.prog 26 = some [.slice none 0 0] := by kernel_rfl
theorem ze_80 : zeroC Try.prog 80 = some [.int .i64 0, .nilFunc] := by kernel_rfl

theorem rchanges_fn (a b : Option Addr) (c d : Nat) (old l : Ls) (H : Hp) (hs : SlR ilR H a c old) (ht : SlR ilR H b d l) (hlen : l.length ≤ old.length) (hwo : ∀ x ∈ old, x.length < 9223372036854775808) (hw : ∀ x ∈ l, x.length ≤ 1000) (hl : l.length ≤ 1000) : FnC Try.prog 31 #[.slice a old.length c, .slice b l.length d] H [] (RetR (fun v _ _ => v = .int .i64 (chg old l : Nat))) := by
 refine FnC.intro (args := [.slice a old.length c, .slice b l.length d]) Try.func31 rfl rfl Try.ntmps31 rfl rfl rfl fun G rest => ?_
 refine XC.seq ?_; refine XC.region ?_; refine XO.assign rfl rfl ?_; refine XO.nil ?_; refine XC.seq2 ?_; refine XC.seq ?_; refine XC.region ?_; refine XO.assign rfl rfl ?_; refine XO.nil ?_; refine XC.seq2 ?_; refine XC.seq ?_; refine XC.seq ?_; refine XC.region ?_; refine XO.assign rfl rfl ?_; refine XO.nil ?_; refine XC.seq2 ?_; refine XC.block ?_; refine XC.keep [5, 6, 0, 1] rfl ?_; refine XC.loop (base := [(0, _), (1, _)]) (fun ζ : Nat => [(5, .int .i64 (chg old (l.take ζ) : Nat)), (6, .int .i64 (ζ : Nat))]) (fun ζ Hl own => ζ ≤ l.length ∧ rest = own) (fun ζ => l.length - ζ) 0 (prov_cons (provI rfl (by rw [List.take_zero, chg_nil]; rfl)) (prov_cons (rfl) (prov_cons (rfl) (prov_cons (rfl) prov_nil)))) (by repeat (first | exact List.Sublist.refl _ | apply List.Sublist.cons_cons | apply List.Sublist.cons)) ⟨Nat.zero_le _, rfl⟩ ?_; rintro k Hl0 _ hle0 ⟨hkk, rfl⟩; replace hs := hs.mono hle0; replace ht := ht.mono hle0
 try dsimp only at ⊢
 refine XC.seq ?_; refine XC.seq ?_; refine XC.region ?_; refine XO.move rfl rfl ?_; refine XO.move rfl rfl ?_; refine XO.lenS (ts := #[]) rfl Try.underlying25 rfl ?_; refine XO.lss rfl rfl rfl ?_; refine XO.nil ?_; refine XC.seq2 ?_; refine XC.cond rfl (fun c0_1 => ?_) (fun c0_1 => ?_)
 ·refine XC.skip ?_; refine XC.seq2 ?_; refine XC.seq ?_; refine XC.block ?_; refine XC.keep [0, 1, 5, 6] rfl ?_; obtain ⟨bEX, oEX, rfl⟩ := ht.addr (by omega); obtain ⟨_, xX, hxX, ⟨axX, cxX, rfl, hdX⟩, hpX⟩ := ht.elem (k) (by omega); obtain ⟨bEO, oEO, rfl⟩ := hs.addr (by omega); obtain ⟨_, xO, hxO, ⟨axO, cxO, rfl, hdO⟩, hpO⟩ := hs.elem (k) (by omega)
  have hxl := hw _ (List.mem_of_getElem? hxX)
  have hcm := cmn_le xX xO
  have hcb := chg_le (old := old) (l := l) (k := k) hw
  apply XC.draw 16 [eqF _, eqF _, eqF _, eqF _, eqF _, eqF _, eqF _, eqF _, eqF _, eqF _, eqF _, eqF _, eqF _, eqF _, eqF _, eqF _] follows (by kernel_rfl) (by kernel_rfl) ⟨eqF_mono _, eqF_mono _, eqF_mono _, eqF_mono _, eqF_mono _, eqF_mono _, eqF_mono _, eqF_mono _, eqF_mono _, eqF_mono _, eqF_mono _, eqF_mono _, eqF_mono _, eqF_mono _, eqF_mono _, eqF_mono _, trivial⟩ ?steps2 ?tail2
  case steps2 =>
   refine stepsK_cons rfl ?_ ?_
   ·intro X
    refine withPreds_nil rfl ?_; refine XO.move rfl rfl ?_; refine XO.nil ?_
    exact stepQ_ok rfl (rfl)
   refine stepsK_cons rfl ?_ ?_
   ·intro X
    refine withPreds_nil rfl ?_; refine XO.move rfl rfl ?_; refine XO.nil ?_
    exact stepQ_ok rfl (rfl)
   refine stepsK_cons rfl ?_ ?_
   ·intro X
    refine withPreds_nil rfl ?_; refine XO.move rfl rfl ?_; refine XO.nil ?_
    exact stepQ_ok rfl (rfl)
   refine stepsK_cons rfl ?_ ?_
   ·intro X
    refine withPreds_cons rfl rfl ?_; rintro _ rfl; refine withPreds_cons rfl rfl ?_; rintro _ rfl; refine withPreds_nil rfl ?_; refine XO.indexE rfl rfl Try.underlying25 ty_26 (by omega) (by omega) rfl ?_; refine XO.nil ?_
    exact stepQ_ok rfl (rfl)
   refine stepsK_cons rfl ?_ ?_
   ·intro X
    refine withPreds_cons rfl rfl ?_; rintro _ rfl; refine withPreds_nil rfl ?_; refine XO.loadH rfl (by assumption) ty_26 rfl rfl rfl ?_; refine XO.nil ?_
    exact stepQ_ok rfl (rfl)
   refine stepsK_cons rfl ?_ ?_
   ·intro X
    refine withPreds_cons rfl rfl ?_; rintro _ rfl; refine withPreds_nil rfl ?_; refine XO.lenS (ts := #[]) rfl Try.underlying26 rfl ?_; refine XO.nil ?_
    exact stepQ_ok rfl (rfl)
   refine stepsK_cons rfl ?_ ?_
   ·intro X
    refine withPreds_cons rfl rfl ?_; rintro _ rfl; refine withPreds_cons rfl rfl ?_; rintro _ rfl; refine withPreds_nil rfl ?_; refine XO.add rfl rfl (wrap_i64 (by omega) (by omega)) rfl ?_; refine XO.nil ?_
    exact stepQ_ok rfl (rfl)
   refine stepsK_cons rfl ?_ ?_
   ·intro X
    refine withPreds_nil rfl ?_; refine XO.move rfl rfl ?_; refine XO.nil ?_
    exact stepQ_ok rfl (rfl)
   refine stepsK_cons rfl ?_ ?_
   ·intro X
    refine withPreds_nil rfl ?_; refine XO.move rfl rfl ?_; refine XO.nil ?_
    exact stepQ_ok rfl (rfl)
   refine stepsK_cons rfl ?_ ?_
   ·intro X
    refine withPreds_cons rfl rfl ?_; rintro _ rfl; refine withPreds_cons rfl rfl ?_; rintro _ rfl; refine withPreds_nil rfl ?_; refine XO.indexE rfl rfl Try.underlying25 ty_26 (by omega) (by omega) rfl ?_; refine XO.nil ?_
    exact stepQ_ok rfl (rfl)
   refine stepsK_cons rfl ?_ ?_
   ·intro X
    refine withPreds_cons rfl rfl ?_; rintro _ rfl; refine withPreds_nil rfl ?_; refine XO.loadH rfl (by assumption) ty_26 rfl rfl rfl ?_; refine XO.nil ?_
    exact stepQ_ok rfl (rfl)
   refine stepsK_cons rfl ?_ ?_
   ·intro X
    refine withPreds_nil rfl ?_; refine XO.move rfl rfl ?_; refine XO.nil ?_
    exact stepQ_ok rfl (rfl)
   refine stepsK_cons rfl ?_ ?_
   ·intro X
    refine withPreds_nil rfl ?_; refine XO.move rfl rfl ?_; refine XO.nil ?_
    exact stepQ_ok rfl (rfl)
   refine stepsK_cons rfl ?_ ?_
   ·intro X
    refine withPreds_cons rfl rfl ?_; rintro _ rfl; refine withPreds_cons rfl rfl ?_; rintro _ rfl; refine withPreds_nil rfl ?_; refine XO.indexE rfl rfl Try.underlying25 ty_26 (by omega) (by omega) rfl ?_; refine XO.nil ?_
    exact stepQ_ok rfl (rfl)
   refine stepsK_cons rfl ?_ ?_
   ·intro X
    refine withPreds_cons rfl rfl ?_; rintro _ rfl; refine withPreds_nil rfl ?_; refine XO.loadH rfl (by assumption) ty_26 rfl rfl rfl ?_; refine XO.nil ?_
    exact stepQ_ok rfl (rfl)
   refine stepsK_cons rfl ?_ ?_
   ·intro X
    refine withPreds_cons rfl rfl ?_; rintro _ rfl; refine withPreds_cons rfl rfl ?_; rintro _ rfl; refine withPreds_nil rfl ?_; refine XO.callV rfl (rcommon_fn _ _ _ _ xX xO _ hdX hdO (by omega) (hwo _ (List.mem_of_getElem? hxO))) rfl ?_; refine XO.nil ?_
    exact stepQ_ok rfl (rfl)
   exact stepsD_end rfl
  case tail2 =>
   refine withPreds_cons rfl rfl ?_; rintro _ rfl; refine withPreds_cons rfl rfl ?_; rintro _ rfl; refine withPreds_cons rfl rfl ?_; rintro _ rfl; refine withPreds_cons rfl rfl ?_; rintro _ rfl; refine withPreds_cons rfl rfl ?_; rintro _ rfl; refine withPreds_cons rfl rfl ?_; rintro _ rfl; refine withPreds_cons rfl rfl ?_; rintro _ rfl; refine withPreds_cons rfl rfl ?_; rintro _ rfl; refine withPreds_cons rfl rfl ?_; rintro _ rfl; refine withPreds_cons rfl rfl ?_; rintro _ rfl; refine withPreds_cons rfl rfl ?_; rintro _ rfl; refine withPreds_cons rfl rfl ?_; rintro _ rfl; refine withPreds_cons rfl rfl ?_; rintro _ rfl; refine withPreds_cons rfl rfl ?_; rintro _ rfl; refine withPreds_cons rfl rfl ?_; rintro _ rfl; refine withPreds_cons rfl rfl ?_; rintro _ rfl; refine withPreds_nil rfl ?_; refine XO.sub rfl rfl (wrap_i64 (by omega) (by omega)) rfl ?_; refine XO.assign rfl rfl ?_; refine XO.nil ?_; refine blockN ?_; refine XC.seq2 ?_; refine XC.region ?_; refine XO.move rfl rfl ?_; refine XO.add rfl rfl (wrap_i64 (by omega) (by omega)) rfl ?_; refine XO.assign rfl rfl ?_; refine XO.nil ?_; refine loop_next (k + 1) (by show l.length - (k + 1) < l.length - k; omega) (prov_cons (provI rfl (chg_snocI2 hxX hxO)) (prov_cons (rfl) (prov_cons (rfl) (prov_cons (rfl) prov_nil)))) (⟨by show k + 1 ≤ l.length; omega, rfl⟩) (by repeat (first | exact List.Sublist.refl _ | apply List.Sublist.cons_cons | apply List.Sublist.cons)) (hle0)
 ·obtain rfl : k = l.length := by omega
  refine XC.exit ?_; refine seqX_exit ?_; refine loopX_exit ?_; refine blockHit rfl ?_; refine XC.seq2 ?_; refine XC.seq ?_; refine XC.region ?_; refine XO.move rfl rfl ?_; refine XO.assign rfl rfl ?_; refine XO.nil ?_; refine XC.seq2 ?_; refine XC.ret ?_; refine ⟨rfl, _, [], rfl, (by repeat (first | exact List.Sublist.refl _ | apply List.Sublist.cons)), RetR.mk ?_⟩
  exact congrArg (Value.int .i64) (by rw [List.take_length])

theorem changes_fn (bj : Nat) (w : Wi) (old : Ls) (pr : List Int) (a : Option Addr) (c : Nat) (l : Ls) (H : Hp) (hJ : JobH H bj w old pr) (hs : SlR ilR H a c l) (hlen : l.length ≤ old.length) (hwo : ∀ x ∈ old, x.length < 9223372036854775808) (hw : ∀ x ∈ l, x.length ≤ 1000) (hl : l.length ≤ 1000) (hz : (w.B.length ≤ 4096 ∧ pr.length ≤ 1000) ∧ (0 ≤ w.S ∧ w.S ≤ 256)) : FnC Try.prog 65 #[.pointer (some ⟨bj, 0, none⟩), .slice a l.length c] H [] (RetR (fun v _ _ => v = .int .i64 (chg old l : Nat))) := by
 have hJ0 := hJ
 obtain ⟨aB, cB, aO, cO, aP, cP, aA, nA, cA, hj, hB, hO, hP⟩ := hJ
 refine FnC.intro (args := [.pointer (some ⟨bj, 0, none⟩), .slice a l.length c]) Try.func65 rfl rfl Try.ntmps65 rfl rfl rfl fun G rest => ?_
 refine XC.seq ?_; refine XC.region ?_; refine XO.assign rfl rfl ?_; refine XO.nil ?_; refine XC.seq2 ?_; refine XC.seq ?_; refine XC.seq ?_; refine XC.region ?_; refine XO.move rfl rfl ?_; refine XO.lenS (ts := #[]) rfl Try.underlying25 rfl ?_; refine XO.move rfl rfl ?_; refine XO.nil ?_; refine XC.seq2 ?_; refine XC.block ?_; refine XC.keep [4, 9, 0, 7, 8] rfl ?_; refine XC.loop (base := [(0, _), (7, _), (8, _)]) (fun ζ : Nat => [(4, .int .i64 (chg old (l.take ζ) : Nat)), (9, .int .i64 (ζ : Nat))]) (fun ζ Hl own => ζ ≤ l.length ∧ rest = own) (fun ζ => l.length - ζ) 0 (prov_cons (provI rfl (by rw [List.take_zero, chg_nil]; rfl)) (prov_cons (rfl) (prov_cons (rfl) (prov_cons (rfl) (prov_cons (rfl) prov_nil))))) (by repeat (first | exact List.Sublist.refl _ | apply List.Sublist.cons_cons | apply List.Sublist.cons)) ⟨Nat.zero_le _, rfl⟩ ?_; rintro k Hl0 _ hle0 ⟨hkk, rfl⟩; replace hj := hj.mono hle0; replace hB := hB.mono hle0; replace hO := hO.mono hle0; replace hP := hP.mono hle0; replace hs := hs.mono hle0
 try dsimp only at ⊢
 refine XC.seq ?_; refine XC.region ?_; refine XO.lss rfl rfl rfl ?_; refine XO.nil ?_; refine XC.seq2 ?_; refine XC.seq ?_; refine XC.cond rfl (fun c0_1 => ?_) (fun c0_1 => ?_)
 ·refine XC.skip ?_; refine XC.seq2 ?_; refine XC.seq ?_; refine XC.block ?_; refine XC.seq ?_; refine XC.region ?_; refine XO.move rfl rfl ?_; refine XO.indexN rfl hs rfl Try.underlying25 ty_26 (by omega) rfl ?_; rintro eb12 eo12 _ x12 hx12 ⟨ax12, cx12, rfl, hd12⟩ hp12; refine XO.loadH rfl (by assumption) ty_26 rfl rfl rfl ?_; refine XO.assign rfl rfl ?_; refine XO.assign rfl rfl ?_; refine XO.nil ?_; refine XC.seq2 ?_; refine XC.region ?_; refine XO.move rfl rfl ?_; refine XO.move rfl rfl ?_; refine XO.lenS (ts := #[]) rfl Try.underlying26 rfl ?_; refine XO.move rfl rfl ?_; refine XO.move rfl rfl ?_; refine XO.nilCheckP rfl rfl ?_; refine XO.fieldAddr rfl fa_70_1 rfl ?_; refine XO.loadHF rfl (by assumption) ty_25 rfl rfl rfl ?_; refine XO.move rfl rfl ?_; refine XO.indexN rfl hO rfl Try.underlying25 ty_26 (by omega) rfl ?_; rintro eb23 eo23 _ x23 hx23 ⟨ax23, cx23, rfl, hd23⟩ hp23; refine XO.loadH rfl (by assumption) ty_26 rfl rfl rfl ?_
  have hxl := hw _ (List.mem_of_getElem? hx12)
  have hcm := cmn_le x12 x23
  have hcb := chg_le (old := old) (l := l) (k := k) hw
  refine XO.callV rfl (common_fn _ _ _ _ x12 x23 _ hd12 hd23 (by omega) (hwo _ (List.mem_of_getElem? hx23))) rfl ?_; refine XO.sub rfl rfl (wrap_i64 (by omega) (by omega)) rfl ?_; refine XO.add rfl rfl (wrap_i64 (by omega) (by omega)) rfl ?_; refine XO.assign rfl rfl ?_; refine XO.nil ?_; refine blockN ?_; refine XC.seq2 ?_; refine XC.region ?_; refine XO.add rfl rfl (wrap_i64 (by omega) (by omega)) rfl ?_; refine XO.move rfl rfl ?_; refine XO.nil ?_; refine loop_next (k + 1) (by show l.length - (k + 1) < l.length - k; omega) (prov_cons (provI rfl (chg_snocI hx12 hx23)) (prov_cons (rfl) (prov_cons (rfl) (prov_cons (rfl) (prov_cons (rfl) prov_nil))))) (⟨by show k + 1 ≤ l.length; omega, rfl⟩) (by repeat (first | exact List.Sublist.refl _ | apply List.Sublist.cons_cons | apply List.Sublist.cons)) (hle0)
 ·obtain rfl : k = l.length := by omega
  refine XC.exit ?_; refine seqX_exit ?_; refine loopX_exit ?_; refine blockHit rfl ?_; refine XC.seq2 ?_; refine XC.seq ?_; refine XC.region ?_; refine XO.move rfl rfl ?_; refine XO.assign rfl rfl ?_; refine XO.nil ?_; refine XC.seq2 ?_; refine XC.ret ?_; refine ⟨rfl, _, [], rfl, (by repeat (first | exact List.Sublist.refl _ | apply List.Sublist.cons)), RetR.mk ?_⟩
  exact congrArg (Value.int .i64) (by rw [List.take_length])

theorem dear_fn (bj : Nat) (w : Wi) (old : Ls) (pr : List Int) (a : Option Addr) (c : Nat) (l : Ls) (H : Hp) (hJ : JobH H bj w old pr) (hs : SlR ilR H a c l) (hlen : l.length ≤ old.length) (hwo : ∀ x ∈ old, x.length < 9223372036854775808) (hw : ∀ x ∈ l, x.length ≤ 1000) (hl : l.length ≤ 1000) (hz : (w.B.length ≤ 4096 ∧ pr.length ≤ 1000) ∧ (0 ≤ w.S ∧ w.S ≤ 256)) (lim : Int) : FnC Try.prog 62 #[.pointer (some ⟨bj, 0, none⟩), .slice a l.length c, .int .i64 lim] H [] (RetR (fun v _ _ => v = .bool (decide (lim ≤ (chg old l : Nat))))) := by
 refine FnC.intro (args := [.pointer (some ⟨bj, 0, none⟩), .slice a l.length c, .int .i64 lim]) Try.func62 rfl rfl Try.ntmps62 rfl rfl rfl fun G rest => ?_
 refine XC.seq ?_; refine XC.region ?_; refine XO.assign rfl rfl ?_; refine XO.nil ?_; refine XC.seq2 ?_; refine XC.seq ?_; refine XC.region ?_; refine XO.move rfl rfl ?_; refine XO.move rfl rfl ?_; refine XO.callV rfl (changes_fn bj w old pr a c l _ hJ hs hlen hwo hw hl hz) rfl ?_; refine XO.move rfl rfl ?_; refine XO.geq rfl rfl rfl ?_; refine XO.assign rfl rfl ?_; refine XO.nil ?_; refine XC.seq2 ?_; refine XC.ret ?_; refine ⟨rfl, _, [], rfl, (by repeat (first | exact List.Sublist.refl _ | apply List.Sublist.cons)), RetR.mk ?_⟩
 rfl

set_option maxRecDepth 100000 in
set_option maxHeartbeats 1600000 in
theorem unbal_fn (bj : Nat) (w : Wi) (old : Ls) (pr : List Int) (a : Option Addr) (c : Nat) (l : Ls) (H : Hp) (hJ : JobH H bj w old pr) (hs : SlR ilR H a c l) (hlen : l.length ≤ old.length) (hwo : ∀ x ∈ old, x.length < 9223372036854775808) (hw : ∀ x ∈ l, x.length ≤ 1000) (hl : l.length ≤ 1000) (hz : (w.B.length ≤ 4096 ∧ pr.length ≤ 1000) ∧ (0 ≤ w.S ∧ w.S ≤ 256)) (lim : Int) : FnC Try.prog 63 #[.pointer (some ⟨bj, 0, none⟩), .slice a l.length c, .int .i64 lim] H [] (RetR (fun v _ _ => v = .bool (unbalB w pr l))) := by
 obtain ⟨aB, cB, aO, cO, aP, cP, aA, nA, cA, hj, hB, hO, hP⟩ := hJ
 refine FnC.intro (args := [.pointer (some ⟨bj, 0, none⟩), .slice a l.length c, .int .i64 lim]) Try.func63 rfl rfl Try.ntmps63 rfl rfl rfl fun G rest => ?_
 refine XC.seq ?_; refine XC.region ?_; refine XO.assign rfl rfl ?_; refine XO.nil ?_; refine XC.seq2 ?_; refine XC.seq ?_; refine XC.keep [0, 1] rfl ?_
 apply XC.draw 12 [eqF _, eqF _, eqF _, eqF _, eqF _, eqF _, eqF _, eqF _, eqF _, eqF _, eqF _, eqF _] follows (by kernel_rfl) (by kernel_rfl) ⟨eqF_mono _, eqF_mono _, eqF_mono _, eqF_mono _, eqF_mono _, eqF_mono _, eqF_mono _, eqF_mono _, eqF_mono _, eqF_mono _, eqF_mono _, eqF_mono _, trivial⟩ ?steps1 ?tail1
 case steps1 =>
  refine stepsK_cons rfl ?_ ?_
  ·intro X
   refine withPreds_nil rfl ?_; refine XO.move rfl rfl ?_; refine XO.nil ?_
   exact stepQ_ok rfl (rfl)
  refine stepsK_cons rfl ?_ ?_
  ·intro X
   refine withPreds_cons rfl rfl ?_; rintro _ rfl; refine withPreds_nil rfl ?_; refine XO.nilCheckP rfl rfl ?_; refine XO.nil ?_
   exact stepQ_ok rfl (rfl)
  refine stepsK_cons rfl ?_ ?_
  ·intro X
   refine withPreds_cons rfl rfl ?_; rintro _ rfl; refine withPreds_nil rfl ?_; refine XO.fieldAddr rfl fa_70_0 rfl ?_; refine XO.nil ?_
   exact stepQ_ok rfl (rfl)
  refine stepsK_cons rfl ?_ ?_
  ·intro X
   refine withPreds_cons rfl rfl ?_; rintro _ rfl; refine withPreds_nil rfl ?_; refine XO.fieldAddr rfl fa_24_3 rfl ?_; refine XO.nil ?_
   exact stepQ_ok rfl (rfl)
  refine stepsK_cons rfl ?_ ?_
  ·intro X
   refine withPreds_cons rfl rfl ?_; rintro _ rfl; refine withPreds_nil rfl ?_; refine XO.loadHF rfl (by assumption) ty_22 rfl rfl rfl ?_; refine XO.nil ?_
   exact stepQ_ok rfl (rfl)
  refine stepsK_cons rfl ?_ ?_
  ·intro X
   refine withPreds_cons rfl rfl ?_; rintro _ rfl; refine withPreds_nil rfl ?_; refine XO.lenS (ts := #[]) rfl Try.underlying22 rfl ?_; refine XO.nil ?_
   exact stepQ_ok rfl (rfl)
  refine stepsK_cons rfl ?_ ?_
  ·intro X
   refine withPreds_nil rfl ?_; refine XO.move rfl rfl ?_; refine XO.nil ?_
   exact stepQ_ok rfl (rfl)
  refine stepsK_cons rfl ?_ ?_
  ·intro X
   refine withPreds_cons rfl rfl ?_; rintro _ rfl; refine withPreds_nil rfl ?_; refine XO.nilCheckP rfl rfl ?_; refine XO.nil ?_
   exact stepQ_ok rfl (rfl)
  refine stepsK_cons rfl ?_ ?_
  ·intro X
   refine withPreds_cons rfl rfl ?_; rintro _ rfl; refine withPreds_nil rfl ?_; refine XO.fieldAddr rfl fa_70_2 rfl ?_; refine XO.nil ?_
   exact stepQ_ok rfl (rfl)
  refine stepsK_cons rfl ?_ ?_
  ·intro X
   refine withPreds_cons rfl rfl ?_; rintro _ rfl; refine withPreds_nil rfl ?_; refine XO.loadHF rfl (by assumption) ty_26 rfl rfl rfl ?_; refine XO.nil ?_
   exact stepQ_ok rfl (rfl)
  refine stepsK_cons rfl ?_ ?_
  ·intro X
   refine withPreds_cons rfl rfl ?_; rintro _ rfl; refine withPreds_nil rfl ?_; refine XO.lenS (ts := #[]) rfl Try.underlying26 rfl ?_; refine XO.nil ?_
   exact stepQ_ok rfl (rfl)
  refine stepsK_cons rfl ?_ ?_
  ·intro X
   refine withPreds_cons rfl rfl ?_; rintro _ rfl; refine withPreds_nil rfl ?_; refine XO.assign rfl rfl ?_; refine XO.nil ?_
   exact stepQ_ok rfl (rfl)
  exact stepsD_end rfl
 case tail1 =>
  refine withPreds_cons rfl rfl ?_; rintro _ rfl; refine withPreds_cons rfl rfl ?_; rintro _ rfl; refine withPreds_cons rfl rfl ?_; rintro _ rfl; refine withPreds_cons rfl rfl ?_; rintro _ rfl; refine withPreds_cons rfl rfl ?_; rintro _ rfl; refine withPreds_cons rfl rfl ?_; rintro _ rfl; refine withPreds_cons rfl rfl ?_; rintro _ rfl; refine withPreds_cons rfl rfl ?_; rintro _ rfl; refine withPreds_cons rfl rfl ?_; rintro _ rfl; refine withPreds_cons rfl rfl ?_; rintro _ rfl; refine withPreds_cons rfl rfl ?_; rintro _ rfl; refine withPreds_cons rfl rfl ?_; rintro _ rfl; refine withPreds_nil rfl ?_; refine XO.assign rfl rfl ?_; refine XO.nil ?_; refine XC.seq2 ?_; refine XC.seq ?_; refine XC.seq ?_; refine XC.region ?_; refine XO.move rfl rfl ?_; refine XO.nilCheckP rfl rfl ?_; refine XO.fieldAddr rfl fa_70_2 rfl ?_; refine XO.loadHF rfl (by assumption) ty_26 rfl rfl rfl ?_; refine XO.lenS (ts := #[]) rfl Try.underlying26 rfl ?_; refine XO.move rfl rfl ?_; refine XO.nil ?_; refine XC.seq2 ?_; refine XC.block ?_; refine XC.keep [30, 0, 1, 7, 8, 28, 29] rfl ?_; refine XC.loop (base := [(0, _), (1, _), (7, _), (8, _), (28, _), (29, _)]) (fun ζ : Nat => [(30, .int .i64 (ζ : Nat))]) (fun ζ Hl own => ζ ≤ pr.length ∧ rest = own ∧ (∀ y ∈ pr.take ζ, ¬ offK w.B.length pr.length w.S l.length (loadL l y : Nat))) (fun ζ => pr.length - ζ) 0 (prov_cons (rfl) (prov_cons (rfl) (prov_cons (rfl) (prov_cons (rfl) (prov_cons (rfl) (prov_cons (rfl) (prov_cons (rfl) prov_nil))))))) (by repeat (first | exact List.Sublist.refl _ | apply List.Sublist.cons_cons | apply List.Sublist.cons)) ⟨Nat.zero_le _, rfl, by simp⟩ ?_; rintro k Hl0 _ hle0 ⟨hkk, rfl, hno⟩; replace hj := hj.mono hle0; replace hB := hB.mono hle0; replace hO := hO.mono hle0; replace hP := hP.mono hle0; replace hs := hs.mono hle0
  try dsimp only at ⊢
  refine XC.seq ?_; refine XC.region ?_; refine XO.lss rfl rfl rfl ?_; refine XO.nil ?_; refine XC.seq2 ?_; refine XC.seq ?_; refine XC.cond rfl (fun c0_2 => ?_) (fun c0_2 => ?_)
  ·refine XC.skip ?_; refine XC.seq2 ?_; refine XC.seq ?_; refine XC.block ?_; refine XC.seq ?_; refine XC.region ?_; refine XO.indexN rfl hP rfl Try.underlying26 ty_3 (by omega) rfl ?_; rintro eb32 eo32 _ x32 hx32 rfl hp32; refine XO.loadH rfl (by assumption) ty_3 rfl rfl rfl ?_; refine XO.assign rfl rfl ?_; refine XO.nil ?_; refine XC.seq2 ?_; refine XC.seq ?_; refine XC.region ?_; refine XO.assign rfl rfl ?_; refine XO.nil ?_; refine XC.seq2 ?_; refine XC.seq ?_; refine XC.seq ?_; refine XC.region ?_; refine XO.move rfl rfl ?_; refine XO.lenS (ts := #[]) rfl Try.underlying25 rfl ?_; refine XO.move rfl rfl ?_; refine XO.nil ?_; refine XC.seq2 ?_; refine XC.block ?_; refine XC.keep [11, 36, 0, 1, 7, 8, 10, 28, 29, 30, 34, 35] rfl ?_; refine XC.loop (base := [(0, _), (1, _), (7, _), (8, _), (10, _), (28, _), (29, _), (30, _), (34, _), (35, _)]) (fun ζ : Nat => [(11, .int .i64 (loadL (l.take ζ) x32 : Nat)), (36, .int .i64 (ζ : Nat))]) (fun ζ Hl own => ζ ≤ l.length ∧ rest = own) (fun ζ => l.length - ζ) 0 (prov_cons (rfl) (prov_cons (rfl) (prov_cons (rfl) (prov_cons (rfl) (prov_cons (rfl) (prov_cons (rfl) (prov_cons (rfl) (prov_cons (rfl) (prov_cons (rfl) (prov_cons (rfl) (prov_cons (rfl) (prov_cons (rfl) prov_nil)))))))))))) (by repeat (first | exact List.Sublist.refl _ | apply List.Sublist.cons_cons | apply List.Sublist.cons)) ⟨Nat.zero_le _, rfl⟩ ?_; rintro j Hl1 _ hle1 ⟨hkj, rfl⟩; replace hj := hj.mono hle1; replace hB := hB.mono hle1; replace hO := hO.mono hle1; replace hP := hP.mono hle1; replace hs := hs.mono hle1; replace hp32 := hp32.mono hle1; replace hle0 := hle0.trans hle1
   try dsimp only at ⊢
   refine XC.seq ?_; refine XC.region ?_; refine XO.lss rfl rfl rfl ?_; refine XO.nil ?_; refine XC.seq2 ?_; refine XC.seq ?_; refine XC.cond rfl (fun c1_4 => ?_) (fun c1_4 => ?_)
   ·refine XC.skip ?_; refine XC.seq2 ?_; refine XC.seq ?_; refine XC.block ?_; refine XC.seq ?_; refine XC.region ?_; refine XO.indexN rfl hs rfl Try.underlying25 ty_26 (by omega) rfl ?_; rintro eb38 eo38 _ x38 hx38 ⟨ax38, cx38, rfl, hd38⟩ hp38; refine XO.loadH rfl (by assumption) ty_26 rfl rfl rfl ?_; refine XO.assign rfl rfl ?_; refine XO.nil ?_; refine XC.seq2 ?_; refine XC.seq ?_; refine XC.region ?_; refine XO.move rfl rfl ?_; refine XO.move rfl rfl ?_; refine XO.callV rfl (contains_fn _ _ x38 _ hd38 (by have := hw _ (List.mem_of_getElem? hx38); omega) x32) rfl ?_; refine XO.nil ?_; refine XC.seq2 ?_; refine XC.cond rfl (fun c2_7 => ?_) (fun c2_7 => ?_)
    ·refine XC.region ?_
     have hct := load_k (l := l) (j := x32) (k := j)
     refine XO.move rfl rfl ?_; refine XO.add rfl rfl (wrap_i64 (by omega) (by omega)) rfl ?_; refine XO.assign rfl rfl ?_; refine XO.nil ?_; refine blockN ?_; refine XC.seq2 ?_; refine XC.region ?_; refine XO.add rfl rfl (wrap_i64 (by omega) (by omega)) rfl ?_; refine XO.move rfl rfl ?_; refine XO.nil ?_; refine loop_next (j + 1) (by show l.length - (j + 1) < l.length - j; omega) (prov_cons (by first | exact provI rfl (load_y hx38 (by assumption)) | exact provI rfl (load_n hx38 (by assumption))) (prov_cons (rfl) (prov_cons (rfl) (prov_cons (rfl) (prov_cons (rfl) (prov_cons (rfl) (prov_cons (rfl) (prov_cons (rfl) (prov_cons (rfl) (prov_cons (rfl) (prov_cons (rfl) (prov_cons (rfl) prov_nil)))))))))))) (⟨by show j + 1 ≤ l.length; omega, rfl⟩) (by repeat (first | exact List.Sublist.refl _ | apply List.Sublist.cons_cons | apply List.Sublist.cons)) (hle1)
    ·refine XC.skip ?_; refine blockN ?_; refine XC.seq2 ?_; refine XC.region ?_; refine XO.add rfl rfl (wrap_i64 (by omega) (by omega)) rfl ?_; refine XO.move rfl rfl ?_; refine XO.nil ?_; refine loop_next (j + 1) (by show l.length - (j + 1) < l.length - j; omega) (prov_cons (by first | exact provI rfl (load_y hx38 (by assumption)) | exact provI rfl (load_n hx38 (by assumption))) (prov_cons (rfl) (prov_cons (rfl) (prov_cons (rfl) (prov_cons (rfl) (prov_cons (rfl) (prov_cons (rfl) (prov_cons (rfl) (prov_cons (rfl) (prov_cons (rfl) (prov_cons (rfl) (prov_cons (rfl) prov_nil)))))))))))) (⟨by show j + 1 ≤ l.length; omega, rfl⟩) (by repeat (first | exact List.Sublist.refl _ | apply List.Sublist.cons_cons | apply List.Sublist.cons)) (hle1)
   ·obtain rfl : j = l.length := by omega
    rw [List.take_length]
    refine XC.exit ?_; refine seqX_exit ?_; refine loopX_exit ?_; refine blockHit rfl ?_; refine XC.seq2 ?_; refine XC.seq ?_; refine XC.region ?_
    have hm1 := mul_b (a := ((loadL l x32 : Nat) : Int)) (b := (pr.length : Int)) (m := 1000) (n := 1000) (by omega) (by have := load_le l x32; omega) (by omega) (by omega)
    have hm2 := mul_b (a := (w.B.length : Int)) (b := w.S) (m := 4096) (n := 256) (by omega) (by omega) (by omega) (by omega)
    have hll := load_le l x32
    refine XO.move rfl rfl ?_; refine XO.move rfl rfl ?_; refine XO.mul rfl rfl (wrap_i64 (by omega) (by omega)) rfl ?_; refine XO.move rfl rfl ?_; refine XO.move rfl rfl ?_; refine XO.nilCheckP rfl rfl ?_; refine XO.fieldAddr rfl fa_70_0 rfl ?_; refine XO.fieldAddr rfl fa_24_1 rfl ?_; refine XO.loadHF rfl (by assumption) ty_3 rfl rfl rfl ?_; refine XO.mul rfl rfl (wrap_i64 (by omega) (by omega)) rfl ?_; refine XO.move rfl rfl ?_; refine XO.add rfl rfl (wrap_i64 (by omega) (by omega)) rfl ?_; refine XO.geq rfl rfl rfl ?_; refine XO.move rfl rfl ?_; refine XO.guardC rfl rfl rfl rfl (fun g8 => ?_) (fun g8 => ?_)
    ·have g8p := of_decide_eq_false g8
     refine XO.move rfl rfl ?_; refine XO.guardT rfl rfl (g8) rfl ?_; refine XO.move rfl rfl ?_; refine XO.guardT rfl rfl (g8) rfl ?_; refine XO.add rfl rfl (wrap_i64 (by omega) (by omega)) rfl ?_; refine XO.guardT rfl rfl (g8) rfl ?_; refine XO.move rfl rfl ?_; refine XO.guardT rfl rfl (g8) rfl ?_; refine XO.lenS (ts := #[]) rfl Try.underlying25 rfl ?_; refine XO.guardT rfl rfl (g8) rfl ?_; refine XO.sub rfl rfl (wrap_i64 (by omega) (by omega)) rfl ?_; refine XO.guardT rfl rfl (g8) rfl ?_; refine XO.move rfl rfl ?_; refine XO.guardT rfl rfl (g8) rfl ?_; refine XO.move rfl rfl ?_; refine XO.guardT rfl rfl (g8) rfl ?_; refine XO.nilCheckP rfl rfl ?_; refine XO.guardT rfl rfl (g8) rfl ?_; refine XO.fieldAddr rfl fa_70_0 rfl ?_; refine XO.guardT rfl rfl (g8) rfl ?_; refine XO.fieldAddr rfl fa_24_1 rfl ?_; refine XO.guardT rfl rfl (g8) rfl ?_; refine XO.loadHF rfl (by assumption) ty_3 rfl rfl rfl ?_; refine XO.guardT rfl rfl (g8) rfl ?_; refine XO.mul rfl rfl (wrap_i64 (by omega) (by omega)) rfl ?_; refine XO.guardT rfl rfl (g8) rfl ?_; refine XO.move rfl rfl ?_; refine XO.guardT rfl rfl (g8) rfl ?_; refine XO.quo rfl rfl (by omega) (quo_i64 (by omega) (by omega) (by omega)) rfl ?_; refine XO.guardT rfl rfl (g8) rfl ?_; refine XO.lss rfl rfl rfl ?_; refine XO.pickF rfl (g8) rfl rfl ?_; refine XO.nil ?_; refine XC.seq2 ?_; refine XC.cond rfl (fun c3_9 => ?_) (fun c3_9 => ?_)
     ·refine XC.seq ?_; refine XC.region ?_; refine XO.assign rfl rfl ?_; refine XO.nil ?_; refine XC.seq2 ?_; refine XC.ret ?_; refine blockR ?_; refine seqX_ret ?_; refine loopX_ret ?_; refine blockR ?_; refine seqX_ret ?_; refine ⟨rfl, _, [], rfl, (by repeat (first | exact List.Sublist.refl _ | apply List.Sublist.cons)), RetR.mk ?_⟩
      first | exact congrArg Value.bool (unbal_t (List.mem_of_getElem? hx32) (by unfold offK; omega)).symm | exact congrArg Value.bool (unbal_f hno).symm
     ·refine XC.skip ?_; refine blockN ?_; refine XC.seq2 ?_; refine XC.region ?_; refine XO.add rfl rfl (wrap_i64 (by omega) (by omega)) rfl ?_; refine XO.move rfl rfl ?_; refine XO.nil ?_; refine loop_next (k + 1) (by show pr.length - (k + 1) < pr.length - k; omega) (prov_cons (rfl) (prov_cons (rfl) (prov_cons (rfl) (prov_cons (rfl) (prov_cons (rfl) (prov_cons (rfl) (prov_cons (rfl) prov_nil))))))) (⟨by show k + 1 ≤ pr.length; omega, rfl, all_snoc hno hx32 (by unfold offK; omega)⟩) (by repeat (first | exact List.Sublist.refl _ | apply List.Sublist.cons_cons | apply List.Sublist.cons)) (hle0)
    ·have g8p := of_decide_eq_true g8
     refine XO.guardF rfl rfl (g8) rfl rfl ?_; refine XO.guardF rfl rfl (g8) rfl rfl ?_; refine XO.guardF rfl rfl (g8) rfl rfl ?_; refine XO.guardF rfl rfl (g8) rfl rfl ?_; refine XO.guardF rfl rfl (g8) rfl rfl ?_; refine XO.guardF rfl rfl (g8) rfl rfl ?_; refine XO.guardF rfl rfl (g8) rfl rfl ?_; refine XO.guardF rfl rfl (g8) rfl rfl ?_; refine XO.guardF rfl rfl (g8) rfl rfl ?_; refine XO.guardF rfl rfl (g8) rfl rfl ?_; refine XO.guardF rfl rfl (g8) rfl rfl ?_; refine XO.guardF rfl rfl (g8) rfl rfl ?_; refine XO.guardF rfl rfl (g8) rfl rfl ?_; refine XO.guardF rfl rfl (g8) rfl rfl ?_; refine XO.guardF rfl rfl (g8) rfl rfl ?_; refine XO.pickT rfl (g8) rfl rfl ?_; refine XO.nil ?_; refine XC.seq2 ?_; refine XC.condT rfl (rfl) ?_; refine XC.seq ?_; refine XC.region ?_; refine XO.assign rfl rfl ?_; refine XO.nil ?_; refine XC.seq2 ?_; refine XC.ret ?_; refine blockR ?_; refine seqX_ret ?_; refine loopX_ret ?_; refine blockR ?_; refine seqX_ret ?_; refine ⟨rfl, _, [], rfl, (by repeat (first | exact List.Sublist.refl _ | apply List.Sublist.cons)), RetR.mk ?_⟩
     first | exact congrArg Value.bool (unbal_t (List.mem_of_getElem? hx32) (by unfold offK; omega)).symm | exact congrArg Value.bool (unbal_f hno).symm
  ·obtain rfl : k = pr.length := by omega
   rw [List.take_length] at hno
   refine XC.exit ?_; refine seqX_exit ?_; refine loopX_exit ?_; refine blockHit rfl ?_; refine XC.seq2 ?_; refine XC.seq ?_; refine XC.region ?_; refine XO.assign rfl rfl ?_; refine XO.nil ?_; refine XC.seq2 ?_; refine XC.ret ?_; refine ⟨rfl, _, [], rfl, (by repeat (first | exact List.Sublist.refl _ | apply List.Sublist.cons)), RetR.mk ?_⟩
   first | exact congrArg Value.bool (unbal_t (List.mem_of_getElem? hx32) (by unfold offK; omega)).symm | exact congrArg Value.bool (unbal_f hno).symm

theorem apart1_fn (bj : Nat) (w : Wi) (old : Ls) (pr : List Int) (bl bp : Nat) (ax ay : Option Addr) (cx cy : Nat) (x y : List Int) (H : Hp) (hJ : JobH H bj w old pr) (hbl : PtH H bl 0 [.slice ay y.length cy]) (hbp : PtH H bp 0 [.pointer (some ⟨bj, 0, none⟩)]) (hx : SlR (intR .i64) H ax cx x) (hy : SlR (intR .i64) H ay cy y) (hxl : x.length < 9223372036854775808) (hyl : y.length < 9223372036854775808) : FnC Try.prog 67 #[.slice ax x.length cx, .pointer (some ⟨bl, 0, none⟩), .pointer (some ⟨bp, 0, none⟩)] H [] (RetR (fun v _ _ => v = .bool (decide (((cmn x y : Nat) : Int) < w.N)))) := by
 obtain ⟨aB, cB, aO, cO, aP, cP, aA, nA, cA, hj, hB, hO, hP⟩ := hJ
 refine FnC.intro (args := [.slice ax x.length cx, .pointer (some ⟨bl, 0, none⟩), .pointer (some ⟨bp, 0, none⟩)]) Try.func67 rfl rfl Try.ntmps67 rfl rfl rfl fun G rest => ?_
 refine XC.seq ?_; refine XC.region ?_; refine XO.assign rfl rfl ?_; refine XO.nil ?_; refine XC.seq2 ?_; refine XC.seq ?_; refine XC.keep [0, 1, 2] rfl ?_
 apply XC.draw 8 [eqF _, eqF _, eqF _, eqF _, eqF _, eqF _, eqF _, eqF _] follows (by kernel_rfl) (by kernel_rfl) ⟨eqF_mono _, eqF_mono _, eqF_mono _, eqF_mono _, eqF_mono _, eqF_mono _, eqF_mono _, eqF_mono _, trivial⟩ ?steps1 ?tail1
 case steps1 =>
  refine stepsK_cons rfl ?_ ?_
  ·intro X
   refine withPreds_nil rfl ?_; refine XO.move rfl rfl ?_; refine XO.nil ?_
   exact stepQ_ok rfl (rfl)
  refine stepsK_cons rfl ?_ ?_
  ·intro X
   refine withPreds_nil rfl ?_; refine XO.loadH rfl (by assumption) ty_26 rfl rfl rfl ?_; refine XO.nil ?_
   exact stepQ_ok rfl (rfl)
  refine stepsK_cons rfl ?_ ?_
  ·intro X
   refine withPreds_cons rfl rfl ?_; rintro _ rfl; refine withPreds_cons rfl rfl ?_; rintro _ rfl; refine withPreds_nil rfl ?_; refine XO.callV rfl (common_fn _ _ _ _ x y _ hx hy hxl hyl) rfl ?_; refine XO.nil ?_
   exact stepQ_ok rfl (rfl)
  refine stepsK_cons rfl ?_ ?_
  ·intro X
   refine withPreds_nil rfl ?_; refine XO.loadH rfl (by assumption) ty_52 rfl rfl rfl ?_; refine XO.nil ?_
   exact stepQ_ok rfl (rfl)
  refine stepsK_cons rfl ?_ ?_
  ·intro X
   refine withPreds_cons rfl rfl ?_; rintro _ rfl; refine withPreds_nil rfl ?_; refine XO.nilCheckP rfl rfl ?_; refine XO.nil ?_
   exact stepQ_ok rfl (rfl)
  refine stepsK_cons rfl ?_ ?_
  ·intro X
   refine withPreds_cons rfl rfl ?_; rintro _ rfl; refine withPreds_nil rfl ?_; refine XO.fieldAddr rfl fa_70_0 rfl ?_; refine XO.nil ?_
   exact stepQ_ok rfl (rfl)
  refine stepsK_cons rfl ?_ ?_
  ·intro X
   refine withPreds_cons rfl rfl ?_; rintro _ rfl; refine withPreds_nil rfl ?_; refine XO.fieldAddr rfl fa_24_2 rfl ?_; refine XO.nil ?_
   exact stepQ_ok rfl (rfl)
  refine stepsK_cons rfl ?_ ?_
  ·intro X
   refine withPreds_cons rfl rfl ?_; rintro _ rfl; refine withPreds_nil rfl ?_; refine XO.loadHF rfl (by assumption) ty_3 rfl rfl rfl ?_; refine XO.nil ?_
   exact stepQ_ok rfl (rfl)
  exact stepsD_end rfl
 case tail1 =>
  refine withPreds_cons rfl rfl ?_; rintro _ rfl; refine withPreds_cons rfl rfl ?_; rintro _ rfl; refine withPreds_cons rfl rfl ?_; rintro _ rfl; refine withPreds_cons rfl rfl ?_; rintro _ rfl; refine withPreds_cons rfl rfl ?_; rintro _ rfl; refine withPreds_cons rfl rfl ?_; rintro _ rfl; refine withPreds_cons rfl rfl ?_; rintro _ rfl; refine withPreds_cons rfl rfl ?_; rintro _ rfl; refine withPreds_nil rfl ?_; refine XO.lss rfl rfl rfl ?_; refine XO.assign rfl rfl ?_; refine XO.nil ?_; refine XC.seq2 ?_; refine XC.ret ?_; refine ⟨rfl, _, [], rfl, (by repeat (first | exact List.Sublist.refl _ | apply List.Sublist.cons)), RetR.mk ?_⟩
  rfl
theorem apart1_v (bj : Nat) (w : Wi) (old : Ls) (pr : List Int) (bl bp : Nat) (ax ay : Option Addr) (cx cy : Nat) (x y : List Int) (H : Hp) (hJ : JobH H bj w old pr) (hbl : PtH H bl 0 [.slice ay y.length cy]) (hbp : PtH H bp 0 [.pointer (some ⟨bj, 0, none⟩)]) (hx : SlR (intR .i64) H ax cx x) (hy : SlR (intR .i64) H ay cy y) (hxl : x.length < 9223372036854775808) (hyl : y.length < 9223372036854775808) : FnV Try.prog (.func (.func 67) #[] #[.pointer (some ⟨bl, 0, none⟩), .pointer (some ⟨bp, 0, none⟩)]) [.slice ax x.length cx] H [] (RetR fun u _ _ => ∃ b : Bool, u = .bool b ∧ (b = true ↔ ((cmn x y : Nat) : Int) < w.N)) := by
 refine (FnV.of_fn (cap := [.pointer (some ⟨bl, 0, none⟩), .pointer (some ⟨bp, 0, none⟩)]) (args := [.slice ax x.length cx]) (apart1_fn bj w old pr bl bp ax ay cx cy x y H hJ hbl hbp hx hy hxl hyl)).mono ?_
 intro e _ _ _ h
 cases e with
 | returned v => exact ⟨_, h, decide_eq_true_iff⟩
 | panicked _ => exact h.elim
 | outgrown => exact h.elim

theorem indexL_fn (a : Option Addr) (c : Nat) (l : Ls) (g : Value) (q : List Int → Prop) (H : Hp) (hs : SlR ilR H a c l) (hl : l.length < 9223372036854775808) (hg : ∀ x ∈ l, ∀ a1 c1, SlR (intR .i64) H a1 c1 x → FnV Try.prog g [.slice a1 x.length c1] H [] (RetR fun u _ _ => ∃ b : Bool, u = .bool b ∧ (b = true ↔ q x))) : FnC Try.prog 69 #[.slice a l.length c, g] H [] (RetR (fun v _ _ => ∃ i : Int, v = .int .i64 i ∧ (0 ≤ i ↔ ∃ x ∈ l, q x))) := by
 refine FnC.intro (args := [.slice a l.length c, g]) Try.func69 rfl rfl Try.ntmps69 rfl rfl rfl fun G rest => ?_
 refine XC.seq ?_; refine XC.region ?_; refine XO.assign rfl rfl ?_; refine XO.nil ?_; refine XC.seq2 ?_; refine XC.seq ?_; refine XC.seq ?_; refine XC.region ?_; refine XO.move rfl rfl ?_; refine XO.lenS (ts := #[]) rfl Try.underlying25 rfl ?_; refine XO.move rfl rfl ?_; refine XO.nil ?_; refine XC.seq2 ?_; refine XC.block ?_; refine XC.keep [8, 0, 1, 7] rfl ?_; refine XC.loop (base := [(0, _), (1, _), (7, _)]) (fun ζ : Nat => [(8, .int .i64 (ζ : Nat))]) (fun ζ Hl own => ζ ≤ l.length ∧ rest = own ∧ (∀ x ∈ l.take ζ, ¬ q x) ∧ (H = Hl)) (fun ζ => l.length - ζ) 0 (prov_cons (rfl) (prov_cons (rfl) (prov_cons (rfl) (prov_cons (rfl) prov_nil)))) (by repeat (first | exact List.Sublist.refl _ | apply List.Sublist.cons_cons | apply List.Sublist.cons)) ⟨Nat.zero_le _, rfl, by simp, rfl⟩ ?_; rintro k Hl0 _ hle0 ⟨hkk, rfl, hno, hHl⟩; replace hs := hs.mono hle0
 try dsimp only at ⊢
 subst hHl
 refine XC.seq ?_; refine XC.region ?_; refine XO.lss rfl rfl rfl ?_; refine XO.nil ?_; refine XC.seq2 ?_; refine XC.seq ?_; refine XC.cond rfl (fun c0_1 => ?_) (fun c0_1 => ?_)
 ·refine XC.skip ?_; refine XC.seq2 ?_; refine XC.seq ?_; refine XC.block ?_; refine XC.seq ?_; refine XC.region ?_; refine XO.move rfl rfl ?_; refine XO.assign rfl rfl ?_; refine XO.nil ?_; refine XC.seq2 ?_; refine XC.seq ?_; refine XC.region ?_; refine XO.move rfl rfl ?_; refine XO.move rfl rfl ?_; refine XO.move rfl rfl ?_; refine XO.indexN rfl hs rfl Try.underlying25 ty_26 (by omega) rfl ?_; rintro eb14 eo14 _ x14 hx14 ⟨ax14, cx14, rfl, hd14⟩ hp14; refine XO.loadH rfl (by assumption) ty_26 rfl rfl rfl ?_; refine XO.callValK rfl trivial rfl (hg x14 (List.mem_of_getElem? hx14) _ _ hd14) rfl ?_; rintro _ ⟨bq, rfl, hqq⟩; refine XO.nil ?_; refine XC.seq2 ?_; refine XC.condB rfl (fun c1_4 => ?_) (fun c1_4 => ?_)
  ·refine XC.seq ?_; refine XC.region ?_; refine XO.move rfl rfl ?_; refine XO.assign rfl rfl ?_; refine XO.nil ?_; refine XC.seq2 ?_; refine XC.ret ?_; refine blockR ?_; refine seqX_ret ?_; refine loopX_ret ?_; refine blockR ?_; refine seqX_ret ?_; refine ⟨rfl, _, [], rfl, (by repeat (first | exact List.Sublist.refl _ | apply List.Sublist.cons)), RetR.mk ?_⟩
   exact ⟨_, rfl, ⟨fun _ => ⟨x14, List.mem_of_getElem? hx14, hqq.1 (by assumption)⟩, fun _ => by omega⟩⟩
  ·refine XC.skip ?_; refine blockN ?_; refine XC.seq2 ?_; refine XC.region ?_; refine XO.add rfl rfl (wrap_i64 (by omega) (by omega)) rfl ?_; refine XO.move rfl rfl ?_; refine XO.nil ?_; refine loop_next (k + 1) (by show l.length - (k + 1) < l.length - k; omega) (prov_cons (rfl) (prov_cons (rfl) (prov_cons (rfl) (prov_cons (rfl) prov_nil)))) (⟨by show k + 1 ≤ l.length; omega, rfl, all_snoc hno hx14 (fun h => by simp_all), rfl⟩) (by repeat (first | exact List.Sublist.refl _ | apply List.Sublist.cons_cons | apply List.Sublist.cons)) (hle0)
 ·obtain rfl : k = l.length := by omega
  rw [List.take_length] at hno
  refine XC.exit ?_; refine seqX_exit ?_; refine loopX_exit ?_; refine blockHit rfl ?_; refine XC.seq2 ?_; refine XC.seq ?_; refine XC.region ?_; refine XO.assign rfl rfl ?_; refine XO.nil ?_; refine XC.seq2 ?_; refine XC.ret ?_; refine ⟨rfl, _, [], rfl, (by repeat (first | exact List.Sublist.refl _ | apply List.Sublist.cons)), RetR.mk ?_⟩
  exact ⟨-1, rfl, ⟨fun h => absurd h (by decide), fun ⟨x, hx, hq⟩ => absurd hq (hno x hx)⟩⟩

theorem containsL_fn (a : Option Addr) (c : Nat) (l : Ls) (g : Value) (q : List Int → Prop) (H : Hp) (hs : SlR ilR H a c l) (hl : l.length < 9223372036854775808) (hg : ∀ x ∈ l, ∀ a1 c1, SlR (intR .i64) H a1 c1 x → FnV Try.prog g [.slice a1 x.length c1] H [] (RetR fun u _ _ => ∃ b : Bool, u = .bool b ∧ (b = true ↔ q x))) : FnC Try.prog 66 #[.slice a l.length c, g] H [] (RetR (fun v _ _ => ∃ b : Bool, v = .bool b ∧ (b = true ↔ ∃ x ∈ l, q x))) := by
 refine FnC.intro (args := [.slice a l.length c, g]) Try.func66 rfl rfl Try.ntmps66 rfl rfl rfl fun G rest => ?_
 refine XC.seq ?_; refine XC.region ?_; refine XO.assign rfl rfl ?_; refine XO.nil ?_; refine XC.seq2 ?_; refine XC.seq ?_; refine XC.region ?_; refine XO.move rfl rfl ?_; refine XO.move rfl rfl ?_; refine XO.callK rfl (indexL_fn _ _ _ _ _ _ hs hl hg) rfl ?_; rintro _ ⟨iX, rfl, hX⟩; refine XO.geq rfl rfl rfl ?_; refine XO.assign rfl rfl ?_; refine XO.nil ?_; refine XC.seq2 ?_; refine XC.ret ?_; refine ⟨rfl, _, [], rfl, (by repeat (first | exact List.Sublist.refl _ | apply List.Sublist.cons)), RetR.mk ?_⟩
 exact ⟨_, rfl, by rw [decide_eq_true_iff]; exact hX⟩

theorem apart_fn (bj : Nat) (w : Wi) (old : Ls) (pr : List Int) (a : Option Addr) (c : Nat) (l : Ls) (H : Hp) (hJ : JobH H bj w old pr) (hs : SlR ilR H a c l) (hlen : l.length ≤ old.length) (hwo : ∀ x ∈ old, x.length < 9223372036854775808) (hw : ∀ x ∈ l, x.length ≤ 1000) (hl : l.length ≤ 1000) (hz : (w.B.length ≤ 4096 ∧ pr.length ≤ 1000) ∧ (0 ≤ w.S ∧ w.S ≤ 256)) (lim : Int) : FnC Try.prog 64 #[.pointer (some ⟨bj, 0, none⟩), .slice a l.length c, .int .i64 lim] H [] (RetR (fun v _ _ => v = .bool (apartB w l))) := by
 refine FnC.intro (args := [.pointer (some ⟨bj, 0, none⟩), .slice a l.length c, .int .i64 lim]) Try.func64 rfl rfl Try.ntmps64 rfl rfl rfl fun G rest => ?_
 refine XC.seq ?_; refine XC.region ?_; refine XO.box rfl rfl rfl (fun b3 => ?_); refine XO.assign rfl rfl ?_; refine XO.nil ?_; refine XC.seq2 ?_; refine XC.seq ?_; refine XC.seq ?_; refine XC.region ?_; refine XO.move rfl rfl ?_; refine XO.lenS (ts := #[]) rfl Try.underlying25 rfl ?_; refine XO.eql rfl rfl rfl ?_; refine XO.nil ?_; refine XC.seq2 ?_; refine XC.cond rfl (fun c0_1 => ?_) (fun c0_1 => ?_)
 ·refine XC.seq ?_; refine XC.region ?_; refine XO.assign rfl rfl ?_; refine XO.nil ?_; refine XC.seq2 ?_; refine XC.ret ?_; refine seqX_ret ?_; refine ⟨rfl, _, [], rfl, (by repeat (first | exact List.Sublist.refl _ | apply List.Sublist.cons)), RetR.mk ?_⟩
  exact congrArg Value.bool (apart_nil (by omega)).symm
 ·refine XC.skip ?_; refine XC.seq2 ?_; refine XC.seq ?_; refine XC.region ?_; refine XO.move rfl rfl ?_; refine XO.move rfl rfl ?_; refine XO.lenS (ts := #[]) rfl Try.underlying25 rfl ?_; refine XO.sub (c := ((l.length - 1 : Nat) : Int)) rfl rfl ((wrap_i64 (by omega) (by omega)).trans (by omega)) rfl ?_; refine XO.indexN (i := l.length - 1) rfl hs rfl Try.underlying25 ty_26 (by omega) rfl ?_; rintro eb15 eo15 _ x15 hx15 ⟨ax15, cx15, rfl, hd15⟩ hp15; refine XO.loadH rfl (by assumption) ty_26 rfl rfl rfl ?_; refine XO.alloc ze_26 rfl (fun b7 => ?_); refine XO.storeO 0 rfl rfl rfl rfl ty_26 rfl rfl rfl rfl rfl ?_; refine XO.nil ?_; refine XC.seq2 ?_; refine XC.seq ?_; refine XC.region ?_
  have hcap := hs.le
  refine XO.move rfl rfl ?_; refine XO.move rfl rfl ?_; refine XO.lenS (ts := #[]) rfl Try.underlying25 rfl ?_; refine XO.sub (c := ((l.length - 1 : Nat) : Int)) rfl rfl ((wrap_i64 (by omega) (by omega)).trans (by omega)) rfl ?_; refine XO.slice (lo' := 0) (hi' := ((l.length - 1 : Nat) : Int)) (m' := (c : Int)) rfl hs ev?_none (ev?_some rfl) ev?_none (by simp) (by omega) (by omega) (by omega) (by omega) (by omega) Try.underlying25 ty_26 rfl (fun as21 ls21 hls21 hss21 => ?_)
  obtain rfl : ls21 = l.take (l.length - 1) := by first | (rw [hls21]; simp only [Int.toNat_natCast, Nat.add_sub_cancel_left]; done) | (rw [hls21]; simp; done) | (rw [hls21]; simp; rw [List.take_of_length_le (by simp)]; done) | (rw [hls21]; simp only [Int.toNat_natCast]; exact List.take_of_length_le (by rw [List.length_drop]; omega))
  refine XO.publish 0 rfl rfl rfl (fun HK7 oK7 hleK7 hbK7 hoK7 => ?_)
  have hpK7 := PtH.of_is hbK7 hoK7
  replace hJ := hJ.mono hleK7; replace hs := hs.mono hleK7; replace hp15 := hp15.mono hleK7; replace hd15 := hd15.mono hleK7; replace hss21 := hss21.mono hleK7; refine XO.publish 0 rfl rfl rfl (fun HK3 oK3 hleK3 hbK3 hoK3 => ?_)
  have hpK3 := PtH.of_is hbK3 hoK3
  replace hJ := hJ.mono hleK3; replace hs := hs.mono hleK3; replace hp15 := hp15.mono hleK3; replace hd15 := hd15.mono hleK3; replace hss21 := hss21.mono hleK3; replace hpK7 := hpK7.mono hleK3; refine XO.makeFunc rfl rfl ?_
  have hlt : (l.take (l.length - 1)).length < 9223372036854775808 := by rw [List.length_take]; omega
  have hcall := containsL_fn _ _ (l.take (l.length - 1)) _ (fun x => ((cmn x x15 : Nat) : Int) < w.N) _ hss21 hlt (fun x hx a1 c1 h1 => apart1_v bj w old pr _ _ _ _ _ _ x x15 _ hJ hpK7 hpK3 h1 hd15 (by have := hw _ (List.mem_of_mem_take hx); omega) (by have := hw _ (List.mem_of_getElem? hx15); omega))
  refine XO.callK rfl hcall rfl ?_; rintro _ ⟨bC, rfl, hC⟩; refine XO.assign rfl rfl ?_; refine XO.nil ?_; refine XC.seq2 ?_; refine XC.ret ?_; refine ⟨rfl, _, [], rfl, (by repeat (first | exact List.Sublist.refl _ | apply List.Sublist.cons)), RetR.mk ?_⟩
  exact congrArg Value.bool (by rw [apart_eq hx15, Bool.eq_iff_iff, hC, List.any_eq_true]; simp)

theorem reasons_fn (bj : Nat) (H : Hp) : FnC Try.prog 51 #[.pointer (some ⟨bj, 0, none⟩)] H [] (RetR (fun v H2 _ => ∃ a c, v = .slice a (rsL bj).length c ∧ SlR reR H2 a c (rsL bj))) := by
 refine FnC.intro (args := [.pointer (some ⟨bj, 0, none⟩)]) Try.func51 rfl rfl Try.ntmps51 rfl rfl rfl fun G rest => ?_
 refine XC.seq ?_; refine XC.region ?_; refine XO.assign rfl rfl ?_; refine XO.nil ?_; refine XC.seq2 ?_; refine XC.seq ?_; refine XC.region ?_; refine XO.move rfl rfl ?_; refine XO.makeFunc1 rfl rfl rfl ?_; refine XO.build bk_80 bf_80 ze_80 rfl rfl rfl ?_; refine XO.move rfl rfl ?_; refine XO.makeFunc1 rfl rfl rfl ?_; refine XO.build bk_80 bf_80 ze_80 rfl rfl rfl ?_; refine XO.move rfl rfl ?_; refine XO.makeFunc1 rfl rfl rfl ?_; refine XO.build bk_80 bf_80 ze_80 rfl rfl rfl ?_; refine XO.buildSlice rfl Try.underlying83 ty_80 ze_80 rfl rfl rfl (fun b12 => ?_); refine XO.publish 0 rfl rfl rfl (fun HP12 oP12 hleP12 hbP12 hoP12 => ?_)
 have hsl12 := SlR.lit (ρ := reR) (l := (rsL bj)) hbP12 hoP12 (RowsR.cons1 (cs := [_, _]) rfl (RowsR.cons1 (cs := [_, _]) rfl (RowsR.one1 rfl)))
 refine XO.assign rfl rfl ?_; refine XO.nil ?_; refine XC.seq2 ?_; refine XC.ret ?_; refine ⟨rfl, _, [], rfl, (by repeat (first | exact List.Sublist.refl _ | apply List.Sublist.cons)), RetR.mk ?_⟩
 exact ⟨_, _, rfl, by assumption⟩
theorem reason_v (bj : Nat) (w : Wi) (old : Ls) (pr : List Int) (a : Option Addr) (c : Nat) (l : Ls) (H : Hp) (hJ : JobH H bj w old pr) (hs : SlR ilR H a c l) (hlen : l.length ≤ old.length) (hwo : ∀ x ∈ old, x.length < 9223372036854775808) (hw : ∀ x ∈ l, x.length ≤ 1000) (hl : l.length ≤ 1000) (hz : (w.B.length ≤ 4096 ∧ pr.length ≤ 1000) ∧ (0 ≤ w.S ∧ w.S ≤ 256)) (lim : Int) (x : Int × Nat × Nat) (hx : x ∈ rsL bj) : FnV Try.prog (.func (.func x.2.1) #[.pointer (some ⟨x.2.2, 0, none⟩)] #[]) [.slice a l.length c, .int .i64 lim] H [] (RetR fun u _ _ => u = .bool (isY w old pr l lim x.1)) := by
 simp only [rsL, List.mem_cons, List.not_mem_nil, or_false] at hx
 rcases hx with rfl | rfl | rfl
 ·exact FnV.of_first (fst := [.pointer (some ⟨bj, 0, none⟩)]) (args := [.slice a l.length c, .int .i64 lim]) (cap := []) (dear_fn bj w old pr a c l _ hJ hs hlen hwo hw hl hz lim)
 ·exact FnV.of_first (fst := [.pointer (some ⟨bj, 0, none⟩)]) (args := [.slice a l.length c, .int .i64 lim]) (cap := []) (unbal_fn bj w old pr a c l _ hJ hs hlen hwo hw hl hz lim)
 ·exact FnV.of_first (fst := [.pointer (some ⟨bj, 0, none⟩)]) (args := [.slice a l.length c, .int .i64 lim]) (cap := []) (apart_fn bj w old pr a c l _ hJ hs hlen hwo hw hl hz lim)

theorem why_fn (bj : Nat) (w : Wi) (old : Ls) (pr : List Int) (a : Option Addr) (c : Nat) (l : Ls) (H : Hp) (hJ : JobH H bj w old pr) (hs : SlR ilR H a c l) (hlen : l.length ≤ old.length) (hwo : ∀ x ∈ old, x.length < 9223372036854775808) (hw : ∀ x ∈ l, x.length ≤ 1000) (hl : l.length ≤ 1000) (hz : (w.B.length ≤ 4096 ∧ pr.length ≤ 1000) ∧ (0 ≤ w.S ∧ w.S ≤ 256)) (lim : Int) : FnC Try.prog 41 #[.pointer (some ⟨bj, 0, none⟩), .slice a l.length c, .int .i64 lim] H [] (RetR (fun v _ _ => v = .int .i64 (whyW w old pr l lim))) := by
 have h3 : (rsL bj).length = 3 := rfl
 refine FnC.intro (args := [.pointer (some ⟨bj, 0, none⟩), .slice a l.length c, .int .i64 lim]) Try.func41 rfl rfl Try.ntmps41 rfl rfl rfl fun G rest => ?_
 refine XC.seq ?_; refine XC.region ?_; refine XO.assign rfl rfl ?_; refine XO.nil ?_; refine XC.seq2 ?_; refine XC.seq ?_; refine XC.seq ?_; refine XC.region ?_; refine XO.move rfl rfl ?_; refine XO.callH rfl (reasons_fn bj _) rfl ?_; rintro _ HR10 hleR10 ⟨aR10, cR10, rfl, hR10⟩; replace hJ := hJ.mono hleR10; replace hs := hs.mono hleR10; refine XO.lenS (ts := #[]) rfl Try.underlying83 rfl ?_; refine XO.move rfl rfl ?_; refine XO.nil ?_; refine XC.seq2 ?_; refine XC.block ?_; refine XC.keep [12, 1, 2, 10, 11] rfl ?_; refine XC.loop (base := [(1, _), (2, _), (10, _), (11, _)]) (fun ζ : Nat => [(12, .int .i64 (ζ : Nat))]) (fun ζ Hl own => ζ ≤ (rsL bj).length ∧ rest = own ∧ (∀ y ∈ (rsL bj).take ζ, ¬ isY w old pr l lim y.1 = true)) (fun ζ => (rsL bj).length - ζ) 0 (prov_cons (rfl) (prov_cons (rfl) (prov_cons (rfl) (prov_cons (rfl) (prov_cons (rfl) prov_nil))))) (by repeat (first | exact List.Sublist.refl _ | apply List.Sublist.cons_cons | apply List.Sublist.cons)) ⟨Nat.zero_le _, rfl, by simp⟩ ?_; rintro k Hl0 _ hle0 ⟨hkk, rfl, hno⟩; replace hJ := hJ.mono hle0; replace hs := hs.mono hle0; replace hR10 := hR10.mono hle0
 try dsimp only at ⊢
 refine XC.seq ?_; refine XC.region ?_; refine XO.lss rfl rfl rfl ?_; refine XO.nil ?_; refine XC.seq2 ?_; refine XC.seq ?_; refine XC.cond rfl (fun c0_2 => ?_) (fun c0_2 => ?_)
 ·refine XC.skip ?_; refine XC.seq2 ?_; refine XC.seq ?_; refine XC.block ?_; refine XC.seq ?_; refine XC.region ?_; refine XO.indexN rfl hR10 rfl Try.underlying83 ty_80 (by omega) rfl ?_; rintro eb14 eo14 _ x14 hx14 rfl hp14; refine XO.loadH rfl (by assumption) ty_80 rfl rfl rfl ?_; refine XO.alloc ze_80 rfl (fun b8 => ?_); refine XO.storeO 0 rfl rfl rfl rfl ty_80 rfl rfl rfl rfl rfl ?_; refine XO.nil ?_; refine XC.seq2 ?_; refine XC.seq ?_; refine XC.region ?_; refine XO.fieldAddr rfl fa_80_1 rfl ?_; refine XO.loadO 0 rfl rfl ty_78 rfl rfl rfl ?_; refine XO.move rfl rfl ?_; refine XO.move rfl rfl ?_; refine XO.callValK rfl trivial rfl (reason_v bj w old pr a c l _ hJ hs hlen hwo hw hl hz lim x14 (List.mem_of_getElem? hx14)) rfl ?_; rintro _ rfl; refine XO.nil ?_; refine XC.seq2 ?_; refine XC.condB rfl (fun c1_5 => ?_) (fun c1_5 => ?_)
  ·refine XC.seq ?_; refine XC.region ?_; refine XO.fieldAddr rfl fa_80_0 rfl ?_; refine XO.loadO 0 rfl rfl ty_3 rfl rfl rfl ?_; refine XO.assign rfl rfl ?_; refine XO.nil ?_; refine XC.seq2 ?_; refine XC.ret ?_; refine blockR ?_; refine seqX_ret ?_; refine loopX_ret ?_; refine blockR ?_; refine seqX_ret ?_; refine ⟨rfl, _, [], rfl, (by repeat (first | exact List.Sublist.refl _ | apply List.Sublist.cons)), RetR.mk ?_⟩
   exact congrArg (Value.int .i64) (why_found hx14 hno (by assumption))
  ·refine XC.skip ?_; refine blockN ?_; refine XC.seq2 ?_; refine XC.region ?_; refine XO.add rfl rfl (wrap_i64 (by omega) (by omega)) rfl ?_; refine XO.move rfl rfl ?_; refine XO.nil ?_; refine loop_next (k + 1) (by show (rsL bj).length - (k + 1) < (rsL bj).length - k; omega) (prov_cons (rfl) (prov_cons (rfl) (prov_cons (rfl) (prov_cons (rfl) (prov_cons (rfl) prov_nil))))) (⟨by show k + 1 ≤ (rsL bj).length; omega, rfl, all_snoc (q := fun y => isY w old pr l lim y.1 = true) hno hx14 (by simp_all)⟩) (by repeat (first | exact List.Sublist.refl _ | apply List.Sublist.cons_cons | apply List.Sublist.cons)) (hle0)
 ·obtain rfl : k = (rsL bj).length := by omega
  rw [List.take_length] at hno
  refine XC.exit ?_; refine seqX_exit ?_; refine loopX_exit ?_; refine blockHit rfl ?_; refine XC.seq2 ?_; refine XC.seq ?_; refine XC.region ?_; refine XO.assign rfl rfl ?_; refine XO.nil ?_; refine XC.seq2 ?_; refine XC.ret ?_; refine ⟨rfl, _, [], rfl, (by repeat (first | exact List.Sublist.refl _ | apply List.Sublist.cons)), RetR.mk ?_⟩
  exact congrArg (Value.int .i64) (why_none hno)

end Go.Proofs

/- Loops over functions that keep their yield in a variable. No statement of the program stands here. -/
set_option autoImplicit false
set_option linter.unusedSimpArgs false
set_option linter.unusedVariables false
set_option linter.unnecessarySimpa false
namespace Go.XL
/-- As SeqL, for whatever function stands in for yield. -/
def SeqF {α β : Type} (P : Program) (f : FuncId) (cap : List Value) (H : Hp) (ownI : Own) (enc : α → β → List Value) (lend : α → β → Hp → Own → Prop) (xs : List α) : Prop :=
 ∀ (g : Fn) (J : JS α) (K : Hp → Own → Prop) (ownY : Own), YOk P (.func g #[] #[]) H enc lend xs J K → J.Holds [] H ownY →
  FnC P f ((.func g #[] #[] :: cap).toArray) H (ownI ++ ownY) (RetR fun v H' own' => v = .tuple #[] ∧ ∃ ownI' ownY', own' = ownI' ++ ownY' ∧ (J.Holds xs H' ownY' ∨ K H' ownY'))
section
variable {C : Ctx} {Q : Exit → St → Prop} {env : Env} {df : List Deferred} {H : Hp} {own : Own}
theorem XC.rangeFuncF {α β : Type} {g : Operand} {ps : List Tmp} {assign body : Code} {f : FuncId} {cap : List Value} {enc : α → β → List Value} {lend : α → β → Hp → Own → Prop} {xs : List α} {ownI own2 : Own}
    (hg : ev env g = some (.func (.func f) #[] cap.toArray)) (hseq : SeqF C.P f cap H ownI enc lend xs) (hps : ∀ x b, (enc x b).length = ps.length) (hpN : (ps.all fun p => Nat.blt p C.N) = true)
    (ho : own = ownI ++ own2) (I : List α → Hp → Own → Prop) (Kx : Code → Hp → Own → Prop) (hI : ∀ p H H' o, Le H H' → I p H o → I p H' o) (h0 : I [] H own2)
    (hround : C.r = none ∨ ∃ l0 r0, C.r = some l0 ∧ (l0, SObj.obj (.loop r0)) ∈ C.hid)
    (hbody : ∀ G l hd1 hd2, (∃ r0, (l, SObj.obj (.loop r0)) ∈ hd2) → ∀ pre x post, xs = pre ++ x :: post → ∀ bx H' ol own', Le H H' → I pre H' own' → lend x bx H' ol →
      XC ⟨C.P, G, C.N, some l, hd1⟩ assign (assignQ ⟨C.P, G, C.N, some l, hd2⟩ body (roundQ l (fun p H2 o => ∃ o3, o = ol ++ o3 ∧ I p H2 o3) Kx (pre ++ [x]))) ⟨bindP ps (enc x bx) env, [], H', ol ++ own'⟩)
    (hdone : ∀ H' own', Le H H' → I xs H' own' → Q .normal ⟨env, df, H', own'⟩)
    (hjump : ∀ c H' own', Le H H' → Kx c H' own' → XC C c Q ⟨env, df, H', own'⟩) : XC C (.rangeFunc g ps.toArray assign body) Q ⟨env, df, H, own⟩ := by
  intro a w hr
  refine wpIn_rangeFunc ?_
  intro fn hfn
  subst ho
  obtain ⟨l, mk, w₁, D, ms', hrun, hdf, hok₁⟩ := enter_loop (fn := fn) (ps := ps.toArray) («as» := assign) (bd := body) hr hround
  have hga := hr.eval hg
  let rec0 : Loop := { state := .ready, pending := none, fn, tmps := a.tmps, params := ps.toArray, assign := assign, body := body, defers := D }
  let yv : Value := .func (.yield l) #[] #[]
  let J : JS α := ⟨fun pre H' ownY => ∃ own2', ownY = (l, .obj (.loop rec0)) :: own2' ∧ I pre H' own2', fun p H1 H2 o hle ⟨o2, e, h⟩ => ⟨o2, e, hI p H1 H2 o2 hle h⟩⟩
  let K : Hp → Own → Prop := fun H' ownY => ∃ own2' c, ownY = (l, .obj (.loop { rec0 with state := .done, pending := some c })) :: own2' ∧ Kx c H' own2'
  have hcall := hseq (.yield l) J K ((l, .obj (.loop rec0)) :: own2) (by
    rintro pre x post hxs bx H' ol ownY hle ⟨own2', rfl, hI⟩ hlend
    intro G rst w hok
    have hok' : Ok G H' ((l, .obj (.loop rec0)) :: ((ol ++ own2') ++ rst)) w := hok.perm (by
      simp only [List.append_assoc, List.cons_append]; exact List.perm_middle.symm)
    have hl := hok'.objAt
    refine ⟨{ target := .fn (.yield l) #[], args := #[] ++ (enc x bx).toArray }, .round l fn ((ps.toArray.zip (enc x bx).toArray).foldl (fun tmps (t, a) => tmps.setIfInBounds t a) a.tmps) assign body, w, rfl, ?_, ?_⟩
    · have := run_yield (P := C.P) (args := (enc x bx).toArray) hl (by simp [rec0, hps])
      show (Instr.yield l (#[] ++ (enc x bx).toArray)).run C.P w = _
      rw [Array.empty_append]
      exact this
    · refine roundIn_of_wpIn trivial ?_
      have hfold : ((ps.toArray.zip (enc x bx).toArray).foldl (fun tmps (t, a) => tmps.setIfInBounds t a) a.tmps) = ((ps.zip (enc x bx)).foldl (fun (tmps : Array Value) (x : Tmp × Value) => tmps.setIfInBounds x.1 x.2) a.tmps) := by
        rw [← Array.foldl_toList]; simp
      rw [hfold]
      obtain ⟨hsz, hget⟩ := bind_get ps (enc x bx) env a.tmps (by simp [hps]) (fun p hp => by
        have := List.all_eq_true.1 hpN p hp
        rw [hr.size]; simpa using this) hr.get
      have hX := hbody G l ((l, .obj (.loop rec0)) :: rst) ((l, .obj (.loop { rec0 with state := .busy })) :: rst) ⟨_, List.mem_cons_self⟩ pre x post hxs bx H' ol own2' hle hI hlend
      have hrel : Rel ⟨C.P, G, C.N, some l, (l, .obj (.loop rec0)) :: rst⟩ ⟨bindP ps (enc x bx) env, [], H', ol ++ own2'⟩ { tmps := ((ps.zip (enc x bx)).foldl (fun (tmps : Array Value) (x : Tmp × Value) => tmps.setIfInBounds x.1 x.2) a.tmps), defers := [] } w :=
        ⟨by rw [← hr.size]; exact hsz, hget, [], rfl, hok'.perm (by simp only [List.map_nil, List.nil_append]; exact List.perm_middle)⟩
      refine Go.wpIn_mono (hX _ _ hrel) ?_
      rintro e a₁ w₁ ⟨σ, hr₁, hle₁, hq⟩
      cases e with
      | normal =>
        obtain ⟨ms₁, hd₁, hok₁⟩ := hr₁.ok
        have hok₂ : Ok G σ.H ((l, .obj (.loop rec0)) :: (σ.own ++ (ms₁.map hid ++ rst))) w₁ := hok₁.perm (by
          rw [← List.append_assoc, ← List.append_assoc]; exact List.perm_middle.symm)
        have hbeg := run_beginRound (P := C.P) hok₂.objAt rfl
        refine ⟨_, hbeg, ?_⟩
        have hok₃ := hok₂.putObj (o' := .loop { rec0 with state := .busy })
        have hrel₂ : Rel ⟨C.P, G, C.N, some l, (l, .obj (.loop { rec0 with state := .busy })) :: rst⟩ σ a₁ (w₁.putObj l (.loop { rec0 with state := .busy })) :=
          ⟨hr₁.size, hr₁.get, ms₁, hd₁, hok₃.perm (by rw [← List.append_assoc, ← List.append_assoc]; exact List.perm_middle)⟩
        refine Go.wpIn_mono (hq _ _ hrel₂) ?_
        rintro e a₂ w₂ ⟨τ, hr₂, hle₂, hq₂⟩
        obtain ⟨ms₂, hd₂, hok₄⟩ := hr₂.ok
        have hok₅ : Ok G τ.H ((l, .obj (.loop { rec0 with state := .busy })) :: (τ.own ++ (ms₂.map hid ++ rst))) w₂ := hok₄.perm (by
          rw [← List.append_assoc, ← List.append_assoc]; exact List.perm_middle.symm)
        have hend := fun j => run_endRound (P := C.P) j hok₅.objAt
        have leave : ∀ (c : Code), (∃ o, o.Sublist τ.own ∧ Kx c τ.H o) → ∃ v w', (Instr.endRound l (some c)).run C.P w₂ = .ok v w' ∧ (Ending.returned v ≠ .outgrown ∧ ∃ H'' own'', Le H' H'' ∧ Ok G H'' (own'' ++ rst) w' ∧ RetR (fun v H'' own'' => (v = .bool true ∧ ∃ own3, own'' = ol ++ own3 ∧ J.Holds (pre ++ [x]) H'' own3) ∨ (v = .bool false ∧ K H'' own'')) (.returned v) H'' own'') := by
          rintro c ⟨o, hs, hk⟩
          refine ⟨_, _, hend (some c), by simp, τ.H, (l, .obj (.loop { rec0 with state := .done, pending := some c })) :: o, hle₁.trans hle₂, ?_, .inr ⟨rfl, o, c, rfl, hk⟩⟩
          refine (hok₅.putObj (o' := .loop { rec0 with state := .done, pending := some c })).shrink (Le.refl _) ?_
          exact List.Sublist.cons_cons _ (hs.append (List.sublist_append_right _ _))
        cases e with
        | normal =>
          obtain ⟨_, o, hs, o3, rfl, hI'⟩ := hq₂
          refine ⟨_, _, hend none, by simp, τ.H, ol ++ (l, .obj (.loop rec0)) :: o3, hle₁.trans hle₂, ?_, .inl ⟨rfl, _, rfl, o3, rfl, hI'⟩⟩
          have hk := (hok₅.putObj (o' := .loop rec0)).shrink (Le.refl _) (List.Sublist.cons_cons _ (hs.append (List.sublist_append_right _ _)) : ((l, SObj.obj (.loop rec0)) :: ((ol ++ o3) ++ rst)).Sublist _)
          refine hk.perm ?_
          simp only [List.append_assoc, List.cons_append]; exact List.perm_middle
        | exit id => exact leave _ hq₂.2
        | goto t => exact leave _ hq₂.2
        | ret => exact leave _ hq₂.2
        | panic ch => exact hq₂.elim
        | outgrown => exact hq₂.elim
      | exit id => exact hq.elim
      | goto t => exact hq.elim
      | ret => exact hq.elim
      | panic ch => exact hq.elim
      | outgrown => exact hq.elim) ⟨own2, rfl, h0⟩
  refine ⟨l, mk, w₁, { target := .fn (.func f) cap.toArray, args := #[] ++ #[yv] }, w₁, f, (yv :: cap).toArray, w₁, hrun, ?_, fun _ _ => trivial, ?_, fun h => (by cases h), ?_⟩
  · have hm : Array.map a.eval #[Operand.const (Value.func (Fn.yield l) #[] #[])] = #[yv] := by simp [Act.eval, yv]
    simp only [resolve, rangeCall, hga, hm]
    rfl
  · have := hcall.1 (yv :: cap).toArray w₁
    show (callFunc f ((#[] ++ #[yv]) ++ cap.toArray)).run C.P w₁ = _
    have e : (#[] ++ #[yv] ++ cap.toArray : Array Value) = (yv :: cap).toArray := by simp
    rw [e]
    exact this
  · have hok₂ : Ok C.G H ((ownI ++ (l, .obj (.loop rec0)) :: own2) ++ (ms'.map hid ++ C.hid)) w₁ := hok₁.perm (by
      simp only [List.append_assoc, List.cons_append]; exact List.perm_middle)
    have hc : CallsIn Fence.wide (0 - 1) C.P f (yv :: cap).toArray w₁ _ := callsIn_wide.2 (hcall.2 C.G _ w₁ hok₂)
    have hc2 : CallsIn (Fr C.r) (0 - 1) C.P f (yv :: cap).toArray w₁ _ := hc
    refine ⟨hc2.1, fun cs hcs => ?_⟩
    obtain ⟨e, w₃, fr, ⟨hne, H', own', hle, hok₃, hR⟩, hx⟩ := hc2.2 cs hcs
    refine ⟨e, w₃, fr, ?_, hx⟩
    cases e with
    | outgrown => exact absurd rfl hne
    | panicked ch => exact hR.elim
    | returned v =>
      obtain ⟨_, ownI', ownY', rfl, hJK⟩ := hR
      have key : ∀ (r : Loop) (o : Own), ownY' = (l, .obj (.loop r)) :: o → r.state ≠ .busy → (Instr.endLoop l).run C.P w₃ = .ok r.pending (w₃.putObj l (.loop { r with state := .exhausted })) ∧
          Rel C ⟨env, df, H', o⟩ { a with defers := mk ++ a.defers } (w₃.putObj l (.loop { r with state := .exhausted })) := by
        rintro r o rfl hb
        have hok₄ : Ok C.G H' ((l, .obj (.loop r)) :: (ownI' ++ (o ++ (ms'.map hid ++ C.hid)))) w₃ := hok₃.perm (by
          simp only [List.append_assoc, List.cons_append]; exact List.perm_middle.symm)
        refine ⟨run_endLoop hok₄.objAt hb, hr.size, hr.get, ms', hdf, ?_⟩
        exact (hok₄.putObj (o' := .loop { r with state := .exhausted })).shrink (Le.refl _) (.cons _ (List.sublist_append_right _ _))
      rcases hJK with ⟨o, ho, hI⟩ | ⟨o, c, ho, hk⟩
      · obtain ⟨h1, h2⟩ := key rec0 o ho (by simp [rec0])
        exact ⟨none, _, h1, ⟨_, h2, hle, hdone H' o hle hI⟩⟩
      · obtain ⟨h1, h2⟩ := key { rec0 with state := .done, pending := some c } o ho (by simp)
        exact ⟨some c, _, h1, Go.wpIn_mono (hjump c H' o hle hk _ _ h2) fun _ _ _ lf => lift_mono lf hle fun _ _ q => q⟩
end
end Go.XL

/- Repairs: lists of judges, one after the other. -/
set_option autoImplicit false
set_option linter.unusedVariables false
set_option linter.unusedSimpArgs false
namespace Go.Proofs
open Go.XL
def encI (x : List Int) (b : Option Addr × Nat) : List Value := [.slice b.1 x.length b.2]
def lendI (x : List Int) (b : Option Addr × Nat) (H : Hp) (ol : XL.Own) : Prop := ol = [] ∧ SlR (intR .i64) H b.1 b.2 x
def LeW (H H' : Hp) : Prop := Le H H'
theorem LeW.mono {H H' H'' : Hp} (h : LeW H H') (hle : Le H' H'') : LeW H H'' := Le.trans h hle
def slCap {α : Type} (ρ : Rep α) (l : List α) : Value → Hp → Prop := fun v H => ∃ a c, v = .slice a l.length c ∧ SlR ρ H a c l ∧ c ≤ l.length
theorem slCap_mono {α : Type} (ρ : Rep α) (l : List α) : ∀ v H H', Le H H' → slCap ρ l v H → slCap ρ l v H' := fun _ _ _ hle ⟨a, c, h1, h2, h3⟩ => ⟨a, c, h1, h2.mono hle, h3⟩
def ptV (b : Nat) : Value := .pointer (some ⟨b, 0, none⟩)
def chV (bjc bY be bc : Nat) : Value := .func (.func 56) #[] #[.pointer (some ⟨bjc, 0, none⟩), .pointer (some ⟨bY, 0, none⟩), .pointer (some ⟨be, 0, none⟩), .pointer (some ⟨bc, 0, none⟩)]
theorem comb_drop {bad : Int → Bool} {k i : Nat} {pr l : List Int} {x : Int} (hx : pr[i]? = some x) : preL l (comb bad (k + 1) (pr.drop i)) = (if bad x = true then [] else preL (l ++ [x]) (comb bad k (pr.drop (i + 1)))) ++ preL l (comb bad (k + 1) (pr.drop (i + 1))) := by
 rw [drop_cons hx, comb]
 unfold preL
 rw [List.map_append]
 congr 1
 split
 ·rfl
 ·exact preL_cons l x _
theorem preL_0 {bad : Int → Bool} {l pr : List Int} : preL l (comb bad 0 pr) = [l] := by simp [preL, comb]
theorem preL_nil {l : List Int} : preL l [] = [] := rfl
theorem preL_one {m : Ls} : preL [] m = m := by simp [preL]
theorem badR_at {r : List Bool} {y : Nat} {b : Bool} (h : r[y]? = some b) : badR r (y : Int) = b := by
 unfold badR; rw [List.getD_eq_getElem?_getD, Int.toNat_natCast, h]; rfl
theorem rangeI_at {a n i : Nat} (h : i < n) : (rangeI a n)[i]? = some ((a + i : Nat) : Int) := by
 unfold rangeI; rw [List.getElem?_map, List.getElem?_range' h]; simp
theorem rangeI_drop {a n i : Nat} : (rangeI a n).drop i = rangeI (a + i) (n - i) := by
 unfold rangeI; rw [← List.map_drop, List.drop_range']; simp
theorem rangeI_len {a n : Nat} : (rangeI a n).length = n := by simp [rangeI]
theorem comb_filter {bad p : Int → Bool} : ∀ (n : Nat) (l : List Int), comb bad n (l.filter fun x => !p x) = comb (fun x => bad x || p x) n l
  | 0, l => by simp [comb]
  | n + 1, [] => by simp [comb]
  | n + 1, x :: t => by
    have h1 := comb_filter (bad := bad) (p := p) n t
    have h2 := comb_filter (bad := bad) (p := p) (n + 1) t
    cases hp : p x
    · rw [List.filter_cons_of_pos (by simp [hp]), comb, comb, h1, h2]; simp [hp]
    · rw [List.filter_cons_of_neg (by simp [hp]), h2]; simp [comb, hp]
end Go.Proofs

/- The walks of the functions of repairs: what each of them computes, at any input. -/
set_option autoImplicit false
set_option linter.unusedVariables false
set_option linter.unusedSimpArgs false
namespace Go.Proofs
open Go.XL

theorem by_26 : Nat.ble (Try.prog.bytesOf 26) 4096 = true := by kernel_rfl
theorem by_3 : Nat.ble (Try.prog.bytesOf 3) 4096 = true := by kernel_rfl
theorem ty_66 : tyF Try.prog 66 1 false = true := by kernel_rfl
theorem ty_87 : tyF Try.prog 87 1 false = true := by kernel_rfl
theorem ze_3 : zeroC Try.prog 3 = some [.int .i64 0] := by kernel_rfl
theorem ze_66 : zeroC Try.prog 66 = some [.nilFunc] := by kernel_rfl

theorem clone_fn (a : Option Addr) (c : Nat) (l : List Int) (H : Hp) (hs : SlR (intR .i64) H a c l) (hl : l.length < 1000000) : FnC Try.prog 57 #[.slice a l.length c] H [] (RetR (fun v H2 _ => ∃ a2 c2, v = .slice a2 l.length c2 ∧ SlR (intR .i64) H2 a2 c2 l)) := by
 refine FnC.intro (args := [.slice a l.length c]) Try.func57 rfl rfl Try.ntmps57 rfl rfl rfl fun G rest => ?_
 refine XC.seq ?_; refine XC.region ?_; refine XO.assign rfl rfl ?_; refine XO.nil ?_; refine XC.seq2 ?_; refine XC.seq ?_; refine XC.seq ?_; refine XC.region ?_; refine XO.move rfl rfl ?_; refine XO.eqlNil rfl Try.underlying26 rfl ?_; refine XO.nil ?_; refine XC.seq2 ?_; refine XC.condB rfl (fun c0_2 => ?_) (fun c0_2 => ?_)
 ·have ha := Option.isNone_iff_eq_none.1 c0_2
  obtain rfl : l = [] := by
   cases l with
   | nil => rfl
   | cons x r => obtain ⟨b, o, h⟩ := hs.addr (by simp); rw [ha] at h; cases h
  refine XC.seq ?_; refine XC.region ?_; refine XO.assign rfl rfl ?_; refine XO.nil ?_; refine XC.seq2 ?_; refine XC.ret ?_; refine seqX_ret ?_; refine ⟨rfl, _, [], rfl, (by repeat (first | exact List.Sublist.refl _ | apply List.Sublist.cons)), RetR.mk ?_⟩
  exact ⟨_, _, rfl, SlR.nil0 _ _⟩
 ·refine XC.skip ?_; refine XC.seq2 ?_; refine XC.seq ?_; refine XC.region ?_; refine XO.buildRow (ρ := (intR .i64)) (l := ([] : List Int)) rfl Try.underlying26 ty_3 ze_3 rfl rfl rfl rfl rfl (fun p5 a5 c5 hacc5 => ?_); refine XO.move rfl rfl ?_; refine XO.appendA 0 rfl rfl hacc5 rfl rfl hs rfl Try.underlying26 ty_3 ze_3 rfl by_3 (by simp; omega) rfl (fun p7 a7 c7 hacc7 => ?_); refine XO.publishA 0 rfl hacc7 rfl (fun HQ4 hleQ4 hsQ4 => ?_); replace hs := hs.mono hleQ4; refine XO.assign rfl rfl ?_; refine XO.nil ?_; refine XC.seq2 ?_; refine XC.ret ?_; refine ⟨rfl, _, [], rfl, (by repeat (first | exact List.Sublist.refl _ | apply List.Sublist.cons)), RetR.mk ?_⟩
  exact ⟨_, _, rfl, by assumption⟩

theorem cloneL_fn (a : Option Addr) (c : Nat) (l : Ls) (H : Hp) (hs : SlR ilR H a c l) (hl : l.length < 1000000) : FnC Try.prog 42 #[.slice a l.length c] H [] (RetR (fun v H2 _ => ∃ a2 c2, v = .slice a2 l.length c2 ∧ SlR ilR H2 a2 c2 l)) := by
 refine FnC.intro (args := [.slice a l.length c]) Try.func42 rfl rfl Try.ntmps42 rfl rfl rfl fun G rest => ?_
 refine XC.seq ?_; refine XC.region ?_; refine XO.assign rfl rfl ?_; refine XO.nil ?_; refine XC.seq2 ?_; refine XC.seq ?_; refine XC.seq ?_; refine XC.region ?_; refine XO.move rfl rfl ?_; refine XO.eqlNil rfl Try.underlying25 rfl ?_; refine XO.nil ?_; refine XC.seq2 ?_; refine XC.condB rfl (fun c0_2 => ?_) (fun c0_2 => ?_)
 ·have ha := Option.isNone_iff_eq_none.1 c0_2
  obtain rfl : l = [] := by
   cases l with
   | nil => rfl
   | cons x r => obtain ⟨b, o, h⟩ := hs.addr (by simp); rw [ha] at h; cases h
  refine XC.seq ?_; refine XC.region ?_; refine XO.assign rfl rfl ?_; refine XO.nil ?_; refine XC.seq2 ?_; refine XC.ret ?_; refine seqX_ret ?_; refine ⟨rfl, _, [], rfl, (by repeat (first | exact List.Sublist.refl _ | apply List.Sublist.cons)), RetR.mk ?_⟩
  exact ⟨_, _, rfl, SlR.nil0 _ _⟩
 ·refine XC.skip ?_; refine XC.seq2 ?_; refine XC.seq ?_; refine XC.region ?_; refine XO.buildRow (ρ := ilR) (l := ([] : Ls)) rfl Try.underlying25 ty_26 ze_26 rfl rfl rfl rfl rfl (fun p5 a5 c5 hacc5 => ?_); refine XO.move rfl rfl ?_; refine XO.appendA 0 rfl rfl hacc5 rfl rfl hs rfl Try.underlying25 ty_26 ze_26 rfl by_26 (by simp; omega) rfl (fun p7 a7 c7 hacc7 => ?_); refine XO.publishA 0 rfl hacc7 rfl (fun HQ4 hleQ4 hsQ4 => ?_); replace hs := hs.mono hleQ4; refine XO.assign rfl rfl ?_; refine XO.nil ?_; refine XC.seq2 ?_; refine XC.ret ?_; refine ⟨rfl, _, [], rfl, (by repeat (first | exact List.Sublist.refl _ | apply List.Sublist.cons)), RetR.mk ?_⟩
  exact ⟨_, _, rfl, by assumption⟩

set_option maxRecDepth 100000 in
set_option maxHeartbeats 1600000 in
theorem from_all (bj bjc bY be bc : Nat) (w : Wi) (old : Ls) (pr : List Int) (e n : Nat) (r : List Bool) (hr : w.B[e]? = some r) (hn : w.S = (n : Nat)) (hpr : ∀ x ∈ pr, 0 ≤ x ∧ x < r.length) (hpl : pr.length ≤ 1000) (hn1 : n ≤ 1000) (yv : Value) (H0 : Hp) (hJ0 : JobH H0 bj w old pr) (hbj0 : PtH H0 bjc 0 [.pointer (some ⟨bj, 0, none⟩)]) (hby0 : PtH H0 bY 0 [yv]) (hbe0 : PtH H0 be 0 [.int .i64 (e : Nat)]) (hbc0 : PtH H0 bc 0 [chV bjc bY be bc]) (xs : Ls) (J : JS (List Int)) (K : Hp → XL.Own → Prop) (hy : YOk Try.prog yv H0 encI lendI xs J K) :
 ∀ (k : Nat) (l : List Int) (f : Nat) (pre post : Ls) (a : Option Addr) (c : Nat) (oc : XL.Own) (H : Hp), LeW H0 H → f ≤ pr.length → l.length + k = n → xs = pre ++ (preL l (comb (badR r) k (pr.drop f)) ++ post) → SlR (intR .i64) H a c l → J.Holds pre H oc →
 FnC Try.prog 56 #[.slice a l.length c, .int .i64 (f : Nat), .pointer (some ⟨bjc, 0, none⟩), .pointer (some ⟨bY, 0, none⟩), .pointer (some ⟨be, 0, none⟩), .pointer (some ⟨bc, 0, none⟩)] H oc (RetR fun v H2 own2 => (v = .bool true ∧ J.Holds (pre ++ preL l (comb (badR r) k (pr.drop f))) H2 own2) ∨ (v = .bool false ∧ K H2 own2)) := by
 intro k
 refine Nat.strongRecOn k ?_
 clear k
 intro k ih l f pre post a c oc H hH hf1 hlk hxs hs hS
 have hJ := hJ0.mono hH
 have hbj := hbj0.mono hH
 have hby := hby0.mono hH
 have hbe := hbe0.mono hH
 have hbc := hbc0.mono hH
 have he := (List.getElem?_eq_some_iff.1 hr).1
 obtain ⟨aB, cB, aO, cO, aP, cP, aA, nA, cA, hj, hB, hO, hP⟩ := hJ
 refine FnC.intro (args := [.slice a l.length c, .int .i64 (f : Nat), .pointer (some ⟨bjc, 0, none⟩), .pointer (some ⟨bY, 0, none⟩), .pointer (some ⟨be, 0, none⟩), .pointer (some ⟨bc, 0, none⟩)]) Try.func56 rfl rfl Try.ntmps56 rfl rfl rfl fun G rest => ?_
 refine XC.seq ?_; refine XC.region ?_; refine XO.assign rfl rfl ?_; refine XO.nil ?_; refine XC.seq2 ?_; refine XC.seq ?_; refine XC.seq ?_; refine XC.region ?_; refine XO.move rfl rfl ?_; refine XO.lenS (ts := #[]) rfl Try.underlying26 rfl ?_; refine XO.loadH rfl (by assumption) ty_52 rfl rfl rfl ?_; refine XO.nilCheckP rfl rfl ?_; refine XO.fieldAddr rfl fa_70_0 rfl ?_; refine XO.fieldAddr rfl fa_24_1 rfl ?_; refine XO.loadHF rfl (by assumption) ty_3 rfl rfl rfl ?_; refine XO.eql rfl rfl rfl ?_; refine XO.nil ?_; refine XC.seq2 ?_; refine XC.cond rfl (fun c0_1 => ?_) (fun c0_1 => ?_)
 ·obtain rfl : k = 0 := by omega
  have hxs2 : xs = pre ++ l :: post := by rw [hxs, preL_0]; rfl
  refine XC.seq ?_; refine XC.keep [0, 3] rfl ?_
  apply XC.drawG (fun _ => True) trivial 3 [eqF _, eqF _, slG (intR .i64) l] follows (by kernel_rfl) (by kernel_rfl) ⟨eqF_mono _, eqF_mono _, slG_mono _ _, trivial⟩ ?steps2 ?tail2
  case steps2 =>
   refine stepsD_cons rfl ?_ ?_
   ·intro X HD hleD _
    replace hH := hH.mono hleD; replace hs := hs.mono hleD; replace hS := hS.mono hleD; replace hbj := hbj.mono hleD; replace hby := hby.mono hleD; replace hbe := hbe.mono hleD; replace hbc := hbc.mono hleD; replace hj := hj.mono hleD; replace hB := hB.mono hleD; replace hO := hO.mono hleD; replace hP := hP.mono hleD; refine withPreds_nil rfl ?_; refine XO.loadH rfl (by assumption) ty_87 rfl rfl rfl ?_; refine XO.nil ?_
    exact stepQ_ok trivial (rfl)
   refine stepsD_cons rfl ?_ ?_
   ·intro X HD hleD _
    replace hH := hH.mono hleD; replace hs := hs.mono hleD; replace hS := hS.mono hleD; replace hbj := hbj.mono hleD; replace hby := hby.mono hleD; replace hbe := hbe.mono hleD; replace hbc := hbc.mono hleD; replace hj := hj.mono hleD; replace hB := hB.mono hleD; replace hO := hO.mono hleD; replace hP := hP.mono hleD; refine withPreds_nil rfl ?_; refine XO.move rfl rfl ?_; refine XO.nil ?_
    exact stepQ_ok trivial (rfl)
   refine stepsD_cons rfl ?_ ?_
   ·intro X HD hleD _
    replace hH := hH.mono hleD; replace hs := hs.mono hleD; replace hS := hS.mono hleD; replace hbj := hbj.mono hleD; replace hby := hby.mono hleD; replace hbe := hbe.mono hleD; replace hbc := hbc.mono hleD; replace hj := hj.mono hleD; replace hB := hB.mono hleD; replace hO := hO.mono hleD; replace hP := hP.mono hleD; refine withPreds_cons rfl rfl ?_; rintro _ rfl; refine withPreds_nil rfl ?_; refine XO.callH rfl (clone_fn _ _ l _ hs (by omega)) rfl ?_; rintro _ HC21 hleC21 ⟨aC21, cC21, rfl, hsC21⟩; replace hH := hH.mono hleC21; replace hs := hs.mono hleC21; replace hS := hS.mono hleC21; replace hbj := hbj.mono hleC21; replace hby := hby.mono hleC21; replace hbe := hbe.mono hleC21; replace hbc := hbc.mono hleC21; replace hj := hj.mono hleC21; replace hB := hB.mono hleC21; replace hO := hO.mono hleC21; replace hP := hP.mono hleC21; refine XO.nil ?_
    exact stepQ_ok trivial (⟨_, _, rfl, hsC21⟩)
   exact stepsD_end rfl
  case tail2 =>
   intro HD hleD _
   replace hH := hH.mono hleD; replace hs := hs.mono hleD; replace hS := hS.mono hleD; replace hbj := hbj.mono hleD; replace hby := hby.mono hleD; replace hbe := hbe.mono hleD; replace hbc := hbc.mono hleD; replace hj := hj.mono hleD; replace hB := hB.mono hleD; replace hO := hO.mono hleD; replace hP := hP.mono hleD; refine withPreds_cons rfl rfl ?_; rintro _ rfl; refine withPreds_cons rfl rfl ?_; rintro _ rfl; refine withPreds_cons rfl rfl ?_; rintro _ ⟨a21, c21, rfl, hsl21⟩; refine withPreds_nil rfl ?_; refine XO.callVal [] rfl trivial rfl (hy pre l post hxs2 (a21, c21) _ [] oc hH hS ⟨rfl, hsl21⟩) rfl rfl ?_; rintro _ HC oC hleC (⟨rfl, oc2, rfl, hS2⟩ | ⟨rfl, hK⟩)
   ·skip
    replace hH := hH.mono hleC; replace hs := hs.mono hleC; replace hS := hS.mono hleC; replace hbj := hbj.mono hleC; replace hby := hby.mono hleC; replace hbe := hbe.mono hleC; replace hbc := hbc.mono hleC; replace hj := hj.mono hleC; replace hB := hB.mono hleC; replace hO := hO.mono hleC; replace hP := hP.mono hleC; replace hsl21 := hsl21.mono hleC; refine XO.assign rfl rfl ?_; refine XO.nil ?_; refine XC.seq2 ?_; refine XC.ret ?_; refine seqX_ret ?_; refine ⟨rfl, _, oC, rfl, (by repeat (first | exact List.Sublist.refl _ | apply List.Sublist.cons_cons | apply List.Sublist.cons)), RetR.mk ?_⟩
    exact Or.inl ⟨rfl, by rw [preL_0]; exact hS2⟩
   ·skip
    replace hH := hH.mono hleC; replace hs := hs.mono hleC; replace hS := hS.mono hleC; replace hbj := hbj.mono hleC; replace hby := hby.mono hleC; replace hbe := hbe.mono hleC; replace hbc := hbc.mono hleC; replace hj := hj.mono hleC; replace hB := hB.mono hleC; replace hO := hO.mono hleC; replace hP := hP.mono hleC; replace hsl21 := hsl21.mono hleC; refine XO.assign rfl rfl ?_; refine XO.nil ?_; refine XC.seq2 ?_; refine XC.ret ?_; refine seqX_ret ?_; refine ⟨rfl, _, oC, rfl, (by repeat (first | exact List.Sublist.refl _ | apply List.Sublist.cons_cons | apply List.Sublist.cons)), RetR.mk ?_⟩
    exact Or.inr ⟨rfl, hK⟩
 ·obtain ⟨k, rfl⟩ : ∃ q, k = q + 1 := ⟨k - 1, by omega⟩
  have hcap := hs.le
  refine XC.skip ?_; refine XC.seq2 ?_; refine XC.seq ?_; refine XC.seq ?_; refine XC.region ?_; refine XO.move rfl rfl ?_; refine XO.assign rfl rfl ?_; refine XO.nil ?_; refine XC.seq2 ?_; refine XC.block ?_; refine XC.keep [9, 0, 2, 4, 5] rfl ?_; refine XC.loop (base := [(0, _), (2, _), (4, _), (5, _)]) (fun ζ : Nat × (Ls) × (XL.Own) => [(9, .int .i64 ((f + ζ.1 : Nat) : Int))]) (fun ζ Hl own => ζ.1 ≤ (pr.length - f) ∧ (ζ.2.2 ++ rest) = own ∧ (preL l (comb (badR r) (k + 1) (pr.drop f)) = ζ.2.1 ++ preL l (comb (badR r) (k + 1) (pr.drop (f + ζ.1)))) ∧ (J.Holds (pre ++ ζ.2.1) Hl ζ.2.2)) (fun ζ => (pr.length - f) - ζ.1) (0, [], oc) (prov_cons (rfl) (prov_cons (rfl) (prov_cons (rfl) (prov_cons (rfl) (prov_cons (rfl) prov_nil))))) (by repeat (first | exact List.Sublist.refl _ | apply List.Sublist.cons_cons | apply List.Sublist.cons)) ⟨Nat.zero_le _, rfl, rfl, by rw [List.append_nil]; exact hS⟩ ?_; rintro ⟨i, U, oc⟩ Hl0 _ hle0 ⟨hki, rfl, hU, hS⟩; replace hH := hH.mono hle0; replace hs := hs.mono hle0; replace hbj := hbj.mono hle0; replace hby := hby.mono hle0; replace hbe := hbe.mono hle0; replace hbc := hbc.mono hle0; replace hj := hj.mono hle0; replace hB := hB.mono hle0; replace hO := hO.mono hle0; replace hP := hP.mono hle0
  try dsimp only at hki hU hS ⊢
  refine XC.seq ?_; refine XC.seq ?_; refine XC.region ?_; refine XO.move rfl rfl ?_; refine XO.loadH rfl (by assumption) ty_52 rfl rfl rfl ?_; refine XO.nilCheckP rfl rfl ?_; refine XO.fieldAddr rfl fa_70_2 rfl ?_; refine XO.loadHF rfl (by assumption) ty_26 rfl rfl rfl ?_; refine XO.lenS (ts := #[]) rfl Try.underlying26 rfl ?_; refine XO.lss rfl rfl rfl ?_; refine XO.nil ?_; refine XC.seq2 ?_; refine XC.cond rfl (fun c1_4 => ?_) (fun c1_4 => ?_)
  ·refine XC.skip ?_; refine XC.seq2 ?_; refine XC.seq ?_; refine XC.block ?_; refine XC.seq ?_; refine XC.region ?_; refine XO.loadH rfl (by assumption) ty_52 rfl rfl rfl ?_; refine XO.nilCheckP rfl rfl ?_; refine XO.fieldAddr rfl fa_70_2 rfl ?_; refine XO.loadHF rfl (by assumption) ty_26 rfl rfl rfl ?_; refine XO.move rfl rfl ?_; refine XO.indexN rfl hP rfl Try.underlying26 ty_3 (by omega) rfl ?_; rintro eb38 eo38 _ x38 hx38 rfl hp38; refine XO.loadH rfl (by assumption) ty_3 rfl rfl rfl ?_; obtain ⟨hx0, hx1⟩ := hpr _ (List.mem_of_getElem? hx38)
   obtain ⟨y, rfl⟩ : ∃ y : Nat, x38 = y := ⟨x38.toNat, by omega⟩
   obtain ⟨xV, hxV⟩ : ∃ b, r[y]? = some b := ⟨_, List.getElem?_eq_getElem (by omega)⟩
   have hsplit := comb_drop (bad := badR r) (k := k) (l := l) hx38
   rw [badR_at hxV] at hsplit
   refine XO.assign rfl rfl ?_; refine XO.nil ?_; refine XC.seq2 ?_; refine XC.seq ?_
   cases xV
   ·skip
    refine XC.keep [0, 2, 4, 5, 9, 10] rfl ?_; obtain ⟨bEhB, oEhB, rfl⟩ := hB.addr (by omega); obtain ⟨_, xR, hxR, ⟨axR, cxR, rfl, hdR⟩, hpR⟩ := hB.elem e (by omega); obtain rfl := Option.some.inj (hr.symm.trans hxR); obtain ⟨bEV2, oEV2, rfl⟩ := hdR.addr (by omega); obtain ⟨_, xV2, hxV2, rfl, hpV2⟩ := hdR.elem (y) (by omega); obtain rfl := Option.some.inj (hxV.symm.trans hxV2)
    apply XC.drawH (fun _ => True) trivial [] (by decide) (fun _ _ _ _ => True) (fun _ _ _ _ _ _ h => h) 25 [eqF _, eqF _, eqF _, eqF _, eqF _, eqF _, eqF _, eqF _, eqF _, eqF _, eqF _, eqF _, eqF _, eqF _, eqF _, eqF _, eqF _, eqF _, eqF _, slCap (intR .i64) l, eqF _, slF (intR .i64) [_], slG (intR .i64) (l ++ [((y : Nat) : Int)]), eqF _, eqF _] follows (by kernel_rfl) ⟨eqF_mono _, eqF_mono _, eqF_mono _, eqF_mono _, eqF_mono _, eqF_mono _, eqF_mono _, eqF_mono _, eqF_mono _, eqF_mono _, eqF_mono _, eqF_mono _, eqF_mono _, eqF_mono _, eqF_mono _, eqF_mono _, eqF_mono _, eqF_mono _, eqF_mono _, slCap_mono _ _, eqF_mono _, slF_mono _ _, slG_mono _ _, eqF_mono _, eqF_mono _, trivial⟩ (by decide) ?steps6 ?tail6
    case steps6 =>
     refine stepsH_cons rfl ?_ ?_
     ·intro X ext HD hleD _
      replace hH := hH.mono hleD; replace hs := hs.mono hleD; replace hbj := hbj.mono hleD; replace hby := hby.mono hleD; replace hbe := hbe.mono hleD; replace hbc := hbc.mono hleD; replace hj := hj.mono hleD; replace hB := hB.mono hleD; replace hO := hO.mono hleD; replace hP := hP.mono hleD; replace hS := hS.mono hleD; replace hp38 := hp38.mono hleD; replace hpR := hpR.mono hleD; replace hdR := hdR.mono hleD; replace hpV2 := hpV2.mono hleD; replace hle0 := hle0.trans hleD; refine withP_nil rfl ?_; refine XO.loadH rfl (by assumption) ty_52 rfl rfl rfl ?_; refine XO.nil ?_; exact stepQN_ok rfl trivial (rfl)
     refine stepsH_cons rfl ?_ ?_
     ·intro X ext HD hleD _
      replace hH := hH.mono hleD; replace hs := hs.mono hleD; replace hbj := hbj.mono hleD; replace hby := hby.mono hleD; replace hbe := hbe.mono hleD; replace hbc := hbc.mono hleD; replace hj := hj.mono hleD; replace hB := hB.mono hleD; replace hO := hO.mono hleD; replace hP := hP.mono hleD; replace hS := hS.mono hleD; replace hp38 := hp38.mono hleD; replace hpR := hpR.mono hleD; replace hdR := hdR.mono hleD; replace hpV2 := hpV2.mono hleD; replace hle0 := hle0.trans hleD; refine withP_cons rfl rfl ?_; rintro _ rfl; refine withP_nil rfl ?_; refine XO.nilCheckP rfl rfl ?_; refine XO.nil ?_; exact stepQN_ok rfl trivial (rfl)
     refine stepsH_cons rfl ?_ ?_
     ·intro X ext HD hleD _
      replace hH := hH.mono hleD; replace hs := hs.mono hleD; replace hbj := hbj.mono hleD; replace hby := hby.mono hleD; replace hbe := hbe.mono hleD; replace hbc := hbc.mono hleD; replace hj := hj.mono hleD; replace hB := hB.mono hleD; replace hO := hO.mono hleD; replace hP := hP.mono hleD; replace hS := hS.mono hleD; replace hp38 := hp38.mono hleD; replace hpR := hpR.mono hleD; replace hdR := hdR.mono hleD; replace hpV2 := hpV2.mono hleD; replace hle0 := hle0.trans hleD; refine withP_cons rfl rfl ?_; rintro _ rfl; refine withP_nil rfl ?_; refine XO.fieldAddr rfl fa_70_0 rfl ?_; refine XO.nil ?_; exact stepQN_ok rfl trivial (rfl)
     refine stepsH_cons rfl ?_ ?_
     ·intro X ext HD hleD _
      replace hH := hH.mono hleD; replace hs := hs.mono hleD; replace hbj := hbj.mono hleD; replace hby := hby.mono hleD; replace hbe := hbe.mono hleD; replace hbc := hbc.mono hleD; replace hj := hj.mono hleD; replace hB := hB.mono hleD; replace hO := hO.mono hleD; replace hP := hP.mono hleD; replace hS := hS.mono hleD; replace hp38 := hp38.mono hleD; replace hpR := hpR.mono hleD; replace hdR := hdR.mono hleD; replace hpV2 := hpV2.mono hleD; replace hle0 := hle0.trans hleD; refine withP_cons rfl rfl ?_; rintro _ rfl; refine withP_nil rfl ?_; refine XO.fieldAddr rfl fa_24_3 rfl ?_; refine XO.nil ?_; exact stepQN_ok rfl trivial (rfl)
     refine stepsH_cons rfl ?_ ?_
     ·intro X ext HD hleD _
      replace hH := hH.mono hleD; replace hs := hs.mono hleD; replace hbj := hbj.mono hleD; replace hby := hby.mono hleD; replace hbe := hbe.mono hleD; replace hbc := hbc.mono hleD; replace hj := hj.mono hleD; replace hB := hB.mono hleD; replace hO := hO.mono hleD; replace hP := hP.mono hleD; replace hS := hS.mono hleD; replace hp38 := hp38.mono hleD; replace hpR := hpR.mono hleD; replace hdR := hdR.mono hleD; replace hpV2 := hpV2.mono hleD; replace hle0 := hle0.trans hleD; refine withP_cons rfl rfl ?_; rintro _ rfl; refine withP_nil rfl ?_; refine XO.loadHF rfl (by assumption) ty_22 rfl rfl rfl ?_; refine XO.nil ?_; exact stepQN_ok rfl trivial (rfl)
     refine stepsH_cons rfl ?_ ?_
     ·intro X ext HD hleD _
      replace hH := hH.mono hleD; replace hs := hs.mono hleD; replace hbj := hbj.mono hleD; replace hby := hby.mono hleD; replace hbe := hbe.mono hleD; replace hbc := hbc.mono hleD; replace hj := hj.mono hleD; replace hB := hB.mono hleD; replace hO := hO.mono hleD; replace hP := hP.mono hleD; replace hS := hS.mono hleD; replace hp38 := hp38.mono hleD; replace hpR := hpR.mono hleD; replace hdR := hdR.mono hleD; replace hpV2 := hpV2.mono hleD; replace hle0 := hle0.trans hleD; refine withP_nil rfl ?_; refine XO.loadH rfl (by assumption) ty_3 rfl rfl rfl ?_; refine XO.nil ?_; exact stepQN_ok rfl trivial (rfl)
     refine stepsH_cons rfl ?_ ?_
     ·intro X ext HD hleD _
      replace hH := hH.mono hleD; replace hs := hs.mono hleD; replace hbj := hbj.mono hleD; replace hby := hby.mono hleD; replace hbe := hbe.mono hleD; replace hbc := hbc.mono hleD; replace hj := hj.mono hleD; replace hB := hB.mono hleD; replace hO := hO.mono hleD; replace hP := hP.mono hleD; replace hS := hS.mono hleD; replace hp38 := hp38.mono hleD; replace hpR := hpR.mono hleD; replace hdR := hdR.mono hleD; replace hpV2 := hpV2.mono hleD; replace hle0 := hle0.trans hleD; refine withP_cons rfl rfl ?_; rintro _ rfl; refine withP_cons rfl rfl ?_; rintro _ rfl; refine withP_nil rfl ?_; refine XO.indexE rfl rfl Try.underlying22 ty_68 (by omega) (by omega) rfl ?_; refine XO.nil ?_; exact stepQN_ok rfl trivial (rfl)
     refine stepsH_cons rfl ?_ ?_
     ·intro X ext HD hleD _
      replace hH := hH.mono hleD; replace hs := hs.mono hleD; replace hbj := hbj.mono hleD; replace hby := hby.mono hleD; replace hbe := hbe.mono hleD; replace hbc := hbc.mono hleD; replace hj := hj.mono hleD; replace hB := hB.mono hleD; replace hO := hO.mono hleD; replace hP := hP.mono hleD; replace hS := hS.mono hleD; replace hp38 := hp38.mono hleD; replace hpR := hpR.mono hleD; replace hdR := hdR.mono hleD; replace hpV2 := hpV2.mono hleD; replace hle0 := hle0.trans hleD; refine withP_cons rfl rfl ?_; rintro _ rfl; refine withP_nil rfl ?_; refine XO.loadH rfl (by assumption) ty_68 rfl rfl rfl ?_; refine XO.nil ?_; exact stepQN_ok rfl trivial (rfl)
     refine stepsH_cons rfl ?_ ?_
     ·intro X ext HD hleD _
      replace hH := hH.mono hleD; replace hs := hs.mono hleD; replace hbj := hbj.mono hleD; replace hby := hby.mono hleD; replace hbe := hbe.mono hleD; replace hbc := hbc.mono hleD; replace hj := hj.mono hleD; replace hB := hB.mono hleD; replace hO := hO.mono hleD; replace hP := hP.mono hleD; replace hS := hS.mono hleD; replace hp38 := hp38.mono hleD; replace hpR := hpR.mono hleD; replace hdR := hdR.mono hleD; replace hpV2 := hpV2.mono hleD; replace hle0 := hle0.trans hleD; refine withP_nil rfl ?_; refine XO.move rfl rfl ?_; refine XO.nil ?_; exact stepQN_ok rfl trivial (rfl)
     refine stepsH_cons rfl ?_ ?_
     ·intro X ext HD hleD _
      replace hH := hH.mono hleD; replace hs := hs.mono hleD; replace hbj := hbj.mono hleD; replace hby := hby.mono hleD; replace hbe := hbe.mono hleD; replace hbc := hbc.mono hleD; replace hj := hj.mono hleD; replace hB := hB.mono hleD; replace hO := hO.mono hleD; replace hP := hP.mono hleD; replace hS := hS.mono hleD; replace hp38 := hp38.mono hleD; replace hpR := hpR.mono hleD; replace hdR := hdR.mono hleD; replace hpV2 := hpV2.mono hleD; replace hle0 := hle0.trans hleD; refine withP_cons rfl rfl ?_; rintro _ rfl; refine withP_cons rfl rfl ?_; rintro _ rfl; refine withP_nil rfl ?_; refine XO.indexE rfl rfl Try.underlying68 ty_4 (by omega) (by omega) rfl ?_; refine XO.nil ?_; exact stepQN_ok rfl trivial (rfl)
     refine stepsH_cons rfl ?_ ?_
     ·intro X ext HD hleD _
      replace hH := hH.mono hleD; replace hs := hs.mono hleD; replace hbj := hbj.mono hleD; replace hby := hby.mono hleD; replace hbe := hbe.mono hleD; replace hbc := hbc.mono hleD; replace hj := hj.mono hleD; replace hB := hB.mono hleD; replace hO := hO.mono hleD; replace hP := hP.mono hleD; replace hS := hS.mono hleD; replace hp38 := hp38.mono hleD; replace hpR := hpR.mono hleD; replace hdR := hdR.mono hleD; replace hpV2 := hpV2.mono hleD; replace hle0 := hle0.trans hleD; refine withP_cons rfl rfl ?_; rintro _ rfl; refine withP_nil rfl ?_; refine XO.loadH rfl (by assumption) ty_4 rfl rfl rfl ?_; refine XO.nil ?_; exact stepQN_ok rfl trivial (rfl)
     refine stepsH_cons rfl ?_ ?_
     ·intro X ext HD hleD _
      replace hH := hH.mono hleD; replace hs := hs.mono hleD; replace hbj := hbj.mono hleD; replace hby := hby.mono hleD; replace hbe := hbe.mono hleD; replace hbc := hbc.mono hleD; replace hj := hj.mono hleD; replace hB := hB.mono hleD; replace hO := hO.mono hleD; replace hP := hP.mono hleD; replace hS := hS.mono hleD; replace hp38 := hp38.mono hleD; replace hpR := hpR.mono hleD; replace hdR := hdR.mono hleD; replace hpV2 := hpV2.mono hleD; replace hle0 := hle0.trans hleD; refine withP_cons rfl rfl ?_; rintro _ rfl; refine withP_nil rfl ?_; refine XO.notB rfl rfl ?_; refine XO.nil ?_; exact stepQN_ok rfl trivial (rfl)
     refine stepsH_cons rfl ?_ ?_
     ·intro X ext HD hleD _
      replace hH := hH.mono hleD; replace hs := hs.mono hleD; replace hbj := hbj.mono hleD; replace hby := hby.mono hleD; replace hbe := hbe.mono hleD; replace hbc := hbc.mono hleD; replace hj := hj.mono hleD; replace hB := hB.mono hleD; replace hO := hO.mono hleD; replace hP := hP.mono hleD; replace hS := hS.mono hleD; replace hp38 := hp38.mono hleD; replace hpR := hpR.mono hleD; replace hdR := hdR.mono hleD; replace hpV2 := hpV2.mono hleD; replace hle0 := hle0.trans hleD; refine withP_cons rfl rfl ?_; rintro _ rfl; refine withP_nil rfl ?_; refine XO.move rfl rfl ?_; refine XO.nil ?_; exact stepQN_ok rfl trivial (rfl)
     refine stepsH_cons rfl ?_ ?_
     ·intro X ext HD hleD _
      replace hH := hH.mono hleD; replace hs := hs.mono hleD; replace hbj := hbj.mono hleD; replace hby := hby.mono hleD; replace hbe := hbe.mono hleD; replace hbc := hbc.mono hleD; replace hj := hj.mono hleD; replace hB := hB.mono hleD; replace hO := hO.mono hleD; replace hP := hP.mono hleD; replace hS := hS.mono hleD; replace hp38 := hp38.mono hleD; replace hpR := hpR.mono hleD; replace hdR := hdR.mono hleD; replace hpV2 := hpV2.mono hleD; replace hle0 := hle0.trans hleD; refine withP_cons rfl rfl ?_; rintro _ rfl; refine withP_nil rfl ?_; refine XO.guardT rfl rfl (rfl) rfl ?_; refine XO.loadH rfl (by assumption) ty_66 rfl rfl rfl ?_; refine XO.nil ?_; exact stepQN_ok rfl trivial (rfl)
     refine stepsH_cons rfl ?_ ?_
     ·intro X ext HD hleD _
      replace hH := hH.mono hleD; replace hs := hs.mono hleD; replace hbj := hbj.mono hleD; replace hby := hby.mono hleD; replace hbe := hbe.mono hleD; replace hbc := hbc.mono hleD; replace hj := hj.mono hleD; replace hB := hB.mono hleD; replace hO := hO.mono hleD; replace hP := hP.mono hleD; replace hS := hS.mono hleD; replace hp38 := hp38.mono hleD; replace hpR := hpR.mono hleD; replace hdR := hdR.mono hleD; replace hpV2 := hpV2.mono hleD; replace hle0 := hle0.trans hleD; refine withP_cons rfl rfl ?_; rintro _ rfl; refine withP_nil rfl ?_; refine XO.guardT rfl rfl (rfl) rfl ?_; refine XO.move rfl rfl ?_; refine XO.nil ?_; exact stepQN_ok rfl trivial (rfl)
     refine stepsH_cons rfl ?_ ?_
     ·intro X ext HD hleD _
      replace hH := hH.mono hleD; replace hs := hs.mono hleD; replace hbj := hbj.mono hleD; replace hby := hby.mono hleD; replace hbe := hbe.mono hleD; replace hbc := hbc.mono hleD; replace hj := hj.mono hleD; replace hB := hB.mono hleD; replace hO := hO.mono hleD; replace hP := hP.mono hleD; replace hS := hS.mono hleD; replace hp38 := hp38.mono hleD; replace hpR := hpR.mono hleD; replace hdR := hdR.mono hleD; replace hpV2 := hpV2.mono hleD; replace hle0 := hle0.trans hleD; refine withP_cons rfl rfl ?_; rintro _ rfl; refine withP_nil rfl ?_; refine XO.guardT rfl rfl (rfl) rfl ?_; refine XO.move rfl rfl ?_; refine XO.nil ?_; exact stepQN_ok rfl trivial (rfl)
     refine stepsH_cons rfl ?_ ?_
     ·intro X ext HD hleD _
      replace hH := hH.mono hleD; replace hs := hs.mono hleD; replace hbj := hbj.mono hleD; replace hby := hby.mono hleD; replace hbe := hbe.mono hleD; replace hbc := hbc.mono hleD; replace hj := hj.mono hleD; replace hB := hB.mono hleD; replace hO := hO.mono hleD; replace hP := hP.mono hleD; replace hS := hS.mono hleD; replace hp38 := hp38.mono hleD; replace hpR := hpR.mono hleD; replace hdR := hdR.mono hleD; replace hpV2 := hpV2.mono hleD; replace hle0 := hle0.trans hleD; refine withP_cons rfl rfl ?_; rintro _ rfl; refine withP_cons rfl rfl ?_; rintro _ rfl; refine withP_nil rfl ?_; refine XO.guardT rfl rfl (rfl) rfl ?_; refine XO.lenS (ts := #[]) rfl Try.underlying26 rfl ?_; refine XO.nil ?_; exact stepQN_ok rfl trivial (rfl)
     refine stepsH_cons rfl ?_ ?_
     ·intro X ext HD hleD _
      replace hH := hH.mono hleD; replace hs := hs.mono hleD; replace hbj := hbj.mono hleD; replace hby := hby.mono hleD; replace hbe := hbe.mono hleD; replace hbc := hbc.mono hleD; replace hj := hj.mono hleD; replace hB := hB.mono hleD; replace hO := hO.mono hleD; replace hP := hP.mono hleD; replace hS := hS.mono hleD; replace hp38 := hp38.mono hleD; replace hpR := hpR.mono hleD; replace hdR := hdR.mono hleD; replace hpV2 := hpV2.mono hleD; replace hle0 := hle0.trans hleD; refine withP_cons rfl rfl ?_; rintro _ rfl; refine withP_nil rfl ?_; refine XO.guardT rfl rfl (rfl) rfl ?_; refine XO.move rfl rfl ?_; refine XO.nil ?_; exact stepQN_ok rfl trivial (rfl)
     refine stepsH_cons rfl ?_ ?_
     ·intro X ext HD hleD _
      replace hH := hH.mono hleD; replace hs := hs.mono hleD; replace hbj := hbj.mono hleD; replace hby := hby.mono hleD; replace hbe := hbe.mono hleD; replace hbc := hbc.mono hleD; replace hj := hj.mono hleD; replace hB := hB.mono hleD; replace hO := hO.mono hleD; replace hP := hP.mono hleD; replace hS := hS.mono hleD; replace hp38 := hp38.mono hleD; replace hpR := hpR.mono hleD; replace hdR := hdR.mono hleD; replace hpV2 := hpV2.mono hleD; replace hle0 := hle0.trans hleD; refine withP_cons rfl rfl ?_; rintro _ rfl; refine withP_cons rfl rfl ?_; rintro _ rfl; refine withP_nil rfl ?_; refine XO.guardT rfl rfl (rfl) rfl ?_; refine XO.lenS (ts := #[]) rfl Try.underlying26 rfl ?_; refine XO.nil ?_; exact stepQN_ok rfl trivial (rfl)
     refine stepsH_cons rfl ?_ ?_
     ·intro X ext HD hleD _
      replace hH := hH.mono hleD; replace hs := hs.mono hleD; replace hbj := hbj.mono hleD; replace hby := hby.mono hleD; replace hbe := hbe.mono hleD; replace hbc := hbc.mono hleD; replace hj := hj.mono hleD; replace hB := hB.mono hleD; replace hO := hO.mono hleD; replace hP := hP.mono hleD; replace hS := hS.mono hleD; replace hp38 := hp38.mono hleD; replace hpR := hpR.mono hleD; replace hdR := hdR.mono hleD; replace hpV2 := hpV2.mono hleD; replace hle0 := hle0.trans hleD; refine withP_cons rfl rfl ?_; rintro _ rfl; refine withP_cons rfl rfl ?_; rintro _ rfl; refine withP_cons rfl rfl ?_; rintro _ rfl; refine withP_cons rfl rfl ?_; rintro _ rfl; refine withP_nil rfl ?_; refine XO.guardT rfl rfl (rfl) rfl ?_; refine XO.slice (lo' := 0) (hi' := (l.length : Int)) (m' := (l.length : Int)) rfl hs ev?_none (ev?_some rfl) (ev?_some rfl) (by simp) (by omega) (by omega) (by omega) (by omega) (by omega) Try.underlying26 ty_3 rfl (fun as59 ls59 hls59 hss59 => ?_)
      obtain rfl : ls59 = l := by first | (rw [hls59]; simp only [Int.toNat_natCast, Nat.add_sub_cancel_left]; done) | (rw [hls59]; simp; done) | (rw [hls59]; simp; rw [List.take_of_length_le (by simp)]; done) | (rw [hls59]; simp only [Int.toNat_natCast]; exact List.take_of_length_le (by rw [List.length_drop]; omega))
      refine XO.nil ?_
      exact stepQN_ok rfl trivial (⟨_, _, rfl, hss59, by simp⟩)
     refine stepsH_cons rfl ?_ ?_
     ·intro X ext HD hleD _
      replace hH := hH.mono hleD; replace hs := hs.mono hleD; replace hbj := hbj.mono hleD; replace hby := hby.mono hleD; replace hbe := hbe.mono hleD; replace hbc := hbc.mono hleD; replace hj := hj.mono hleD; replace hB := hB.mono hleD; replace hO := hO.mono hleD; replace hP := hP.mono hleD; replace hS := hS.mono hleD; replace hp38 := hp38.mono hleD; replace hpR := hpR.mono hleD; replace hdR := hdR.mono hleD; replace hpV2 := hpV2.mono hleD; replace hle0 := hle0.trans hleD; refine withP_cons rfl rfl ?_; rintro _ rfl; refine withP_nil rfl ?_; refine XO.guardT rfl rfl (rfl) rfl ?_; refine XO.move rfl rfl ?_; refine XO.nil ?_; exact stepQN_ok rfl trivial (rfl)
     refine stepsH_cons rfl ?_ ?_
     ·intro X ext HD hleD _
      replace hH := hH.mono hleD; replace hs := hs.mono hleD; replace hbj := hbj.mono hleD; replace hby := hby.mono hleD; replace hbe := hbe.mono hleD; replace hbc := hbc.mono hleD; replace hj := hj.mono hleD; replace hB := hB.mono hleD; replace hO := hO.mono hleD; replace hP := hP.mono hleD; replace hS := hS.mono hleD; replace hp38 := hp38.mono hleD; replace hpR := hpR.mono hleD; replace hdR := hdR.mono hleD; replace hpV2 := hpV2.mono hleD; replace hle0 := hle0.trans hleD; refine withP_cons rfl rfl ?_; rintro _ rfl; refine withP_cons rfl rfl ?_; rintro _ rfl; refine withP_nil rfl ?_; refine XO.guardT rfl rfl (rfl) rfl ?_; refine XO.buildSlice rfl Try.underlying26 ty_3 ze_3 rfl rfl rfl (fun b61 => ?_); refine XO.publish 0 rfl rfl rfl (fun HP61 oP61 hleP61 hbP61 hoP61 => ?_)
      have hsl61 := SlR.lit (ρ := (intR .i64)) (l := [_]) hbP61 hoP61 (RowsR.one1 rfl)
      replace hH := hH.mono hleP61; replace hs := hs.mono hleP61; replace hbj := hbj.mono hleP61; replace hby := hby.mono hleP61; replace hbe := hbe.mono hleP61; replace hbc := hbc.mono hleP61; replace hj := hj.mono hleP61; replace hB := hB.mono hleP61; replace hO := hO.mono hleP61; replace hP := hP.mono hleP61; replace hS := hS.mono hleP61; replace hp38 := hp38.mono hleP61; replace hpR := hpR.mono hleP61; replace hdR := hdR.mono hleP61; replace hpV2 := hpV2.mono hleP61; replace hle0 := hle0.trans hleP61; refine XO.nil ?_
      exact stepQN_ok rfl trivial (⟨_, rfl, hsl61⟩)
     refine stepsH_cons rfl ?_ ?_
     ·intro X ext HD hleD _
      replace hH := hH.mono hleD; replace hs := hs.mono hleD; replace hbj := hbj.mono hleD; replace hby := hby.mono hleD; replace hbe := hbe.mono hleD; replace hbc := hbc.mono hleD; replace hj := hj.mono hleD; replace hB := hB.mono hleD; replace hO := hO.mono hleD; replace hP := hP.mono hleD; replace hS := hS.mono hleD; replace hp38 := hp38.mono hleD; replace hpR := hpR.mono hleD; replace hdR := hdR.mono hleD; replace hpV2 := hpV2.mono hleD; replace hle0 := hle0.trans hleD; refine withP_cons rfl rfl ?_; rintro _ ⟨a59, c59, rfl, hsl59, hcap59⟩; refine withP_cons rfl rfl ?_; rintro _ ⟨bs61, rfl, hsl61⟩; refine withP_cons rfl rfl ?_; rintro _ rfl; refine withP_nil rfl ?_; refine XO.guardT rfl rfl (rfl) rfl ?_; refine XO.appendP rfl hsl59 rfl rfl hsl61 rfl (by exact hcap59) Try.underlying26 ty_3 ze_3 rfl by_3 (by simp; omega) rfl (fun HA62 aA62 cA62 hleA62 hsA62 => ?_); replace hH := hH.mono hleA62; replace hs := hs.mono hleA62; replace hbj := hbj.mono hleA62; replace hby := hby.mono hleA62; replace hbe := hbe.mono hleA62; replace hbc := hbc.mono hleA62; replace hj := hj.mono hleA62; replace hB := hB.mono hleA62; replace hO := hO.mono hleA62; replace hP := hP.mono hleA62; replace hS := hS.mono hleA62; replace hp38 := hp38.mono hleA62; replace hpR := hpR.mono hleA62; replace hdR := hdR.mono hleA62; replace hpV2 := hpV2.mono hleA62; replace hsl59 := hsl59.mono hleA62; replace hsl61 := hsl61.mono hleA62; replace hle0 := hle0.trans hleA62; refine XO.nil ?_
      exact stepQN_ok rfl trivial (⟨_, _, rfl, hsA62⟩)
     refine stepsH_cons rfl ?_ ?_
     ·intro X ext HD hleD _
      replace hH := hH.mono hleD; replace hs := hs.mono hleD; replace hbj := hbj.mono hleD; replace hby := hby.mono hleD; replace hbe := hbe.mono hleD; replace hbc := hbc.mono hleD; replace hj := hj.mono hleD; replace hB := hB.mono hleD; replace hO := hO.mono hleD; replace hP := hP.mono hleD; replace hS := hS.mono hleD; replace hp38 := hp38.mono hleD; replace hpR := hpR.mono hleD; replace hdR := hdR.mono hleD; replace hpV2 := hpV2.mono hleD; replace hle0 := hle0.trans hleD; refine withP_cons rfl rfl ?_; rintro _ rfl; refine withP_nil rfl ?_; refine XO.guardT rfl rfl (rfl) rfl ?_; refine XO.move rfl rfl ?_; refine XO.nil ?_; exact stepQN_ok rfl trivial (rfl)
     refine stepsH_cons rfl ?_ ?_
     ·intro X ext HD hleD _
      replace hH := hH.mono hleD; replace hs := hs.mono hleD; replace hbj := hbj.mono hleD; replace hby := hby.mono hleD; replace hbe := hbe.mono hleD; replace hbc := hbc.mono hleD; replace hj := hj.mono hleD; replace hB := hB.mono hleD; replace hO := hO.mono hleD; replace hP := hP.mono hleD; replace hS := hS.mono hleD; replace hp38 := hp38.mono hleD; replace hpR := hpR.mono hleD; replace hdR := hdR.mono hleD; replace hpV2 := hpV2.mono hleD; replace hle0 := hle0.trans hleD; refine withP_cons rfl rfl ?_; rintro _ rfl; refine withP_cons rfl rfl ?_; rintro _ rfl; refine withP_nil rfl ?_; refine XO.guardT rfl rfl (rfl) rfl ?_; refine XO.add (c := ((f + i + 1 : Nat) : Int)) rfl rfl ((wrap_i64 (by omega) (by omega)).trans (by omega)) rfl ?_; refine XO.nil ?_; exact stepQN_ok rfl trivial (rfl)
     exact stepsH_end rfl
    case tail6 =>
     intro HD hleD _
     replace hH := hH.mono hleD; replace hs := hs.mono hleD; replace hbj := hbj.mono hleD; replace hby := hby.mono hleD; replace hbe := hbe.mono hleD; replace hbc := hbc.mono hleD; replace hj := hj.mono hleD; replace hB := hB.mono hleD; replace hO := hO.mono hleD; replace hP := hP.mono hleD; replace hS := hS.mono hleD; replace hp38 := hp38.mono hleD; replace hpR := hpR.mono hleD; replace hdR := hdR.mono hleD; replace hpV2 := hpV2.mono hleD; replace hle0 := hle0.trans hleD; refine withP_cons rfl rfl ?_; rintro _ rfl; refine withP_cons rfl rfl ?_; rintro _ rfl; refine withP_cons rfl rfl ?_; rintro _ rfl; refine withP_cons rfl rfl ?_; rintro _ rfl; refine withP_cons rfl rfl ?_; rintro _ rfl; refine withP_cons rfl rfl ?_; rintro _ rfl; refine withP_cons rfl rfl ?_; rintro _ rfl; refine withP_cons rfl rfl ?_; rintro _ rfl; refine withP_cons rfl rfl ?_; rintro _ rfl; refine withP_cons rfl rfl ?_; rintro _ rfl; refine withP_cons rfl rfl ?_; rintro _ rfl; refine withP_cons rfl rfl ?_; rintro _ rfl; refine withP_cons rfl rfl ?_; rintro _ rfl; refine withP_cons rfl rfl ?_; rintro _ rfl; refine withP_cons rfl rfl ?_; rintro _ rfl; refine withP_cons rfl rfl ?_; rintro _ rfl; refine withP_cons rfl rfl ?_; rintro _ rfl; refine withP_cons rfl rfl ?_; rintro _ rfl; refine withP_cons rfl rfl ?_; rintro _ rfl; refine withP_cons rfl rfl ?_; rintro _ ⟨a59, c59, rfl, hsl59, hcap59⟩; refine withP_cons rfl rfl ?_; rintro _ rfl; refine withP_cons rfl rfl ?_; rintro _ ⟨bs61, rfl, hsl61⟩; refine withP_cons rfl rfl ?_; rintro _ ⟨a62, c62, rfl, hsl62⟩; refine withP_cons rfl rfl ?_; rintro _ rfl; refine withP_cons rfl rfl ?_; rintro _ rfl; refine withP_nil rfl ?_; refine withEnts_nil ?_; refine XO.guardT rfl rfl (rfl) rfl ?_
     rw [if_neg (by decide)] at hsplit
     have hxs3 : xs = (pre ++ U) ++ (preL (l ++ [((y : Nat) : Int)]) (comb (badR r) k (pr.drop (f + i + 1))) ++ (preL l (comb (badR r) (k + 1) (pr.drop (f + i + 1))) ++ post)) := by rw [hxs, hU, hsplit]; simp only [List.append_assoc]
     refine XO.callVal [] rfl trivial rfl (FnV.of_fn (cap := [.pointer (some ⟨bjc, 0, none⟩), .pointer (some ⟨bY, 0, none⟩), .pointer (some ⟨be, 0, none⟩), .pointer (some ⟨bc, 0, none⟩)]) (args := [_, _]) (ih k (by omega) (l ++ [((y : Nat) : Int)]) (f + i + 1) (pre ++ U) (preL l (comb (badR r) (k + 1) (pr.drop (f + i + 1))) ++ post) _ _ oc _ hH (by omega) (by simp; omega) hxs3 hsl62 hS)) rfl rfl ?_; rintro _ HC oC hleC (⟨rfl, hS2⟩ | ⟨rfl, hK⟩)
     ·skip
      replace hH := hH.mono hleC; replace hs := hs.mono hleC; replace hbj := hbj.mono hleC; replace hby := hby.mono hleC; replace hbe := hbe.mono hleC; replace hbc := hbc.mono hleC; replace hj := hj.mono hleC; replace hB := hB.mono hleC; replace hO := hO.mono hleC; replace hP := hP.mono hleC; replace hS := hS.mono hleC; replace hp38 := hp38.mono hleC; replace hpR := hpR.mono hleC; replace hdR := hdR.mono hleC; replace hpV2 := hpV2.mono hleC; replace hsl59 := hsl59.mono hleC; replace hsl61 := hsl61.mono hleC; replace hsl62 := hsl62.mono hleC; replace hle0 := hle0.trans hleC; refine XO.guardT rfl rfl (rfl) rfl ?_; refine XO.notB rfl rfl ?_; refine XO.pickT rfl (rfl) rfl rfl ?_; refine XO.nil ?_; refine XC.seq2 ?_; refine XC.condF rfl (rfl) ?_; refine XC.skip ?_; refine blockN ?_; refine XC.seq2 ?_; refine XC.region ?_; refine XO.move rfl rfl ?_; refine XO.add rfl rfl (wrap_i64 (by omega) (by omega)) rfl ?_; refine XO.assign rfl rfl ?_; refine XO.nil ?_; refine loop_next ((i + 1, U ++ preL (l ++ [((y : Nat) : Int)]) (comb (badR r) k (pr.drop (f + i + 1))), oC)) (by show (pr.length - f) - (i + 1) < (pr.length - f) - i; omega) (prov_cons (rfl) (prov_cons (rfl) (prov_cons (rfl) (prov_cons (rfl) (prov_cons (rfl) prov_nil))))) (⟨by show i + 1 ≤ (pr.length - f); omega, rfl, by first | (rw [hU, hsplit, List.append_assoc]; rfl) | (rw [hU, hsplit, if_pos rfl, List.nil_append]; rfl), by first | (rw [← List.append_assoc]; exact hS2) | exact hS⟩) (by repeat (first | exact List.Sublist.refl _ | apply List.Sublist.cons_cons | apply List.Sublist.cons)) (hle0)
     ·skip
      replace hH := hH.mono hleC; replace hs := hs.mono hleC; replace hbj := hbj.mono hleC; replace hby := hby.mono hleC; replace hbe := hbe.mono hleC; replace hbc := hbc.mono hleC; replace hj := hj.mono hleC; replace hB := hB.mono hleC; replace hO := hO.mono hleC; replace hP := hP.mono hleC; replace hS := hS.mono hleC; replace hp38 := hp38.mono hleC; replace hpR := hpR.mono hleC; replace hdR := hdR.mono hleC; replace hpV2 := hpV2.mono hleC; replace hsl59 := hsl59.mono hleC; replace hsl61 := hsl61.mono hleC; replace hsl62 := hsl62.mono hleC; replace hle0 := hle0.trans hleC; refine XO.guardT rfl rfl (rfl) rfl ?_; refine XO.notB rfl rfl ?_; refine XO.pickT rfl (rfl) rfl rfl ?_; refine XO.nil ?_; refine XC.seq2 ?_; refine XC.condT rfl (rfl) ?_; refine XC.seq ?_; refine XC.region ?_; refine XO.assign rfl rfl ?_; refine XO.nil ?_; refine XC.seq2 ?_; refine XC.ret ?_; refine blockR ?_; refine seqX_ret ?_; refine loopX_ret ?_; refine blockR ?_; refine seqX_ret ?_; refine ⟨rfl, _, oC, rfl, (by repeat (first | exact List.Sublist.refl _ | apply List.Sublist.cons_cons | apply List.Sublist.cons)), RetR.mk ?_⟩
      exact Or.inr ⟨rfl, hK⟩
   ·skip
    refine XC.keep [0, 2, 4, 5, 9, 10] rfl ?_; obtain ⟨bEhB, oEhB, rfl⟩ := hB.addr (by omega); obtain ⟨_, xR, hxR, ⟨axR, cxR, rfl, hdR⟩, hpR⟩ := hB.elem e (by omega); obtain rfl := Option.some.inj (hr.symm.trans hxR); obtain ⟨bEV2, oEV2, rfl⟩ := hdR.addr (by omega); obtain ⟨_, xV2, hxV2, rfl, hpV2⟩ := hdR.elem (y) (by omega); obtain rfl := Option.some.inj (hxV.symm.trans hxV2)
    apply XC.drawH (fun _ => True) trivial [] (by decide) (fun _ _ _ _ => True) (fun _ _ _ _ _ _ h => h) 25 [eqF _, eqF _, eqF _, eqF _, eqF _, eqF _, eqF _, eqF _, eqF _, eqF _, eqF _, eqF _, eqF _, eqF _, eqF _, eqF _, eqF _, eqF _, eqF _, eqF _, eqF _, eqF _, eqF _, eqF _, eqF _] follows (by kernel_rfl) ⟨eqF_mono _, eqF_mono _, eqF_mono _, eqF_mono _, eqF_mono _, eqF_mono _, eqF_mono _, eqF_mono _, eqF_mono _, eqF_mono _, eqF_mono _, eqF_mono _, eqF_mono _, eqF_mono _, eqF_mono _, eqF_mono _, eqF_mono _, eqF_mono _, eqF_mono _, eqF_mono _, eqF_mono _, eqF_mono _, eqF_mono _, eqF_mono _, eqF_mono _, trivial⟩ (by decide) ?steps11 ?tail11
    case steps11 =>
     refine stepsH_cons rfl ?_ ?_
     ·intro X ext HD hleD _
      replace hH := hH.mono hleD; replace hs := hs.mono hleD; replace hbj := hbj.mono hleD; replace hby := hby.mono hleD; replace hbe := hbe.mono hleD; replace hbc := hbc.mono hleD; replace hj := hj.mono hleD; replace hB := hB.mono hleD; replace hO := hO.mono hleD; replace hP := hP.mono hleD; replace hS := hS.mono hleD; replace hp38 := hp38.mono hleD; replace hpR := hpR.mono hleD; replace hdR := hdR.mono hleD; replace hpV2 := hpV2.mono hleD; replace hle0 := hle0.trans hleD; refine withP_nil rfl ?_; refine XO.loadH rfl (by assumption) ty_52 rfl rfl rfl ?_; refine XO.nil ?_; exact stepQN_ok rfl trivial (rfl)
     refine stepsH_cons rfl ?_ ?_
     ·intro X ext HD hleD _
      replace hH := hH.mono hleD; replace hs := hs.mono hleD; replace hbj := hbj.mono hleD; replace hby := hby.mono hleD; replace hbe := hbe.mono hleD; replace hbc := hbc.mono hleD; replace hj := hj.mono hleD; replace hB := hB.mono hleD; replace hO := hO.mono hleD; replace hP := hP.mono hleD; replace hS := hS.mono hleD; replace hp38 := hp38.mono hleD; replace hpR := hpR.mono hleD; replace hdR := hdR.mono hleD; replace hpV2 := hpV2.mono hleD; replace hle0 := hle0.trans hleD; refine withP_cons rfl rfl ?_; rintro _ rfl; refine withP_nil rfl ?_; refine XO.nilCheckP rfl rfl ?_; refine XO.nil ?_; exact stepQN_ok rfl trivial (rfl)
     refine stepsH_cons rfl ?_ ?_
     ·intro X ext HD hleD _
      replace hH := hH.mono hleD; replace hs := hs.mono hleD; replace hbj := hbj.mono hleD; replace hby := hby.mono hleD; replace hbe := hbe.mono hleD; replace hbc := hbc.mono hleD; replace hj := hj.mono hleD; replace hB := hB.mono hleD; replace hO := hO.mono hleD; replace hP := hP.mono hleD; replace hS := hS.mono hleD; replace hp38 := hp38.mono hleD; replace hpR := hpR.mono hleD; replace hdR := hdR.mono hleD; replace hpV2 := hpV2.mono hleD; replace hle0 := hle0.trans hleD; refine withP_cons rfl rfl ?_; rintro _ rfl; refine withP_nil rfl ?_; refine XO.fieldAddr rfl fa_70_0 rfl ?_; refine XO.nil ?_; exact stepQN_ok rfl trivial (rfl)
     refine stepsH_cons rfl ?_ ?_
     ·intro X ext HD hleD _
      replace hH := hH.mono hleD; replace hs := hs.mono hleD; replace hbj := hbj.mono hleD; replace hby := hby.mono hleD; replace hbe := hbe.mono hleD; replace hbc := hbc.mono hleD; replace hj := hj.mono hleD; replace hB := hB.mono hleD; replace hO := hO.mono hleD; replace hP := hP.mono hleD; replace hS := hS.mono hleD; replace hp38 := hp38.mono hleD; replace hpR := hpR.mono hleD; replace hdR := hdR.mono hleD; replace hpV2 := hpV2.mono hleD; replace hle0 := hle0.trans hleD; refine withP_cons rfl rfl ?_; rintro _ rfl; refine withP_nil rfl ?_; refine XO.fieldAddr rfl fa_24_3 rfl ?_; refine XO.nil ?_; exact stepQN_ok rfl trivial (rfl)
     refine stepsH_cons rfl ?_ ?_
     ·intro X ext HD hleD _
      replace hH := hH.mono hleD; replace hs := hs.mono hleD; replace hbj := hbj.mono hleD; replace hby := hby.mono hleD; replace hbe := hbe.mono hleD; replace hbc := hbc.mono hleD; replace hj := hj.mono hleD; replace hB := hB.mono hleD; replace hO := hO.mono hleD; replace hP := hP.mono hleD; replace hS := hS.mono hleD; replace hp38 := hp38.mono hleD; replace hpR := hpR.mono hleD; replace hdR := hdR.mono hleD; replace hpV2 := hpV2.mono hleD; replace hle0 := hle0.trans hleD; refine withP_cons rfl rfl ?_; rintro _ rfl; refine withP_nil rfl ?_; refine XO.loadHF rfl (by assumption) ty_22 rfl rfl rfl ?_; refine XO.nil ?_; exact stepQN_ok rfl trivial (rfl)
     refine stepsH_cons rfl ?_ ?_
     ·intro X ext HD hleD _
      replace hH := hH.mono hleD; replace hs := hs.mono hleD; replace hbj := hbj.mono hleD; replace hby := hby.mono hleD; replace hbe := hbe.mono hleD; replace hbc := hbc.mono hleD; replace hj := hj.mono hleD; replace hB := hB.mono hleD; replace hO := hO.mono hleD; replace hP := hP.mono hleD; replace hS := hS.mono hleD; replace hp38 := hp38.mono hleD; replace hpR := hpR.mono hleD; replace hdR := hdR.mono hleD; replace hpV2 := hpV2.mono hleD; replace hle0 := hle0.trans hleD; refine withP_nil rfl ?_; refine XO.loadH rfl (by assumption) ty_3 rfl rfl rfl ?_; refine XO.nil ?_; exact stepQN_ok rfl trivial (rfl)
     refine stepsH_cons rfl ?_ ?_
     ·intro X ext HD hleD _
      replace hH := hH.mono hleD; replace hs := hs.mono hleD; replace hbj := hbj.mono hleD; replace hby := hby.mono hleD; replace hbe := hbe.mono hleD; replace hbc := hbc.mono hleD; replace hj := hj.mono hleD; replace hB := hB.mono hleD; replace hO := hO.mono hleD; replace hP := hP.mono hleD; replace hS := hS.mono hleD; replace hp38 := hp38.mono hleD; replace hpR := hpR.mono hleD; replace hdR := hdR.mono hleD; replace hpV2 := hpV2.mono hleD; replace hle0 := hle0.trans hleD; refine withP_cons rfl rfl ?_; rintro _ rfl; refine withP_cons rfl rfl ?_; rintro _ rfl; refine withP_nil rfl ?_; refine XO.indexE rfl rfl Try.underlying22 ty_68 (by omega) (by omega) rfl ?_; refine XO.nil ?_; exact stepQN_ok rfl trivial (rfl)
     refine stepsH_cons rfl ?_ ?_
     ·intro X ext HD hleD _
      replace hH := hH.mono hleD; replace hs := hs.mono hleD; replace hbj := hbj.mono hleD; replace hby := hby.mono hleD; replace hbe := hbe.mono hleD; replace hbc := hbc.mono hleD; replace hj := hj.mono hleD; replace hB := hB.mono hleD; replace hO := hO.mono hleD; replace hP := hP.mono hleD; replace hS := hS.mono hleD; replace hp38 := hp38.mono hleD; replace hpR := hpR.mono hleD; replace hdR := hdR.mono hleD; replace hpV2 := hpV2.mono hleD; replace hle0 := hle0.trans hleD; refine withP_cons rfl rfl ?_; rintro _ rfl; refine withP_nil rfl ?_; refine XO.loadH rfl (by assumption) ty_68 rfl rfl rfl ?_; refine XO.nil ?_; exact stepQN_ok rfl trivial (rfl)
     refine stepsH_cons rfl ?_ ?_
     ·intro X ext HD hleD _
      replace hH := hH.mono hleD; replace hs := hs.mono hleD; replace hbj := hbj.mono hleD; replace hby := hby.mono hleD; replace hbe := hbe.mono hleD; replace hbc := hbc.mono hleD; replace hj := hj.mono hleD; replace hB := hB.mono hleD; replace hO := hO.mono hleD; replace hP := hP.mono hleD; replace hS := hS.mono hleD; replace hp38 := hp38.mono hleD; replace hpR := hpR.mono hleD; replace hdR := hdR.mono hleD; replace hpV2 := hpV2.mono hleD; replace hle0 := hle0.trans hleD; refine withP_nil rfl ?_; refine XO.move rfl rfl ?_; refine XO.nil ?_; exact stepQN_ok rfl trivial (rfl)
     refine stepsH_cons rfl ?_ ?_
     ·intro X ext HD hleD _
      replace hH := hH.mono hleD; replace hs := hs.mono hleD; replace hbj := hbj.mono hleD; replace hby := hby.mono hleD; replace hbe := hbe.mono hleD; replace hbc := hbc.mono hleD; replace hj := hj.mono hleD; replace hB := hB.mono hleD; replace hO := hO.mono hleD; replace hP := hP.mono hleD; replace hS := hS.mono hleD; replace hp38 := hp38.mono hleD; replace hpR := hpR.mono hleD; replace hdR := hdR.mono hleD; replace hpV2 := hpV2.mono hleD; replace hle0 := hle0.trans hleD; refine withP_cons rfl rfl ?_; rintro _ rfl; refine withP_cons rfl rfl ?_; rintro _ rfl; refine withP_nil rfl ?_; refine XO.indexE rfl rfl Try.underlying68 ty_4 (by omega) (by omega) rfl ?_; refine XO.nil ?_; exact stepQN_ok rfl trivial (rfl)
     refine stepsH_cons rfl ?_ ?_
     ·intro X ext HD hleD _
      replace hH := hH.mono hleD; replace hs := hs.mono hleD; replace hbj := hbj.mono hleD; replace hby := hby.mono hleD; replace hbe := hbe.mono hleD; replace hbc := hbc.mono hleD; replace hj := hj.mono hleD; replace hB := hB.mono hleD; replace hO := hO.mono hleD; replace hP := hP.mono hleD; replace hS := hS.mono hleD; replace hp38 := hp38.mono hleD; replace hpR := hpR.mono hleD; replace hdR := hdR.mono hleD; replace hpV2 := hpV2.mono hleD; replace hle0 := hle0.trans hleD; refine withP_cons rfl rfl ?_; rintro _ rfl; refine withP_nil rfl ?_; refine XO.loadH rfl (by assumption) ty_4 rfl rfl rfl ?_; refine XO.nil ?_; exact stepQN_ok rfl trivial (rfl)
     refine stepsH_cons rfl ?_ ?_
     ·intro X ext HD hleD _
      replace hH := hH.mono hleD; replace hs := hs.mono hleD; replace hbj := hbj.mono hleD; replace hby := hby.mono hleD; replace hbe := hbe.mono hleD; replace hbc := hbc.mono hleD; replace hj := hj.mono hleD; replace hB := hB.mono hleD; replace hO := hO.mono hleD; replace hP := hP.mono hleD; replace hS := hS.mono hleD; replace hp38 := hp38.mono hleD; replace hpR := hpR.mono hleD; replace hdR := hdR.mono hleD; replace hpV2 := hpV2.mono hleD; replace hle0 := hle0.trans hleD; refine withP_cons rfl rfl ?_; rintro _ rfl; refine withP_nil rfl ?_; refine XO.notB rfl rfl ?_; refine XO.nil ?_; exact stepQN_ok rfl trivial (rfl)
     refine stepsH_cons rfl ?_ ?_
     ·intro X ext HD hleD _
      replace hH := hH.mono hleD; replace hs := hs.mono hleD; replace hbj := hbj.mono hleD; replace hby := hby.mono hleD; replace hbe := hbe.mono hleD; replace hbc := hbc.mono hleD; replace hj := hj.mono hleD; replace hB := hB.mono hleD; replace hO := hO.mono hleD; replace hP := hP.mono hleD; replace hS := hS.mono hleD; replace hp38 := hp38.mono hleD; replace hpR := hpR.mono hleD; replace hdR := hdR.mono hleD; replace hpV2 := hpV2.mono hleD; replace hle0 := hle0.trans hleD; refine withP_cons rfl rfl ?_; rintro _ rfl; refine withP_nil rfl ?_; refine XO.move rfl rfl ?_; refine XO.nil ?_; exact stepQN_ok rfl trivial (rfl)
     refine stepsH_cons rfl ?_ ?_
     ·intro X ext HD hleD _
      replace hH := hH.mono hleD; replace hs := hs.mono hleD; replace hbj := hbj.mono hleD; replace hby := hby.mono hleD; replace hbe := hbe.mono hleD; replace hbc := hbc.mono hleD; replace hj := hj.mono hleD; replace hB := hB.mono hleD; replace hO := hO.mono hleD; replace hP := hP.mono hleD; replace hS := hS.mono hleD; replace hp38 := hp38.mono hleD; replace hpR := hpR.mono hleD; replace hdR := hdR.mono hleD; replace hpV2 := hpV2.mono hleD; replace hle0 := hle0.trans hleD; refine withP_cons rfl rfl ?_; rintro _ rfl; refine withP_nil rfl ?_; refine XO.guardF rfl rfl (rfl) rfl rfl ?_; refine XO.nil ?_; exact stepQN_ok rfl trivial (rfl)
     refine stepsH_cons rfl ?_ ?_
     ·intro X ext HD hleD _
      replace hH := hH.mono hleD; replace hs := hs.mono hleD; replace hbj := hbj.mono hleD; replace hby := hby.mono hleD; replace hbe := hbe.mono hleD; replace hbc := hbc.mono hleD; replace hj := hj.mono hleD; replace hB := hB.mono hleD; replace hO := hO.mono hleD; replace hP := hP.mono hleD; replace hS := hS.mono hleD; replace hp38 := hp38.mono hleD; replace hpR := hpR.mono hleD; replace hdR := hdR.mono hleD; replace hpV2 := hpV2.mono hleD; replace hle0 := hle0.trans hleD; refine withP_cons rfl rfl ?_; rintro _ rfl; refine withP_nil rfl ?_; refine XO.guardF rfl rfl (rfl) rfl rfl ?_; refine XO.nil ?_; exact stepQN_ok rfl trivial (rfl)
     refine stepsH_cons rfl ?_ ?_
     ·intro X ext HD hleD _
      replace hH := hH.mono hleD; replace hs := hs.mono hleD; replace hbj := hbj.mono hleD; replace hby := hby.mono hleD; replace hbe := hbe.mono hleD; replace hbc := hbc.mono hleD; replace hj := hj.mono hleD; replace hB := hB.mono hleD; replace hO := hO.mono hleD; replace hP := hP.mono hleD; replace hS := hS.mono hleD; replace hp38 := hp38.mono hleD; replace hpR := hpR.mono hleD; replace hdR := hdR.mono hleD; replace hpV2 := hpV2.mono hleD; replace hle0 := hle0.trans hleD; refine withP_cons rfl rfl ?_; rintro _ rfl; refine withP_nil rfl ?_; refine XO.guardF rfl rfl (rfl) rfl rfl ?_; refine XO.nil ?_; exact stepQN_ok rfl trivial (rfl)
     refine stepsH_cons rfl ?_ ?_
     ·intro X ext HD hleD _
      replace hH := hH.mono hleD; replace hs := hs.mono hleD; replace hbj := hbj.mono hleD; replace hby := hby.mono hleD; replace hbe := hbe.mono hleD; replace hbc := hbc.mono hleD; replace hj := hj.mono hleD; replace hB := hB.mono hleD; replace hO := hO.mono hleD; replace hP := hP.mono hleD; replace hS := hS.mono hleD; replace hp38 := hp38.mono hleD; replace hpR := hpR.mono hleD; replace hdR := hdR.mono hleD; replace hpV2 := hpV2.mono hleD; replace hle0 := hle0.trans hleD; refine withP_cons rfl rfl ?_; rintro _ rfl; refine withP_cons rfl rfl ?_; rintro _ rfl; refine withP_nil rfl ?_; refine XO.guardF rfl rfl (rfl) rfl rfl ?_; refine XO.nil ?_; exact stepQN_ok rfl trivial (rfl)
     refine stepsH_cons rfl ?_ ?_
     ·intro X ext HD hleD _
      replace hH := hH.mono hleD; replace hs := hs.mono hleD; replace hbj := hbj.mono hleD; replace hby := hby.mono hleD; replace hbe := hbe.mono hleD; replace hbc := hbc.mono hleD; replace hj := hj.mono hleD; replace hB := hB.mono hleD; replace hO := hO.mono hleD; replace hP := hP.mono hleD; replace hS := hS.mono hleD; replace hp38 := hp38.mono hleD; replace hpR := hpR.mono hleD; replace hdR := hdR.mono hleD; replace hpV2 := hpV2.mono hleD; replace hle0 := hle0.trans hleD; refine withP_cons rfl rfl ?_; rintro _ rfl; refine withP_nil rfl ?_; refine XO.guardF rfl rfl (rfl) rfl rfl ?_; refine XO.nil ?_; exact stepQN_ok rfl trivial (rfl)
     refine stepsH_cons rfl ?_ ?_
     ·intro X ext HD hleD _
      replace hH := hH.mono hleD; replace hs := hs.mono hleD; replace hbj := hbj.mono hleD; replace hby := hby.mono hleD; replace hbe := hbe.mono hleD; replace hbc := hbc.mono hleD; replace hj := hj.mono hleD; replace hB := hB.mono hleD; replace hO := hO.mono hleD; replace hP := hP.mono hleD; replace hS := hS.mono hleD; replace hp38 := hp38.mono hleD; replace hpR := hpR.mono hleD; replace hdR := hdR.mono hleD; replace hpV2 := hpV2.mono hleD; replace hle0 := hle0.trans hleD; refine withP_cons rfl rfl ?_; rintro _ rfl; refine withP_cons rfl rfl ?_; rintro _ rfl; refine withP_nil rfl ?_; refine XO.guardF rfl rfl (rfl) rfl rfl ?_; refine XO.nil ?_; exact stepQN_ok rfl trivial (rfl)
     refine stepsH_cons rfl ?_ ?_
     ·intro X ext HD hleD _
      replace hH := hH.mono hleD; replace hs := hs.mono hleD; replace hbj := hbj.mono hleD; replace hby := hby.mono hleD; replace hbe := hbe.mono hleD; replace hbc := hbc.mono hleD; replace hj := hj.mono hleD; replace hB := hB.mono hleD; replace hO := hO.mono hleD; replace hP := hP.mono hleD; replace hS := hS.mono hleD; replace hp38 := hp38.mono hleD; replace hpR := hpR.mono hleD; replace hdR := hdR.mono hleD; replace hpV2 := hpV2.mono hleD; replace hle0 := hle0.trans hleD; refine withP_cons rfl rfl ?_; rintro _ rfl; refine withP_cons rfl rfl ?_; rintro _ rfl; refine withP_cons rfl rfl ?_; rintro _ rfl; refine withP_cons rfl rfl ?_; rintro _ rfl; refine withP_nil rfl ?_; refine XO.guardF rfl rfl (rfl) rfl rfl ?_; refine XO.nil ?_; exact stepQN_ok rfl trivial (rfl)
     refine stepsH_cons rfl ?_ ?_
     ·intro X ext HD hleD _
      replace hH := hH.mono hleD; replace hs := hs.mono hleD; replace hbj := hbj.mono hleD; replace hby := hby.mono hleD; replace hbe := hbe.mono hleD; replace hbc := hbc.mono hleD; replace hj := hj.mono hleD; replace hB := hB.mono hleD; replace hO := hO.mono hleD; replace hP := hP.mono hleD; replace hS := hS.mono hleD; replace hp38 := hp38.mono hleD; replace hpR := hpR.mono hleD; replace hdR := hdR.mono hleD; replace hpV2 := hpV2.mono hleD; replace hle0 := hle0.trans hleD; refine withP_cons rfl rfl ?_; rintro _ rfl; refine withP_nil rfl ?_; refine XO.guardF rfl rfl (rfl) rfl rfl ?_; refine XO.nil ?_; exact stepQN_ok rfl trivial (rfl)
     refine stepsH_cons rfl ?_ ?_
     ·intro X ext HD hleD _
      replace hH := hH.mono hleD; replace hs := hs.mono hleD; replace hbj := hbj.mono hleD; replace hby := hby.mono hleD; replace hbe := hbe.mono hleD; replace hbc := hbc.mono hleD; replace hj := hj.mono hleD; replace hB := hB.mono hleD; replace hO := hO.mono hleD; replace hP := hP.mono hleD; replace hS := hS.mono hleD; replace hp38 := hp38.mono hleD; replace hpR := hpR.mono hleD; replace hdR := hdR.mono hleD; replace hpV2 := hpV2.mono hleD; replace hle0 := hle0.trans hleD; refine withP_cons rfl rfl ?_; rintro _ rfl; refine withP_cons rfl rfl ?_; rintro _ rfl; refine withP_nil rfl ?_; refine XO.guardF rfl rfl (rfl) rfl rfl ?_; refine XO.nil ?_; exact stepQN_ok rfl trivial (rfl)
     refine stepsH_cons rfl ?_ ?_
     ·intro X ext HD hleD _
      replace hH := hH.mono hleD; replace hs := hs.mono hleD; replace hbj := hbj.mono hleD; replace hby := hby.mono hleD; replace hbe := hbe.mono hleD; replace hbc := hbc.mono hleD; replace hj := hj.mono hleD; replace hB := hB.mono hleD; replace hO := hO.mono hleD; replace hP := hP.mono hleD; replace hS := hS.mono hleD; replace hp38 := hp38.mono hleD; replace hpR := hpR.mono hleD; replace hdR := hdR.mono hleD; replace hpV2 := hpV2.mono hleD; replace hle0 := hle0.trans hleD; refine withP_cons rfl rfl ?_; rintro _ rfl; refine withP_cons rfl rfl ?_; rintro _ rfl; refine withP_cons rfl rfl ?_; rintro _ rfl; refine withP_nil rfl ?_; refine XO.guardF rfl rfl (rfl) rfl rfl ?_; refine XO.nil ?_; exact stepQN_ok rfl trivial (rfl)
     refine stepsH_cons rfl ?_ ?_
     ·intro X ext HD hleD _
      replace hH := hH.mono hleD; replace hs := hs.mono hleD; replace hbj := hbj.mono hleD; replace hby := hby.mono hleD; replace hbe := hbe.mono hleD; replace hbc := hbc.mono hleD; replace hj := hj.mono hleD; replace hB := hB.mono hleD; replace hO := hO.mono hleD; replace hP := hP.mono hleD; replace hS := hS.mono hleD; replace hp38 := hp38.mono hleD; replace hpR := hpR.mono hleD; replace hdR := hdR.mono hleD; replace hpV2 := hpV2.mono hleD; replace hle0 := hle0.trans hleD; refine withP_cons rfl rfl ?_; rintro _ rfl; refine withP_nil rfl ?_; refine XO.guardF rfl rfl (rfl) rfl rfl ?_; refine XO.nil ?_; exact stepQN_ok rfl trivial (rfl)
     refine stepsH_cons rfl ?_ ?_
     ·intro X ext HD hleD _
      replace hH := hH.mono hleD; replace hs := hs.mono hleD; replace hbj := hbj.mono hleD; replace hby := hby.mono hleD; replace hbe := hbe.mono hleD; replace hbc := hbc.mono hleD; replace hj := hj.mono hleD; replace hB := hB.mono hleD; replace hO := hO.mono hleD; replace hP := hP.mono hleD; replace hS := hS.mono hleD; replace hp38 := hp38.mono hleD; replace hpR := hpR.mono hleD; replace hdR := hdR.mono hleD; replace hpV2 := hpV2.mono hleD; replace hle0 := hle0.trans hleD; refine withP_cons rfl rfl ?_; rintro _ rfl; refine withP_cons rfl rfl ?_; rintro _ rfl; refine withP_nil rfl ?_; refine XO.guardF rfl rfl (rfl) rfl rfl ?_; refine XO.nil ?_; exact stepQN_ok rfl trivial (rfl)
     exact stepsH_end rfl
    case tail11 =>
     intro HD hleD _
     replace hH := hH.mono hleD; replace hs := hs.mono hleD; replace hbj := hbj.mono hleD; replace hby := hby.mono hleD; replace hbe := hbe.mono hleD; replace hbc := hbc.mono hleD; replace hj := hj.mono hleD; replace hB := hB.mono hleD; replace hO := hO.mono hleD; replace hP := hP.mono hleD; replace hS := hS.mono hleD; replace hp38 := hp38.mono hleD; replace hpR := hpR.mono hleD; replace hdR := hdR.mono hleD; replace hpV2 := hpV2.mono hleD; replace hle0 := hle0.trans hleD; refine withP_cons rfl rfl ?_; rintro _ rfl; refine withP_cons rfl rfl ?_; rintro _ rfl; refine withP_cons rfl rfl ?_; rintro _ rfl; refine withP_cons rfl rfl ?_; rintro _ rfl; refine withP_cons rfl rfl ?_; rintro _ rfl; refine withP_cons rfl rfl ?_; rintro _ rfl; refine withP_cons rfl rfl ?_; rintro _ rfl; refine withP_cons rfl rfl ?_; rintro _ rfl; refine withP_cons rfl rfl ?_; rintro _ rfl; refine withP_cons rfl rfl ?_; rintro _ rfl; refine withP_cons rfl rfl ?_; rintro _ rfl; refine withP_cons rfl rfl ?_; rintro _ rfl; refine withP_cons rfl rfl ?_; rintro _ rfl; refine withP_cons rfl rfl ?_; rintro _ rfl; refine withP_cons rfl rfl ?_; rintro _ rfl; refine withP_cons rfl rfl ?_; rintro _ rfl; refine withP_cons rfl rfl ?_; rintro _ rfl; refine withP_cons rfl rfl ?_; rintro _ rfl; refine withP_cons rfl rfl ?_; rintro _ rfl; refine withP_cons rfl rfl ?_; rintro _ rfl; refine withP_cons rfl rfl ?_; rintro _ rfl; refine withP_cons rfl rfl ?_; rintro _ rfl; refine withP_cons rfl rfl ?_; rintro _ rfl; refine withP_cons rfl rfl ?_; rintro _ rfl; refine withP_cons rfl rfl ?_; rintro _ rfl; refine withP_nil rfl ?_; refine withEnts_nil ?_; refine XO.guardF rfl rfl (rfl) rfl rfl ?_; refine XO.guardF rfl rfl (rfl) rfl rfl ?_; refine XO.pickF rfl (rfl) rfl rfl ?_; refine XO.nil ?_; refine XC.seq2 ?_; refine XC.condF rfl (rfl) ?_; refine XC.skip ?_; refine blockN ?_; refine XC.seq2 ?_; refine XC.region ?_; refine XO.move rfl rfl ?_; refine XO.add rfl rfl (wrap_i64 (by omega) (by omega)) rfl ?_; refine XO.assign rfl rfl ?_; refine XO.nil ?_; refine loop_next ((i + 1, U, oc)) (by show (pr.length - f) - (i + 1) < (pr.length - f) - i; omega) (prov_cons (rfl) (prov_cons (rfl) (prov_cons (rfl) (prov_cons (rfl) (prov_cons (rfl) prov_nil))))) (⟨by show i + 1 ≤ (pr.length - f); omega, rfl, by first | (rw [hU, hsplit, List.append_assoc]; rfl) | (rw [hU, hsplit, if_pos rfl, List.nil_append]; rfl), by first | (rw [← List.append_assoc]; exact hS2) | exact hS⟩) (by repeat (first | exact List.Sublist.refl _ | apply List.Sublist.cons_cons | apply List.Sublist.cons)) (hle0)
  ·obtain rfl : i = pr.length - f := by omega
   rw [show f + (pr.length - f) = pr.length by omega, List.drop_length, comb, preL_nil, List.append_nil] at hU
   refine XC.exit ?_; refine seqX_exit ?_; refine loopX_exit ?_; refine blockHit rfl ?_; refine XC.seq2 ?_; refine XC.seq ?_; refine XC.region ?_; refine XO.assign rfl rfl ?_; refine XO.nil ?_; refine XC.seq2 ?_; refine XC.ret ?_; refine ⟨rfl, _, oc, rfl, (by repeat (first | exact List.Sublist.refl _ | apply List.Sublist.cons_cons | apply List.Sublist.cons)), RetR.mk ?_⟩
   exact Or.inl ⟨rfl, by rw [hU]; exact hS⟩

theorem each_fn (bj bjc be : Nat) (w : Wi) (old : Ls) (pr : List Int) (e n : Nat) (r : List Bool) (hr : w.B[e]? = some r) (hn : w.S = (n : Nat)) (hpr : ∀ x ∈ pr, 0 ≤ x ∧ x < r.length) (hpl : pr.length ≤ 1000) (hn1 : n ≤ 1000) (H : Hp) (hJ : JobH H bj w old pr) (hbj : PtH H bjc 0 [.pointer (some ⟨bj, 0, none⟩)]) (hbe : PtH H be 0 [.int .i64 (e : Nat)]) : SeqF Try.prog 55 [.pointer (some ⟨bjc, 0, none⟩), .pointer (some ⟨be, 0, none⟩)] H [] encI lendI (comb (badR r) n pr) := by
 intro g J K oc hy hS
 have hH : LeW H H := Le.refl H
 refine FnC.intro (args := [(.func g #[] #[]), .pointer (some ⟨bjc, 0, none⟩), .pointer (some ⟨be, 0, none⟩)]) Try.func55 rfl rfl Try.ntmps55 rfl rfl rfl fun G rest => ?_
 refine XC.seq ?_; refine XC.region ?_; refine XO.box rfl rfl rfl (fun b3 => ?_); refine XO.nil ?_; refine XC.seq2 ?_; refine XC.seq ?_; refine XC.region ?_; refine XO.alloc ze_66 rfl (fun b4 => ?_); refine XO.nil ?_; refine XC.seq2 ?_; refine XC.seq ?_; refine XC.region ?_; refine XO.makeFunc rfl rfl ?_; refine XO.storeO 0 rfl rfl rfl rfl ty_66 rfl rfl rfl rfl rfl ?_; refine XO.nil ?_; refine XC.seq2 ?_; refine XC.region ?_; refine XO.publish 1 rfl rfl rfl (fun HK3 oK3 hleK3 hbK3 hoK3 => ?_)
 have hpK3 := PtH.of_is hbK3 hoK3
 replace hH := hH.mono hleK3; replace hJ := hJ.mono hleK3; replace hbj := hbj.mono hleK3; replace hbe := hbe.mono hleK3; replace hS := hS.mono hleK3; refine XO.publish 0 rfl rfl rfl (fun HK4 oK4 hleK4 hbK4 hoK4 => ?_)
 have hpK4 := PtH.of_is hbK4 hoK4
 replace hH := hH.mono hleK4; replace hJ := hJ.mono hleK4; replace hbj := hbj.mono hleK4; replace hbe := hbe.mono hleK4; replace hS := hS.mono hleK4; replace hpK3 := hpK3.mono hleK4; refine XO.loadH rfl (by assumption) ty_66 rfl rfl rfl ?_; refine XO.callVal [] rfl trivial rfl (FnV.of_fn (cap := [.pointer (some ⟨bjc, 0, none⟩), .pointer (some ⟨b3, 0, none⟩), .pointer (some ⟨be, 0, none⟩), .pointer (some ⟨b4, 0, none⟩)]) (args := [_, _]) (from_all bj bjc b3 be b4 w old pr e n r hr hn hpr hpl hn1 (.func g #[] #[]) _ hJ hbj hpK3 hbe hpK4 (comb (badR r) n pr) J K (fun pre x post hx bx H1 ol o1 h1 h2 h3 => hy pre x post hx bx H1 ol o1 (Le.trans hH h1) h2 h3) n [] 0 [] [] none 0 oc _ (Le.refl _) (by omega) (by simp) (by simp [preL_one]) (SlR.nil0 _ _) hS)) rfl rfl ?_; rintro _ HC oC hleC (⟨rfl, hS2⟩ | ⟨rfl, hK⟩)
 ·skip
  replace hH := hH.mono hleC; replace hJ := hJ.mono hleC; replace hbj := hbj.mono hleC; replace hbe := hbe.mono hleC; replace hS := hS.mono hleC; replace hpK3 := hpK3.mono hleC; replace hpK4 := hpK4.mono hleC; refine XO.nil ?_; refine ⟨rfl, _, oC, rfl, (by repeat (first | exact List.Sublist.refl _ | apply List.Sublist.cons_cons | apply List.Sublist.cons)), RetR.mk ?_⟩
  exact ⟨rfl, [], oC, rfl, Or.inl (by simpa [preL_one] using hS2)⟩
 ·skip
  replace hH := hH.mono hleC; replace hJ := hJ.mono hleC; replace hbj := hbj.mono hleC; replace hbe := hbe.mono hleC; replace hS := hS.mono hleC; replace hpK3 := hpK3.mono hleC; replace hpK4 := hpK4.mono hleC; refine XO.nil ?_; refine ⟨rfl, _, oC, rfl, (by repeat (first | exact List.Sublist.refl _ | apply List.Sublist.cons_cons | apply List.Sublist.cons)), RetR.mk ?_⟩
  exact ⟨rfl, [], oC, rfl, Or.inr hK⟩

theorem lists_fn (bj : Nat) (w : Wi) (old : Ls) (pr : List Int) (e n : Nat) (r : List Bool) (hr : w.B[e]? = some r) (hn : w.S = (n : Nat)) (hpr : ∀ x ∈ pr, 0 ≤ x ∧ x < r.length) (hpl : pr.length ≤ 1000) (hn1 : n ≤ 1000) (H : Hp) (hJ : JobH H bj w old pr) : FnC Try.prog 43 #[.pointer (some ⟨bj, 0, none⟩), .int .i64 (e : Nat)] H [] (RetR (fun v H2 own => ∃ bjc be, v = .func (.func 55) #[] #[.pointer (some ⟨bjc, 0, none⟩), .pointer (some ⟨be, 0, none⟩)] ∧ SeqF Try.prog 55 [.pointer (some ⟨bjc, 0, none⟩), .pointer (some ⟨be, 0, none⟩)] H2 [] encI lendI (comb (badR r) n pr))) := by
 refine FnC.intro (args := [.pointer (some ⟨bj, 0, none⟩), .int .i64 (e : Nat)]) Try.func43 rfl rfl Try.ntmps43 rfl rfl rfl fun G rest => ?_
 refine XC.seq ?_; refine XC.region ?_; refine XO.box rfl rfl rfl (fun b2 => ?_); refine XO.box rfl rfl rfl (fun b3 => ?_); refine XO.assign rfl rfl ?_; refine XO.nil ?_; refine XC.seq2 ?_; refine XC.seq ?_; refine XC.region ?_; refine XO.publish 1 rfl rfl rfl (fun HK2 oK2 hleK2 hbK2 hoK2 => ?_)
 have hpK2 := PtH.of_is hbK2 hoK2
 replace hJ := hJ.mono hleK2; refine XO.publish 0 rfl rfl rfl (fun HK3 oK3 hleK3 hbK3 hoK3 => ?_)
 have hpK3 := PtH.of_is hbK3 hoK3
 replace hJ := hJ.mono hleK3; replace hpK2 := hpK2.mono hleK3; refine XO.makeFunc rfl rfl ?_; refine XO.assign rfl rfl ?_; refine XO.nil ?_; refine XC.seq2 ?_; refine XC.ret ?_; refine ⟨rfl, _, [], rfl, (by repeat (first | exact List.Sublist.refl _ | apply List.Sublist.cons)), RetR.mk ?_⟩
 exact ⟨b2, b3, rfl, each_fn bj b2 b3 w old pr e n r hr hn hpr hpl hn1 _ hJ hpK2 hpK3⟩

end Go.Proofs

/- Repairs: the search, denials, and what refutes, in plain Lean. -/
set_option autoImplicit false
set_option linter.unusedVariables false
set_option linter.unusedSimpArgs false
namespace Go.Proofs
open Go.XL
/-- the lists for an entry -/
def lstE (w : Wi) (pr : List Int) (e : Nat) : Ls := comb (badR (w.B.getD e [])) w.S.toNat pr
theorem lstE_at {w : Wi} {pr : List Int} {e n : Nat} {r : List Bool} (hr : w.B[e]? = some r) (hn : w.S = (n : Nat)) : lstE w pr e = comb (badR r) n pr := by
 unfold lstE; rw [List.getD_eq_getElem?_getD, hr, hn]; rfl
def findF (w : Wi) (old : Ls) (pr : List Int) (lim : Int) : Nat → Ls → Option Ls
 | 0, l => if whyW w old pr l lim = 0 then some l else none
 | d + 1, l => if whyW w old pr l lim = 0 then (lstE w pr l.length).findSome? fun x => findF w old pr lim d (l ++ [x]) else none
inductive Den where
 | mk (e y : Int) (k : List Den)
namespace Den
def E : Den → Int | mk e _ _ => e
def Y : Den → Int | mk _ y _ => y
def K : Den → List Den | mk _ _ k => k
end Den
def d0 : Den := .mk 0 0 []
mutual
def dsz : Den → Nat | .mk _ _ l => dszL l + 1
def dszL : List Den → Nat | [] => 0 | x :: r => dsz x + dszL r + 1
end
theorem dsz_mem {x : Den} : ∀ {l : List Den}, x ∈ l → dsz x < dszL l + 1
  | y :: r, h => by
    rw [dszL]
    rcases List.mem_cons.1 h with rfl | h
    · omega
    · have := dsz_mem h; omega
theorem dsz_lt {e y : Int} {l : List Den} {x : Den} (h : x ∈ l) : dsz x < dsz (.mk e y l) := by rw [dsz]; exact dsz_mem h
theorem Den.ind {motive : Den → Prop} (h : ∀ e y l, (∀ x ∈ l, motive x) → motive (.mk e y l)) : ∀ v, motive v := by
  have : ∀ (m : Nat) (v : Den), dsz v < m → motive v := by
    intro m
    induction m with
    | zero => intro v h; omega
    | succ m ih =>
      rintro ⟨e, y, l⟩ hv
      exact h e y l fun x hx => ih x (by have := dsz_lt (e := e) (y := y) hx; omega)
  exact fun v => this (dsz v + 1) v (by omega)
inductive DIs (H : Hp) : List Value → Den → Prop
  | mk (e y : Int) (l : List Den) (a : Option Addr) (c b o : Nat) (css : Nat → List Value) (hle : l.length ≤ c) (hnil : a = none → c = 0)
    (h1 : ∀ (i : Nat) (x : Den), l[i]? = some x → a = some ⟨b, o, none⟩ ∧ PtH H b (o + i * 3) (css i)) (h2 : ∀ (i : Nat) (x : Den), l[i]? = some x → DIs H (css i) x) :
    DIs H [.int .i64 e, .int .i64 y, .slice a l.length c] (.mk e y l)
theorem DIs.mono {H H' : Hp} (hle : Le H H') {cs : List Value} {v : Den} (h : DIs H cs v) : DIs H' cs v := by
 induction h with
 | mk e y l a c b o css h1 h2 h3 _ ih => exact .mk e y l a c b o css h1 h2 (fun i x hx => ⟨(h3 i x hx).1, (h3 i x hx).2.mono hle⟩) ih
def denR : Rep Den where
 sz := 3
 R := DIs
 len := fun h => by cases h; rfl
 one := fun h => by cases h; rfl
 mono := fun hle h => h.mono hle
theorem denR_iff {H : Hp} {cs : List Value} {e y : Int} {l : List Den} : denR.R H cs (.mk e y l) ↔ ∃ a c, cs = [.int .i64 e, .int .i64 y, .slice a l.length c] ∧ SlR denR H a c l := by
  constructor
  · intro h
    cases h with
    | mk _ _ _ a c b o css h1 h2 h3 h4 => exact ⟨a, c, rfl, h1, h2, fun i x hx => ⟨b, o, css i, (h3 i x hx).1, (h3 i x hx).2, h4 i x hx⟩⟩
  · rintro ⟨a, c, rfl, hs⟩
    cases l with
    | nil => exact .mk e y [] a c 0 0 (fun _ => []) hs.le hs.nil (fun i x h => by simp at h) (fun i x h => by simp at h)
    | cons z r =>
      obtain ⟨b, o, ha⟩ := hs.addr (by simp)
      have hx : ∀ i : Nat, ∃ cs, ∀ x, (z :: r)[i]? = some x → PtH H b (o + i * 3) cs ∧ DIs H cs x := by
        intro i
        cases h : (z :: r)[i]? with
        | none => exact ⟨[], fun x hx => by cases hx⟩
        | some x =>
          obtain ⟨b', o', cs, h1, h2, h3⟩ := hs.el i x h
          rw [ha] at h1; cases h1
          exact ⟨cs, fun z hz => by cases hz; exact ⟨h2, h3⟩⟩
      exact .mk e y _ a c b o (fun i => Classical.choose (hx i)) hs.le hs.nil (fun i x h => ⟨ha, (Classical.choose_spec (hx i) x h).1⟩) (fun i x h => (Classical.choose_spec (hx i) x h).2)
/-- a denial as it is handed over -/
def DV (H : Hp) (v : Value) (u : Den) : Prop := ∃ a c, v = .agg ⟨[.int .i64 u.E, .int .i64 u.Y, .slice a u.K.length c]⟩ ∧ SlR denR H a c u.K
theorem DV.mono {H H' : Hp} {v : Value} {u : Den} (h : DV H v u) (hle : Le H H') : DV H' v u := let ⟨a, c, h1, h2⟩ := h; ⟨a, c, h1, h2.mono hle⟩
def allS {α β : Type} (f : α → Option β) : List α → Option (List β)
  | [] => some []
  | x :: r => match f x with
    | none => none
    | some y => match allS f r with
      | none => none
      | some z => some (y :: z)
theorem allS_snoc {α β : Type} {f : α → Option β} : ∀ {l : List α} {m : List β} {x : α} {y : β}, allS f l = some m → f x = some y → allS f (l ++ [x]) = some (m ++ [y])
  | [], m, x, y, h, hx => by simp [allS] at h; subst h; simp [allS, hx]
  | z :: r, m, x, y, h, hx => by
    rw [allS] at h
    rw [List.cons_append, allS]
    cases hz : f z with
    | none => rw [hz] at h; cases h
    | some u =>
      rw [hz] at h; simp only at h ⊢
      cases hr : allS f r with
      | none => rw [hr] at h; cases h
      | some v =>
        rw [hr] at h; simp only [Option.some.injEq] at h; subst h
        rw [allS_snoc hr hx]; rfl
theorem allS_none {α β : Type} {f : α → Option β} : ∀ {l : List α} {x : α}, x ∈ l → f x = none → allS f l = none
  | z :: r, x, hx, h => by
    rw [allS]
    rcases List.mem_cons.1 hx with rfl | hx
    · rw [h]
    · rw [allS_none hx h]; cases f z <;> rfl
theorem allS_len {α β : Type} {f : α → Option β} : ∀ {l : List α} {m : List β}, allS f l = some m → m.length = l.length
  | [], m, h => by simp [allS] at h; subst h; rfl
  | z :: r, m, h => by
    rw [allS] at h
    cases hz : f z with
    | none => rw [hz] at h; cases h
    | some u =>
      rw [hz] at h; simp only at h
      cases hr : allS f r with
      | none => rw [hr] at h; cases h
      | some v => rw [hr] at h; simp only [Option.some.injEq] at h; subst h; simp [allS_len hr]
def denF (w : Wi) (old : Ls) (pr : List Int) (lim : Int) : Nat → Ls → Option Den
 | 0, l => if whyW w old pr l lim = 0 then none else some (.mk (-1) (whyW w old pr l lim) [])
 | d + 1, l => if whyW w old pr l lim = 0 then (allS (fun x => denF w old pr lim d (l ++ [x])) (lstE w pr l.length)).map fun k => .mk (l.length : Nat) 0 k else some (.mk (-1) (whyW w old pr l lim) [])
/-- is a denial right for some lists? -/
def leafB (w : Wi) (old : Ls) (pr : List Int) (lim : Int) (l : Ls) (D : Den) : Bool := D.K.isEmpty && ((decide (D.Y = 3) || decide (D.Y = 1) || decide (D.Y = 2)) && isY w old pr l lim D.Y)
def zipB {α β : Type} (f : α → β → Bool) : List α → List β → Bool
 | [], [] => true
 | x :: r, y :: s => f x y && zipB f r s
 | _, _ => false
def refF (w : Wi) (old : Ls) (pr : List Int) (lim : Int) : Nat → Ls → Den → Bool
 | 0, l, D => if D.E = -1 then leafB w old pr lim l D else false
 | d + 1, l, D => if D.E = -1 then leafB w old pr lim l D else decide (D.E = (l.length : Nat) ∧ D.Y = 0) && zipB (fun x D' => refF w old pr lim d (l ++ [x]) D') (lstE w pr l.length) D.K
def bestF (w : Wi) (old : Ls) (pr : List Int) : Nat → Ls → Int → Option Ls
  | 0, l, lim => if whyW w old pr l lim = 0 then some l else none
  | d + 1, l, lim => if whyW w old pr l lim = 0 then ((lstE w pr l.length).foldl (fun (acc : Option Ls × Int) x => match bestF w old pr d (l ++ [x]) acc.2 with
    | some p => (some p, ((chg old p : Nat) : Int))
    | none => acc) (none, lim)).1 else none
theorem rangeI_nil {a : Nat} : rangeI a 0 = [] := rfl
theorem combU_split {bad : Int → Bool} {k f i N : Nat} {l : List Int} (h : f + i < N) : preL l (comb bad (k + 1) (rangeI (f + i) (N - f - i))) = (if bad ((f + i : Nat) : Int) = true then [] else preL (l ++ [((f + i : Nat) : Int)]) (comb bad k (rangeI (f + i + 1) (N - (f + i + 1))))) ++ preL l (comb bad (k + 1) (rangeI (f + (i + 1)) (N - f - (i + 1)))) := by
 have h1 := comb_drop (bad := bad) (k := k) (i := 0) (pr := rangeI (f + i) (N - f - i)) (l := l) (x := ((f + i : Nat) : Int)) (by rw [rangeI_at (by omega)]; rfl)
 rw [List.drop_zero, rangeI_drop] at h1
 rw [h1, show N - f - i - (0 + 1) = N - (f + i + 1) by omega, show f + i + (0 + 1) = f + i + 1 by omega, show f + (i + 1) = f + i + 1 by omega, show N - f - (i + 1) = N - (f + i + 1) by omega]
theorem E_size {bad : Int → Bool} {n f m : Nat} {l : List Int} (h : m ≤ 20) : (preL l (comb bad n (rangeI f m))).length ≤ 1048576 := by
 unfold preL
 rw [List.length_map]
 have h1 := comb_size (bad := bad) n (rangeI f m)
 rw [rangeI_len] at h1
 have h2 : 2 ^ m ≤ 2 ^ 20 := Nat.pow_le_pow_right (by decide) h
 omega
theorem lst_ref {w : Wi} {ab : List Int} {e n : Nat} {r : List Bool} (hr : w.B[e]? = some r) (hn : w.S = (n : Nat)) : lstE w (prs w.J ab) e = comb (fun x => badR r x || decide (x ∈ ab)) n (rangeI 0 w.J.toNat) := by
 rw [lstE_at hr hn]; exact comb_filter n _
theorem apart_all {w : Wi} {l : Ls} (h : ∀ y, l[l.length - 1]? = some y → ∀ x ∈ l.take (l.length - 1), ¬ ((cmn x y : Nat) : Int) < w.N) : apartB w l = false := by
 cases hl : l[l.length - 1]? with
 | none => exact apart_nil (by rcases Nat.eq_zero_or_pos l.length with h | h; exact h; rw [List.getElem?_eq_getElem (by omega)] at hl; cases hl)
 | some y => exact apart_f hl (h y hl)
theorem why_3 {w : Wi} {old : Ls} {pr : List Int} {l : Ls} {lim : Int} (h : lim ≤ (chg old l : Nat)) : whyW w old pr l lim = 3 := if_pos h
theorem why_1 {w : Wi} {old : Ls} {pr : List Int} {l : Ls} {lim : Int} (h : ¬ lim ≤ (chg old l : Nat)) (h1 : unbalB w pr l = true) : whyW w old pr l lim = 1 := by rw [whyW, if_neg h, if_pos h1]
theorem why_2 {w : Wi} {old : Ls} {pr : List Int} {l : Ls} {lim : Int} (h : ¬ lim ≤ (chg old l : Nat)) (h1 : unbalB w pr l = false) (h2 : apartB w l = true) : whyW w old pr l lim = 2 := by rw [whyW, if_neg h, if_neg (by rw [h1]; decide), if_pos h2]
theorem why_0 {w : Wi} {old : Ls} {pr : List Int} {l : Ls} {lim : Int} (h : ¬ lim ≤ (chg old l : Nat)) (h1 : unbalB w pr l = false) (h2 : apartB w l = false) : whyW w old pr l lim = 0 := by rw [whyW, if_neg h, if_neg (by rw [h1]; decide), if_neg (by rw [h2]; decide)]
end Go.Proofs
