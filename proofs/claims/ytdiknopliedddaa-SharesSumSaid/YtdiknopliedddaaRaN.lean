/- Plain congruences modulo 1073741789, and what the polynomial code reckons. No program stands here. -/
import Derived.Test.YtdiknopliedddaaRaM
set_option autoImplicit false
set_option linter.unusedVariables false
namespace Go.Proofs
/-- congruent modulo 1073741789 -/
def E (a b : Int) : Prop := a % 1073741789 = b % 1073741789
theorem E.refl (a : Int) : E a a := rfl
theorem E.symm {a b : Int} (h : E a b) : E b a := Eq.symm h
theorem E.trans {a b c : Int} (h : E a b) (k : E b c) : E a c := Eq.trans h k
theorem E.of_eq {a b : Int} (h : a = b) : E a b := by subst h; rfl
theorem E.mod (a : Int) : E (a % 1073741789) a := Int.emod_emod_of_dvd _ (Int.dvd_refl _)
theorem E.add {a b c d : Int} (h : E a b) (k : E c d) : E (a + c) (b + d) := by
  unfold E at *; rw [Int.add_emod, h, k, ← Int.add_emod]
theorem E.mul {a b c d : Int} (h : E a b) (k : E c d) : E (a * c) (b * d) := by
  unfold E at *; rw [Int.mul_emod, h, k, ← Int.mul_emod]
theorem E.sub {a b c d : Int} (h : E a b) (k : E c d) : E (a - c) (b - d) := by
  unfold E at *; rw [Int.sub_emod, h, k, ← Int.sub_emod]
theorem E.pow {a b : Int} (h : E a b) : ∀ n : Nat, E (a ^ n) (b ^ n)
  | 0 => by rw [Int.pow_zero, Int.pow_zero]; exact E.refl _
  | n + 1 => by rw [Int.pow_succ, Int.pow_succ]; exact (E.pow h n).mul h
theorem E.eq {a b : Int} (h : E a b) (a0 : 0 ≤ a) (a1 : a < 1073741789) (b0 : 0 ≤ b) (b1 : b < 1073741789) : a = b := by
  unfold E at h; rw [Int.emod_eq_of_lt a0 a1, Int.emod_eq_of_lt b0 b1] at h; exact h
theorem E.red {a b : Int} (h : E a b) : a % 1073741789 = b % 1073741789 := h
theorem rng (a : Int) : 0 ≤ a % 1073741789 ∧ a % 1073741789 < 1073741789 := ⟨Int.emod_nonneg _ (by decide), Int.emod_lt_of_pos _ (by decide)⟩

theorem pwF_E : ∀ (f : Nat) (x sq : Int) (left : Nat), left < 2 ^ f → E (pwF f x sq left) (x * sq ^ left)
  | 0, x, sq, left, h => by
    obtain rfl : left = 0 := by simpa using h
    simp [pwF, E]
  | f + 1, x, sq, left, h => by
    rw [pwF]
    split
    · rename_i h0; subst h0; simp [E]
    · have h2 : left / 2 < 2 ^ f := by rw [Nat.pow_succ] at h; omega
      have ih := fun x' => pwF_E f x' (sq * sq % 1073741789) (left / 2) h2
      have hs : E ((sq * sq % 1073741789) ^ (left / 2)) (sq ^ (2 * (left / 2))) := by
        refine ((E.mod (sq * sq)).pow _).trans (E.of_eq ?_)
        rw [Int.pow_mul, Int.pow_succ, Int.pow_succ, Int.pow_zero, Int.one_mul]
      split
      · rename_i h1
        refine (ih _).trans ((E.mul (E.mod _) hs).trans (E.of_eq ?_))
        have e : left = 1 + 2 * (left / 2) := by omega
        conv => rhs; rw [e, Int.pow_add]
        rw [Int.mul_assoc, Int.pow_succ, Int.pow_zero, Int.one_mul]
      · rename_i h1
        refine (ih _).trans ((E.mul (E.refl _) hs).trans (E.of_eq ?_))
        have e : left = 2 * (left / 2) := by omega
        conv => rhs; rw [e]
theorem pwF_rng : ∀ (f : Nat) (x sq : Int) (left : Nat), 0 ≤ x → x < 1073741789 → 0 ≤ pwF f x sq left ∧ pwF f x sq left < 1073741789
  | 0, x, sq, left, h0, h1 => ⟨h0, h1⟩
  | f + 1, x, sq, left, h0, h1 => by
    rw [pwF]
    split
    · exact ⟨h0, h1⟩
    · split
      · exact pwF_rng f _ _ _ (rng _).1 (rng _).2
      · exact pwF_rng f _ _ _ h0 h1
/-- the exponent of the inverse -/
def pe : Nat := 1073741787
theorem invQ_E (a : Int) : E (invQ a) (a ^ pe) := by
  have := pwF_E 31 1 a pe (by decide)
  rwa [Int.one_mul] at this
theorem invQ_rng (a : Int) : 0 ≤ invQ a ∧ invQ a < 1073741789 := pwF_rng _ _ _ _ (by decide) (by decide)
theorem zero_pow {a : Int} (h : E a 0) : E (a ^ pe) 0 := by
  have e : pe = 1073741786 + 1 := rfl
  rw [e, Int.pow_succ]
  exact ((E.refl _).mul h).trans (E.of_eq (by simp))
theorem inv0_E (a : Int) : E (inv0 a) (a ^ pe) := by
  unfold inv0
  split
  · rename_i h; exact (zero_pow (show E a 0 from h)).symm
  · exact invQ_E a
theorem inv0_rng (a : Int) : 0 ≤ inv0 a ∧ inv0 a < 1073741789 := by
  unfold inv0
  split
  · omega
  · exact invQ_rng a
theorem inv0_congr {a b : Int} (h : E a b) : inv0 a = inv0 b :=
  ((inv0_E a).trans ((h.pow _).trans (inv0_E b).symm)).eq (inv0_rng a).1 (inv0_rng a).2 (inv0_rng b).1 (inv0_rng b).2

/-! ### The value of a polynomial -/
theorem valR_rng (x : Int) (l : List Int) : 0 ≤ valR x l ∧ valR x l < 1073741789 := by
  cases l with
  | nil => exact ⟨by simp [valR], by simp [valR]⟩
  | cons c l => exact rng _
theorem valP_E (x : Int) : ∀ (l : List Int) (y pw : Int), E (valP x l y pw) (y + pw * valR x l)
  | [], y, pw => E.of_eq (by simp [valP, valR])
  | c :: l, y, pw => by
    rw [valP]
    refine (valP_E x l _ _).trans ?_
    have h1 : E ((y + c * pw % 1073741789) % 1073741789) (y + c * pw) := (E.mod _).trans ((E.refl y).add (E.mod _))
    have h2 : E (pw * x % 1073741789 * valR x l) (pw * x * valR x l) := (E.mod _).mul (E.refl _)
    have h3 : E (valR x (c :: l)) (valR x l * x + c) := (E.mod _).trans ((E.mod _).add (E.refl c))
    refine (h1.add h2).trans (E.trans (E.of_eq ?_) ((E.refl y).add ((E.refl pw).mul h3.symm)))
    grind
theorem valP_rng (x : Int) : ∀ (l : List Int) (y pw : Int), 0 ≤ y → y < 1073741789 → 0 ≤ valP x l y pw ∧ valP x l y pw < 1073741789
  | [], y, pw, h0, h1 => ⟨h0, h1⟩
  | c :: l, y, pw, _, _ => valP_rng x l _ _ (rng _).1 (rng _).2
theorem valP_eq (x : Int) (l : List Int) : valP x l 0 1 = valR x l :=
  ((valP_E x l 0 1).trans (E.of_eq (by simp))).eq (valP_rng x l 0 1 (by decide) (by decide)).1 (valP_rng x l 0 1 (by decide) (by decide)).2 (valR_rng x l).1 (valR_rng x l).2

/-! ### The polynomial through some points -/
def prF (t : Int) : List Pt → Int
  | [] => 1
  | q :: ps => (t - q.X) * prF t ps
theorem fac_E (t : Int) (q : Pt) : E ([t, 0 - q.X % 1073741789].sum % 1073741789) (t - q.X) := by
  refine (E.mod _).trans ?_
  have : E (t + (0 - q.X % 1073741789)) (t + (0 - q.X)) := (E.refl t).add ((E.refl 0).sub (E.mod _))
  refine (E.of_eq (by simp)).trans (this.trans (E.of_eq (by grind)))
theorem fac2_E (t : Int) (q : Pt) : E ((t + (0 - q.X % 1073741789)) % 1073741789) (t - q.X) := by
  have := fac_E t q; simpa using this
theorem abvF_E (t : Int) : ∀ (ps : List Pt) (s : Int), E (abvF t ps s) (s * prF t ps)
  | [], s => E.of_eq (by simp [abvF, prF])
  | q :: ps, s => by
    refine (abvF_E t ps _).trans ?_
    refine (((E.mod _).trans ((E.refl s).mul (fac_E t q))).mul (E.refl _)).trans (E.of_eq ?_)
    rw [prF]; grind
theorem belF_eq (t : Int) (ps : List Pt) (s : Int) : belF t ps s = abvF t ps s := rfl
theorem rpF_E (t x : Int) : ∀ (ps : List Pt) (s : Int), E (rpF t x ps s) (s * (prF t ps * prF x ps ^ pe))
  | [], s => E.of_eq (by simp [rpF, prF, Int.one_pow])
  | q :: ps, s => by
    refine (rpF_E t x ps _).trans ?_
    have h1 : E (inv0 ((x + (0 - q.X % 1073741789)) % 1073741789)) ((x - q.X) ^ pe) := (inv0_E _).trans ((fac2_E x q).pow _)
    refine (((E.mod _).trans ((E.refl s).mul ((E.mod _).trans ((fac2_E t q).mul h1)))).mul (E.refl _)).trans (E.of_eq ?_)
    rw [prF, prF, Int.mul_pow]; grind
theorem atT_E (t : Int) (l : List Pt) (k : Nat) (p : Pt) : E (atT t l k p) (p.Y * (prF t (l.eraseIdx k) * prF p.X (l.eraseIdx k) ^ pe)) := by
  refine (E.mod _).trans ?_
  have h1 := (abvF_E t (l.eraseIdx k) (p.Y % 1073741789)).trans ((E.mod p.Y).mul (E.refl _))
  have h2 : E (inv0 (belF p.X (l.eraseIdx k) 1)) (prF p.X (l.eraseIdx k) ^ pe) := by
    refine (inv0_E _).trans (E.pow ?_ _)
    exact (abvF_E p.X (l.eraseIdx k) 1).trans (E.of_eq (by simp))
  exact (h1.mul h2).trans (E.of_eq (by grind))
theorem atF_eq (t : Int) (l : List Pt) : ∀ k, k ≤ l.length → atF t l k = ratF t l k
  | 0, _ => rfl
  | k + 1, h => by
    have hx : l[k]? = some l[k] := List.getElem?_eq_getElem (by omega)
    rw [atF_succ hx, ratF_succ hx, ← atF_eq t l k (by omega)]
    refine E.red ?_
    refine (E.of_eq (by simp : [atF t l k, atT t l k l[k]].sum = atF t l k + atT t l k l[k])).trans ((E.refl _).add ?_)
    refine (atT_E t l k l[k]).trans (E.symm ((rpF_E _ _ _ _).trans ((E.mod _).mul (E.refl _))))
theorem atV_eq (t : Int) (l : List Pt) : atV t l = ratV t l := by
  rw [atV, ratV, atF_eq t l _ (Nat.le_refl _)]
end Go.Proofs
