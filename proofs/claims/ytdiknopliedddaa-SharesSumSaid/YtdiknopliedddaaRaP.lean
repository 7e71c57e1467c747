/- 1073741789 is a prime number, and what follows. No program stands here. -/
import Derived.Test.YtdiknopliedddaaRaN
set_option autoImplicit false
set_option linter.unusedVariables false
namespace Go.Proofs
open Go.XL
def prodN : List Nat → Nat
  | [] => 1
  | x :: l => x * prodN l
theorem prodN_perm {l m : List Nat} (h : l.Perm m) : prodN l = prodN m := by
  induction h with
  | nil => rfl
  | cons x _ ih => simp only [prodN, ih]
  | swap x y l => simp only [prodN]; rw [Nat.mul_left_comm]
  | trans _ _ h1 h2 => exact h1.trans h2
theorem perm_of_sub : ∀ (l1 l2 : List Nat), l1.Nodup → (∀ x ∈ l1, x ∈ l2) → l2.length ≤ l1.length → l1.Perm l2
  | [], l2, _, _, h => by
    have : l2 = [] := List.length_eq_zero_iff.1 (by simpa using h)
    rw [this]
  | x :: l1, l2, hn, hs, hl => by
    have hx := hs x (by simp)
    rw [List.nodup_cons] at hn
    have h2 := perm_of_sub l1 (l2.erase x) hn.2 (fun y hy => (List.mem_erase_of_ne (by rintro rfl; exact hn.1 hy)).2 (hs y (by simp [hy]))) (by rw [List.length_erase_of_mem hx]; simp at hl; omega)
    exact (h2.cons x).trans (List.perm_cons_erase hx).symm
def isP (p : Nat) : Prop := 1 < p ∧ ∀ d, d ∣ p → d = 1 ∨ d = p
theorem isP.mul {p a b : Nat} (hp : isP p) (h : p ∣ a * b) : p ∣ a ∨ p ∣ b := by
  rcases hp.2 (Nat.gcd p a) (Nat.gcd_dvd_left p a) with h1 | h1
  · exact .inr (Nat.Coprime.dvd_of_dvd_mul_left h1 h)
  · exact .inl (h1 ▸ Nat.gcd_dvd_right p a)
theorem prodN_map (p a : Nat) : ∀ l : List Nat, prodN (l.map fun x => a * x % p) % p = a ^ l.length * prodN l % p
  | [] => by simp [prodN]
  | x :: l => by
    simp only [List.map_cons, prodN, List.length_cons]
    rw [Nat.mul_mod, prodN_map p a l, Nat.mod_mod, ← Nat.mul_mod, Nat.pow_succ]
    congr 1
    ac_rfl
theorem not_dvd_prodN {p : Nat} (hp : isP p) : ∀ l : List Nat, (∀ x ∈ l, ¬ p ∣ x) → ¬ p ∣ prodN l
  | [], _ => fun h => by have := hp.1; have := Nat.le_of_dvd (by decide) h; simp [prodN] at this; omega
  | x :: l, h => fun hd => by
    rcases hp.mul hd with h1 | h1
    · exact h x (by simp) h1
    · exact not_dvd_prodN hp l (fun y hy => h y (by simp [hy])) h1
theorem cancel {p a b c : Nat} (hp : isP p) (hc : ¬ p ∣ c) (h : a * c % p = b * c % p) : a % p = b % p := by
  have key : ∀ a b : Nat, a ≤ b → a * c % p = b * c % p → a % p = b % p := fun a b hab h => by
    have h1 : p ∣ (b - a) * c := by
      rw [Nat.sub_mul]
      exact Nat.dvd_of_mod_eq_zero (Nat.sub_mod_eq_zero_of_mod_eq h.symm)
    rcases hp.mul h1 with h2 | h2
    · obtain ⟨k, hk⟩ := h2
      have : b = a + p * k := by omega
      rw [this, Nat.add_mul_mod_self_left]
    · exact (hc h2).elim
  rcases Nat.le_total a b with h1 | h1
  · exact key a b h1 h
  · exact (key b a h1 h.symm).symm
theorem fermat {p a : Nat} (hp : isP p) (ha : ¬ p ∣ a) : a ^ (p - 1) % p = 1 % p := by
  have h1 := hp.1
  let U := List.range' 1 (p - 1)
  have hU : ∀ x ∈ U, ¬ p ∣ x := fun x hx hd => by
    have := List.mem_range'_1.1 hx
    have := Nat.le_of_dvd (by omega) hd
    omega
  have hmem : ∀ x ∈ U.map (fun x => a * x % p), x ∈ U := fun y hy => by
    obtain ⟨x, hx, rfl⟩ := List.mem_map.1 hy
    refine List.mem_range'_1.2 ⟨?_, by have := Nat.mod_lt (a * x) (show 0 < p by omega); omega⟩
    rcases Nat.eq_zero_or_pos (a * x % p) with h2 | h2
    · rcases hp.mul (Nat.dvd_of_mod_eq_zero h2) with h3 | h3
      · exact (ha h3).elim
      · exact (hU x hx h3).elim
    · exact h2
  have hnd : (U.map (fun x => a * x % p)).Nodup := by
    rw [List.Nodup, List.pairwise_map]
    have h2 : U.Pairwise (· ≠ ·) := List.nodup_range'
    refine List.Pairwise.imp_of_mem (fun {x y} hx hy hne e => hne ?_) h2
    have h3 : x * a % p = y * a % p := by rw [Nat.mul_comm x, Nat.mul_comm y]; exact e
    have h4 := cancel hp ha h3
    have hx := List.mem_range'_1.1 hx
    have hy := List.mem_range'_1.1 hy
    rwa [Nat.mod_eq_of_lt (by omega), Nat.mod_eq_of_lt (by omega)] at h4
  have hperm := prodN_perm (perm_of_sub _ U hnd hmem (by simp))
  have h5 := prodN_map p a U
  rw [hperm, show U.length = p - 1 by simp [U]] at h5
  refine (cancel hp (not_dvd_prodN hp U hU) ?_).symm
  rw [Nat.one_mul]; exact h5

/-- no divisor from d on, f of them -/
def noDiv (q : Nat) : Nat → Nat → Bool
  | 0, _ => true
  | f + 1, d => (Nat.beq (q % d) 0).not && noDiv q f (d + 1)
theorem noDiv_spec {q : Nat} : ∀ {f d : Nat}, noDiv q f d = true → ∀ k, d ≤ k → k < d + f → ¬ k ∣ q
  | 0, d, _, k, h1, h2 => by omega
  | f + 1, d, h, k, h1, h2 => by
    simp only [noDiv, Bool.and_eq_true] at h
    rcases Nat.eq_or_lt_of_le h1 with h3 | h3
    · subst h3
      intro hd
      have := Nat.mod_eq_zero_of_dvd hd
      rw [this] at h; simp at h
    · exact noDiv_spec h.2 k h3 (by omega)
theorem isP_of {q r : Nat} (hq : 1 < q) (hr : q < (r + 2) * (r + 2)) (h : noDiv q r 2 = true) : isP q := by
  refine ⟨hq, fun d hd => ?_⟩
  obtain ⟨e, rfl⟩ := hd
  have hs := noDiv_spec h
  rcases Nat.lt_or_ge d 2 with h1 | h1
  · rcases Nat.eq_zero_or_pos d with h2 | h2
    · subst h2; simp at hq
    · exact .inl (by omega)
  · rcases Nat.lt_or_ge e 2 with h2 | h2
    · rcases Nat.eq_zero_or_pos e with h3 | h3
      · subst h3; simp at hq
      · obtain rfl : e = 1 := by omega
        exact .inr (by simp)
    · exfalso
      rcases Nat.lt_or_ge d (2 + r) with h3 | h3
      · exact hs d h1 h3 ⟨e, rfl⟩
      · rcases Nat.lt_or_ge e (2 + r) with h4 | h4
        · exact hs e h2 h4 ⟨d, Nat.mul_comm _ _⟩
        · have := Nat.mul_le_mul h3 h4
          rw [Nat.add_comm 2 r] at this
          omega
theorem prime_q : isP 1073741789 := isP_of (r := 32768) (by decide) (by decide) (by decide +kernel)
theorem E.dvd {a : Int} (h : E a 0) : (1073741789 : Int) ∣ a := Int.dvd_of_emod_eq_zero (by simpa [E] using h)
theorem E.of_dvd {a : Int} (h : (1073741789 : Int) ∣ a) : E a 0 := by simpa [E] using Int.emod_eq_zero_of_dvd h
theorem zero_prod {a b : Int} (h : E (a * b) 0) : E a 0 ∨ E b 0 := by
  have h1 := Int.natAbs_dvd_natAbs.2 h.dvd
  rw [Int.natAbs_mul] at h1
  rcases prime_q.mul h1 with h2 | h2
  · exact .inl (E.of_dvd (Int.natAbs_dvd_natAbs.1 h2))
  · exact .inr (E.of_dvd (Int.natAbs_dvd_natAbs.1 h2))
theorem inv_E {a : Int} (h : ¬ E a 0) : E (a * a ^ pe) 1 := by
  have hn : ((a % 1073741789).toNat : Int) = a % 1073741789 := Int.toNat_of_nonneg (rng a).1
  have he : E a ((a % 1073741789).toNat : Int) := by rw [hn]; exact (E.mod a).symm
  generalize (a % 1073741789).toNat = n at *
  have hnd : ¬ 1073741789 ∣ n := fun hd => h (he.trans (E.of_dvd (Int.natCast_dvd_natCast.2 hd)))
  have hf := fermat prime_q hnd
  have e : (1073741789 - 1 : Nat) = pe + 1 := rfl
  rw [e] at hf
  generalize pe = m at *
  refine (he.mul (he.pow m)).trans ?_
  have h2 : (n : Int) * (n : Int) ^ m = ((n ^ (m + 1) : Nat) : Int) := by rw [Int.natCast_pow, Int.pow_succ, Int.mul_comm]
  rw [h2]
  have h3 := congrArg (fun z : Nat => (z : Int)) hf
  simpa [E] using h3
theorem inv0_mul {a : Int} (h : ¬ a % 1073741789 = 0) : a * inv0 a % 1073741789 = 1 :=
  ((E.refl a).mul (inv0_E a)).trans (inv_E h)
theorem prod_zero (a b : Int) : a * b % 1073741789 = 0 ↔ a % 1073741789 = 0 ∨ b % 1073741789 = 0 := by
  constructor
  · intro h
    exact (zero_prod (a := a) (b := b) (by simpa [E] using h)).imp (fun h => by simpa [E] using h) (fun h => by simpa [E] using h)
  · rintro (h | h)
    · have h1 : E a 0 := by simpa [E] using h
      simpa [E] using h1.mul (E.refl b)
    · have h1 : E b 0 := by simpa [E] using h
      simpa [E] using (E.refl a).mul h1
theorem fl_neg {a : Int} (ha : a ≤ 9223372036854775807) (h : (IntKind.i64.wrap (a - a % 1073741789)).tmod 1073741789 ≠ 0) : ¬ 0 ≤ a := by
  intro h0
  apply h
  rw [wrap_i64 (n := a - a % 1073741789) (by omega) (by omega), Int.tmod_eq_emod_of_nonneg (by omega)]
  omega
theorem mul_c (a b : Int) : a * b % 1073741789 = b % 1073741789 * (a % 1073741789) % 1073741789 := by rw [← Int.mul_emod, Int.mul_comm]
theorem mul_a (a b c : Int) : a * b % 1073741789 * c % 1073741789 = a * (b * c % 1073741789) % 1073741789 :=
  (((E.mod _).mul (E.refl c)).trans (E.of_eq (Int.mul_assoc a b c))).trans ((E.refl a).mul (E.mod _)).symm
theorem mul_d (a b c : Int) : a * ((b + c) % 1073741789) % 1073741789 = (a * b % 1073741789 + a * c % 1073741789) % 1073741789 :=
  (((E.refl a).mul (E.mod _)).trans (E.of_eq (Int.mul_add a b c))).trans ((E.mod _).add (E.mod _)).symm
end Go.Proofs
