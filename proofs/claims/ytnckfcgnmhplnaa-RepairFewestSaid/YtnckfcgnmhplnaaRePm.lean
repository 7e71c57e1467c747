/- Repairs: what the laws ask of the answers. -/
import Derived.Test.YtnckfcgnmhplnaaRePl
set_option autoImplicit false
set_option linter.unusedVariables false
set_option linter.unusedSimpArgs false
namespace Go.Proofs
open Go.XL
section
variable {w : Wi} {old : Ls} {ab : List Int} {lim : Int}
theorem ei1 (he : errE w old ab = 0) (h : (makQ w old ab).isSome = true) : (!((denQ w old ab lim).isSome == decide (((oN (makQ w old ab) : Nat) : Int) ≥ lim))) = false := by
  have h1 := dq_mak (lim := lim) he
  cases hm : makQ w old ab with
  | none => rw [hm] at h; cases h
  | some p =>
    rw [hm] at h1
    by_cases h2 : lim ≤ ((oN (some p) : Nat) : Int)
    · rw [h1.2 (Or.inr h2), decide_eq_true (show ((oN (some p) : Nat) : Int) ≥ lim from h2)]; rfl
    · rw [decide_eq_false (show ¬ ((oN (some p) : Nat) : Int) ≥ lim from h2)]
      cases hd : (denQ w old ab lim).isSome with
      | false => rfl
      | true => rcases h1.1 hd with h3 | h3; cases h3; exact absurd h3 h2
theorem dq_nomak (he : errE w old ab = 0) (h : (makQ w old ab).isSome = false) : (denQ w old ab lim).isSome = true := (dq_mak he).2 (Or.inl (isSome_no h))
theorem ei2 (he : errE w old ab = 0) (h : (makQ w old ab).isSome = false) : (!((denQ w old ab lim).isSome == true)) = false := by rw [dq_nomak he h]; rfl
theorem dq_mono (he : errE w old ab = 0) (h : (denQ w old ab (lim + 1)).isSome = true) : (denQ w old ab lim).isSome = true := by
 rw [dq_some he] at h ⊢
 intro p hp; have := h p hp; omega
theorem dq_at (he : errE w old ab = 0) : (denQ w old ab (oN (makQ w old ab) : Nat)).isSome = true := (dq_mak he).2 (Or.inr (Int.le_refl _))
theorem dq_next (he : errE w old ab = 0) (h : (makQ w old ab).isSome = true) : (denQ w old ab (((oN (makQ w old ab) : Nat) : Int) + 1)).isSome = false := by
  cases hd : (denQ w old ab (((oN (makQ w old ab) : Nat) : Int) + 1)).isSome with
  | false => rfl
  | true =>
    rcases (dq_mak he).1 hd with h1 | h1
    · rw [h1] at h; cases h
    · omega
theorem mak_bound : oN (makQ w old ab) ≤ 4000 := by
 by_cases he : errE w old ab = 0
 ·obtain ⟨n, hok, _⟩ := q_ok he
  have hL := limN_b hok.S hok.n1 hok.B
  rcases q_cases he with ⟨_, h1, h2⟩ | ⟨A, p, B, h, _, _, h1, h2⟩ <;> rw [h1]
  ·exact Nat.zero_le _
  ·have := sol_lim (ab := ab) (old := old) hok.S (p := p) (by rw [h]; simp)
   show chg old p ≤ _; omega
 ·rw [mak_e he]; exact Nat.zero_le _
theorem den_getD (h : (denQ w old ab lim).isSome = true) : denQ w old ab lim = some (.mk ((denQ w old ab lim).getD d0).E ((denQ w old ab lim).getD d0).Y ((denQ w old ab lim).getD d0).K) := by
 rw [eta_den]; exact getD_some h
theorem den_none (h : (denQ w old ab lim).isSome = false) : sameD (.mk ((denQ w old ab lim).getD d0).E ((denQ w old ab lim).getD d0).Y ((denQ w old ab lim).getD d0).K) (.mk 0 0 []) = true := by
 rw [isSome_no h]; exact (sameD_iff _ _).2 rfl
end
end Go.Proofs
