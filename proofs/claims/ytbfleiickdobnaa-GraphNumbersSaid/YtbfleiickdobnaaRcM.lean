/- The graph: what its functions compute, in plain Lean. -/
import Derived.Test.YtbfleiickdobnaaXLv
set_option autoImplicit false
set_option linter.unusedVariables false
set_option linter.unusedSimpArgs false
namespace Go.Proofs
open Go.XL
abbrev Tb := List (List Bool)
abbrev tbR : Rep (List Bool) := slR boolR
def wideM (m : Tb) : Nat := (m.headD []).length
theorem wide_nil {m : Tb} (h : m.length = 0) : wideM m = 0 := by
  rw [List.length_eq_zero_iff] at h; subst h; rfl
theorem wide_cons {m : Tb} {x : List Bool} (h : m[0]? = some x) : wideM m = x.length := by
  cases m with
  | nil => cases h
  | cons y r => simp at h; subst h; rfl
def chkG (m : Tb) : Int := if 64 < m.length ∨ ∃ r ∈ m, 16 < r.length then 2 else if ∃ r ∈ m, r.length ≠ wideM m then 370 else 0
theorem chk_2 {m : Tb} (h : 64 < m.length ∨ ∃ r ∈ m, 16 < r.length) : chkG m = 2 := if_pos h
theorem chk_370 {m : Tb} (h : ¬ (64 < m.length ∨ ∃ r ∈ m, 16 < r.length)) (h2 : ∃ r ∈ m, r.length ≠ wideM m) : chkG m = 370 := by rw [chkG, if_neg h, if_pos h2]
theorem chk_0 {m : Tb} (h : ¬ (64 < m.length ∨ ∃ r ∈ m, 16 < r.length)) (h2 : ¬ ∃ r ∈ m, r.length ≠ wideM m) : chkG m = 0 := by rw [chkG, if_neg h, if_neg h2]
def fewG (m : Tb) : Prop := ¬ (10 < m.length ∧ m.length ≤ 64 ∨ 70 < m.length) ∧ ∀ r ∈ m, ¬ (8 < r.length ∧ r.length ≤ 16 ∨ 30 < r.length)
instance (m : Tb) : Decidable (fewG m) := by unfold fewG; infer_instance
def okG (m : Tb) : Prop := m.length ≤ 64 ∧ ∀ r ∈ m, r.length = wideM m ∧ r.length ≤ 16
theorem chk_eq0 {m : Tb} : chkG m = 0 ↔ okG m := by
  unfold chkG okG
  constructor
  · intro h
    split at h
    · cases h
    · rename_i h1
      split at h
      · cases h
      · rename_i h2
        refine ⟨by omega, fun r hr => ⟨Decidable.by_contra fun hn => h2 ⟨r, hr, hn⟩, ?_⟩⟩
        rcases Nat.lt_or_ge 16 r.length with h3 | h3
        · exact absurd (Or.inr ⟨r, hr, h3⟩) h1
        · exact h3
  · intro ⟨h1, h2⟩
    rw [if_neg, if_neg]
    · rintro ⟨r, hr, hn⟩; exact hn (h2 r hr).1
    · rintro (h | ⟨r, hr, hn⟩)
      · omega
      · have := (h2 r hr).2; omega
end Go.Proofs
