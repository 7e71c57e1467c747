/- A slice of slices, seen as a slice of bare slices, and back. No statement of the program stands here. -/
import Derived.Test.YtbfleiickdobnaaXMc
set_option autoImplicit false
set_option linter.unusedSimpArgs false
set_option linter.unusedVariables false
namespace Go.XL
section
variable {α : Type} {ρ : Rep α} {T : TypeId} {H : Hp} {p : Nat × SObj} {a : Option Addr} {c : Nat}
def RawOf (ρ : Rep α) (H : Hp) (rs : List Raw) (l : List (List α)) : Prop := rs.length = l.length ∧ ∀ (i : Nat) (r : Raw) (x : List α), rs[i]? = some r → l[i]? = some x → r.2.1 = x.length ∧ SlR ρ H r.1 r.2.2 x
theorem RawOf.mono {H' : Hp} {rs : List Raw} {l : List (List α)} (h : RawOf ρ H rs l) (hle : Le H H') : RawOf ρ H' rs l := ⟨h.1, fun i r x h1 h2 => let ⟨a, b⟩ := h.2 i r x h1 h2; ⟨a, b.mono hle⟩⟩
theorem RowsR.toRaw : ∀ {l : List (List α)} {xs : List Value}, RowsR (slR ρ) H xs l → ∃ rs : List Raw, RowsR rawR H xs rs ∧ RawOf ρ H rs l
  | [], xs, h => ⟨[], h, rfl, fun i r x h => by simp at h⟩
  | u :: l, xs, ⟨c1, c2, e, ⟨a, c, h1, h2⟩, h3⟩ => by
    obtain ⟨rs, h4, h5, h6⟩ := RowsR.toRaw h3
    refine ⟨(a, u.length, c) :: rs, ⟨c1, c2, e, h1, h4⟩, by simp [h5], ?_⟩
    intro i r x hr hx
    cases i with
    | zero => simp at hr hx; subst hr; subst hx; exact ⟨rfl, h2⟩
    | succ i => exact h6 i r x (by simpa using hr) (by simpa using hx)
theorem RowsR.fromRaw : ∀ {l : List (List α)} {rs : List Raw} {xs : List Value}, RowsR rawR H xs rs → RawOf ρ H rs l → RowsR (slR ρ) H xs l
  | [], [], xs, h, _ => h
  | [], r :: rs, xs, h, h2 => by have := h2.1; simp at this
  | u :: l, [], xs, h, h2 => by have := h2.1; simp at this
  | u :: l, r :: rs, xs, ⟨c1, c2, e, h1, h3⟩, h2 => by
    obtain ⟨h4, h5⟩ := h2.2 0 r u rfl rfl
    refine ⟨c1, c2, e, ⟨r.1, r.2.2, by rw [← h4]; exact h1, h5⟩, RowsR.fromRaw h3 ⟨by simpa using h2.1, fun i r x hr hx => h2.2 (i + 1) r x (by simpa using hr) (by simpa using hx)⟩⟩
theorem Acc.toRaw {l : List (List α)} (h : Acc (slR ρ) T H p a c l) : ∃ rs : List Raw, Acc rawR T H p a c rs ∧ RawOf ρ H rs l := by
  rcases h with ⟨h1, h2, h3, h4⟩ | ⟨xs, h1, h2, h3, h4⟩
  · subst h3
    exact ⟨[], .inl ⟨h1, h2, rfl, h4⟩, rfl, fun i r x h => by simp at h⟩
  · obtain ⟨rs, h5, h6⟩ := RowsR.toRaw h3
    exact ⟨rs, .inr ⟨xs, h1, h2, h5, by rw [h6.1]; exact h4⟩, h6⟩
theorem Acc.fromRaw {l : List (List α)} {rs : List Raw} (h : Acc rawR T H p a c rs) (h2 : RawOf ρ H rs l) : Acc (slR ρ) T H p a c l := by
  rcases h with ⟨h1, h3, h4, h5⟩ | ⟨xs, h1, h3, h4, h5⟩
  · subst h4
    have := h2.1
    refine .inl ⟨h1, h3, ?_, h5⟩
    cases l with
    | nil => rfl
    | cons u l => simp at this
  · exact .inr ⟨xs, h1, h3, RowsR.fromRaw h4 h2, by rw [← h2.1]; exact h5⟩
end
end Go.XL
