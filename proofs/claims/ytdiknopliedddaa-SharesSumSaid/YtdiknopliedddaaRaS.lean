/- Plain facts on lists of shares. No program stands here. -/
import Derived.Test.YtdiknopliedddaaRaQ
set_option autoImplicit false
set_option linter.unusedVariables false
namespace Go.Proofs
/-- the same points, one after the other -/
theorem pts_eq {l m : List Pt} (hl : l.length = m.length) (h : ∀ (j : Nat) x y, j < l.length → l[j]? = some x → m[j]? = some y → x.X = y.X ∧ x.Y = y.Y) : l = m := by
  refine List.ext_getElem hl fun i h1 h2 => ?_
  have := h i l[i] m[i] h1 (List.getElem?_eq_getElem h1) (List.getElem?_eq_getElem h2)
  cases hx : l[i]; cases hy : m[i]
  rw [hx, hy] at this
  simp at this
  simp [this]
/-- well formed shares -/
def okPt (p : Pt) : Prop := 1 ≤ p.X ∧ p.X ≤ 24 ∧ 0 ≤ p.Y ∧ p.Y < 1073741789
def Fm (l : List Pt) : Prop := 0 < l.length ∧ l.length ≤ 24 ∧ (∀ p ∈ l, okPt p) ∧ (l.map Pt.X).Nodup
theorem fm_bad {l : List Pt} {k : Nat} {p : Pt} (hx : l[k]? = some p) (h : ¬ okPt p) : ¬ Fm l := fun hF => h (hF.2.2.1 p (List.mem_of_getElem? hx))
theorem fm_dup {l : List Pt} {i k : Nat} {x y : Pt} (h : k < i) (hx : l[i]? = some x) (hy : l[k]? = some y) (e : y.X = x.X) : ¬ Fm l := fun hF => by
  have h1 := hF.2.2.2
  rw [List.Nodup, List.pairwise_map, List.pairwise_iff_getElem] at h1
  obtain ⟨hi, rfl⟩ := List.getElem?_eq_some_iff.1 hx
  obtain ⟨hk, rfl⟩ := List.getElem?_eq_some_iff.1 hy
  exact h1 k i hk hi h e
theorem fm_ok {l : List Pt} (h1 : 0 < l.length) (h2 : l.length ≤ 24) (hok : ∀ (j : Nat) x, j < l.length → l[j]? = some x → okPt x) (hdf : ∀ (j j2 : Nat) x y, j2 < j → j < l.length → l[j]? = some x → l[j2]? = some y → y.X ≠ x.X) : Fm l := by
  refine ⟨h1, h2, fun p hp => ?_, ?_⟩
  · obtain ⟨j, hj, rfl⟩ := List.getElem_of_mem hp
    exact hok j _ hj (List.getElem?_eq_getElem hj)
  · rw [List.Nodup, List.pairwise_map, List.pairwise_iff_getElem]
    exact fun i j hi hj hij => hdf j i _ _ hij hj (List.getElem?_eq_getElem hj) (List.getElem?_eq_getElem hi)
end Go.Proofs
