/- When the nodes of a table are connected, and what its tree is. -/
import Derived.Test.YtbfleiickdobnaaRcP
set_option autoImplicit false
set_option linter.unusedVariables false
set_option linter.unusedSimpArgs false
namespace Go.Proofs
/-- the judges that are left out: each once, all of them judges -/
def OutOk (m : Tb) (out : List Int) : Prop := out.Nodup ∧ ∀ j ∈ out, 0 ≤ j ∧ j < (wideM m : Nat)
def inN (m : Tb) (out : List Int) (x : Nat) : Prop := x < m.length + wideM m ∧ ∀ j : Nat, x = m.length + j → (j : Int) ∉ out
def AllC (m : Tb) (out : List Int) : Prop := ∀ x y, inN m out x → inN m out y → Cn m.length (finE m out) x y
def outNode (n : Nat) (j : Int) : Nat := n + j.toNat
theorem not_inN {m : Tb} {out : List Int} {x : Nat} (hx : x < m.length + wideM m) (h : ¬ inN m out x) : ∃ j : Int, j ∈ out ∧ 0 ≤ j ∧ x = outNode m.length j := by
  by_cases h1 : ∃ j : Nat, x = m.length + j ∧ (j : Int) ∈ out
  · obtain ⟨j, h1, h2⟩ := h1; exact ⟨j, h2, by omega, by simp [outNode, h1]⟩
  · exact absurd ⟨hx, fun j hj hm => h1 ⟨j, hj, hm⟩⟩ h
theorem out_alone {m : Tb} {out : List Int} (hok : okG m) {x y : Nat} (h : Cn m.length (finE m out) x y) : x = y ∨ ((∀ j : Int, j ∈ out → 0 ≤ j → x ≠ outNode m.length j) ∧ (∀ j : Int, j ∈ out → 0 ≤ j → y ≠ outNode m.length j)) := by
  induction h with
  | refl => exact Or.inl rfl
  | edge e he =>
    obtain ⟨h1, h2, h3⟩ := finE_lt hok he
    refine Or.inr ⟨fun j hj h0 hx => ?_, fun j hj h0 hx => ?_⟩
    · unfold outNode at hx; omega
    · unfold outNode at hx
      apply h3
      have : (e.2 : Int) = j := by omega
      rwa [this]
  | symm _ ih => rcases ih with h | ⟨h1, h2⟩; exact Or.inl h.symm; exact Or.inr ⟨h2, h1⟩
  | trans _ _ h1 h2 =>
    rcases h1 with rfl | ⟨h3, h4⟩
    · exact h2
    · rcases h2 with rfl | ⟨h5, h6⟩
      · exact Or.inr ⟨h3, h4⟩
      · exact Or.inr ⟨h3, h6⟩
theorem mem_roots {N : Nat} {Pl : Nat → Nat} {x : Nat} : x ∈ rootsL N Pl ↔ x < N ∧ Pl x = x := by simp [rootsL]
theorem roots_nodup (N : Nat) (Pl : Nat → Nat) : (rootsL N Pl).Nodup := List.filter_sublist.nodup List.nodup_range
instance (m : Tb) (out : List Int) (x : Nat) : Decidable (inN m out x) := by
  by_cases h1 : x < m.length + wideM m
  · by_cases h2 : m.length ≤ x ∧ ((x - m.length : Nat) : Int) ∈ out
    · exact .isFalse fun h => h.2 (x - m.length) (by omega) h2.2
    · exact .isTrue ⟨h1, fun j hj hm => h2 ⟨by omega, by rwa [show x - m.length = j by omega]⟩⟩
  · exact .isFalse fun h => h1 h.1
theorem out_root {m : Tb} {out : List Int} (hok : okG m) {j : Int} (hj : j ∈ out) (h0 : 0 ≤ j) : (finG m out).Pl (outNode m.length j) = outNode m.length j := by
  have h := (finG_inv m out).fwd _ _ ((finG_inv m out).idem (outNode m.length j))
  rcases out_alone hok h with h | ⟨h1, h2⟩
  · exact h
  · exact absurd rfl (h2 j hj h0)
def goodRoots (m : Tb) (out : List Int) : List Nat := (rootsL (m.length + wideM m) (finG m out).Pl).filter fun x => decide (inN m out x)
theorem filter_not_len {α : Type} (p : α → Bool) : ∀ l : List α, (l.filter p).length + (l.filter fun x => !p x).length = l.length
  | [] => rfl
  | x :: r => by
    have := filter_not_len p r
    cases h : p x <;> simp [List.filter_cons, h] <;> omega
theorem good_len {m : Tb} {out : List Int} (hok : okG m) (ho : OutOk m out) : ((goodRoots m out).length : Int) = (finG m out).p := by
  rw [(finG_p hok).1]
  have h1 := filter_not_len (fun x => decide (inN m out x)) (rootsL (m.length + wideM m) (finG m out).Pl)
  have h2 : ((rootsL (m.length + wideM m) (finG m out).Pl).filter fun x => !decide (inN m out x)).length = (out.map (outNode m.length)).length := by
    apply Nat.le_antisymm
    · apply List.Nodup.length_le_of_subset (List.filter_sublist.nodup (roots_nodup _ _))
      intro x hx
      rw [List.mem_filter, mem_roots] at hx
      obtain ⟨j, hj, h0, rfl⟩ := not_inN hx.1.1 (by simpa using hx.2)
      exact List.mem_map.2 ⟨j, hj, rfl⟩
    · apply List.Nodup.length_le_of_subset
      · have : ∀ l : List Int, l.Nodup → (∀ j ∈ l, 0 ≤ j) → (l.map (outNode m.length)).Nodup := by
          intro l
          induction l with
          | nil => intro _ _; exact List.nodup_nil
          | cons a r ih =>
            intro hnd hp
            rw [List.map_cons, List.nodup_cons]
            obtain ⟨h1, h2⟩ := List.nodup_cons.1 hnd
            refine ⟨fun hm => ?_, ih h2 fun j hj => hp j (by simp [hj])⟩
            obtain ⟨b, hb, he⟩ := List.mem_map.1 hm
            have ha0 := hp a (by simp)
            have hb0 := hp b (by simp [hb])
            unfold outNode at he
            exact h1 ((show b = a by omega) ▸ hb)
        exact this out ho.1 fun j hj => (ho.2 j hj).1
      · intro x hx
        obtain ⟨j, hj, rfl⟩ := List.mem_map.1 hx
        obtain ⟨h0, hw⟩ := ho.2 j hj
        rw [List.mem_filter, mem_roots]
        refine ⟨⟨by unfold outNode; omega, out_root hok hj h0⟩, ?_⟩
        simp only [Bool.not_eq_true', decide_eq_false_iff_not]
        intro h
        apply h.2 j.toNat rfl
        rwa [show ((j.toNat : Nat) : Int) = j by omega]
  rw [List.length_map] at h2
  unfold goodRoots
  omega
theorem len_le1 {α : Type} : ∀ {l : List α}, l.Nodup → (l.length ≤ 1 ↔ ∀ x ∈ l, ∀ y ∈ l, x = y)
  | [], _ => by simp
  | [a], _ => by simp
  | a :: b :: r, h => by
    constructor
    · intro h; simp at h
    · intro h2
      have := h2 a (by simp) b (by simp)
      subst this
      simp at h
theorem inN_root {m : Tb} {out : List Int} (hok : okG m) {x : Nat} (h : inN m out x) : inN m out ((finG m out).Pl x) := by
  refine ⟨(finG_roots hok).lt _ h.1, fun j hj hm => ?_⟩
  have h1 := (finG_inv m out).fwd _ _ ((finG_inv m out).idem x)
  rcases out_alone hok h1 with h2 | ⟨h2, h3⟩
  · rw [h2] at hj; exact h.2 j hj hm
  · exact h2 j hm (by omega) (by rw [hj]; simp [outNode])
theorem p_iff {m : Tb} {out : List Int} (hok : okG m) (ho : OutOk m out) : (finG m out).p ≤ 1 ↔ AllC m out := by
  rw [← good_len hok ho]
  have h1 := len_le1 (l := goodRoots m out) (List.filter_sublist.nodup (roots_nodup _ _))
  have h2 : ((goodRoots m out).length : Int) ≤ 1 ↔ (goodRoots m out).length ≤ 1 := by omega
  rw [h2, h1]
  constructor
  · intro h x y hx hy
    rw [← (finG_inv m out).iff]
    apply h
    · rw [goodRoots, List.mem_filter, mem_roots]
      exact ⟨⟨(finG_roots hok).lt _ hx.1, (finG_inv m out).idem x⟩, by simpa using inN_root hok hx⟩
    · rw [goodRoots, List.mem_filter, mem_roots]
      exact ⟨⟨(finG_roots hok).lt _ hy.1, (finG_inv m out).idem y⟩, by simpa using inN_root hok hy⟩
  · intro h x hx y hy
    rw [goodRoots, List.mem_filter, mem_roots] at hx hy
    have := ((finG_inv m out).iff x y).2 (h x y (by simpa using hx.2) (by simpa using hy.2))
    rw [hx.1.2, hy.1.2] at this
    exact this
theorem p_pos {m : Tb} {out : List Int} (hok : okG m) (ho : OutOk m out) (h : ∃ x, inN m out x) : 1 ≤ (finG m out).p := by
  rw [← good_len hok ho]
  obtain ⟨x, hx⟩ := h
  have : (finG m out).Pl x ∈ goodRoots m out := by
    rw [goodRoots, List.mem_filter, mem_roots]
    exact ⟨⟨(finG_roots hok).lt _ hx.1, (finG_inv m out).idem x⟩, by simpa using inN_root hok hx⟩
  have := List.length_pos_of_mem this
  omega
theorem outOk_nil (m : Tb) : OutOk m [] := ⟨List.nodup_nil, by simp⟩
theorem inN_nil {m : Tb} {x : Nat} : inN m [] x ↔ x < m.length + wideM m := ⟨fun h => h.1, fun h => ⟨h, by simp⟩⟩
end Go.Proofs
