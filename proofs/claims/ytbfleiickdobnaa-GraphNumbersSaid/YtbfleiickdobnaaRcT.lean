/- The marks that a tree gathers. -/
import Derived.Test.YtbfleiickdobnaaRcR
set_option autoImplicit false
set_option linter.unusedVariables false
set_option linter.unusedSimpArgs false
namespace Go.Proofs
def ie (e : Nat × Nat) : Int × Int := ((e.1 : Int), (e.2 : Int))
def tE (n : Nat) : GS → Ed → Ed
  | _, [] => []
  | s, e :: r => if s.Pl e.1 ≠ s.Pl (n + e.2) then e :: tE n (jG n s e) r else tE n s r
theorem jG_no {n : Nat} {s : GS} {e : Nat × Nat} (h : ¬ s.Pl e.1 ≠ s.Pl (n + e.2)) : jG n s e = s := if_neg h
theorem tE_sub (n : Nat) : ∀ (E : Ed) (s : GS), (tE n s E).Sublist E
  | [], s => List.Sublist.refl _
  | e :: r, s => by
    rw [tE]; split
    · exact (tE_sub n r _).cons_cons e
    · exact (tE_sub n r _).cons e
theorem tE_l (n : Nat) : ∀ (E : Ed) (s : GS), (E.foldl (jG n) s).l = s.l ++ (tE n s E).map ie
  | [], s => by simp [tE]
  | e :: r, s => by
    rw [List.foldl_cons, tE_l n r, tE]
    split
    · rename_i h
      rw [show (jG n s e).l = s.l ++ [ie e] by rw [jG, if_pos h]; rfl]
      simp
    · rename_i h; rw [jG_no h]
theorem tE_fold (n : Nat) : ∀ (E : Ed) (s : GS), (tE n s E).foldl (jG n) s = E.foldl (jG n) s
  | [], s => rfl
  | e :: r, s => by
    rw [List.foldl_cons, tE]
    split
    · rw [List.foldl_cons, tE_fold n r]
    · rename_i h; rw [jG_no h, tE_fold n r]
theorem tE_tE (n : Nat) : ∀ (E : Ed) (s : GS), tE n s (tE n s E) = tE n s E
  | [], s => rfl
  | e :: r, s => by
    rw [tE]
    split
    · rename_i h; rw [tE, if_pos h, tE_tE n r]
    · rw [tE_tE n r]
theorem tE_part (n : Nat) : ∀ {A T : Ed} (h : A.Sublist T) (s1 s2 : GS), (∀ x y, s1.Pl x = s1.Pl y → s2.Pl x = s2.Pl y) → tE n s2 T = T → tE n s1 A = A := by
  intro A T h
  induction h with
  | slnil => intro _ _ _ _; rfl
  | @cons A T a hs ih =>
    intro s1 s2 hf hT
    rw [tE] at hT
    split at hT
    · refine ih s1 (jG n s2 a) ?_ (List.cons.inj hT).2
      intro x y hxy; rw [jG_Pl]; exact jnP_eq (hf x y hxy)
    · have h1 := (tE_sub n T s2).length_le
      rw [hT] at h1; simp at h1; omega
  | @cons_cons A T a hs ih =>
    intro s1 s2 hf hT
    rw [tE] at hT
    split at hT
    · rename_i hne
      have hne1 : s1.Pl a.1 ≠ s1.Pl (n + a.2) := fun h => hne (hf _ _ h)
      rw [tE, if_pos hne1, ih (jG n s1 a) (jG n s2 a) ?_ (List.cons.inj hT).2]
      intro x y hxy
      rw [jG_Pl] at hxy ⊢
      rcases jnP_inv hxy with h1 | ⟨h1, h2⟩ | ⟨h1, h2⟩
      · exact jnP_eq (hf _ _ h1)
      · exact (jnP_eq (hf _ _ h1)).trans (jnP_new.trans (jnP_eq (hf _ _ h2)).symm)
      · exact (jnP_eq (hf _ _ h1)).trans (jnP_new.symm.trans (jnP_eq (hf _ _ h2)).symm)
    · have h1 := (tE_sub n T s2).length_le
      rw [hT] at h1; simp at h1; omega
/-- the tree of a table -/
def treeE (m : Tb) : Ed := tE m.length (init0 m []) (finE m [])
theorem finG_l (m : Tb) : (finG m []).l = (treeE m).map ie := by
  have := tE_l m.length (finE m []) (init0 m [])
  rw [finE, ← allG_E] at this
  exact this
theorem sorted_eq : ∀ {A B : Ed}, A.Pairwise lexE → B.Pairwise lexE → (∀ e, e ∈ A ↔ e ∈ B) → A = B
  | [], [], _, _, _ => rfl
  | [], b :: B, _, _, h => by have := (h b).2 (by simp); cases this
  | a :: A, [], _, _, h => by have := (h a).1 (by simp); cases this
  | a :: A, b :: B, hA, hB, h => by
    obtain ⟨ha, hA2⟩ := List.pairwise_cons.1 hA
    obtain ⟨hb, hB2⟩ := List.pairwise_cons.1 hB
    have hirr : ∀ x : Nat × Nat, ¬ lexE x x := fun x hx => by unfold lexE at hx; omega
    have hab : a = b := by
      have h1 := (h a).1 (by simp)
      have h2 := (h b).2 (by simp)
      rcases List.mem_cons.1 h1 with e | h1
      · exact e
      · rcases List.mem_cons.1 h2 with e | h2
        · exact e.symm
        · have h3 := hb a h1
          have h4 := ha b h2
          unfold lexE at h3 h4; omega
    subst hab
    congr 1
    refine sorted_eq hA2 hB2 fun e => ⟨fun he => ?_, fun he => ?_⟩
    · rcases List.mem_cons.1 ((h e).1 (by simp [he])) with rfl | h1
      · exact absurd (ha _ he) (hirr _)
      · exact h1
    · rcases List.mem_cons.1 ((h e).2 (by simp [he])) with rfl | h1
      · exact absurd (hb _ he) (hirr _)
      · exact h1
/-- a table of the same size with just these marks -/
structure Marks (m x : Tb) (E : Ed) : Prop where
  len : x.length = m.length
  row : ∀ i : Nat, (x.getD i []).length = (m.getD i []).length
  mark : ∀ i j : Nat, (x.getD i []).getD j false = true ↔ (i, j) ∈ E
theorem Marks.wide {m x : Tb} {E : Ed} (h : Marks m x E) : wideM x = wideM m := by
  have := h.row 0
  have hl := h.len
  cases x <;> cases m <;> simp_all [wideM]
theorem Marks.ok {m x : Tb} {E : Ed} (h : Marks m x E) (hok : okG m) : okG x := by
  refine ⟨by rw [h.len]; exact hok.1, fun r hr => ?_⟩
  obtain ⟨i, hi, rfl⟩ := List.mem_iff_getElem.1 hr
  have h1 := h.row i
  have hi2 : i < m.length := by rw [← h.len]; exact hi
  rw [List.getD_eq_getElem?_getD, List.getD_eq_getElem?_getD, List.getElem?_eq_getElem hi, List.getElem?_eq_getElem hi2] at h1
  simp only [Option.getD_some] at h1
  rw [h.wide, h1]
  exact hok.2 _ (List.getElem_mem hi2)
theorem Marks.edges {m x : Tb} {E : Ed} (h : Marks m x E) (hE : E.Pairwise lexE) (hlt : ∀ e ∈ E, e.1 < m.length) : finE x [] = E := by
  refine sorted_eq (allE_sorted _) hE fun e => ?_
  show e ∈ allE x [] x.length ↔ _
  rw [mem_allE, h.mark]
  simp only [List.not_mem_nil, not_false_eq_true, and_true]
  refine ⟨fun h2 => h2.2, fun h2 => ⟨by rw [h.len]; exact hlt e h2, h2⟩⟩
theorem treeE_sub (m : Tb) : (treeE m).Sublist (finE m []) := tE_sub _ _ _
theorem treeE_sorted (m : Tb) : (treeE m).Pairwise lexE := (allE_sorted _).sublist (treeE_sub m)
theorem treeE_lt {m : Tb} (hok : okG m) {e : Nat × Nat} (h : e ∈ treeE m) : e.1 < m.length ∧ e.2 < wideM m := by
  have := finE_lt hok ((treeE_sub m).subset h)
  exact ⟨this.1, this.2.1⟩
theorem Marks.tree {m x : Tb} {A : Ed} (h : Marks m x A) (hok : okG m) (hA : A.Sublist (treeE m)) : treeE x = A := by
  unfold treeE
  rw [h.edges ((treeE_sorted m).sublist hA) (fun e he => (treeE_lt hok (hA.subset he)).1), h.len]
  exact tE_part m.length hA (init0 x []) (init0 m []) (fun x y h => h) (tE_tE _ _ _)
theorem tree_p {m : Tb} (hok : okG m) : (finG m []).p + (treeE m).length = (m.length : Int) + (wideM m : Nat) := by
  have := (finG_p (out := []) hok).2
  rw [finG_l, List.length_map] at this
  simpa using this
theorem AllC.mono {m x : Tb} {o1 o2 : List Int} (hl : m.length = x.length) (h : AllC m o1) (hn : ∀ y, inN x o2 y → inN m o1 y) (he : ∀ e ∈ finE m o1, e ∈ finE x o2) : AllC x o2 :=
  fun a b ha hb => by have := h a b (hn a ha) (hn b hb); rw [hl] at this; exact this.mono he
end Go.Proofs
