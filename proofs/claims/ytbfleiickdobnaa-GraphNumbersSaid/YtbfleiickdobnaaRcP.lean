/- The parts of a table: the marks joined so far and the names of the parts. -/
import Derived.Test.YtbfleiickdobnaaRcG
set_option autoImplicit false
set_option linter.unusedVariables false
set_option linter.unusedSimpArgs false
namespace Go.Proofs
abbrev Ed := List (Nat × Nat)
def jG (n : Nat) (s : GS) (e : Nat × Nat) : GS := if s.Pl e.1 ≠ s.Pl (n + e.2) then ⟨jnP s.Pl e.1 (n + e.2), s.p - 1, s.l ++ [((e.1 : Int), (e.2 : Int))]⟩ else s
def rowE (out : List Int) (i : Nat) (row : List Bool) : Nat → Ed
  | 0 => []
  | k + 1 => rowE out i row k ++ (if row.getD k false = true ∧ (k : Int) ∉ out then [(i, k)] else [])
def allE (m : Tb) (out : List Int) : Nat → Ed
  | 0 => []
  | i + 1 => allE m out i ++ rowE out i (m.getD i []) (m.getD i []).length
theorem rowG_E {n : Nat} {out : List Int} {i : Nat} {row : List Bool} {s : GS} : ∀ k : Nat, rowG n out i row k s = (rowE out i row k).foldl (jG n) s
  | 0 => rfl
  | k + 1 => by
    rw [rowG, rowE, List.foldl_append, ← rowG_E k]
    by_cases h : row.getD k false = true ∧ (k : Int) ∉ out
    · rw [if_pos h]
      simp only [List.foldl_cons, List.foldl_nil, stepG, jG, h.1, h.2, true_and, not_false_eq_true]
    · rw [if_neg h]
      simp only [List.foldl_nil, stepG]
      rw [if_neg (fun h2 => h ⟨h2.1, h2.2.1⟩)]
def init0 (m : Tb) (out : List Int) : GS := ⟨fun x => x, (m.length : Int) + (wideM m : Nat) - out.length, []⟩
theorem allG_E {m : Tb} {out : List Int} : ∀ k : Nat, allG m out k = (allE m out k).foldl (jG m.length) (init0 m out)
  | 0 => rfl
  | k + 1 => by rw [allG, allE, List.foldl_append, ← allG_E k, rowG_E]
theorem mem_rowE {out : List Int} {i : Nat} {row : List Bool} {e : Nat × Nat} : ∀ k : Nat, e ∈ rowE out i row k ↔ e.1 = i ∧ e.2 < k ∧ row.getD e.2 false = true ∧ (e.2 : Int) ∉ out
  | 0 => by simp [rowE]
  | k + 1 => by
    obtain ⟨a, b⟩ := e
    rw [rowE, List.mem_append, mem_rowE k]
    by_cases h : row.getD k false = true ∧ (k : Int) ∉ out
    · rw [if_pos h]
      simp only [List.mem_singleton, Prod.mk.injEq]
      constructor
      · rintro (⟨h1, h2, h3⟩ | ⟨rfl, rfl⟩)
        · exact ⟨h1, by omega, h3⟩
        · exact ⟨rfl, by omega, h⟩
      · rintro ⟨h1, h2, h3⟩
        by_cases hb : b = k
        · exact Or.inr ⟨h1, hb⟩
        · exact Or.inl ⟨h1, by omega, h3⟩
    · rw [if_neg h]
      simp only [List.not_mem_nil, or_false]
      constructor
      · rintro ⟨h1, h2, h3⟩; exact ⟨h1, by omega, h3⟩
      · rintro ⟨h1, h2, h3⟩
        by_cases hb : b = k
        · subst hb; exact absurd h3 h
        · exact ⟨h1, by omega, h3⟩
theorem mem_allE {m : Tb} {out : List Int} {e : Nat × Nat} : ∀ k : Nat, e ∈ allE m out k ↔ e.1 < k ∧ (m.getD e.1 []).getD e.2 false = true ∧ (e.2 : Int) ∉ out
  | 0 => by simp [allE]
  | k + 1 => by
    rw [allE, List.mem_append, mem_allE k, mem_rowE]
    constructor
    · rintro (⟨h1, h2⟩ | ⟨h1, h2, h3⟩)
      · exact ⟨by omega, h2⟩
      · rw [h1]; exact ⟨by omega, h3⟩
    · rintro ⟨h1, h2, h3⟩
      by_cases hb : e.1 = k
      · refine Or.inr ⟨hb, ?_, by rw [← hb]; exact h2, h3⟩
        rw [← hb]
        rcases Nat.lt_or_ge e.2 (m.getD e.1 []).length with h | h
        · exact h
        · rw [List.getD_eq_getElem?_getD (i := e.2), List.getElem?_eq_none h] at h2; cases h2
      · exact Or.inl ⟨by omega, h2, h3⟩
def lexE (a b : Nat × Nat) : Prop := a.1 < b.1 ∨ a.1 = b.1 ∧ a.2 < b.2
theorem rowE_sorted {out : List Int} {i : Nat} {row : List Bool} : ∀ k : Nat, (rowE out i row k).Pairwise lexE
  | 0 => by simp [rowE]
  | k + 1 => by
    rw [rowE, List.pairwise_append]
    refine ⟨rowE_sorted k, ?_, ?_⟩
    · split <;> simp
    · intro a ha b hb
      have h1 := (mem_rowE k).1 ha
      split at hb
      · simp at hb; subst hb; exact Or.inr ⟨h1.1, h1.2.1⟩
      · simp at hb
theorem allE_sorted {m : Tb} {out : List Int} : ∀ k : Nat, (allE m out k).Pairwise lexE
  | 0 => by simp [allE]
  | k + 1 => by
    rw [allE, List.pairwise_append]
    refine ⟨allE_sorted k, rowE_sorted _, ?_⟩
    intro a ha b hb
    have h1 := ((mem_allE k).1 ha).1
    have h2 := ((mem_rowE _).1 hb).1
    exact Or.inl (by omega)
/-! ### Connected nodes -/
inductive Cn (n : Nat) (E : Ed) : Nat → Nat → Prop
  | refl (x : Nat) : Cn n E x x
  | edge (e : Nat × Nat) : e ∈ E → Cn n E e.1 (n + e.2)
  | symm {x y : Nat} : Cn n E x y → Cn n E y x
  | trans {x y z : Nat} : Cn n E x y → Cn n E y z → Cn n E x z
theorem Cn.map {n n' : Nat} {E E' : Ed} {φ : Nat → Nat} (h : ∀ e ∈ E, Cn n' E' (φ e.1) (φ (n + e.2))) {x y : Nat} (hc : Cn n E x y) : Cn n' E' (φ x) (φ y) := by
  induction hc with
  | refl x => exact .refl _
  | edge e he => exact h e he
  | symm _ ih => exact ih.symm
  | trans _ _ h1 h2 => exact h1.trans h2
theorem Cn.mono {n : Nat} {E E' : Ed} (h : ∀ e ∈ E, e ∈ E') {x y : Nat} (hc : Cn n E x y) : Cn n E' x y := Cn.map (φ := fun x => x) (fun e he => .edge e (h e he)) hc
theorem jnP_eq {Pl : Nat → Nat} {a b x y : Nat} (h : Pl x = Pl y) : jnP Pl a b x = jnP Pl a b y := by
  unfold jnP; split
  · exact h
  · simp only [ren, h]
theorem jnP_new {Pl : Nat → Nat} {a b : Nat} : jnP Pl a b a = jnP Pl a b b := by
  unfold jnP; split
  · assumption
  · rename_i h; simp [ren, h]
theorem jnP_inv {Pl : Nat → Nat} {a b x y : Nat} (h : jnP Pl a b x = jnP Pl a b y) : Pl x = Pl y ∨ (Pl x = Pl a ∧ Pl y = Pl b) ∨ (Pl x = Pl b ∧ Pl y = Pl a) := by
  unfold jnP at h
  split at h
  · exact Or.inl h
  · simp only [ren] at h
    split at h <;> split at h
    · exact Or.inl (by omega)
    · exact Or.inr (Or.inr ⟨by assumption, h.symm⟩)
    · exact Or.inr (Or.inl ⟨h, by assumption⟩)
    · exact Or.inl h
theorem jnP_ne {Pl : Nat → Nat} {a b : Nat} (h : Pl a ≠ Pl b) (x : Nat) : jnP Pl a b x = if Pl x = Pl b then Pl a else Pl x := by
  rw [jnP, if_neg h]; rfl
theorem jnP_idem {Pl : Nat → Nat} {a b : Nat} (h : ∀ x, Pl (Pl x) = Pl x) (x : Nat) : jnP Pl a b (jnP Pl a b x) = jnP Pl a b x := by
  by_cases he : Pl a = Pl b
  · rw [jnP, if_pos he]; exact h x
  · rw [jnP_ne he x]
    by_cases h1 : Pl x = Pl b
    · rw [if_pos h1, jnP_ne he, h, if_neg he]
    · rw [if_neg h1, jnP_ne he, h, if_neg h1]
/-- what holds of the state behind some marks -/
structure SInv (n : Nat) (E : Ed) (s : GS) : Prop where
  fwd : ∀ x y, s.Pl x = s.Pl y → Cn n E x y
  ed : ∀ e ∈ E, s.Pl e.1 = s.Pl (n + e.2)
  idem : ∀ x, s.Pl (s.Pl x) = s.Pl x
theorem SInv.iff {n : Nat} {E : Ed} {s : GS} (h : SInv n E s) (x y : Nat) : s.Pl x = s.Pl y ↔ Cn n E x y := by
  refine ⟨h.fwd x y, fun hc => ?_⟩
  induction hc with
  | refl => rfl
  | edge e he => exact h.ed e he
  | symm _ ih => exact ih.symm
  | trans _ _ h1 h2 => exact h1.trans h2
theorem jG_Pl {n : Nat} {s : GS} {e : Nat × Nat} : (jG n s e).Pl = jnP s.Pl e.1 (n + e.2) := by
  unfold jG; split
  · rfl
  · rename_i h; rw [jnP, if_pos (Decidable.not_not.1 h)]
theorem SInv.step {n : Nat} {E : Ed} {s : GS} (h : SInv n E s) (e : Nat × Nat) : SInv n (E ++ [e]) (jG n s e) := by
  refine ⟨?_, ?_, ?_⟩
  · intro x y hxy
    rw [jG_Pl] at hxy
    have hm : ∀ {x y}, Cn n E x y → Cn n (E ++ [e]) x y := fun h => h.mono (fun e he => by simp [he])
    have he : Cn n (E ++ [e]) e.1 (n + e.2) := .edge e (by simp)
    rcases jnP_inv hxy with h1 | ⟨h1, h2⟩ | ⟨h1, h2⟩
    · exact hm (h.fwd _ _ h1)
    · exact (hm (h.fwd _ _ h1)).trans (he.trans (hm (h.fwd _ _ h2)).symm)
    · exact (hm (h.fwd _ _ h1)).trans (he.symm.trans (hm (h.fwd _ _ h2)).symm)
  · intro f hf
    rw [jG_Pl]
    rcases List.mem_append.1 hf with hf | hf
    · exact jnP_eq (h.ed f hf)
    · simp at hf; subst hf; exact jnP_new
  · intro x
    rw [jG_Pl]
    exact jnP_idem h.idem x
theorem SInv.fold {n : Nat} : ∀ (E2 E : Ed) {s : GS}, SInv n E s → SInv n (E ++ E2) (E2.foldl (jG n) s)
  | [], E, s, h => by simpa using h
  | e :: r, E, s, h => by
    have := SInv.fold r (E ++ [e]) (h.step e)
    simpa using this
theorem SInv.init {n : Nat} {m : Tb} {out : List Int} : SInv n [] (init0 m out) := ⟨fun x y h => by rw [show x = y from h]; exact .refl _, fun _ h => (by cases h), fun _ => rfl⟩
def finG (m : Tb) (out : List Int) : GS := allG m out m.length
def finE (m : Tb) (out : List Int) : Ed := allE m out m.length
theorem finG_inv (m : Tb) (out : List Int) : SInv m.length (finE m out) (finG m out) := by
  have := SInv.fold (finE m out) [] (SInv.init (n := m.length) (m := m) (out := out))
  rw [List.nil_append] at this
  rwa [show (finE m out).foldl (jG m.length) (init0 m out) = finG m out from (allG_E _).symm] at this
/-! ### How many parts there are -/
def rootsL (N : Nat) (Pl : Nat → Nat) : List Nat := (List.range N).filter fun x => Pl x == x
structure RInv (N : Nat) (s : GS) : Prop where
  lt : ∀ x, x < N → s.Pl x < N
  idem : ∀ x, s.Pl (s.Pl x) = s.Pl x
  cnt : (rootsL N s.Pl).length + s.l.length = N
theorem filter_drop1 : ∀ {l : List Nat} {p q : Nat → Bool} {b : Nat}, l.Nodup → b ∈ l → p b = true → (∀ x ∈ l, q x = (p x && x != b)) → (l.filter q).length + 1 = (l.filter p).length
  | [], p, q, b, hnd, hb, hp, hq => by simp at hb
  | x :: r, p, q, b, hnd, hb, hp, hq => by
    obtain ⟨hx, hnd⟩ := List.nodup_cons.1 hnd
    have hqx := hq x (by simp)
    have hqr : ∀ y ∈ r, q y = (p y && y != b) := fun y hy => hq y (by simp [hy])
    by_cases e : x = b
    · subst e
      have h0 : q x = false := by rw [hqx]; simp
      have h1 : r.filter q = r.filter p := by
        apply List.filter_congr
        intro y hy
        rw [hqr y hy]
        have : (y != x) = true := by simp; rintro rfl; exact hx hy
        rw [this, Bool.and_true]
      simp [List.filter_cons, h0, hp, h1]
    · have hb' : b ∈ r := by rcases List.mem_cons.1 hb with h | h; exact absurd h.symm e; exact h
      have ih := filter_drop1 hnd hb' hp hqr
      have h2 : q x = p x := by rw [hqx]; simp [e]
      cases h3 : p x <;> simp [List.filter_cons, h2, h3, ih]
theorem RInv.step {n N : Nat} {s : GS} (h : RInv N s) {e : Nat × Nat} (h1 : e.1 < N) (h2 : n + e.2 < N) : RInv N (jG n s e) := by
  unfold jG
  split
  · rename_i hne
    refine ⟨?_, ?_, ?_⟩
    · intro x hx
      show jnP s.Pl e.1 (n + e.2) x < N
      rw [jnP_ne hne]
      split
      · exact h.lt _ h1
      · exact h.lt x hx
    · intro x
      show jnP s.Pl e.1 (n + e.2) (jnP s.Pl e.1 (n + e.2) x) = jnP s.Pl e.1 (n + e.2) x
      exact jnP_idem h.idem x
    · show (rootsL N (jnP s.Pl e.1 (n + e.2))).length + (s.l ++ [((e.1 : Int), (e.2 : Int))]).length = N
      have hc := h.cnt
      have := filter_drop1 (l := List.range N) (p := fun x => s.Pl x == x) (q := fun x => jnP s.Pl e.1 (n + e.2) x == x) (b := s.Pl (n + e.2)) List.nodup_range (List.mem_range.2 (h.lt _ h2)) (by simp [h.idem]) (by
        intro x _
        simp only [jnP_ne hne]
        by_cases h3 : s.Pl x = s.Pl (n + e.2)
        · rw [if_pos h3]
          by_cases h4 : x = s.Pl (n + e.2)
          · subst h4; simp [hne]
          · have h5 : (s.Pl x == x) = false := by rw [h3]; simpa using Ne.symm h4
            rw [h5, Bool.false_and]
            simp only [beq_eq_false_iff_ne, ne_eq]
            rintro rfl
            rw [h.idem] at h3
            exact hne h3
        · rw [if_neg h3]
          by_cases h4 : s.Pl x = x
          · have h5 : (s.Pl x == x) = true := by simp [h4]
            rw [h5, Bool.true_and]; symm
            simp only [bne_iff_ne, ne_eq]
            intro h6; apply h3; rw [h4, h6]
          · have h5 : (s.Pl x == x) = false := by simpa using h4
            rw [h5, Bool.false_and])
      unfold rootsL at hc ⊢
      simp only [List.length_append, List.length_cons, List.length_nil]
      omega
  · exact h
theorem RInv.fold {n N : Nat} : ∀ (E : Ed) {s : GS}, RInv N s → (∀ e ∈ E, e.1 < N ∧ n + e.2 < N) → RInv N (E.foldl (jG n) s)
  | [], s, h, _ => h
  | e :: r, s, h, hE => RInv.fold r (h.step (hE e (by simp)).1 (hE e (by simp)).2) (fun f hf => hE f (by simp [hf]))
theorem fold_p {n : Nat} : ∀ (E : Ed) (s : GS), (E.foldl (jG n) s).p + (E.foldl (jG n) s).l.length = s.p + s.l.length
  | [], s => rfl
  | e :: r, s => by
    rw [List.foldl_cons, fold_p r]
    unfold jG
    split
    · show s.p - 1 + ((s.l ++ [((e.1 : Int), (e.2 : Int))]).length : Int) = _
      simp only [List.length_append, List.length_cons, List.length_nil]; omega
    · rfl
theorem finE_lt {m : Tb} {out : List Int} (hok : okG m) {e : Nat × Nat} (he : e ∈ finE m out) : e.1 < m.length ∧ e.2 < wideM m ∧ (e.2 : Int) ∉ out := by
  obtain ⟨h1, h2, h3⟩ := (mem_allE _).1 he
  refine ⟨h1, ?_, h3⟩
  obtain ⟨row, hx⟩ : ∃ row, m[e.1]? = some row := ⟨_, List.getElem?_eq_getElem h1⟩
  rw [List.getD_eq_getElem?_getD (l := m), hx] at h2
  have := (hok.2 row (List.mem_of_getElem? hx)).1
  rcases Nat.lt_or_ge e.2 row.length with h | h
  · omega
  · rw [Option.getD_some, List.getD_eq_getElem?_getD, List.getElem?_eq_none h] at h2; cases h2
theorem finG_roots {m : Tb} {out : List Int} (hok : okG m) : RInv (m.length + wideM m) (finG m out) := by
  rw [finG, allG_E]
  refine RInv.fold _ ⟨fun x hx => hx, fun _ => rfl, ?_⟩ (fun e he => by have := finE_lt hok (show e ∈ finE m out from he); omega)
  show (rootsL _ fun x => x).length + 0 = _
  rw [rootsL, List.filter_eq_self.2 (by simp), List.length_range]; rfl
theorem finG_p {m : Tb} {out : List Int} (hok : okG m) : (finG m out).p = ((rootsL (m.length + wideM m) (finG m out).Pl).length : Int) - out.length ∧ (finG m out).p + (finG m out).l.length = (m.length : Int) + (wideM m : Nat) - out.length := by
  have h1 := fold_p (n := m.length) (allE m out m.length) (init0 m out)
  rw [← allG_E] at h1
  have h2 := (finG_roots (out := out) hok).cnt
  have h3 : (init0 m out).p + (init0 m out).l.length = (m.length : Int) + (wideM m : Nat) - out.length := by simp [init0]
  rw [h3] at h1
  unfold finG at h2 ⊢
  constructor <;> omega
end Go.Proofs
