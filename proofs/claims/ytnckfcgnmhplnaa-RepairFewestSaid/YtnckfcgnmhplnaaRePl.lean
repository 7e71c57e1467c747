/- Repairs: what all the searches have in common, in plain Lean. -/
import Derived.Test.YtnckfcgnmhplnaaB10
set_option autoImplicit false
set_option linter.unusedVariables false
set_option linter.unusedSimpArgs false
namespace Go.Proofs
open Go.XL
def okP (w : Wi) (pr : List Int) (l : Ls) : Bool := !unbalB w pr l && !apartB w l
theorem ok_iff {w : Wi} {pr : List Int} {l : Ls} : okP w pr l = true ↔ unbalB w pr l = false ∧ apartB w l = false := by unfold okP; simp
theorem why_zero {w : Wi} {old : Ls} {pr : List Int} {l : Ls} {lim : Int} : whyW w old pr l lim = 0 ↔ ((chg old l : Nat) : Int) < lim ∧ okP w pr l = true := by
 rw [ok_iff]; unfold whyW
 split
 ·constructor
  ·intro h; cases h
  ·intro h; omega
 ·split
  ·constructor
   ·intro h; cases h
   ·rintro ⟨_, h, _⟩; simp_all
  ·split
   ·constructor
    ·intro h; cases h
    ·rintro ⟨_, _, h⟩; simp_all
   ·constructor
    ·intro _; exact ⟨by omega, by simp_all, by simp_all⟩
    ·intro _; rfl
/-- all complete assignments that pass every test on the way, in order -/
def sols (w : Wi) (pr : List Int) : Nat → Ls → List Ls
 | 0, l => if okP w pr l = true then [l] else []
 | d + 1, l => if okP w pr l = true then (lstE w pr l.length).flatMap fun x => sols w pr d (l ++ [x]) else []
theorem chg_app : ∀ (old l m : Ls), chg old l ≤ chg old (l ++ m)
  | [], l, m => by simp [chg]
  | o :: old, [], m => by simp [chg]
  | o :: old, x :: l, m => by
    have := chg_app old l m
    simp only [List.cons_append, chg]; omega
theorem sols_pre {w : Wi} {pr : List Int} : ∀ {d : Nat} {l p : Ls}, p ∈ sols w pr d l → ∃ m, p = l ++ m
  | 0, l, p, h => by
    rw [sols] at h; split at h
    · simp only [List.mem_singleton] at h; exact ⟨[], by simp [h]⟩
    · cases h
  | d + 1, l, p, h => by
    rw [sols] at h; split at h
    · obtain ⟨x, _, hx⟩ := List.mem_flatMap.1 h
      obtain ⟨m, hm⟩ := sols_pre hx
      exact ⟨x :: m, by simp [hm]⟩
    · cases h
theorem sols_chg {w : Wi} {pr : List Int} {old : Ls} {d : Nat} {l p : Ls} (h : p ∈ sols w pr d l) : chg old l ≤ chg old p := by
 obtain ⟨m, rfl⟩ := sols_pre h; exact chg_app _ _ _
theorem find_eq {w : Wi} {old : Ls} {pr : List Int} {lim : Int} : ∀ (d : Nat) (l : Ls), findF w old pr lim d l = (sols w pr d l).find? fun p => decide (((chg old p : Nat) : Int) < lim)
  | d, l => by
    by_cases hc : ((chg old l : Nat) : Int) < lim
    · by_cases hk : okP w pr l = true
      · have hw := why_zero.2 ⟨hc, hk⟩
        cases d with
        | zero => rw [find_0 hw, sols, if_pos hk]; simp [hc]
        | succ d =>
          rw [find_s hw, sols, if_pos hk, List.find?_flatMap]
          congr 1; funext x; exact find_eq d _
      · rw [find_no (fun h => hk (why_zero.1 h).2)]
        cases d <;> rw [sols, if_neg hk] <;> rfl
    · rw [find_no (fun h => hc (why_zero.1 h).1)]
      symm; rw [List.find?_eq_none]
      intro p hp
      have := sols_chg (old := old) hp
      simp only [decide_eq_true_eq]; omega
theorem allS_none_iff {α β : Type} {f : α → Option β} : ∀ {l : List α}, allS f l = none ↔ ∃ x ∈ l, f x = none
  | [] => by simp [allS]
  | z :: r => by
    rw [allS]
    cases hz : f z with
    | none => simp [hz]
    | some y =>
      have := allS_none_iff (f := f) (l := r)
      cases hr : allS f r with
      | none => rw [hr] at this; obtain ⟨x, hx, hx2⟩ := this.1 rfl; simp only [true_iff]; exact ⟨x, by simp [hx], hx2⟩
      | some k =>
        rw [hr] at this
        simp only [reduceCtorEq, false_iff]
        rintro ⟨x, hx, hx2⟩
        rcases List.mem_cons.1 hx with rfl | hx
        · rw [hz] at hx2; cases hx2
        · cases this.2 ⟨x, hx, hx2⟩
theorem den_iff {w : Wi} {old : Ls} {pr : List Int} {lim : Int} : ∀ (d : Nat) (l : Ls), denF w old pr lim d l = none ↔ (findF w old pr lim d l).isSome = true
  | d, l => by
    by_cases hw : whyW w old pr l lim = 0
    · cases d with
      | zero => rw [den_0 hw, find_0 hw]; simp
      | succ d =>
        rw [den_s hw, find_s hw, Option.map_eq_none_iff, allS_none_iff]
        constructor
        · rintro ⟨x, hx, h⟩
          have := (den_iff d _).1 h
          cases hf : (lstE w pr l.length).findSome? fun x => findF w old pr lim d (l ++ [x]) with
          | some q => rfl
          | none => rw [List.findSome?_eq_none_iff.1 hf x hx] at this; cases this
        · intro h
          obtain ⟨q, hq⟩ := Option.isSome_iff_exists.1 h
          obtain ⟨x, hx, h2⟩ := List.exists_of_findSome?_eq_some hq
          exact ⟨x, hx, (den_iff d _).2 (by rw [h2]; rfl)⟩
    · rw [den_leaf hw, find_no hw]; simp
/-! ### The best -/
def bst (old : Ls) (acc : Option Ls × Int) (p : Ls) : Option Ls × Int := if ((chg old p : Nat) : Int) < acc.2 then (some p, ((chg old p : Nat) : Int)) else acc
theorem bst_none {old : Ls} : ∀ {S : List Ls} {acc : Option Ls × Int}, (∀ p ∈ S, acc.2 ≤ ((chg old p : Nat) : Int)) → S.foldl (bst old) acc = acc
  | [], acc, _ => rfl
  | p :: S, acc, h => by
    have h1 := h p (by simp)
    rw [List.foldl_cons, bst, if_neg (by omega)]
    exact bst_none fun q hq => h q (by simp [hq])
def tk (old : Ls) (r : Option Ls) (acc : Option Ls × Int) : Option Ls × Int := match r with
 | some p => (some p, ((chg old p : Nat) : Int))
 | none => acc
theorem fold_acc {old : Ls} : ∀ (S : List Ls) (o : Option Ls) (m : Int), S.foldl (bst old) (o, m) = tk old (S.foldl (bst old) (none, m)).1 (o, m)
  | [], o, m => rfl
  | p :: S, o, m => by
    simp only [List.foldl_cons]
    by_cases h : ((chg old p : Nat) : Int) < m
    · have e : ∀ o : Option Ls, bst old (o, m) p = (some p, ((chg old p : Nat) : Int)) := fun o => if_pos h
      rw [e, e, fold_acc S (some p)]
      unfold tk
      cases (S.foldl (bst old) (none, ((chg old p : Nat) : Int))).1 <;> rfl
    · have e : ∀ o : Option Ls, bst old (o, m) p = (o, m) := fun o => if_neg h
      rw [e, e]; exact fold_acc S o m
theorem bstep_tk {w : Wi} {old : Ls} {pr : List Int} {d : Nat} {l : Ls} {acc : Option Ls × Int} {x : List Int} : bstep w old pr d l acc x = tk old (bestF w old pr d (l ++ [x]) acc.2) acc := by
 unfold bstep tk; cases bestF w old pr d (l ++ [x]) acc.2 <;> rfl
theorem best_eq {w : Wi} {old : Ls} {pr : List Int} : ∀ (d : Nat) (l : Ls) (lim : Int), bestF w old pr d l lim = ((sols w pr d l).foldl (bst old) (none, lim)).1
  | d, l, lim => by
    by_cases hc : ((chg old l : Nat) : Int) < lim
    · by_cases hk : okP w pr l = true
      · have hw := why_zero.2 ⟨hc, hk⟩
        cases d with
        | zero => rw [best_0 hw, sols, if_pos hk]; simp [bst, hc]
        | succ d =>
          rw [best_s hw, sols, if_pos hk, List.foldl_flatMap]
          congr 2
          funext acc x
          obtain ⟨o, m⟩ := acc
          rw [bstep_tk, best_eq d, fold_acc (sols w pr d (l ++ [x])) o m]
      · rw [best_no (fun h => hk (why_zero.1 h).2)]
        cases d <;> rw [sols, if_neg hk] <;> rfl
    · rw [best_no (fun h => hc (why_zero.1 h).1), bst_none]
      intro p hp
      have := sols_chg (old := old) hp
      show lim ≤ _; omega
theorem bst_low {old : Ls} {c : Int} : ∀ {S : List Ls} {acc : Option Ls × Int}, (∀ q ∈ S, c < ((chg old q : Nat) : Int)) → c < acc.2 → c < (S.foldl (bst old) acc).2
  | [], acc, _, h => h
  | p :: S, acc, h, h2 => by
    have h1 := h p (by simp)
    rw [List.foldl_cons]
    refine bst_low (fun q hq => h q (by simp [hq])) ?_
    unfold bst; split
    · exact h1
    · exact h2
theorem best_first {old : Ls} {A B : List Ls} {p : Ls} {m : Int} (hA : ∀ q ∈ A, chg old p < chg old q) (hB : ∀ q ∈ B, chg old p ≤ chg old q) (hm : ((chg old p : Nat) : Int) < m) : ((A ++ p :: B).foldl (bst old) (none, m)).1 = some p := by
 rw [List.foldl_append, List.foldl_cons]
 have h := bst_low (old := old) (c := ((chg old p : Nat) : Int)) (S := A) (acc := (none, m)) (fun q hq => by have := hA q hq; omega) hm
 rw [show bst old (A.foldl (bst old) (none, m)) p = (some p, ((chg old p : Nat) : Int)) from if_pos h]
 rw [bst_none fun q hq => by have := hB q hq; show ((chg old p : Nat) : Int) ≤ _; omega]
theorem first_min (old : Ls) : ∀ (S : List Ls), S = [] ∨ ∃ A p B, S = A ++ p :: B ∧ (∀ q ∈ A, chg old p < chg old q) ∧ ∀ q ∈ B, chg old p ≤ chg old q
  | [] => Or.inl rfl
  | x :: S => by
    refine Or.inr ?_
    rcases first_min old S with rfl | ⟨A, p, B, rfl, hA, hB⟩
    · exact ⟨[], x, [], rfl, by simp, by simp⟩
    · by_cases h : chg old p < chg old x
      · exact ⟨x :: A, p, B, rfl, fun q hq => by rcases List.mem_cons.1 hq with rfl | hq; exact h; exact hA q hq, hB⟩
      · refine ⟨[], x, A ++ p :: B, rfl, by simp, fun q hq => ?_⟩
        rcases List.mem_append.1 hq with hq | hq
        · have := hA q hq; omega
        · rcases List.mem_cons.1 hq with rfl | hq
          · omega
          · have := hB q hq; omega
theorem sols_len {w : Wi} {pr : List Int} {n : Nat} (hS : w.S = (n : Nat)) : ∀ {d : Nat} {l p : Ls}, p ∈ sols w pr d l → p.length = l.length + d ∧ ∀ x ∈ p, x ∈ l ∨ x.length = n
  | 0, l, p, h => by
    rw [sols] at h; split at h
    · simp only [List.mem_singleton] at h; subst h; exact ⟨rfl, fun x hx => Or.inl hx⟩
    · cases h
  | d + 1, l, p, h => by
    rw [sols] at h; split at h
    · obtain ⟨y, hy, hx⟩ := List.mem_flatMap.1 h
      obtain ⟨h1, h2⟩ := sols_len hS hx
      refine ⟨by rw [h1, List.length_append]; simp; omega, fun x hx => ?_⟩
      rcases h2 x hx with h3 | h3
      · rcases List.mem_append.1 h3 with h4 | h4
        · exact Or.inl h4
        · simp only [List.mem_singleton] at h4; subst h4; exact Or.inr (lst_rows hS hy)
      · exact Or.inr h3
    · cases h
theorem wid_le {n : Nat} : ∀ {l : Ls}, (∀ x ∈ l, x.length = n) → wid l = l.length * n
  | [], _ => by simp [wid]
  | x :: l, h => by
    have h1 := h x (by simp)
    have h2 := wid_le (l := l) fun y hy => h y (by simp [hy])
    simp only [wid, List.map_cons, List.sum_cons, List.length_cons] at h2 ⊢
    rw [h1, h2, Nat.succ_mul]; omega
section
variable {w : Wi} {old : Ls} {ab : List Int}
abbrev solQ (w : Wi) (ab : List Int) : List Ls := sols w (prs w.J ab) w.B.length []
theorem sol_len {n : Nat} (hS : w.S = (n : Nat)) {p : Ls} (h : p ∈ solQ w ab) : p.length = w.B.length ∧ ∀ x ∈ p, x.length = n := by
 obtain ⟨h1, h2⟩ := sols_len hS h; refine ⟨by simpa using h1, fun x hx => ?_⟩
 rcases h2 x hx with h3 | h3
 ·cases h3
 ·exact h3
theorem sol_lim {n : Nat} (hS : w.S = (n : Nat)) {p : Ls} (h : p ∈ solQ w ab) : chg old p < limN w := by
 obtain ⟨h1, h2⟩ := sol_len hS h
 have h3 := chg_wid old p
 rw [wid_le h2, h1] at h3
 unfold limN; rw [hS]; simp; omega
theorem find_first {A B : List Ls} {p : Ls} (hA : ∀ q ∈ A, chg old p < chg old q) : (A ++ p :: B).find? (fun q => decide (((chg old q : Nat) : Int) < ((chg old p + 1 : Nat) : Int))) = some p := by
 rw [List.find?_append, List.find?_eq_none.2 (fun q hq => by have := hA q hq; simp only [decide_eq_true_eq]; omega), Option.none_or, List.find?_cons_of_pos (by simp only [decide_eq_true_eq]; omega)]
/-- what both ways of answering come to -/
theorem q_cases (he : errE w old ab = 0) : (solQ w ab = [] ∧ makQ w old ab = none ∧ bestQ w old ab = none) ∨
  ∃ A p B, solQ w ab = A ++ p :: B ∧ (∀ q ∈ A, chg old p < chg old q) ∧ (∀ q ∈ B, chg old p ≤ chg old q) ∧ makQ w old ab = some (p, chg old p) ∧ bestQ w old ab = some (p, chg old p) := by
 obtain ⟨n, hok, _⟩ := q_ok he
 rcases first_min old (solQ w ab) with h | ⟨A, p, B, h, hA, hB⟩
 ·refine Or.inl ⟨h, mak_n he fun i hi => ?_, bq_n he ?_⟩
  ·rw [find_eq]; show (solQ w ab).find? _ = none; rw [h]; rfl
  ·rw [best_eq]; show ((solQ w ab).foldl (bst old) _).1 = none; rw [h]; rfl
 ·refine Or.inr ⟨A, p, B, h, hA, hB, mak_y he (sol_lim hok.S (by rw [h]; simp)) (fun i hi => ?_) ?_, bq_y he ?_⟩
  ·rw [find_eq]; show (solQ w ab).find? _ = none; rw [h, List.find?_eq_none]
   intro q hq
   have : chg old p ≤ chg old q := by
    rcases List.mem_append.1 hq with hq | hq
    ·have := hA q hq; omega
    ·rcases List.mem_cons.1 hq with rfl | hq
     ·omega
     ·exact hB q hq
   simp only [decide_eq_true_eq]; omega
  ·rw [find_eq]; show (solQ w ab).find? _ = some p; rw [h]; exact find_first hA
  ·rw [best_eq]; show ((solQ w ab).foldl (bst old) _).1 = some p; rw [h]
   exact best_first hA hB (by have := sol_lim (ab := ab) (old := old) hok.S (p := p) (by rw [h]; simp); omega)
theorem mq_eq : bestQ w old ab = makQ w old ab := by
 by_cases he : errE w old ab = 0
 ·rcases q_cases he with ⟨_, h1, h2⟩ | ⟨_, _, _, _, _, _, h1, h2⟩ <;> rw [h1, h2]
 ·rw [mak_e he, bq_e he]
theorem mq_len : (oL (makQ w old ab)).length < 9223372036854775808 ∧ ∀ x ∈ oL (makQ w old ab), x.length < 9223372036854775808 := by
 by_cases he : errE w old ab = 0
 ·obtain ⟨n, hok, _⟩ := q_ok he
  have h3 := hok.B
  have h4 := hok.n1
  rcases q_cases he with ⟨_, h1, h2⟩ | ⟨A, p, B, h, _, _, h1, h2⟩ <;> rw [h1]
  ·exact ⟨by decide, fun x hx => by cases hx⟩
  ·have h5 := sol_len (ab := ab) hok.S (p := p) (by rw [h]; simp)
   exact ⟨by show p.length < _; omega, fun x hx => by have := h5.2 x hx; omega⟩
 ·rw [mak_e he]; exact ⟨by decide, fun x hx => by cases hx⟩
end
/-! ### Denials -/
theorem allS_mem {α β : Type} {f : α → Option β} : ∀ {l : List α} {k : List β} {y : β}, allS f l = some k → y ∈ k → ∃ x ∈ l, f x = some y
  | [], k, y, h, hy => by simp [allS] at h; subst h; cases hy
  | z :: r, k, y, h, hy => by
    rw [allS] at h
    cases hz : f z with
    | none => rw [hz] at h; cases h
    | some u =>
      rw [hz] at h; simp only at h
      cases hr : allS f r with
      | none => rw [hr] at h; cases h
      | some v =>
        rw [hr] at h; simp only [Option.some.injEq] at h; subst h
        rcases List.mem_cons.1 hy with rfl | hy
        · exact ⟨z, by simp, hz⟩
        · obtain ⟨x, hx, h2⟩ := allS_mem hr hy; exact ⟨x, by simp [hx], h2⟩
theorem allS_zip {α β : Type} {f : α → Option β} {g : α → β → Bool} (hg : ∀ x y, f x = some y → g x y = true) : ∀ {l : List α} {k : List β}, allS f l = some k → zipB g l k = true
  | [], k, h => by simp [allS] at h; subst h; rfl
  | z :: r, k, h => by
    rw [allS] at h
    cases hz : f z with
    | none => rw [hz] at h; cases h
    | some u =>
      rw [hz] at h; simp only at h
      cases hr : allS f r with
      | none => rw [hr] at h; cases h
      | some v =>
        rw [hr] at h; simp only [Option.some.injEq] at h; subst h
        rw [zipB, hg _ _ hz, allS_zip hg hr]; rfl
theorem den_fit {w : Wi} {old : Ls} {pr : List Int} {lim : Int} (hp : pr.length ≤ 8) : ∀ (d : Nat) (l : Ls) (D : Den), denF w old pr lim d l = some D → FitD D
  | d, l, D, h => by
    by_cases hw : whyW w old pr l lim = 0
    · cases d with
      | zero => rw [den_0 hw] at h; cases h
      | succ d =>
        rw [den_s hw] at h
        obtain ⟨k, hk, rfl⟩ := Option.map_eq_some_iff.1 h
        have h1 := allS_len hk
        have h2 := lst_size (w := w) (e := l.length) hp
        refine .mk _ _ _ (by omega) fun y hy => ?_
        obtain ⟨x, _, hx⟩ := allS_mem hk hy
        exact den_fit hp d _ y hx
    · rw [den_leaf hw] at h; cases h
      exact .mk _ _ _ (by decide) fun y hy => by cases hy
theorem isY_why {w : Wi} {old : Ls} {pr : List Int} {l : Ls} {lim y : Int} (hy : y = 3 ∨ y = 1 ∨ y = 2) (h : isY w old pr l lim y = true) : whyW w old pr l lim ≠ 0 := by
 intro h0
 have h1 := why_zero.1 h0
 rw [ok_iff] at h1
 obtain ⟨h2, h3, h4⟩ := h1
 unfold isY at h
 rcases hy with rfl | rfl | rfl
 ·rw [if_pos rfl, decide_eq_true_eq] at h; omega
 ·rw [if_neg (by decide), if_pos rfl, h3] at h; cases h
 ·rw [if_neg (by decide), if_neg (by decide), h4] at h; cases h
theorem why_isY {w : Wi} {old : Ls} {pr : List Int} {l : Ls} {lim : Int} (h : whyW w old pr l lim ≠ 0) : (whyW w old pr l lim = 3 ∨ whyW w old pr l lim = 1 ∨ whyW w old pr l lim = 2) ∧ isY w old pr l lim (whyW w old pr l lim) = true := by
 unfold whyW at h ⊢
 split
 ·rename_i h1; exact ⟨by simp, by unfold isY; simp [h1]⟩
 ·rename_i h1
  rw [if_neg h1] at h
  split
  ·rename_i h2; exact ⟨by simp, by unfold isY; simp [h2]⟩
  ·rename_i h2
   rw [if_neg h2] at h
   split
   ·rename_i h3; exact ⟨by simp, by unfold isY; simp [h3]⟩
   ·rename_i h3; rw [if_neg h3] at h; exact absurd rfl h
theorem leaf_why {w : Wi} {old : Ls} {pr : List Int} {l : Ls} {lim : Int} {D : Den} (h : leafB w old pr lim l D = true) : whyW w old pr l lim ≠ 0 := by
 unfold leafB at h
 simp only [Bool.and_eq_true, Bool.or_eq_true, decide_eq_true_eq] at h
 exact isY_why (by rcases h.2.1 with (h | h) | h <;> simp [h]) h.2.2
theorem zip_all {α β : Type} {g : α → β → Bool} : ∀ {l : List α} {k : List β}, zipB g l k = true → ∀ x ∈ l, ∃ y, g x y = true
  | [], k, _, x, hx => by cases hx
  | z :: r, [], h, x, hx => by cases h
  | z :: r, y :: k, h, x, hx => by
    rw [zipB, Bool.and_eq_true] at h
    rcases List.mem_cons.1 hx with rfl | hx
    · exact ⟨y, h.1⟩
    · exact zip_all h.2 x hx
theorem ref_sound {w : Wi} {old : Ls} {pr : List Int} {lim : Int} : ∀ (d : Nat) (l : Ls) (D : Den), refF w old pr lim d l D = true → findF w old pr lim d l = none
  | d, l, .mk e y ks, h => by
    by_cases he : e = -1
    · rw [ref_leaf he] at h; exact find_no (leaf_why h)
    · cases d with
      | zero => rw [ref_0 he] at h; cases h
      | succ d =>
        by_cases h2 : e = (l.length : Nat) ∧ y = 0
        · rw [ref_s he h2] at h
          by_cases hw : whyW w old pr l lim = 0
          · rw [find_s hw, List.findSome?_eq_none_iff]
            intro x hx
            obtain ⟨D', hD⟩ := zip_all h x hx
            exact ref_sound d _ D' hD
          · exact find_no hw
        · rw [ref_bad he h2] at h; cases h
theorem den_ref {w : Wi} {old : Ls} {pr : List Int} {lim : Int} : ∀ (d : Nat) (l : Ls) (D : Den), denF w old pr lim d l = some D → refF w old pr lim d l D = true
  | d, l, D, h => by
    by_cases hw : whyW w old pr l lim = 0
    · cases d with
      | zero => rw [den_0 hw] at h; cases h
      | succ d =>
        rw [den_s hw] at h
        obtain ⟨k, hk, rfl⟩ := Option.map_eq_some_iff.1 h
        rw [ref_s (by omega) ⟨rfl, rfl⟩]
        exact allS_zip (f := fun x => denF w old pr lim d (l ++ [x])) (fun x y hxy => den_ref d _ y hxy) hk
    · rw [den_leaf hw] at h; cases h
      rw [ref_leaf rfl]
      obtain ⟨h1, h2⟩ := why_isY hw
      unfold leafB
      simp only [Den.K, Den.Y, Bool.and_eq_true, Bool.or_eq_true, decide_eq_true_eq]
      exact ⟨rfl, by rcases h1 with h | h | h <;> simp [h], h2⟩
section
variable {w : Wi} {old : Ls} {ab : List Int} {lim : Int}
theorem dq_fit (D : Den) (h : denQ w old ab lim = some D) : FitD D := by
 by_cases he : errE w old ab = 0
 ·obtain ⟨n, hok, _⟩ := q_ok he
  rw [dq_0 he] at h; exact den_fit hok.prl _ _ _ h
 ·rw [dq_e he] at h; cases h
theorem dq_fitD : FitD ((denQ w old ab lim).getD d0) := by
 cases h : denQ w old ab lim with
 | none => exact .mk _ _ _ (by decide) fun y hy => by cases hy
 | some D => exact dq_fit D h
/-- when a denial is given -/
theorem dq_some (he : errE w old ab = 0) : (denQ w old ab lim).isSome = true ↔ ∀ p ∈ solQ w ab, lim ≤ (chg old p : Nat) := by
  rw [dq_0 he]
  have h1 := den_iff (w := w) (old := old) (pr := prs w.J ab) (lim := lim) w.B.length []
  rw [find_eq] at h1
  constructor
  · intro h p hp
    cases hf : (sols w (prs w.J ab) w.B.length []).find? fun p => decide (((chg old p : Nat) : Int) < lim) with
    | some q => rw [h1.2 (by rw [hf]; rfl)] at h; cases h
    | none => have := List.find?_eq_none.1 hf p hp; simp only [decide_eq_true_eq] at this; omega
  · intro h
    cases hd : denF w old (prs w.J ab) lim w.B.length [] with
    | some D => rfl
    | none =>
      have h2 := h1.1 hd
      obtain ⟨q, hq⟩ := Option.isSome_iff_exists.1 h2
      have h3 := List.find?_some hq
      have h4 := h q (List.mem_of_find?_eq_some hq)
      simp only [decide_eq_true_eq] at h3; omega
theorem dq_mak (he : errE w old ab = 0) : (denQ w old ab lim).isSome = true ↔ (makQ w old ab = none ∨ lim ≤ (oN (makQ w old ab) : Nat)) := by
 rw [dq_some he]
 rcases q_cases he with ⟨h, h1, _⟩ | ⟨A, p, B, h, hA, hB, h1, _⟩ <;> rw [h, h1]
 ·simp
 ·constructor
  ·intro h2; exact Or.inr (h2 p (by simp))
  ·intro h2 q hq
   have h3 : lim ≤ (chg old p : Nat) := by rcases h2 with h2 | h2; cases h2; exact h2
   have : chg old p ≤ chg old q := by
    rcases List.mem_append.1 hq with hq | hq
    ·have := hA q hq; omega
    ·rcases List.mem_cons.1 hq with rfl | hq
     ·omega
     ·exact hB q hq
   omega
theorem rq_sound {D : Den} (h : refQ w old ab lim D = true) : (denQ w old ab lim).isSome = true := by
 by_cases he : errE w old ab = 0
 ·rw [rq_0 he] at h
  rw [dq_0 he]
  have h1 := ref_sound _ _ _ h
  cases hd : denF w old (prs w.J ab) lim w.B.length [] with
  | some D => rfl
  | none => have := (den_iff _ _).1 hd; rw [h1] at this; cases this
 ·rw [rq_e he] at h; cases h
theorem rq_den {D : Den} (h : denQ w old ab lim = some D) : refQ w old ab lim D = true := by
 by_cases he : errE w old ab = 0
 ·rw [dq_0 he] at h; rw [rq_0 he]; exact den_ref _ _ _ h
 ·rw [dq_e he] at h; cases h
end
end Go.Proofs
