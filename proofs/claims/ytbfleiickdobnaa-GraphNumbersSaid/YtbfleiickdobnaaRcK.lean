/- The lists of judges, in order. -/
import Derived.Test.YtbfleiickdobnaaRcN
import Derived.Test.YtbfleiickdobnaaXLz
set_option autoImplicit false
set_option linter.unusedVariables false
set_option linter.unusedSimpArgs false
namespace Go.Proofs
open Go.XL
def listsF (n : Nat) : Nat → List Int → Nat → List (List Int)
  | 0, l, _ => [l]
  | k + 1, l, f => (List.range' f (n - f)).flatMap fun j => listsF n k (l ++ [((j : Nat) : Int)]) (j + 1)
def listsU (n k : Nat) (l : List Int) (f i : Nat) : List (List Int) := (List.range' f i).flatMap fun j => listsF n k (l ++ [((j : Nat) : Int)]) (j + 1)
theorem listsF_succ (n k : Nat) (l : List Int) (f : Nat) : listsF n (k + 1) l f = listsU n k l f (n - f) := rfl
theorem listsU_succ (n k : Nat) (l : List Int) (f i : Nat) : listsU n k l f (i + 1) = listsU n k l f i ++ listsF n k (l ++ [((f + i : Nat) : Int)]) (f + i + 1) := by
  simp [listsU, List.range'_concat]
theorem listsU_le (n k : Nat) (l : List Int) (f i : Nat) : ∀ d : Nat, ∃ post, listsU n k l f (i + d) = listsU n k l f i ++ post
  | 0 => ⟨[], by simp⟩
  | d + 1 => by
    obtain ⟨post, h⟩ := listsU_le n k l f i d
    exact ⟨post ++ listsF n k (l ++ [((f + (i + d) : Nat) : Int)]) (f + (i + d) + 1), by rw [← Nat.add_assoc, listsU_succ, h, List.append_assoc]⟩
theorem listsU_split {n k : Nat} {l : List Int} {f i m : Nat} (h : i < m) : ∃ post, listsU n k l f m = listsU n k l f i ++ (listsF n k (l ++ [((f + i : Nat) : Int)]) (f + i + 1) ++ post) := by
  obtain ⟨post, h2⟩ := listsU_le n k l f (i + 1) (m - (i + 1))
  rw [show i + 1 + (m - (i + 1)) = m by omega, listsU_succ, List.append_assoc] at h2
  exact ⟨post, h2⟩
abbrev BI := (Nat × SObj) × Option Addr × Nat
abbrev AccI (H : Hp) (p : Nat × SObj) (a : Option Addr) (c : Nat) (l : List Int) : Prop := XL.Acc (intR .i64) 3 H p a c l
def encI (x : List Int) (b : BI) : List Value := [.slice b.2.1 x.length b.2.2]
def lendI (x : List Int) (b : BI) (H : Hp) (o : XL.Own) : Prop := o = [b.1] ∧ AccI H b.1 b.2.1 b.2.2 x
def pt (b : Nat) : Value := .pointer (some ⟨b, 0, none⟩)
def fromV (bl bmany bn bfrom : Nat) : Value := .func (.func 49) #[] #[pt bl, pt bmany, pt bn, pt bfrom]
/-- the lists of fewer than k judges, of w -/
def allL (w : Nat) : Nat → List (List Int)
  | 0 => []
  | k + 1 => allL w k ++ listsF w k [] 0
def badB (m : Tb) (o : List Int) : Bool := decide ((1 : Int) < (finG m o).p)
def ResR (m : Tb) (t : Int) (H : Hp) (v : Value) : Prop :=
  (chkG m ≠ 0 → v = .tuple #[.slice none 0 0, .bool false, .int .i64 (chkG m)]) ∧
  (chkG m = 0 → (t < 0 ∨ 3 < t) → v = .tuple #[.slice none 0 0, .bool false, .int .i64 1]) ∧
  (∀ T : Nat, t = T → chkG m = 0 → T ≤ 3 → (∀ o, (allL (wideM m) (T + 1)).find? (badB m) = some o → ∃ a c, SlR (intR .i64) H a c o ∧ v = .tuple #[.slice a o.length c, .bool true, .int .i64 0]) ∧
    ((allL (wideM m) (T + 1)).find? (badB m) = none → v = .tuple #[.slice none 0 0, .bool false, .int .i64 0]))
theorem find_first {α : Type} {p : α → Bool} {A B : List α} {x : α} (h : ∀ y ∈ A, p y = false) (hx : p x = true) : (A ++ x :: B).find? p = some x := by
  rw [List.find?_append, List.find?_eq_none.2 (fun y hy => by simp [h y hy])]; simp [hx]
theorem find_lists {α : Type} {p : α → Bool} {A pre post q : List α} {x : α} (h : ∀ y ∈ A, p y = false) (h2 : ∀ y ∈ pre, p y = false) (hx : p x = true) : (A ++ ((pre ++ x :: post) ++ q)).find? p = some x := by
  have := find_first (A := A ++ pre) (B := post ++ q) (fun y hy => (List.mem_append.1 hy).elim (h y) (h2 y)) hx
  simpa using this
theorem allL_split {w i T : Nat} (h : i ≤ T) : ∃ post, allL w (T + 1) = allL w i ++ (listsF w i [] 0 ++ post) := by
  induction T with
  | zero => obtain rfl : i = 0 := by omega
            exact ⟨[], by simp [allL]⟩
  | succ T ih =>
    by_cases hi : i = T + 1
    · subst hi; exact ⟨[], by simp [allL]⟩
    · obtain ⟨post, e⟩ := ih (by omega)
      exact ⟨post ++ listsF w (T + 1) [] 0, by rw [allL, e]; simp⟩
theorem listsF_len {n : Nat} : ∀ {k : Nat} {l : List Int} {f : Nat} {o : List Int}, o ∈ listsF n k l f → o.length = l.length + k
  | 0, l, f, o, h => by simp [listsF] at h; subst h; rfl
  | k + 1, l, f, o, h => by
    rw [listsF, List.mem_flatMap] at h
    obtain ⟨j, _, h⟩ := h
    have := listsF_len h
    simp at this; omega
end Go.Proofs
