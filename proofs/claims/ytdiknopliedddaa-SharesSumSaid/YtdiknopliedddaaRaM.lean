/- A part of the proofs of this seat. -/
import Derived.Test.YtdiknopliedddaaXLk
/- Plain arithmetic modulo a prime. -/
set_option autoImplicit false
namespace Go.Proofs
open Go.XL
theorem tmod_bd (a : Int) : -1073741789 < a.tmod 1073741789 ∧ a.tmod 1073741789 < 1073741789 :=
  ⟨Int.lt_tmod_of_pos a (by decide), Int.tmod_lt_of_pos a (by decide)⟩
theorem tmod_pos (a : Int) (h : ¬ a.tmod 1073741789 < 0) : a.tmod 1073741789 = a % 1073741789 := by
  rw [Int.tmod_eq_emod, show Int.natAbs 1073741789 = 1073741789 from rfl] at *
  split at * <;> split <;> omega
theorem tmod_neg (a : Int) (h : a.tmod 1073741789 < 0) : a.tmod 1073741789 + 1073741789 = a % 1073741789 := by
  rw [Int.tmod_eq_emod, show Int.natAbs 1073741789 = 1073741789 from rfl] at *
  split at * <;> split <;> omega
theorem mul_bd (a b : Int) : 0 ≤ a % 1073741789 * (b % 1073741789) ∧ a % 1073741789 * (b % 1073741789) < 1152921504606846976 := by
  have h1 := Int.emod_nonneg a (b := 1073741789) (by decide)
  have h2 := Int.emod_nonneg b (b := 1073741789) (by decide)
  have h3 := Int.emod_lt_of_pos a (b := 1073741789) (by decide)
  have h4 := Int.emod_lt_of_pos b (b := 1073741789) (by decide)
  generalize a % 1073741789 = x at *
  generalize b % 1073741789 = y at *
  refine ⟨Int.mul_nonneg h1 h2, ?_⟩
  have := Int.mul_le_mul (show x ≤ 1073741788 by omega) (show y ≤ 1073741788 by omega) h2 (by decide)
  omega
theorem sum_take (l : List Int) (k : Nat) (x : Int) (h : l[k]? = some x) : (l.take (k + 1)).sum % 1073741789 = ((l.take k).sum % 1073741789 + x % 1073741789) % 1073741789 := by
  have h2 := (List.getElem?_eq_some_iff.1 h)
  obtain ⟨h3, h4⟩ := h2
  rw [List.take_succ_eq_append_getElem h3, List.sum_append, h4, ← Int.add_emod]
  simp

/-- the power by squaring, as the code reckons it -/
def pwF : Nat → Int → Int → Nat → Int
  | 0, x, _, _ => x
  | f + 1, x, sq, left => if left = 0 then x else pwF f (if left % 2 = 1 then x * sq % 1073741789 else x) (sq * sq % 1073741789) (left / 2)
def invQ (n : Int) : Int := pwF 31 1 n 1073741787
def inv0 (n : Int) : Int := if n % 1073741789 = 0 then 0 else invQ n
def invE (n : Int) : Int := if n % 1073741789 = 0 then 120 else 0
theorem pwF_step {f : Nat} {x sq : Int} {left : Nat} (h0 : left ≠ 0) (h : left < 2 ^ (f + 1)) : left / 2 < 2 ^ f ∧ pwF (f + 1) x sq left = pwF f (if left % 2 = 1 then x * sq % 1073741789 else x) (sq * sq % 1073741789) (left / 2) :=
  ⟨by rw [Nat.pow_succ] at h; omega, by simp [pwF, h0]⟩
theorem pwF_zero (f : Nat) (x sq : Int) : pwF f x sq 0 = x := by cases f <;> simp [pwF]

structure Pt where
  X : Int
  Y : Int
def ptR : Rep Pt where
  sz := 2
  R := fun _ cs p => cs = [.int .i64 p.X, .int .i64 p.Y]
  len := fun h => by subst h; rfl
  one := fun h => by subst h; rfl
  mono := fun _ h => h

/-- the value of a polynomial, as the program reckons it (from the front), and as the reference does (from the back) -/
def valP (at_ : Int) : List Int → Int → Int → Int
  | [], y, _ => y
  | c :: l, y, pw => valP at_ l ((y + c * pw % 1073741789) % 1073741789) (pw * at_ % 1073741789)
def valR (at_ : Int) : List Int → Int
  | [] => 0
  | c :: l => (valR at_ l * at_ % 1073741789 + c) % 1073741789
def Diff (l : List Pt) : Prop := ∀ (i k : Nat) (x y : Pt), k < i → l[i]? = some x → l[k]? = some y → x.X % 1073741789 ≠ y.X % 1073741789
theorem diff_nil {l : List Pt} : Diff (l.take 0) := by intro i k x y _ h; simp at h
theorem diff_succ {l : List Pt} {i : Nat} (h : Diff (l.take i)) (hk : ∀ (j : Nat) x y, j < i → l[i]? = some x → l[j]? = some y → x.X % 1073741789 ≠ y.X % 1073741789) : Diff (l.take (i + 1)) := by
  intro a b x y hab hx hy
  rw [List.getElem?_take] at hx hy
  split at hx
  · split at hy
    · rcases Nat.lt_or_ge a i with h1 | h1
      · exact h a b x y hab (by rw [List.getElem?_take, if_pos h1]; exact hx) (by rw [List.getElem?_take, if_pos (by omega)]; exact hy)
      · obtain rfl : a = i := by omega
        exact hk b x y hab hx hy
    · cases hy
  · cases hx
theorem erase_succ {α : Type} {l : List α} {k i : Nat} {x : α} (h : l[k]? = some x) (hne : k ≠ i) : (l.take (k + 1)).eraseIdx i = (l.take k).eraseIdx i ++ [x] := by
  obtain ⟨h1, rfl⟩ := List.getElem?_eq_some_iff.1 h
  rw [List.take_succ_eq_append_getElem h1]
  rcases Nat.lt_or_ge i k with h2 | h2
  · rw [List.eraseIdx_append_of_lt_length (by simp; omega)]
  · rw [List.eraseIdx_of_length_le (l := l.take k) (by simp; omega), List.eraseIdx_of_length_le (by simp; omega)]
theorem erase_same {α : Type} {l : List α} {i : Nat} {x : α} (h : l[i]? = some x) : (l.take (i + 1)).eraseIdx i = (l.take i).eraseIdx i := by
  obtain ⟨h1, rfl⟩ := List.getElem?_eq_some_iff.1 h
  rw [List.take_succ_eq_append_getElem h1, List.eraseIdx_append_of_length_le (by simp; omega), List.eraseIdx_of_length_le (l := l.take i) (by simp; omega)]
  have : i - (l.take i).length = 0 := by simp; omega
  rw [this]; simp
theorem erase_succ' {α : Type} {l : List α} {k i : Nat} {x : α} (h : l[k]? = some x) (hne : k ≠ i) (hi : k + 1 ≤ i) : (l.take k).eraseIdx i ++ [x] = l.take (k + 1) := by
  rw [← erase_succ h hne, List.eraseIdx_of_length_le (by simp; omega)]
theorem erase_split {α : Type} {l : List α} {k i : Nat} {x : α} (h : l[k]? = some x) (hne : k ≠ i) : ∃ post, l.eraseIdx i = (l.take k).eraseIdx i ++ x :: post := by
  have h1 := (List.getElem?_eq_some_iff.1 h).1
  have e : l = l.take (k + 1) ++ l.drop (k + 1) := (List.take_append_drop _ _).symm
  rcases Nat.lt_or_ge i (k + 1) with h2 | h2
  · refine ⟨l.drop (k + 1), ?_⟩
    conv => lhs; rw [e]
    rw [List.eraseIdx_append_of_lt_length (by simp; omega), erase_succ h hne]; simp
  · refine ⟨(l.drop (k + 1)).eraseIdx (i - (k + 1)), ?_⟩
    conv => lhs; rw [e]
    rw [List.eraseIdx_append_of_length_le (by simp; omega)]
    have e2 : (l.take (k + 1)).length = k + 1 := by simp; omega
    rw [e2, ← erase_succ' h hne (by omega)]; simp
theorem drop_cons {α : Type} {l : List α} {k : Nat} {x : α} (h : l[k]? = some x) : l.drop k = x :: l.drop (k + 1) := by
  obtain ⟨h1, rfl⟩ := List.getElem?_eq_some_iff.1 h
  exact List.drop_eq_getElem_cons h1

theorem diff_iff (l : List Pt) : Diff l ↔ (l.map fun p : Pt => p.X % 1073741789).Nodup := by
  rw [List.Nodup, List.pairwise_iff_getElem]
  constructor
  · intro h i j hi hj hij
    simp only [List.length_map] at hi hj
    simp only [List.getElem_map]
    exact fun e => h j i _ _ hij (List.getElem?_eq_getElem hj) (List.getElem?_eq_getElem hi) e.symm
  · intro h i k x y hki hx hy e
    obtain ⟨h1, rfl⟩ := List.getElem?_eq_some_iff.1 hx
    obtain ⟨h2, rfl⟩ := List.getElem?_eq_some_iff.1 hy
    have := h k i (by simpa using h2) (by simpa using h1) hki
    simp only [List.getElem_map] at this
    exact this e.symm

/-- the numbers that were met -/
def seenM (l : List Pt) : List (Int × Value) := l.foldl (fun m p => mset m (p.X % 1073741789) (.bool true)) []
theorem seen_succ {l : List Pt} {k : Nat} {x : Pt} (h : l[k]? = some x) : seenM (l.take (k + 1)) = mset (seenM (l.take k)) (x.X % 1073741789) (.bool true) := by
  obtain ⟨h1, rfl⟩ := List.getElem?_eq_some_iff.1 h
  rw [List.take_succ_eq_append_getElem h1, seenM, List.foldl_append]; rfl
theorem mset_keys (m : List (Int × Value)) (x : Int) (u : Value) : (mset m x u).map Prod.fst = if x ∈ m.map Prod.fst then m.map Prod.fst else m.map Prod.fst ++ [x] := by
  induction m with
  | nil => simp [mset]
  | cons p m ih =>
    obtain ⟨k, v⟩ := p
    simp only [mset]
    split
    · rename_i h; subst h; simp
    · rename_i h
      simp only [List.map_cons, ih, List.mem_cons, h, false_or]
      split <;> simp
theorem seen_inv (l : List Pt) : ∀ (m : List (Int × Value)), (m.map Prod.fst).Nodup →
    (((l.foldl (fun m p => mset m (p.X % 1073741789) (.bool true)) m).length = m.length + l.length ↔ (m.map Prod.fst ++ l.map fun p : Pt => p.X % 1073741789).Nodup)) ∧ (l.foldl (fun m p => mset m (p.X % 1073741789) (.bool true)) m).length ≤ m.length + l.length := by
  induction l with
  | nil => intro m h; simp [h]
  | cons p l ih =>
    intro m h
    simp only [List.foldl_cons]
    have hk := mset_keys m (p.X % 1073741789) (.bool true)
    have hl := congrArg List.length hk
    simp only [List.length_map] at hl
    by_cases hm : p.X % 1073741789 ∈ m.map Prod.fst
    · rw [if_pos hm] at hk hl
      simp only [List.length_map] at hl
      obtain ⟨h1, h2⟩ := ih (mset m (p.X % 1073741789) (.bool true)) (by rw [hk]; exact h)
      rw [hl] at h1 h2
      refine ⟨⟨fun e => by simp only [List.length_cons] at e; omega, fun e => ?_⟩, by simp; omega⟩
      exfalso
      rw [List.nodup_append] at e
      exact e.2.2 _ hm _ (by simp) rfl
    · rw [if_neg hm] at hk hl
      simp only [List.length_append, List.length_map, List.length_singleton] at hl
      have hnd : (m.map Prod.fst ++ [p.X % 1073741789]).Nodup := by
        rw [List.nodup_append]; exact ⟨h, by simp, fun a ha b hb e => by simp at hb; subst hb; subst e; exact hm ha⟩
      obtain ⟨h1, h2⟩ := ih (mset m (p.X % 1073741789) (.bool true)) (by rw [hk]; exact hnd)
      rw [hl, hk] at h1
      rw [hl] at h2
      refine ⟨?_, by simp; omega⟩
      simp only [List.length_cons, List.map_cons]
      rw [show m.length + (l.length + 1) = m.length + 1 + l.length by omega, h1]
      simp
theorem seen_full (l : List Pt) (h : (l.map fun p : Pt => p.X % 1073741789).Nodup) : (seenM l).length = l.length := by
  have := ((seen_inv l [] (by simp)).1).2 (by simpa using h)
  simpa [seenM] using this
theorem seen_nodup (l : List Pt) (h : l.length ≤ (seenM l).length) : (l.map fun p : Pt => p.X % 1073741789).Nodup := by
  have h2 := (seen_inv l [] (by simp)).2
  have := ((seen_inv l [] (by simp)).1).1 (by simp [seenM] at h h2 ⊢; omega)
  simpa using this

/-- the value of the polynomial through some points, as the program reckons it -/
def abvF (at_ : Int) (ps : List Pt) (s : Int) : Int := ps.foldl (fun s q => s * ([at_, 0 - q.X % 1073741789].sum % 1073741789) % 1073741789) s
def belF (x : Int) (ps : List Pt) (s : Int) : Int := ps.foldl (fun s q => s * ([x, 0 - q.X % 1073741789].sum % 1073741789) % 1073741789) s
theorem abvF_snoc (at_ : Int) (ps : List Pt) (x : Pt) (s : Int) : abvF at_ (ps ++ [x]) s = abvF at_ ps s * ([at_, 0 - x.X % 1073741789].sum % 1073741789) % 1073741789 := by simp only [abvF, List.foldl_append, List.foldl_cons, List.foldl_nil]
theorem belF_snoc (at_ : Int) (ps : List Pt) (x : Pt) (s : Int) : belF at_ (ps ++ [x]) s = belF at_ ps s * ([at_, 0 - x.X % 1073741789].sum % 1073741789) % 1073741789 := by simp only [belF, List.foldl_append, List.foldl_cons, List.foldl_nil]
def atT (at_ : Int) (l : List Pt) (k : Nat) (p : Pt) : Int := abvF at_ (l.eraseIdx k) (p.Y % 1073741789) * inv0 (belF p.X (l.eraseIdx k) 1) % 1073741789
def atF (at_ : Int) (l : List Pt) : Nat → Int
  | 0 => 0
  | k + 1 => [atF at_ l k, match l[k]? with | some p => atT at_ l k p | none => 0].sum % 1073741789
theorem atF_succ {at_ : Int} {l : List Pt} {k : Nat} {p : Pt} (h : l[k]? = some p) : atF at_ l (k + 1) = [atF at_ l k, atT at_ l k p].sum % 1073741789 := by simp only [atF, h]
def atV (at_ : Int) (l : List Pt) : Int × Int := if 24 < l.length then (0, 2) else if ¬ (l.map fun p : Pt => p.X % 1073741789).Nodup then (0, 120) else (atF at_ l l.length, 0)
/-- the same, as the reference reckons it -/
def rpF (at_ x : Int) (ps : List Pt) (s : Int) : Int := ps.foldl (fun s q => s * ((at_ + (0 - q.X % 1073741789)) % 1073741789 * inv0 ((x + (0 - q.X % 1073741789)) % 1073741789) % 1073741789) % 1073741789) s
theorem rpF_snoc (at_ x : Int) (ps : List Pt) (q : Pt) (s : Int) : rpF at_ x (ps ++ [q]) s = rpF at_ x ps s * ((at_ + (0 - q.X % 1073741789)) % 1073741789 * inv0 ((x + (0 - q.X % 1073741789)) % 1073741789) % 1073741789) % 1073741789 := by simp only [rpF, List.foldl_append, List.foldl_cons, List.foldl_nil]
def ratF (at_ : Int) (l : List Pt) : Nat → Int
  | 0 => 0
  | k + 1 => (ratF at_ l k + match l[k]? with | some p => rpF at_ p.X (l.eraseIdx k) (p.Y % 1073741789) | none => 0) % 1073741789
theorem ratF_succ {at_ : Int} {l : List Pt} {k : Nat} {p : Pt} (h : l[k]? = some p) : ratF at_ l (k + 1) = (ratF at_ l k + rpF at_ p.X (l.eraseIdx k) (p.Y % 1073741789)) % 1073741789 := by simp only [ratF, h]
def ratV (at_ : Int) (l : List Pt) : Int × Int := if 24 < l.length then (0, 2) else if ¬ (l.map fun p : Pt => p.X % 1073741789).Nodup then (0, 120) else (ratF at_ l l.length, 0)
end Go.Proofs
