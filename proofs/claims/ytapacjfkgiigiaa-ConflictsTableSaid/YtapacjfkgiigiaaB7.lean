/- Conflicts: paths, distances and relatives, and the program's answer, in plain Lean. -/
import Derived.Test.YtapacjfkgiigiaaB6
set_option autoImplicit false
set_option linter.unusedVariables false
set_option linter.unusedSimpArgs false
namespace Go.Proofs
open Go.XL
theorem zv_3 : zeroV Try.prog 3 = some (.int .i64 0) := by kernel_rfl
theorem zv_4 : zeroV Try.prog 4 = some (.bool false) := by kernel_rfl
def LeW (H H' : Hp) : Prop := Le H H'
theorem LeW.mono {H H' H'' : Hp} (h : LeW H H') (hle : Le H' H'') : LeW H H'' := Le.trans h hle
/-- what the iterators hand out -/
def encP (x : List Int) (b : Option Addr × Nat) : List Value := [.slice b.1 x.length b.2]
def lendP (x : List Int) (b : Option Addr × Nat) (H : Hp) (o : XL.Own) : Prop := o = [] ∧ SlR (intR .i64) H b.1 b.2 x
def encN (x : Int × Nat) (b : Unit) : List Value := [.int .i64 x.1, .int .i64 (x.2 : Nat)]
def lendN (x : Int × Nat) (b : Unit) (H : Hp) (o : XL.Own) : Prop := o = []
theorem flat_at {α β : Type} {g : α → List β} {l : List α} {k : Nat} {x : α} (hx : l[k]? = some x) : l.flatMap g = (l.take k).flatMap g ++ (g x ++ (l.drop (k + 1)).flatMap g) := by
 have e : l = l.take k ++ x :: l.drop (k + 1) := by rw [← drop_cons hx, List.take_append_drop]
 conv => lhs; rw [e]
 rw [List.flatMap_append, List.flatMap_cons]
theorem flat_snoc {α β : Type} {g : α → List β} {l : List α} {k : Nat} {x : α} (hx : l[k]? = some x) : (l.take (k + 1)).flatMap g = (l.take k).flatMap g ++ g x := by
 rw [take_snoc hx, List.flatMap_append]; simp
/-- paths without relatives of relatives -/
def clubP (x y : Int) (f g : Fa) : Prop := ((f.A = x ∧ g.K = 1) ∧ g.A = y) ∧ g.B = f.B
instance (x y : Int) (f g : Fa) : Decidable (clubP x y f g) := by unfold clubP; infer_instance
def clubG (x y : Int) (f g : Fa) : List (List Int) := if clubP x y f g then [[f.No, g.No]] else []
def oneP (x y : Int) (f : Fa) : Prop := (othr f x).isSome = true ∧ (othr f x).getD 0 = y
instance (x y : Int) (f : Fa) : Decidable (oneP x y f) := by unfold oneP; infer_instance
def pathE (l : Fs) (x y : Int) (f : Fa) : List (List Int) := if f.K = 1 then l.flatMap (clubG x y f) else if oneP x y f then [[f.No]] else []
def pathsL (l : Fs) (x y : Int) : List (List Int) := l.flatMap (pathE l x y)
section
variable {l : Fs} {x y : Int} {f g : Fa} {k j : Nat}
theorem pathE_club (hk : f.K = 1) : pathE l x y f = l.flatMap (clubG x y f) := if_pos hk
theorem clubG_y (h : clubP x y f g) : clubG x y f g = [[f.No, g.No]] := if_pos h
theorem clubG_n (h : ¬ clubP x y f g) : clubG x y f g = [] := if_neg h
theorem pathE_one (hk : ¬ f.K = 1) (h : oneP x y f) : pathE l x y f = [[f.No]] := by unfold pathE; rw [if_neg hk, if_pos h]
theorem pathE_no (hk : ¬ f.K = 1) (h : ¬ oneP x y f) : pathE l x y f = [] := by unfold pathE; rw [if_neg hk, if_neg h]
theorem paths_club (hf : l[k]? = some f) (hg : l[j]? = some g) (hk : f.K = 1) (h : clubP x y f g) : pathsL l x y = ((l.take k).flatMap (pathE l x y) ++ (l.take j).flatMap (clubG x y f)) ++ [f.No, g.No] :: ((l.drop (j + 1)).flatMap (clubG x y f) ++ (l.drop (k + 1)).flatMap (pathE l x y)) := by
 have e1 : pathsL l x y = (l.take k).flatMap (pathE l x y) ++ (pathE l x y f ++ (l.drop (k + 1)).flatMap (pathE l x y)) := flat_at hf
 rw [e1, pathE_club hk, flat_at hg, clubG_y h]; simp
theorem paths_one (hf : l[k]? = some f) (hk : ¬ f.K = 1) (h : oneP x y f) : pathsL l x y = (l.take k).flatMap (pathE l x y) ++ [f.No] :: (l.drop (k + 1)).flatMap (pathE l x y) := by
 have e1 : pathsL l x y = (l.take k).flatMap (pathE l x y) ++ (pathE l x y f ++ (l.drop (k + 1)).flatMap (pathE l x y)) := flat_at hf
 rw [e1, pathE_one hk h]; simp
theorem paths_len {p : List Int} (hp : p ∈ pathsL l x y) : p.length ≤ 2 := by
 unfold pathsL at hp
 obtain ⟨f, _, hf⟩ := List.mem_flatMap.1 hp
 unfold pathE at hf
 split at hf
 ·obtain ⟨g, _, hg⟩ := List.mem_flatMap.1 hf
  unfold clubG at hg
  split at hg
  ·simp only [List.mem_singleton] at hg; subst hg; simp
  ·cases hg
 ·split at hf
  ·simp only [List.mem_singleton] at hf; subst hf; simp
  ·cases hf
end
/-- the first of the least -/
def lstS (o : Option (List Int)) (y : List Int) : Option (List Int) := if o.isSome = false ∨ ordL y (o.getD []) < 0 then some y else o
def lstO (xs : List (List Int)) : Option (List Int) := xs.foldl lstS none
theorem lst_snoc (xs : List (List Int)) (y : List Int) : lstO (xs ++ [y]) = lstS (lstO xs) y := by simp [lstO]
theorem lst_y {o : Option (List Int)} {y : List Int} (h : o.isSome = false ∨ ordL y (o.getD []) < 0) : lstS o y = some y := if_pos h
theorem lst_n {o : Option (List Int)} {y : List Int} (h : o.isSome = true) (h2 : ¬ ordL y (o.getD []) < 0) : lstS o y = o := if_neg (by rw [h]; simp [h2])
theorem lst_mem : ∀ {xs : List (List Int)} {q : List Int}, lstO xs = some q → q ∈ xs := by
  intro xs
  have key : ∀ (xs : List (List Int)) (o : Option (List Int)) (q : List Int), xs.foldl lstS o = some q → q ∈ xs ∨ o = some q := by
    intro xs
    induction xs with
    | nil => intro o q h; exact .inr h
    | cons z t ih =>
      intro o q h
      rcases ih _ _ h with h1 | h1
      · exact .inl (List.mem_cons_of_mem _ h1)
      · unfold lstS at h1
        split at h1
        · cases h1; exact .inl List.mem_cons_self
        · exact .inr h1
  intro q h
  rcases key xs none q h with h1 | h1
  · exact h1
  · cases h1
/-- people and their distances -/
abbrev Ds := List (Int × Nat)
def dget (m : Ds) (x : Int) : Option Nat := (m.find? fun p => decide (p.1 = x)).map (·.2)
theorem dget_ne {m : Ds} {k x : Int} {n : Nat} (h : k ≠ x) : dget ((k, n) :: m) x = dget m x := by unfold dget; rw [List.find?_cons_of_neg (by simpa using h)]
theorem dget_eq {m : Ds} {x : Int} {n : Nat} : dget ((x, n) :: m) x = some n := by unfold dget; rw [List.find?_cons_of_pos (by simp)]; rfl
theorem dget_none {m : Ds} {x : Int} : dget m x = none ↔ x ∉ m.map Prod.fst := by
  induction m with
  | nil => simp [dget]
  | cons p m ih =>
    obtain ⟨k, n⟩ := p
    by_cases h : k = x
    · subst h; rw [dget_eq]; simp
    · rw [dget_ne h, ih, List.map_cons, List.mem_cons]
      exact ⟨fun h1 h2 => h2.elim (fun e => h e.symm) h1, fun h1 h2 => h1 (.inr h2)⟩
theorem dget_key {m : Ds} (hn : (m.map Prod.fst).Nodup) : ∀ {i : Nat} {p : Int × Nat}, m[i]? = some p → dget m p.1 = some p.2 := by
  induction m with
  | nil => intro i p h; simp at h
  | cons q m ih =>
    obtain ⟨k, n⟩ := q
    intro i p h
    rw [List.map_cons, List.nodup_cons] at hn
    cases i with
    | zero => simp at h; subst h; exact dget_eq
    | succ i =>
      simp at h
      have hm : p.1 ∈ m.map Prod.fst := List.mem_map_of_mem (List.mem_of_getElem? h)
      rw [dget_ne (fun e : k = p.1 => hn.1 (by rw [e]; exact hm))]
      exact ih hn.2 h
def mV (m : Ds) : List (Int × Value) := m.map fun p => (p.1, .int .i64 (p.2 : Nat))
theorem mget_mV (m : Ds) (x : Int) : mget (mV m) x = (dget m x).map fun n => .int .i64 ((n : Nat) : Int) := by
  induction m with
  | nil => rfl
  | cons p m ih =>
    obtain ⟨k, n⟩ := p
    simp only [mV, List.map_cons, mget]
    by_cases h : x = k
    · subst h; simp [dget]
    · rw [if_neg h]
      have : dget ((k, n) :: m) x = dget m x := dget_ne fun e => h e.symm
      rw [this]; exact ih
theorem mget_D (m : Ds) (x : Int) : (mget (mV m) x).getD (.int .i64 0) = .int .i64 (((dget m x).getD 0 : Nat) : Int) := by rw [mget_mV]; cases dget m x <;> rfl
theorem mget_S (m : Ds) (x : Int) : (mget (mV m) x).isSome = (dget m x).isSome := by rw [mget_mV]; cases dget m x <;> rfl
theorem dget_snoc (m : Ds) (x y : Int) (n : Nat) : dget (m ++ [(x, n)]) y = (dget m y).or (if x = y then some n else none) := by
 unfold dget
 rw [List.find?_append]
 cases m.find? fun p => decide (p.1 = y) with
 | some q => rfl
 | none => by_cases h : x = y <;> simp [h]
theorem mset_new {m : Ds} {x : Int} {n : Nat} (h : dget m x = none) : mset (mV m) x (.int .i64 ((n : Nat) : Int)) = mV (m ++ [(x, n)]) := by
  induction m with
  | nil => rfl
  | cons p m ih =>
    obtain ⟨k, d⟩ := p
    by_cases hk : x = k
    · subst hk; simp [dget] at h
    · have h2 : dget m x = none := by
        have : dget ((k, d) :: m) x = dget m x := dget_ne fun e => hk e.symm
        rwa [this] at h
      have := ih h2
      simp only [mV, List.map_cons, List.cons_append, mset, if_neg hk] at this ⊢
      rw [this]
def addE (z : Int) (n : Nat) (m : Ds) (f : Fa) : Ds := if ((othr f z).isSome = true ∧ f.K = 3) ∧ dget m ((othr f z).getD 0) = none then m ++ [((othr f z).getD 0, n + 1)] else m
def addN (l : Fs) (z : Int) (n : Nat) (m : Ds) : Ds := l.foldl (addE z n) m
theorem addN_snoc {l : Fs} {z : Int} {n : Nat} {m : Ds} {j : Nat} {f : Fa} (hf : l[j]? = some f) : addN (l.take (j + 1)) z n m = addE z n (addN (l.take j) z n m) f := by
 unfold addN; rw [take_snoc hf, List.foldl_append]; rfl
theorem addE_y {z : Int} {n : Nat} {m : Ds} {f : Fa} (h : (othr f z).isSome = true) (h2 : f.K = 3) (h3 : dget m ((othr f z).getD 0) = none) : addE z n m f = m ++ [((othr f z).getD 0, n + 1)] := if_pos ⟨⟨h, h2⟩, h3⟩
theorem addE_n {z : Int} {n : Nat} {m : Ds} {f : Fa} (h : ¬ (((othr f z).isSome = true ∧ f.K = 3) ∧ dget m ((othr f z).getD 0) = none)) : addE z n m f = m := if_neg h
/-- all people of some facts -/
def persL (l : Fs) (x : Int) : List Int := x :: l.flatMap fun f => [f.A, f.B]
/-- what holds of the distances -/
structure KD (l : Fs) (x : Int) (m : Ds) : Prop where
 nd : (m.map Prod.fst).Nodup
 lt : ∀ p : Int × Nat, p ∈ m → p.2 < m.length
 cnt : m.length + ((persL l x).filter fun z => (dget m z).isNone).length ≤ (persL l x).length
theorem KD.key {l : Fs} {x : Int} {m : Ds} (h : KD l x m) (i : Nat) (p : Int × Nat) (hp : m[i]? = some p) : dget m p.1 = some p.2 := dget_key h.nd hp
theorem KD.len {l : Fs} {x : Int} {m : Ds} (h : KD l x m) : m.length ≤ 2 * l.length + 1 := by
 have h1 := h.cnt
 have h2 : (persL l x).length = 2 * l.length + 1 := by
  unfold persL
  rw [List.length_cons, List.length_flatMap]
  simp
  have : ∀ l : Fs, (l.map fun _ => 2).sum = 2 * l.length := by
   intro l; induction l with
   | nil => rfl
   | cons a l ih => simp at ih ⊢; omega
  simpa using this l
 omega
theorem filter_le {α : Type} {p q : α → Bool} (h3 : ∀ x, p x = true → q x = true) : ∀ l : List α, (l.filter p).length ≤ (l.filter q).length
  | [] => by simp
  | b :: l => by
    have ih := filter_le h3 l
    cases hb : p b
    · rw [List.filter_cons_of_neg (by rw [hb]; decide)]
      cases hq : q b
      · rw [List.filter_cons_of_neg (by rw [hq]; decide)]; exact ih
      · rw [List.filter_cons_of_pos hq, List.length_cons]; omega
    · rw [List.filter_cons_of_pos hb, List.filter_cons_of_pos (h3 b hb), List.length_cons, List.length_cons]; omega
theorem filter_lt {α : Type} {p q : α → Bool} : ∀ {l : List α} {z : α}, z ∈ l → q z = true → p z = false → (∀ x, p x = true → q x = true) → (l.filter p).length + 1 ≤ (l.filter q).length
  | a :: l, z, hz, h1, h2, h3 => by
    rcases List.mem_cons.1 hz with rfl | hz
    · rw [List.filter_cons_of_pos h1, List.filter_cons_of_neg (by rw [h2]; decide), List.length_cons]
      have := filter_le h3 l; omega
    · have ih := filter_lt hz h1 h2 h3
      cases hb : p a
      · rw [List.filter_cons_of_neg (by rw [hb]; decide)]
        cases hq : q a
        · rw [List.filter_cons_of_neg (by rw [hq]; decide)]; exact ih
        · rw [List.filter_cons_of_pos hq, List.length_cons]; omega
      · rw [List.filter_cons_of_pos hb, List.filter_cons_of_pos (h3 a hb), List.length_cons, List.length_cons]; omega
theorem oth_mem {f : Fa} {a b : Int} (h : othr f a = some b) : b = f.A ∨ b = f.B := by
 unfold othr at h; split at h
 ·cases h; exact .inr rfl
 ·split at h
  ·cases h; exact .inl rfl
  ·cases h
theorem KD.start (l : Fs) (x : Int) : KD l x [(x, 0)] where
 nd := by simp
 lt := fun p h => by simp at h; subst h; simp
 cnt := by
  have := filter_lt (p := fun z => (dget [(x, 0)] z).isNone) (q := fun _ => true) (l := persL l x) (z := x) List.mem_cons_self rfl (by simp [dget]) (fun _ _ => rfl)
  simp only [List.length_singleton] at this ⊢
  have h2 : ((persL l x).filter fun _ => true) = persL l x := List.filter_eq_self.2 fun _ _ => rfl
  rw [h2] at this; omega
theorem KD.add {l : Fs} {x z : Int} {n : Nat} {m : Ds} {f : Fa} (h : KD l x m) (hf : f ∈ l) (hz : dget m z = some n) (hn : n < m.length) : KD l x (addE z n m f) := by
 by_cases hc : ((othr f z).isSome = true ∧ f.K = 3) ∧ dget m ((othr f z).getD 0) = none
 ·have hs := addE_y (n := n) hc.1.1 hc.1.2 hc.2
  rw [hs]
  generalize hw : (othr f z).getD 0 = w at *
  have hnew : dget m w = none := hc.2
  refine ⟨?_, fun p hp => ?_, ?_⟩
  ·rw [List.map_append, List.map_cons, List.map_nil, List.nodup_append]
   refine ⟨h.nd, by simp, fun a ha b hb e => ?_⟩
   simp only [List.mem_singleton] at hb
   subst hb; subst e
   exact dget_none.1 hnew ha
  ·rw [List.length_append]
   rcases List.mem_append.1 hp with hp | hp
   ·have := h.lt p hp; simp; omega
   ·simp at hp; subst hp; simp; omega
  ·have hmem : w ∈ persL l x := by
    obtain ⟨b, hb⟩ := Option.isSome_iff_exists.1 hc.1.1
    have hwb : w = b := by rw [← hw, hb]; rfl
    refine List.mem_cons_of_mem _ (List.mem_flatMap.2 ⟨f, hf, ?_⟩)
    rcases oth_mem hb with h1 | h1 <;> (rw [hwb, h1]; simp)
   have h1 := filter_lt (p := fun y => (dget (m ++ [(w, n + 1)]) y).isNone) (q := fun y => (dget m y).isNone) hmem (by simp [hnew]) (by rw [dget_snoc]; simp) (fun y hy => by rw [dget_snoc] at hy; cases hd : dget m y <;> simp_all)
   have := h.cnt
   rw [List.length_append]; simp only [List.length_singleton]; omega
 ·rw [addE_n hc]; exact h
theorem addE_pre (z : Int) (n : Nat) (m : Ds) (f : Fa) : ∃ t, addE z n m f = m ++ t := by
 unfold addE; split
 ·exact ⟨_, rfl⟩
 ·exact ⟨[], by simp⟩
theorem addN_pre (z : Int) (n : Nat) : ∀ (l : Fs) (m : Ds), ∃ t, addN l z n m = m ++ t
  | [], m => ⟨[], by simp [addN]⟩
  | f :: l, m => by
    obtain ⟨t, h⟩ := addE_pre z n m f
    obtain ⟨s, h2⟩ := addN_pre z n l (addE z n m f)
    refine ⟨t ++ s, ?_⟩
    have : addN (f :: l) z n m = addN l z n (addE z n m f) := rfl
    rw [this, h2, h, List.append_assoc]
theorem addN_get {z : Int} {n : Nat} {l : Fs} {m : Ds} {i : Nat} {p : Int × Nat} (h : m[i]? = some p) : (addN l z n m)[i]? = some p := by
 obtain ⟨t, ht⟩ := addN_pre z n l m
 rw [ht, List.getElem?_append_left (List.getElem?_eq_some_iff.1 h).1, h]
theorem addN_len (z : Int) (n : Nat) (l : Fs) (m : Ds) : m.length ≤ (addN l z n m).length := by
 obtain ⟨t, ht⟩ := addN_pre z n l m
 rw [ht]; simp
theorem KD.addN {l : Fs} {x z : Int} {n : Nat} {m : Ds} {i : Nat} (h : KD l x m) (hz : m[i]? = some (z, n)) : ∀ j, j ≤ l.length → KD l x (addN (l.take j) z n m)
  | 0, _ => h
  | j + 1, hj => by
    have ih := KD.addN h hz j (by omega)
    have hf : l[j]? = some l[j] := List.getElem?_eq_getElem (by omega)
    rw [addN_snoc hf]
    have hg := addN_get (l := l.take j) (z := z) (n := n) hz
    exact ih.add (List.mem_of_getElem? hf) (ih.key _ _ hg) (ih.lt _ (List.mem_of_getElem? hg))
/-- the search in breadth: the people met, in their order -/
def bfs (l : Fs) : Nat → Nat → Ds → Ds
  | 0, _, m => m
  | fuel + 1, i, m => match m[i]? with
    | none => m
    | some q => bfs l fuel (i + 1) (addN l q.1 q.2 m)
def nearL (l : Fs) (x : Int) : Ds := bfs l (2 * l.length + 2) 0 [(x, 0)]
theorem bfs_s {l : Fs} {fuel i : Nat} {m : Ds} {z : Int} {n : Nat} (h : m[i]? = some (z, n)) : bfs l (fuel + 1) i m = bfs l fuel (i + 1) (addN l z n m) := by rw [bfs, h]
theorem bfs_end {l : Fs} {fuel i : Nat} {m : Ds} (h : m.length ≤ i) : bfs l fuel i m = m := by
 cases fuel with
 | zero => rfl
 | succ f => rw [bfs, List.getElem?_eq_none h]
theorem bfs_get {l : Fs} : ∀ {fuel i : Nat} {m : Ds} {k : Nat} {q : Int × Nat}, m[k]? = some q → (bfs l fuel i m)[k]? = some q
  | 0, i, m, k, q, h => h
  | fuel + 1, i, m, k, q, h => by
    rw [bfs]; split
    · exact h
    · exact bfs_get (addN_get h)
theorem near_step {l : Fs} {x z : Int} {n k : Nat} {m : Ds} (hk : k < 2 * l.length + 2) (h : nearL l x = bfs l (2 * l.length + 2 - k) k m) (hq : m[k]? = some (z, n)) : nearL l x = bfs l (2 * l.length + 2 - (k + 1)) (k + 1) (addN l z n m) := by
 rw [h, show 2 * l.length + 2 - k = (2 * l.length + 2 - (k + 1)) + 1 by omega, bfs_s hq]
theorem near_split {l : Fs} {x z : Int} {n k : Nat} {m : Ds} (h : nearL l x = bfs l (2 * l.length + 2 - k) k m) (hq : m[k]? = some (z, n)) : (nearL l x)[k]? = some (z, n) := by rw [h]; exact bfs_get hq
theorem split_at {α : Type} {l : List α} {k : Nat} {x : α} (hx : l[k]? = some x) : l = l.take k ++ x :: l.drop (k + 1) := by rw [← drop_cons hx, List.take_append_drop]
/-- the people met by steps, with what holds of them -/
theorem bfs_KD {l : Fs} {x : Int} : ∀ {fuel i : Nat} {m : Ds}, KD l x m → KD l x (bfs l fuel i m)
  | 0, i, m, h => h
  | fuel + 1, i, m, h => by
    rw [bfs]; split
    · exact h
    · rename_i q hq
      have := h.addN hq l.length (Nat.le_refl _)
      rw [List.take_length] at this
      exact bfs_KD this
theorem near_KD (l : Fs) (x : Int) : KD l x (nearL l x) := bfs_KD (KD.start l x)
theorem near_new {l : Fs} {x : Int} {pre post : Ds} {q : Int × Nat} (h : nearL l x = pre ++ q :: post) : dget pre q.1 = none := by
 have hk := (near_KD l x).nd
 rw [h, List.map_append, List.map_cons, List.nodup_append] at hk
 exact dget_none.2 fun hm => hk.2.2 _ hm _ List.mem_cons_self rfl
end Go.Proofs

/- The walks of the functions of conflicts: what each of them computes, at any input. -/
set_option autoImplicit false
set_option linter.unusedVariables false
set_option linter.unusedSimpArgs false
namespace Go.Proofs
open Go.XL



set_option maxRecDepth 100000 in
set_option maxHeartbeats 1600000 in
theorem paths_seq (bk bx bY : Nat) (a : Option Addr) (c : Nat) (l : Fs) (x y : Int) (H : Hp) (hs : SlR faR H a c l) (hl : l.length < 9223372036854775808) (hpk : PtH H bk 0 [.slice a l.length c]) (hpx : PtH H bx 0 [.int .i64 x]) (hpy : PtH H bY 0 [.int .i64 y]) : SeqF Try.prog 55 [.pointer (some ⟨bk, 0, none⟩), .pointer (some ⟨bx, 0, none⟩), .pointer (some ⟨bY, 0, none⟩)] H [] encP lendP (pathsL l x y) := by
 intro g J K oc hy hS
 have hH : LeW H H := Le.refl H
 refine FnC.intro (args := [(.func g #[] #[]), .pointer (some ⟨bk, 0, none⟩), .pointer (some ⟨bx, 0, none⟩), .pointer (some ⟨bY, 0, none⟩)]) Try.func55 rfl rfl Try.ntmps55 rfl rfl rfl fun G rest => ?_
 refine XC.seq ?_; refine XC.region ?_; refine XO.fieldAddr rfl fa_51_0 rfl ?_; refine XO.loadHF rfl (by assumption) ty_22 rfl rfl rfl ?_; refine XO.lenS (ts := #[]) rfl Try.underlying22 rfl ?_; refine XO.move rfl rfl ?_; refine XO.nil ?_; refine XC.seq2 ?_; refine XC.block ?_; refine XC.keep [14, 0, 1, 2, 3, 12, 13] rfl ?_; refine XC.loop (base := [(0, _), (1, _), (2, _), (3, _), (12, _), (13, _)]) (fun ζ : Nat × (XL.Own) => [(14, .int .i64 (ζ.1 : Nat))]) (fun ζ Hl own => ζ.1 ≤ l.length ∧ (ζ.2 ++ rest) = own ∧ (J.Holds ((l.take (ζ.1)).flatMap (pathE l x y)) Hl ζ.2)) (fun ζ => l.length - ζ.1) (0, oc) (prov_cons (rfl) (prov_cons (rfl) (prov_cons (rfl) (prov_cons (rfl) (prov_cons (rfl) (prov_cons (rfl) (prov_cons (rfl) prov_nil))))))) (by repeat (first | exact List.Sublist.refl _ | apply List.Sublist.cons_cons | apply List.Sublist.cons)) ⟨Nat.zero_le _, rfl, by simpa using hS⟩ ?_; rintro ⟨i, oc⟩ Hl0 _ hle0 ⟨hki, rfl, hS⟩; replace hH := hH.mono hle0; replace hs := hs.mono hle0; replace hpk := hpk.mono hle0; replace hpx := hpx.mono hle0; replace hpy := hpy.mono hle0
 try dsimp only at hki hS ⊢
 refine XC.seq ?_; refine XC.region ?_; refine XO.lss rfl rfl rfl ?_; refine XO.nil ?_; refine XC.seq2 ?_; refine XC.seq ?_; refine XC.cond rfl (fun c0_1 => ?_) (fun c0_1 => ?_)
 ·refine XC.skip ?_; refine XC.seq2 ?_; refine XC.seq ?_; refine XC.block ?_; refine XC.seq ?_; refine XC.region ?_; refine XO.indexN rfl hs rfl Try.underlying22 ty_41 (by omega) rfl ?_; rintro eb16 eo16 _ x16 hx16 rfl hp16; refine XO.loadH rfl (by assumption) ty_41 rfl rfl rfl ?_; refine XO.alloc ze_41 rfl (fun b6 => ?_); refine XO.storeO 0 rfl rfl rfl rfl ty_41 rfl rfl rfl rfl rfl ?_; refine XO.nil ?_; refine XC.seq2 ?_; refine XC.seq ?_; refine XC.region ?_; refine XO.fieldAddr rfl fa_41_1 rfl ?_; refine XO.loadO 0 rfl rfl ty_3 rfl rfl rfl ?_; refine XO.eql rfl rfl rfl ?_; refine XO.nil ?_; refine XC.seq2 ?_; refine XC.cond rfl (fun c1_3 => ?_) (fun c1_3 => ?_)
  ·refine XC.seq ?_; refine XC.region ?_; refine XO.fieldAddr rfl fa_51_0 rfl ?_; refine XO.loadHF rfl (by assumption) ty_22 rfl rfl rfl ?_; refine XO.lenS (ts := #[]) rfl Try.underlying22 rfl ?_; refine XO.move rfl rfl ?_; refine XO.nil ?_; refine XC.seq2 ?_; refine XC.block ?_; refine XC.keep [24, 0, 1, 2, 3, 6, 12, 13, 14, 22, 23] rfl ?_; refine XC.loop (base := [(0, _), (1, _), (2, _), (3, _), (6, _), (12, _), (13, _), (14, _), (22, _), (23, _)]) (fun ζ : Nat × (XL.Own) => [(24, .int .i64 (ζ.1 : Nat))]) (fun ζ Hl own => ζ.1 ≤ l.length ∧ (b6, .cells 41 (faV x16)) :: (ζ.2 ++ rest) = own ∧ (J.Holds ((l.take i).flatMap (pathE l x y) ++ (l.take (ζ.1)).flatMap (clubG x y x16)) Hl ζ.2)) (fun ζ => l.length - ζ.1) (0, oc) (prov_cons (rfl) (prov_cons (rfl) (prov_cons (rfl) (prov_cons (rfl) (prov_cons (rfl) (prov_cons (rfl) (prov_cons (rfl) (prov_cons (rfl) (prov_cons (rfl) (prov_cons (rfl) (prov_cons (rfl) prov_nil))))))))))) (by repeat (first | exact List.Sublist.refl _ | apply List.Sublist.cons_cons | apply List.Sublist.cons)) ⟨Nat.zero_le _, rfl, by simpa using hS⟩ ?_; rintro ⟨j, oc⟩ Hl1 _ hle1 ⟨hkj, rfl, hS⟩; replace hH := hH.mono hle1; replace hs := hs.mono hle1; replace hpk := hpk.mono hle1; replace hpx := hpx.mono hle1; replace hpy := hpy.mono hle1; replace hp16 := hp16.mono hle1; replace hle0 := hle0.trans hle1
   try dsimp only at hkj hS ⊢
   refine XC.seq ?_; refine XC.region ?_; refine XO.lss rfl rfl rfl ?_; refine XO.nil ?_; refine XC.seq2 ?_; refine XC.seq ?_; refine XC.cond rfl (fun c2_4 => ?_) (fun c2_4 => ?_)
   ·refine XC.skip ?_; refine XC.seq2 ?_; refine XC.seq ?_; refine XC.block ?_; refine XC.seq ?_; refine XC.region ?_; refine XO.indexN rfl hs rfl Try.underlying22 ty_41 (by omega) rfl ?_; rintro eb26 eo26 _ x26 hx26 rfl hp26; refine XO.loadH rfl (by assumption) ty_41 rfl rfl rfl ?_; refine XO.alloc ze_41 rfl (fun b8 => ?_); refine XO.storeO 0 rfl rfl rfl rfl ty_41 rfl rfl rfl rfl rfl ?_; refine XO.nil ?_; refine XC.seq2 ?_; refine XC.seq ?_; refine XC.region ?_; refine XO.fieldAddr rfl fa_41_2 rfl ?_; refine XO.loadO 1 rfl rfl ty_3 rfl rfl rfl ?_; refine XO.loadH rfl (by assumption) ty_3 rfl rfl rfl ?_; refine XO.eql rfl rfl rfl ?_; refine XO.move rfl rfl ?_; refine XO.guardC rfl rfl rfl rfl (fun g6 => ?_) (fun g6 => ?_)
    ·have g6p := of_decide_eq_true g6
     refine XO.fieldAddr rfl fa_41_1 rfl ?_; refine XO.guardT rfl rfl (g6) rfl ?_; refine XO.loadO 0 rfl rfl ty_3 rfl rfl rfl ?_; refine XO.guardT rfl rfl (g6) rfl ?_; refine XO.eql rfl rfl rfl ?_; refine XO.pickT rfl (g6) rfl rfl ?_; refine XO.move rfl rfl ?_; refine XO.guardC rfl rfl rfl rfl (fun g7 => ?_) (fun g7 => ?_)
     ·have g7p := of_decide_eq_true g7
      refine XO.fieldAddr rfl fa_41_2 rfl ?_; refine XO.guardT rfl rfl (g7) rfl ?_; refine XO.loadO 0 rfl rfl ty_3 rfl rfl rfl ?_; refine XO.guardT rfl rfl (g7) rfl ?_; refine XO.loadH rfl (by assumption) ty_3 rfl rfl rfl ?_; refine XO.guardT rfl rfl (g7) rfl ?_; refine XO.eql rfl rfl rfl ?_; refine XO.pickT rfl (g7) rfl rfl ?_; refine XO.move rfl rfl ?_; refine XO.guardC rfl rfl rfl rfl (fun g8 => ?_) (fun g8 => ?_)
      ·have g8p := of_decide_eq_true g8
       refine XO.fieldAddr rfl fa_41_3 rfl ?_; refine XO.guardT rfl rfl (g8) rfl ?_; refine XO.loadO 0 rfl rfl ty_3 rfl rfl rfl ?_; refine XO.guardT rfl rfl (g8) rfl ?_; refine XO.fieldAddr rfl fa_41_3 rfl ?_; refine XO.guardT rfl rfl (g8) rfl ?_; refine XO.loadO 1 rfl rfl ty_3 rfl rfl rfl ?_; refine XO.guardT rfl rfl (g8) rfl ?_; refine XO.eql rfl rfl rfl ?_; refine XO.pickT rfl (g8) rfl rfl ?_; refine XO.move rfl rfl ?_; refine XO.guardC rfl rfl rfl rfl (fun g9 => ?_) (fun g9 => ?_)
       ·have g9p := of_decide_eq_true g9
        refine XO.move rfl rfl ?_; refine XO.guardT rfl rfl (g9) rfl ?_; refine XO.fieldAddr rfl fa_41_0 rfl ?_; refine XO.guardT rfl rfl (g9) rfl ?_; refine XO.loadO 1 rfl rfl ty_3 rfl rfl rfl ?_; refine XO.guardT rfl rfl (g9) rfl ?_; refine XO.fieldAddr rfl fa_41_0 rfl ?_; refine XO.guardT rfl rfl (g9) rfl ?_; refine XO.loadO 0 rfl rfl ty_3 rfl rfl rfl ?_; refine XO.guardT rfl rfl (g9) rfl ?_; refine XO.buildSlice rfl Try.underlying25 ty_3 ze_3 rfl rfl rfl (fun b56 => ?_); refine XO.publish 0 rfl rfl rfl (fun HP56 oP56 hleP56 hbP56 hoP56 => ?_)
        have hsl56 := SlR.lit (ρ := (intR .i64)) (l := [x16.No, x26.No]) hbP56 hoP56 (RowsR.cons1 (cs := [_]) rfl (RowsR.one1 rfl))
        replace hH := hH.mono hleP56; replace hs := hs.mono hleP56; replace hpk := hpk.mono hleP56; replace hpx := hpx.mono hleP56; replace hpy := hpy.mono hleP56; replace hp16 := hp16.mono hleP56; replace hS := hS.mono hleP56; replace hp26 := hp26.mono hleP56; replace hle0 := hle0.trans hleP56; replace hle1 := hle1.trans hleP56; refine XO.guardT rfl rfl (g9) rfl ?_
        have hxs := paths_club hx16 hx26 (by assumption) ⟨⟨⟨by assumption, by assumption⟩, by assumption⟩, by assumption⟩
        refine XO.callVal [_, _] rfl trivial rfl (hy _ _ _ hxs (_, _) _ [] oc hH hS ⟨rfl, hsl56⟩) rfl rfl ?_; rintro _ HC oC hleC (⟨rfl, oc2, rfl, hS2⟩ | ⟨rfl, hK⟩)
        ·skip
         replace hH := hH.mono hleC; replace hs := hs.mono hleC; replace hpk := hpk.mono hleC; replace hpx := hpx.mono hleC; replace hpy := hpy.mono hleC; replace hp16 := hp16.mono hleC; replace hS := hS.mono hleC; replace hp26 := hp26.mono hleC; replace hsl56 := hsl56.mono hleC; replace hle0 := hle0.trans hleC; replace hle1 := hle1.trans hleC; refine XO.guardT rfl rfl (g9) rfl ?_; refine XO.notB rfl rfl ?_; refine XO.pickT rfl (g9) rfl rfl ?_; refine XO.nil ?_; refine XC.seq2 ?_; refine XC.condF rfl (rfl) ?_; refine XC.skip ?_; refine blockN ?_; refine XC.seq2 ?_; refine XC.region ?_; refine XO.add rfl rfl (wrap_i64 (by omega) (by omega)) rfl ?_; refine XO.move rfl rfl ?_; refine XO.nil ?_; refine loop_next ((j + 1, oC)) (by show l.length - (j + 1) < l.length - j; omega) (prov_cons (rfl) (prov_cons (rfl) (prov_cons (rfl) (prov_cons (rfl) (prov_cons (rfl) (prov_cons (rfl) (prov_cons (rfl) (prov_cons (rfl) (prov_cons (rfl) (prov_cons (rfl) (prov_cons (rfl) prov_nil))))))))))) (⟨by show j + 1 ≤ l.length; omega, rfl, by rw [flat_snoc hx26, ← List.append_assoc]; first | (rw [clubG_y ⟨⟨⟨by assumption, by assumption⟩, by assumption⟩, by assumption⟩]; exact hS2) | (rw [clubG_n (fun h => by first | exact absurd h.2 (by assumption) | exact absurd h.1.2 (by assumption) | exact absurd h.1.1.2 (by assumption) | exact absurd h.1.1.1 (by assumption)), List.append_nil]; exact hS)⟩) (by repeat (first | exact List.Sublist.refl _ | apply List.Sublist.cons_cons | apply List.Sublist.cons)) (hle1)
        ·skip
         replace hH := hH.mono hleC; replace hs := hs.mono hleC; replace hpk := hpk.mono hleC; replace hpx := hpx.mono hleC; replace hpy := hpy.mono hleC; replace hp16 := hp16.mono hleC; replace hS := hS.mono hleC; replace hp26 := hp26.mono hleC; replace hsl56 := hsl56.mono hleC; replace hle0 := hle0.trans hleC; replace hle1 := hle1.trans hleC; refine XO.guardT rfl rfl (g9) rfl ?_; refine XO.notB rfl rfl ?_; refine XO.pickT rfl (g9) rfl rfl ?_; refine XO.nil ?_; refine XC.seq2 ?_; refine XC.condT rfl (rfl) ?_; refine XC.ret ?_; refine blockR ?_; refine seqX_ret ?_; refine loopX_ret ?_; refine blockR ?_; refine blockR ?_; refine seqX_ret ?_; refine loopX_ret ?_; refine blockR ?_; refine ⟨rfl, _, oC, rfl, (by repeat (first | exact List.Sublist.refl _ | apply List.Sublist.cons_cons | apply List.Sublist.cons)), RetR.mk ?_⟩
         exact ⟨rfl, [], oC, rfl, Or.inr hK⟩
       ·have g9p := of_decide_eq_false g9
        refine XO.guardF rfl rfl (g9) rfl rfl ?_; refine XO.guardF rfl rfl (g9) rfl rfl ?_; refine XO.guardF rfl rfl (g9) rfl rfl ?_; refine XO.guardF rfl rfl (g9) rfl rfl ?_; refine XO.guardF rfl rfl (g9) rfl rfl ?_; refine XO.guardF rfl rfl (g9) rfl rfl ?_; refine XO.guardF rfl rfl (g9) rfl rfl ?_; refine XO.pickF rfl (g9) rfl rfl ?_; refine XO.nil ?_; refine XC.seq2 ?_; refine XC.condF rfl (rfl) ?_; refine XC.skip ?_; refine blockN ?_; refine XC.seq2 ?_; refine XC.region ?_; refine XO.add rfl rfl (wrap_i64 (by omega) (by omega)) rfl ?_; refine XO.move rfl rfl ?_; refine XO.nil ?_; refine loop_next ((j + 1, oc)) (by show l.length - (j + 1) < l.length - j; omega) (prov_cons (rfl) (prov_cons (rfl) (prov_cons (rfl) (prov_cons (rfl) (prov_cons (rfl) (prov_cons (rfl) (prov_cons (rfl) (prov_cons (rfl) (prov_cons (rfl) (prov_cons (rfl) (prov_cons (rfl) prov_nil))))))))))) (⟨by show j + 1 ≤ l.length; omega, rfl, by rw [flat_snoc hx26, ← List.append_assoc]; first | (rw [clubG_y ⟨⟨⟨by assumption, by assumption⟩, by assumption⟩, by assumption⟩]; exact hS2) | (rw [clubG_n (fun h => by first | exact absurd h.2 (by assumption) | exact absurd h.1.2 (by assumption) | exact absurd h.1.1.2 (by assumption) | exact absurd h.1.1.1 (by assumption)), List.append_nil]; exact hS)⟩) (by repeat (first | exact List.Sublist.refl _ | apply List.Sublist.cons_cons | apply List.Sublist.cons)) (hle1)
      ·have g8p := of_decide_eq_false g8
       refine XO.guardF rfl rfl (g8) rfl rfl ?_; refine XO.guardF rfl rfl (g8) rfl rfl ?_; refine XO.guardF rfl rfl (g8) rfl rfl ?_; refine XO.guardF rfl rfl (g8) rfl rfl ?_; refine XO.pickF rfl (g8) rfl rfl ?_; refine XO.move rfl rfl ?_; refine XO.guardF rfl rfl (rfl) rfl rfl ?_; refine XO.guardF rfl rfl (rfl) rfl rfl ?_; refine XO.guardF rfl rfl (rfl) rfl rfl ?_; refine XO.guardF rfl rfl (rfl) rfl rfl ?_; refine XO.guardF rfl rfl (rfl) rfl rfl ?_; refine XO.guardF rfl rfl (rfl) rfl rfl ?_; refine XO.guardF rfl rfl (rfl) rfl rfl ?_; refine XO.guardF rfl rfl (rfl) rfl rfl ?_; refine XO.pickF rfl (rfl) rfl rfl ?_; refine XO.nil ?_; refine XC.seq2 ?_; refine XC.condF rfl (rfl) ?_; refine XC.skip ?_; refine blockN ?_; refine XC.seq2 ?_; refine XC.region ?_; refine XO.add rfl rfl (wrap_i64 (by omega) (by omega)) rfl ?_; refine XO.move rfl rfl ?_; refine XO.nil ?_; refine loop_next ((j + 1, oc)) (by show l.length - (j + 1) < l.length - j; omega) (prov_cons (rfl) (prov_cons (rfl) (prov_cons (rfl) (prov_cons (rfl) (prov_cons (rfl) (prov_cons (rfl) (prov_cons (rfl) (prov_cons (rfl) (prov_cons (rfl) (prov_cons (rfl) (prov_cons (rfl) prov_nil))))))))))) (⟨by show j + 1 ≤ l.length; omega, rfl, by rw [flat_snoc hx26, ← List.append_assoc]; first | (rw [clubG_y ⟨⟨⟨by assumption, by assumption⟩, by assumption⟩, by assumption⟩]; exact hS2) | (rw [clubG_n (fun h => by first | exact absurd h.2 (by assumption) | exact absurd h.1.2 (by assumption) | exact absurd h.1.1.2 (by assumption) | exact absurd h.1.1.1 (by assumption)), List.append_nil]; exact hS)⟩) (by repeat (first | exact List.Sublist.refl _ | apply List.Sublist.cons_cons | apply List.Sublist.cons)) (hle1)
     ·have g7p := of_decide_eq_false g7
      refine XO.guardF rfl rfl (g7) rfl rfl ?_; refine XO.guardF rfl rfl (g7) rfl rfl ?_; refine XO.guardF rfl rfl (g7) rfl rfl ?_; refine XO.pickF rfl (g7) rfl rfl ?_; refine XO.move rfl rfl ?_; refine XO.guardF rfl rfl (rfl) rfl rfl ?_; refine XO.guardF rfl rfl (rfl) rfl rfl ?_; refine XO.guardF rfl rfl (rfl) rfl rfl ?_; refine XO.guardF rfl rfl (rfl) rfl rfl ?_; refine XO.guardF rfl rfl (rfl) rfl rfl ?_; refine XO.pickF rfl (rfl) rfl rfl ?_; refine XO.move rfl rfl ?_; refine XO.guardF rfl rfl (rfl) rfl rfl ?_; refine XO.guardF rfl rfl (rfl) rfl rfl ?_; refine XO.guardF rfl rfl (rfl) rfl rfl ?_; refine XO.guardF rfl rfl (rfl) rfl rfl ?_; refine XO.guardF rfl rfl (rfl) rfl rfl ?_; refine XO.guardF rfl rfl (rfl) rfl rfl ?_; refine XO.guardF rfl rfl (rfl) rfl rfl ?_; refine XO.guardF rfl rfl (rfl) rfl rfl ?_; refine XO.pickF rfl (rfl) rfl rfl ?_; refine XO.nil ?_; refine XC.seq2 ?_; refine XC.condF rfl (rfl) ?_; refine XC.skip ?_; refine blockN ?_; refine XC.seq2 ?_; refine XC.region ?_; refine XO.add rfl rfl (wrap_i64 (by omega) (by omega)) rfl ?_; refine XO.move rfl rfl ?_; refine XO.nil ?_; refine loop_next ((j + 1, oc)) (by show l.length - (j + 1) < l.length - j; omega) (prov_cons (rfl) (prov_cons (rfl) (prov_cons (rfl) (prov_cons (rfl) (prov_cons (rfl) (prov_cons (rfl) (prov_cons (rfl) (prov_cons (rfl) (prov_cons (rfl) (prov_cons (rfl) (prov_cons (rfl) prov_nil))))))))))) (⟨by show j + 1 ≤ l.length; omega, rfl, by rw [flat_snoc hx26, ← List.append_assoc]; first | (rw [clubG_y ⟨⟨⟨by assumption, by assumption⟩, by assumption⟩, by assumption⟩]; exact hS2) | (rw [clubG_n (fun h => by first | exact absurd h.2 (by assumption) | exact absurd h.1.2 (by assumption) | exact absurd h.1.1.2 (by assumption) | exact absurd h.1.1.1 (by assumption)), List.append_nil]; exact hS)⟩) (by repeat (first | exact List.Sublist.refl _ | apply List.Sublist.cons_cons | apply List.Sublist.cons)) (hle1)
    ·have g6p := of_decide_eq_false g6
     refine XO.guardF rfl rfl (g6) rfl rfl ?_; refine XO.guardF rfl rfl (g6) rfl rfl ?_; refine XO.pickF rfl (g6) rfl rfl ?_; refine XO.move rfl rfl ?_; refine XO.guardF rfl rfl (rfl) rfl rfl ?_; refine XO.guardF rfl rfl (rfl) rfl rfl ?_; refine XO.guardF rfl rfl (rfl) rfl rfl ?_; refine XO.guardF rfl rfl (rfl) rfl rfl ?_; refine XO.pickF rfl (rfl) rfl rfl ?_; refine XO.move rfl rfl ?_; refine XO.guardF rfl rfl (rfl) rfl rfl ?_; refine XO.guardF rfl rfl (rfl) rfl rfl ?_; refine XO.guardF rfl rfl (rfl) rfl rfl ?_; refine XO.guardF rfl rfl (rfl) rfl rfl ?_; refine XO.guardF rfl rfl (rfl) rfl rfl ?_; refine XO.pickF rfl (rfl) rfl rfl ?_; refine XO.move rfl rfl ?_; refine XO.guardF rfl rfl (rfl) rfl rfl ?_; refine XO.guardF rfl rfl (rfl) rfl rfl ?_; refine XO.guardF rfl rfl (rfl) rfl rfl ?_; refine XO.guardF rfl rfl (rfl) rfl rfl ?_; refine XO.guardF rfl rfl (rfl) rfl rfl ?_; refine XO.guardF rfl rfl (rfl) rfl rfl ?_; refine XO.guardF rfl rfl (rfl) rfl rfl ?_; refine XO.guardF rfl rfl (rfl) rfl rfl ?_; refine XO.pickF rfl (rfl) rfl rfl ?_; refine XO.nil ?_; refine XC.seq2 ?_; refine XC.condF rfl (rfl) ?_; refine XC.skip ?_; refine blockN ?_; refine XC.seq2 ?_; refine XC.region ?_; refine XO.add rfl rfl (wrap_i64 (by omega) (by omega)) rfl ?_; refine XO.move rfl rfl ?_; refine XO.nil ?_; refine loop_next ((j + 1, oc)) (by show l.length - (j + 1) < l.length - j; omega) (prov_cons (rfl) (prov_cons (rfl) (prov_cons (rfl) (prov_cons (rfl) (prov_cons (rfl) (prov_cons (rfl) (prov_cons (rfl) (prov_cons (rfl) (prov_cons (rfl) (prov_cons (rfl) (prov_cons (rfl) prov_nil))))))))))) (⟨by show j + 1 ≤ l.length; omega, rfl, by rw [flat_snoc hx26, ← List.append_assoc]; first | (rw [clubG_y ⟨⟨⟨by assumption, by assumption⟩, by assumption⟩, by assumption⟩]; exact hS2) | (rw [clubG_n (fun h => by first | exact absurd h.2 (by assumption) | exact absurd h.1.2 (by assumption) | exact absurd h.1.1.2 (by assumption) | exact absurd h.1.1.1 (by assumption)), List.append_nil]; exact hS)⟩) (by repeat (first | exact List.Sublist.refl _ | apply List.Sublist.cons_cons | apply List.Sublist.cons)) (hle1)
   ·obtain rfl : j = l.length := by omega
    rw [List.take_length] at hS
    refine XC.exit ?_; refine seqX_exit ?_; refine loopX_exit ?_; refine blockHit rfl ?_; refine blockN ?_; refine XC.seq2 ?_; refine XC.region ?_; refine XO.add rfl rfl (wrap_i64 (by omega) (by omega)) rfl ?_; refine XO.move rfl rfl ?_; refine XO.nil ?_; refine loop_next ((i + 1, oc)) (by show l.length - (i + 1) < l.length - i; omega) (prov_cons (rfl) (prov_cons (rfl) (prov_cons (rfl) (prov_cons (rfl) (prov_cons (rfl) (prov_cons (rfl) (prov_cons (rfl) prov_nil))))))) (⟨by show i + 1 ≤ l.length; omega, rfl, by rw [flat_snoc hx16]; first | (rw [pathE_club (by assumption)]; exact hS) | (rw [pathE_one (by assumption) ⟨by assumption, by assumption⟩]; exact hS2) | (rw [pathE_no (by assumption) (fun h => by first | exact absurd h.2 (by assumption) | (have := h.1; simp_all)), List.append_nil]; exact hS)⟩) (by repeat (first | exact List.Sublist.refl _ | apply List.Sublist.cons_cons | apply List.Sublist.cons)) (hle0)
  ·refine XC.seq ?_; refine XC.region ?_; refine XO.loadO 0 rfl rfl ty_41 rfl rfl rfl ?_; refine XO.loadH rfl (by assumption) ty_3 rfl rfl rfl ?_; refine XO.callV rfl (other_fn x16 x _) rfl ?_; refine XO.move rfl rfl ?_; refine XO.extract rfl rfl rfl ?_; refine XO.extract rfl rfl rfl ?_; refine XO.assign rfl rfl ?_; refine XO.assign rfl rfl ?_; refine XO.nil ?_; refine XC.seq2 ?_; refine XC.seq ?_; refine XC.region ?_; refine XO.move rfl rfl ?_; refine XO.move rfl rfl ?_; refine XO.guardC rfl rfl rfl rfl (fun g11 => ?_) (fun g11 => ?_)
   ·have g11p := g11
    refine XO.move rfl rfl ?_; refine XO.guardT rfl rfl (g11) rfl ?_; refine XO.loadH rfl (by assumption) ty_3 rfl rfl rfl ?_; refine XO.guardT rfl rfl (g11) rfl ?_; refine XO.eql rfl rfl rfl ?_; refine XO.pickT rfl (g11) rfl rfl ?_; refine XO.move rfl rfl ?_; refine XO.guardC rfl rfl rfl rfl (fun g12 => ?_) (fun g12 => ?_)
    ·have g12p := of_decide_eq_true g12
     refine XO.move rfl rfl ?_; refine XO.guardT rfl rfl (g12) rfl ?_; refine XO.fieldAddr rfl fa_41_0 rfl ?_; refine XO.guardT rfl rfl (g12) rfl ?_; refine XO.loadO 0 rfl rfl ty_3 rfl rfl rfl ?_; refine XO.guardT rfl rfl (g12) rfl ?_; refine XO.buildSlice rfl Try.underlying25 ty_3 ze_3 rfl rfl rfl (fun b77 => ?_); refine XO.publish 0 rfl rfl rfl (fun HP77 oP77 hleP77 hbP77 hoP77 => ?_)
     have hsl77 := SlR.lit (ρ := (intR .i64)) (l := [x16.No]) hbP77 hoP77 (RowsR.one1 rfl)
     replace hH := hH.mono hleP77; replace hs := hs.mono hleP77; replace hpk := hpk.mono hleP77; replace hpx := hpx.mono hleP77; replace hpy := hpy.mono hleP77; replace hS := hS.mono hleP77; replace hp16 := hp16.mono hleP77; replace hle0 := hle0.trans hleP77; refine XO.guardT rfl rfl (g12) rfl ?_
     have hxs := paths_one hx16 (by assumption) ⟨by assumption, by assumption⟩
     refine XO.callVal [_] rfl trivial rfl (hy _ _ _ hxs (_, _) _ [] oc hH hS ⟨rfl, hsl77⟩) rfl rfl ?_; rintro _ HC oC hleC (⟨rfl, oc2, rfl, hS2⟩ | ⟨rfl, hK⟩)
     ·skip
      replace hH := hH.mono hleC; replace hs := hs.mono hleC; replace hpk := hpk.mono hleC; replace hpx := hpx.mono hleC; replace hpy := hpy.mono hleC; replace hS := hS.mono hleC; replace hp16 := hp16.mono hleC; replace hsl77 := hsl77.mono hleC; replace hle0 := hle0.trans hleC; refine XO.guardT rfl rfl (g12) rfl ?_; refine XO.notB rfl rfl ?_; refine XO.pickT rfl (g12) rfl rfl ?_; refine XO.nil ?_; refine XC.seq2 ?_; refine XC.condF rfl (rfl) ?_; refine XC.skip ?_; refine blockN ?_; refine XC.seq2 ?_; refine XC.region ?_; refine XO.add rfl rfl (wrap_i64 (by omega) (by omega)) rfl ?_; refine XO.move rfl rfl ?_; refine XO.nil ?_; refine loop_next ((i + 1, oC)) (by show l.length - (i + 1) < l.length - i; omega) (prov_cons (rfl) (prov_cons (rfl) (prov_cons (rfl) (prov_cons (rfl) (prov_cons (rfl) (prov_cons (rfl) (prov_cons (rfl) prov_nil))))))) (⟨by show i + 1 ≤ l.length; omega, rfl, by rw [flat_snoc hx16]; first | (rw [pathE_club (by assumption)]; exact hS) | (rw [pathE_one (by assumption) ⟨by assumption, by assumption⟩]; exact hS2) | (rw [pathE_no (by assumption) (fun h => by first | exact absurd h.2 (by assumption) | (have := h.1; simp_all)), List.append_nil]; exact hS)⟩) (by repeat (first | exact List.Sublist.refl _ | apply List.Sublist.cons_cons | apply List.Sublist.cons)) (hle0)
     ·skip
      replace hH := hH.mono hleC; replace hs := hs.mono hleC; replace hpk := hpk.mono hleC; replace hpx := hpx.mono hleC; replace hpy := hpy.mono hleC; replace hS := hS.mono hleC; replace hp16 := hp16.mono hleC; replace hsl77 := hsl77.mono hleC; replace hle0 := hle0.trans hleC; refine XO.guardT rfl rfl (g12) rfl ?_; refine XO.notB rfl rfl ?_; refine XO.pickT rfl (g12) rfl rfl ?_; refine XO.nil ?_; refine XC.seq2 ?_; refine XC.condT rfl (rfl) ?_; refine XC.ret ?_; refine blockR ?_; refine seqX_ret ?_; refine loopX_ret ?_; refine blockR ?_; refine ⟨rfl, _, oC, rfl, (by repeat (first | exact List.Sublist.refl _ | apply List.Sublist.cons_cons | apply List.Sublist.cons)), RetR.mk ?_⟩
      exact ⟨rfl, [], oC, rfl, Or.inr hK⟩
    ·have g12p := of_decide_eq_false g12
     refine XO.guardF rfl rfl (g12) rfl rfl ?_; refine XO.guardF rfl rfl (g12) rfl rfl ?_; refine XO.guardF rfl rfl (g12) rfl rfl ?_; refine XO.guardF rfl rfl (g12) rfl rfl ?_; refine XO.guardF rfl rfl (g12) rfl rfl ?_; refine XO.pickF rfl (g12) rfl rfl ?_; refine XO.nil ?_; refine XC.seq2 ?_; refine XC.condF rfl (rfl) ?_; refine XC.skip ?_; refine blockN ?_; refine XC.seq2 ?_; refine XC.region ?_; refine XO.add rfl rfl (wrap_i64 (by omega) (by omega)) rfl ?_; refine XO.move rfl rfl ?_; refine XO.nil ?_; refine loop_next ((i + 1, oc)) (by show l.length - (i + 1) < l.length - i; omega) (prov_cons (rfl) (prov_cons (rfl) (prov_cons (rfl) (prov_cons (rfl) (prov_cons (rfl) (prov_cons (rfl) (prov_cons (rfl) prov_nil))))))) (⟨by show i + 1 ≤ l.length; omega, rfl, by rw [flat_snoc hx16]; first | (rw [pathE_club (by assumption)]; exact hS) | (rw [pathE_one (by assumption) ⟨by assumption, by assumption⟩]; exact hS2) | (rw [pathE_no (by assumption) (fun h => by first | exact absurd h.2 (by assumption) | (have := h.1; simp_all)), List.append_nil]; exact hS)⟩) (by repeat (first | exact List.Sublist.refl _ | apply List.Sublist.cons_cons | apply List.Sublist.cons)) (hle0)
   ·have g11p := g11
    refine XO.guardF rfl rfl (g11) rfl rfl ?_; refine XO.guardF rfl rfl (g11) rfl rfl ?_; refine XO.pickF rfl (g11) rfl rfl ?_; refine XO.move rfl rfl ?_; refine XO.guardF rfl rfl (rfl) rfl rfl ?_; refine XO.guardF rfl rfl (rfl) rfl rfl ?_; refine XO.guardF rfl rfl (rfl) rfl rfl ?_; refine XO.guardF rfl rfl (rfl) rfl rfl ?_; refine XO.guardF rfl rfl (rfl) rfl rfl ?_; refine XO.guardF rfl rfl (rfl) rfl rfl ?_; refine XO.pickF rfl (rfl) rfl rfl ?_; refine XO.nil ?_; refine XC.seq2 ?_; refine XC.condF rfl (rfl) ?_; refine XC.skip ?_; refine blockN ?_; refine XC.seq2 ?_; refine XC.region ?_; refine XO.add rfl rfl (wrap_i64 (by omega) (by omega)) rfl ?_; refine XO.move rfl rfl ?_; refine XO.nil ?_; refine loop_next ((i + 1, oc)) (by show l.length - (i + 1) < l.length - i; omega) (prov_cons (rfl) (prov_cons (rfl) (prov_cons (rfl) (prov_cons (rfl) (prov_cons (rfl) (prov_cons (rfl) (prov_cons (rfl) prov_nil))))))) (⟨by show i + 1 ≤ l.length; omega, rfl, by rw [flat_snoc hx16]; first | (rw [pathE_club (by assumption)]; exact hS) | (rw [pathE_one (by assumption) ⟨by assumption, by assumption⟩]; exact hS2) | (rw [pathE_no (by assumption) (fun h => by first | exact absurd h.2 (by assumption) | (have := h.1; simp_all)), List.append_nil]; exact hS)⟩) (by repeat (first | exact List.Sublist.refl _ | apply List.Sublist.cons_cons | apply List.Sublist.cons)) (hle0)
 ·obtain rfl : i = l.length := by omega
  rw [List.take_length] at hS
  refine XC.exit ?_; refine seqX_exit ?_; refine loopX_exit ?_; refine blockHit rfl ?_; refine ⟨rfl, _, oc, rfl, (by repeat (first | exact List.Sublist.refl _ | apply List.Sublist.cons_cons | apply List.Sublist.cons)), RetR.mk ?_⟩
  exact ⟨rfl, [], oc, rfl, Or.inl hS⟩

theorem paths_fn (a : Option Addr) (c : Nat) (l : Fs) (H : Hp) (hs : SlR faR H a c l) (hl : l.length < 9223372036854775808) (x y : Int) : FnC Try.prog 44 #[.agg ⟨[.slice a l.length c]⟩, .int .i64 x, .int .i64 y] H [] (RetR (fun v H2 _ => ∃ bk bx bY, v = .func (.func 55) #[] #[.pointer (some ⟨bk, 0, none⟩), .pointer (some ⟨bx, 0, none⟩), .pointer (some ⟨bY, 0, none⟩)] ∧ SeqF Try.prog 55 [.pointer (some ⟨bk, 0, none⟩), .pointer (some ⟨bx, 0, none⟩), .pointer (some ⟨bY, 0, none⟩)] H2 [] encP lendP (pathsL l x y))) := by
 refine FnC.intro (args := [.agg ⟨[.slice a l.length c]⟩, .int .i64 x, .int .i64 y]) Try.func44 rfl rfl Try.ntmps44 rfl rfl rfl fun G rest => ?_
 refine XC.seq ?_; refine XC.region ?_; refine XO.box rfl rfl rfl (fun b3 => ?_); refine XO.box rfl rfl rfl (fun b4 => ?_); refine XO.box rfl rfl rfl (fun b5 => ?_); refine XO.assign rfl rfl ?_; refine XO.nil ?_; refine XC.seq2 ?_; refine XC.seq ?_; refine XC.region ?_; refine XO.publish 2 rfl rfl rfl (fun HK3 oK3 hleK3 hbK3 hoK3 => ?_)
 have hpK3 := PtH.of_is hbK3 hoK3
 replace hs := hs.mono hleK3; refine XO.publish 1 rfl rfl rfl (fun HK4 oK4 hleK4 hbK4 hoK4 => ?_)
 have hpK4 := PtH.of_is hbK4 hoK4
 replace hs := hs.mono hleK4; replace hpK3 := hpK3.mono hleK4; refine XO.publish 0 rfl rfl rfl (fun HK5 oK5 hleK5 hbK5 hoK5 => ?_)
 have hpK5 := PtH.of_is hbK5 hoK5
 replace hs := hs.mono hleK5; replace hpK3 := hpK3.mono hleK5; replace hpK4 := hpK4.mono hleK5; refine XO.makeFunc rfl rfl ?_; refine XO.assign rfl rfl ?_; refine XO.nil ?_; refine XC.seq2 ?_; refine XC.ret ?_; refine ⟨rfl, _, [], rfl, (by repeat (first | exact List.Sublist.refl _ | apply List.Sublist.cons)), RetR.mk ?_⟩
 exact ⟨b3, b4, b5, rfl, paths_seq b3 b4 b5 a c l x y _ hs hl hpK3 hpK4 hpK5⟩

end Go.Proofs

/- The walks of the functions of conflicts: what each of them computes, at any input. -/
set_option autoImplicit false
set_option linter.unusedVariables false
set_option linter.unusedSimpArgs false
namespace Go.Proofs
open Go.XL



set_option maxRecDepth 100000 in
set_option maxHeartbeats 1600000 in
theorem near_seq (bx bk : Nat) (a : Option Addr) (c : Nat) (l : Fs) (x : Int) (H : Hp) (hs : SlR faR H a c l) (hl : l.length ≤ 100000) (hpk : PtH H bk 0 [.slice a l.length c]) (hpx : PtH H bx 0 [.int .i64 x]) : SeqF Try.prog 59 [.pointer (some ⟨bx, 0, none⟩), .pointer (some ⟨bk, 0, none⟩)] H [] encN lendN (nearL l x) := by
 intro g J K oc hy hS
 have hH : LeW H H := Le.refl H
 refine FnC.intro (args := [(.func g #[] #[]), .pointer (some ⟨bx, 0, none⟩), .pointer (some ⟨bk, 0, none⟩)]) Try.func59 rfl rfl Try.ntmps59 rfl rfl rfl fun G rest => ?_
 refine XC.seq ?_; refine XC.region ?_; refine XO.makeMap rfl (fun bm => ?_); refine XO.loadH rfl (by assumption) ty_3 rfl rfl rfl ?_; refine XO.mapIns 0 rfl rfl rfl rfl (MapI.nil .i64) Try.underlying80 Try.underlying3 rfl ?_
 intro es cl hM
 replace hM : MapI .i64 es (mV [(x, 0)]) := hM; refine XO.move rfl rfl ?_; refine XO.assign rfl rfl ?_; refine XO.nil ?_; refine XC.seq2 ?_; refine XC.seq ?_; refine XC.region ?_; refine XO.loadH rfl (by assumption) ty_3 rfl rfl rfl ?_; refine XO.buildRow (ρ := (intR .i64)) (l := [x]) rfl Try.underlying25 ty_3 ze_3 rfl rfl rfl (RowsR.one1 rfl) rfl (fun p17 a17 c17 hacc17 => ?_)
 have hQ := QuI.of_acc hacc17 (by simp)
 refine XO.assign rfl rfl ?_; refine XO.nil ?_; refine XC.seq2 ?_; refine XC.block ?_; refine XC.keep [5, 0, 2, 4] rfl ?_; refine XC.loop (base := [(0, _), (2, _), (4, _)]) (fun ζ : Nat × (Ds) × (Array MapEntry) × (Nat) × (Nat × SObj) × (Option Addr) × (Nat) × (XL.Own) => [(5, .slice ζ.2.2.2.2.2.1 ((ζ.2.1.drop ζ.1).map Prod.fst).length ζ.2.2.2.2.2.2.1)]) (fun ζ Hl own => ζ.1 ≤ (2 * l.length + 2) ∧ ζ.2.2.2.2.1 :: (bm, .obj (.map ζ.2.2.1 ζ.2.2.2.1)) :: (ζ.2.2.2.2.2.2.2 ++ rest) = own ∧ (nearL l x = bfs l ((2 * l.length + 2) - ζ.1) ζ.1 ζ.2.1) ∧ (MapI .i64 ζ.2.2.1 (mV ζ.2.1)) ∧ (QuI 3 ζ.2.2.2.2.1 ζ.2.2.2.2.2.1 ζ.2.2.2.2.2.2.1 ((ζ.2.1.drop ζ.1).map Prod.fst)) ∧ (KD l x ζ.2.1) ∧ (J.Holds ((nearL l x).take (ζ.1)) Hl ζ.2.2.2.2.2.2.2)) (fun ζ => (2 * l.length + 2) - ζ.1) (0, [(x, 0)], es, cl, p17, a17, c17, oc) (prov_cons (rfl) (prov_cons (rfl) (prov_cons (rfl) (prov_cons (rfl) prov_nil)))) (by repeat (first | exact List.Sublist.refl _ | apply List.Sublist.cons_cons | apply List.Sublist.cons)) ⟨Nat.zero_le _, rfl, rfl, hM, hQ, KD.start l x, by simpa using hS⟩ ?_; rintro ⟨k, m, es, cl, pq, aq, cq, oc⟩ Hl0 _ hle0 ⟨hkk, rfl, hxs, hM, hQ, hKD, hS⟩; replace hH := hH.mono hle0; replace hs := hs.mono hle0; replace hpk := hpk.mono hle0; replace hpx := hpx.mono hle0; replace hacc17 := hacc17.mono hle0
 try dsimp only at hkk hxs hM hQ hKD hS ⊢
 refine XC.seq ?_; refine XC.seq ?_; refine XC.region ?_; refine XO.move rfl rfl ?_; refine XO.lenS (ts := #[]) rfl Try.underlying25 rfl ?_; refine XO.gtr rfl rfl rfl ?_; refine XO.nil ?_; refine XC.seq2 ?_; refine XC.cond rfl (fun c0_3 => ?_) (fun c0_3 => ?_)
 ·have hkm : k < m.length := by simp at c0_3; omega
  obtain ⟨⟨z, n⟩, hat⟩ : ∃ q, m[k]? = some q := ⟨_, List.getElem?_eq_getElem hkm⟩
  have hq1 : (m.drop k).map Prod.fst = z :: (m.drop (k + 1)).map Prod.fst := by rw [drop_cons hat]; rfl
  have hxk := near_split hxs hat
  have hml := hKD.len
  have hnm := hKD.lt _ (List.mem_of_getElem? hat)
  obtain ⟨js, hja, hjs, hjc⟩ := QuI.addr (by rw [← hq1]; exact hQ)
  subst hja
  refine XC.skip ?_; refine XC.seq2 ?_; refine XC.seq ?_; refine XC.block ?_; refine XC.seq ?_; refine XC.region ?_; refine XO.move rfl rfl ?_; refine XO.indexE rfl rfl Try.underlying25 ty_3 (by omega) (by rw [hq1]; simp <;> omega) rfl ?_; refine XO.loadQ 0 rfl rfl hjs (by simp) ty_3 rfl ?_; refine XO.assign rfl rfl ?_; refine XO.nil ?_; refine XC.seq2 ?_; refine XC.seq ?_; refine XC.seq ?_; refine XC.region ?_; refine XO.move rfl rfl ?_; refine XO.move rfl rfl ?_; refine XO.move rfl rfl ?_; refine XO.move rfl rfl ?_; refine XO.mapGet1 1 rfl rfl rfl hM Try.underlying80 Try.underlying3 zv_3 rfl (v := .int .i64 ((n : Nat) : Int)) (by rw [mget_D, hKD.key _ _ hat]; rfl) ?_; refine XO.callVal [_, _] rfl trivial rfl (hy _ _ _ (split_at hxk) () _ [] oc hH hS rfl) rfl rfl ?_; rintro _ HC oC hleC (⟨rfl, oc2, rfl, hS2⟩ | ⟨rfl, hK⟩)
  ·skip
   replace hH := hH.mono hleC; replace hs := hs.mono hleC; replace hpk := hpk.mono hleC; replace hpx := hpx.mono hleC; replace hacc17 := hacc17.mono hleC; replace hS := hS.mono hleC; replace hle0 := hle0.trans hleC; refine XO.notB rfl rfl ?_; refine XO.nil ?_; refine XC.seq2 ?_; refine XC.condF rfl (rfl) ?_; refine XC.skip ?_; refine XC.seq2 ?_; refine XC.seq ?_; refine XC.region ?_; refine XO.fieldAddr rfl fa_51_0 rfl ?_; refine XO.loadHF rfl (by assumption) ty_22 rfl rfl rfl ?_; refine XO.lenS (ts := #[]) rfl Try.underlying22 rfl ?_; refine XO.move rfl rfl ?_; refine XO.nil ?_; refine XC.seq2 ?_; refine XC.block ?_; refine XC.keep [5, 36, 0, 2, 4, 6, 34, 35] rfl ?_; refine XC.loop (base := [(0, _), (2, _), (4, _), (6, _), (34, _), (35, _)]) (fun ζ : Nat × (Array MapEntry) × (Nat) × (Nat × SObj) × (Option Addr) × (Nat) × (XL.Own) => [(5, .slice ζ.2.2.2.2.1 (((addN (l.take ζ.1) z n m).drop k).map Prod.fst).length ζ.2.2.2.2.2.1), (36, .int .i64 (ζ.1 : Nat))]) (fun ζ Hl own => ζ.1 ≤ l.length ∧ ζ.2.2.2.1 :: (bm, .obj (.map ζ.2.1 ζ.2.2.1)) :: (ζ.2.2.2.2.2.2 ++ rest) = own ∧ (MapI .i64 ζ.2.1 (mV (addN (l.take (ζ.1)) z n m))) ∧ (QuI 3 ζ.2.2.2.1 ζ.2.2.2.2.1 ζ.2.2.2.2.2.1 (((addN (l.take (ζ.1)) z n m).drop k).map Prod.fst)) ∧ (J.Holds ((nearL l x).take k ++ [(z, n)]) Hl ζ.2.2.2.2.2.2)) (fun ζ => l.length - ζ.1) (0, es, cl, pq, (some ⟨pq.1, js.length, none⟩), cq, oC) (prov_cons (rfl) (prov_cons (rfl) (prov_cons (rfl) (prov_cons (rfl) (prov_cons (rfl) (prov_cons (rfl) (prov_cons (rfl) (prov_cons (rfl) prov_nil)))))))) (by repeat (first | exact List.Sublist.refl _ | apply List.Sublist.cons_cons | apply List.Sublist.cons)) ⟨Nat.zero_le _, rfl, hM, hQ, hS2⟩ ?_; rintro ⟨j, es, cl, pq, aq, cq, oc⟩ Hl1 _ hle1 ⟨hkj, rfl, hM, hQ, hS⟩; replace hH := hH.mono hle1; replace hs := hs.mono hle1; replace hpk := hpk.mono hle1; replace hpx := hpx.mono hle1; replace hacc17 := hacc17.mono hle1; replace hS2 := hS2.mono hle1; replace hle0 := hle0.trans hle1
   try dsimp only at hkj hM hQ hS ⊢
   refine XC.seq ?_; refine XC.region ?_; refine XO.lss rfl rfl rfl ?_; refine XO.nil ?_; refine XC.seq2 ?_; refine XC.seq ?_; refine XC.cond rfl (fun c2_4 => ?_) (fun c2_4 => ?_)
   ·have hKJ := hKD.addN hat j (by omega)
    have hatj := addN_get (l := l.take j) (z := z) (n := n) hat
    have hmj := hKJ.len
    have hm1 := addN_len z n (l.take j) m
    refine XC.skip ?_; refine XC.seq2 ?_; refine XC.seq ?_; refine XC.block ?_; refine XC.seq ?_; refine XC.region ?_; refine XO.indexN rfl hs rfl Try.underlying22 ty_41 (by omega) rfl ?_; rintro eb38 eo38 _ x38 hx38 rfl hp38; refine XO.loadH rfl (by assumption) ty_41 rfl rfl rfl ?_; refine XO.alloc ze_41 rfl (fun b8 => ?_); refine XO.storeO 0 rfl rfl rfl rfl ty_41 rfl rfl rfl rfl rfl ?_; refine XO.nil ?_; refine XC.seq2 ?_; refine XC.seq ?_; refine XC.region ?_; refine XO.loadO 0 rfl rfl ty_41 rfl rfl rfl ?_; refine XO.move rfl rfl ?_; refine XO.callV rfl (other_fn x38 z _) rfl ?_; refine XO.move rfl rfl ?_; refine XO.extract rfl rfl rfl ?_; refine XO.extract rfl rfl rfl ?_; refine XO.assign rfl rfl ?_; refine XO.assign rfl rfl ?_; refine XO.nil ?_; refine XC.seq2 ?_; refine XC.seq ?_; refine XC.region ?_; refine XO.move rfl rfl ?_; refine XO.move rfl rfl ?_; refine XO.guardC rfl rfl rfl rfl (fun g7 => ?_) (fun g7 => ?_)
    ·have g7p := g7
     refine XO.fieldAddr rfl fa_41_1 rfl ?_; refine XO.guardT rfl rfl (g7) rfl ?_; refine XO.loadO 0 rfl rfl ty_3 rfl rfl rfl ?_; refine XO.guardT rfl rfl (g7) rfl ?_; refine XO.eql rfl rfl rfl ?_; refine XO.pickT rfl (g7) rfl rfl ?_; refine XO.nil ?_; refine XC.seq2 ?_; refine XC.cond rfl (fun c3_8 => ?_) (fun c3_8 => ?_)
     ·refine XC.seq ?_; refine XC.region ?_; refine XO.move rfl rfl ?_; refine XO.move rfl rfl ?_; refine XO.mapGet2 2 rfl rfl rfl hM Try.underlying80 Try.underlying3 zv_3 rfl (mget_D _ _) (mget_S _ _) ?_; refine XO.move rfl rfl ?_; refine XO.extract rfl rfl rfl ?_; refine XO.extract rfl rfl rfl ?_; refine XO.assign rfl rfl ?_; refine XO.assign rfl rfl ?_; refine XO.nil ?_; refine XC.seq2 ?_; refine XC.seq ?_; refine XC.region ?_; refine XO.move rfl rfl ?_; refine XO.notB rfl rfl ?_; refine XO.nil ?_; refine XC.seq2 ?_; refine XC.condB rfl (fun c4_9 => ?_) (fun c4_9 => ?_)
      ·have hnw := isSome_no (by simpa using c4_9)
       refine XC.seq ?_; refine XC.region ?_; refine XO.move rfl rfl ?_; refine XO.move rfl rfl ?_; refine XO.move rfl rfl ?_; refine XO.move rfl rfl ?_; refine XO.mapGet1 2 rfl rfl rfl hM Try.underlying80 Try.underlying3 zv_3 rfl (v := .int .i64 ((n : Nat) : Int)) (by rw [mget_D, hKJ.key _ _ hatj]; rfl) ?_; refine XO.add (c := ((n + 1 : Nat) : Int)) rfl rfl ((wrap_i64 (by omega) (by omega)).trans (by omega)) rfl ?_; refine XO.mapSet 2 rfl rfl rfl rfl hM Try.underlying80 Try.underlying3 rfl ?_
       intro es2 cl2 hM2
       rw [mset_new hnw] at hM2
       refine XO.nil ?_; refine XC.seq2 ?_; refine XC.region ?_; refine XO.move rfl rfl ?_; refine XO.move rfl rfl ?_; refine XO.buildSlice rfl Try.underlying25 ty_3 ze_3 rfl rfl rfl (fun b68 => ?_); refine XO.publish 0 rfl rfl rfl (fun HP68 oP68 hleP68 hbP68 hoP68 => ?_)
       have hsl68 := SlR.lit (ρ := (intR .i64)) (l := [(othr x38 z).getD 0]) hbP68 hoP68 (RowsR.one1 rfl)
       replace hH := hH.mono hleP68; replace hs := hs.mono hleP68; replace hpk := hpk.mono hleP68; replace hpx := hpx.mono hleP68; replace hacc17 := hacc17.mono hleP68; replace hS2 := hS2.mono hleP68; replace hS := hS.mono hleP68; replace hp38 := hp38.mono hleP68; replace hle0 := hle0.trans hleP68; replace hle1 := hle1.trans hleP68; refine XO.appendQ 1 rfl rfl hQ rfl rfl hsl68 rfl (by simp) Try.underlying25 ty_3 ze_3 rfl by_3 (by simp; omega) rfl (fun pq2 aq2 cq2 hQ2 => ?_); refine XO.assign rfl rfl ?_; refine XO.nil ?_; refine blockN ?_; refine XC.seq2 ?_; refine XC.region ?_; refine XO.add rfl rfl (wrap_i64 (by omega) (by omega)) rfl ?_; refine XO.move rfl rfl ?_; refine XO.nil ?_; refine loop_next ((j + 1, es2, cl2, pq2, aq2, cq2, oc)) (by show l.length - (j + 1) < l.length - j; omega) (prov_cons (by rw [addN_snoc hx38]; first | (rw [addE_y (by assumption) (by assumption) hnw, List.drop_append_of_le_length (by omega), List.map_append]; rfl) | (rw [addE_n (fun h => by first | exact absurd h.1.1 (by simp_all) | exact absurd h.1.2 (by assumption) | exact absurd h.2 (by intro e; simp_all))]; rfl)) (prov_cons (rfl) (prov_cons (rfl) (prov_cons (rfl) (prov_cons (rfl) (prov_cons (rfl) (prov_cons (rfl) (prov_cons (rfl) prov_nil)))))))) (⟨by show j + 1 ≤ l.length; omega, rfl, by rw [addN_snoc hx38]; first | (rw [addE_y (by assumption) (by assumption) hnw]; exact hM2) | (rw [addE_n (fun h => by first | exact absurd h.1.1 (by simp_all) | exact absurd h.1.2 (by assumption) | exact absurd h.2 (by intro e; simp_all))]; exact hM), by rw [addN_snoc hx38]; first | (rw [addE_y (by assumption) (by assumption) hnw, List.drop_append_of_le_length (by omega), List.map_append]; exact hQ2) | (rw [addE_n (fun h => by first | exact absurd h.1.1 (by simp_all) | exact absurd h.1.2 (by assumption) | exact absurd h.2 (by intro e; simp_all))]; exact hQ), hS⟩) (by repeat (first | exact List.Sublist.refl _ | apply List.Sublist.cons_cons | apply List.Sublist.cons)) (hle1)
      ·refine XC.skip ?_; refine blockN ?_; refine XC.seq2 ?_; refine XC.region ?_; refine XO.add rfl rfl (wrap_i64 (by omega) (by omega)) rfl ?_; refine XO.move rfl rfl ?_; refine XO.nil ?_; refine loop_next ((j + 1, es, cl, pq, aq, cq, oc)) (by show l.length - (j + 1) < l.length - j; omega) (prov_cons (by rw [addN_snoc hx38]; first | (rw [addE_y (by assumption) (by assumption) hnw, List.drop_append_of_le_length (by omega), List.map_append]; rfl) | (rw [addE_n (fun h => by first | exact absurd h.1.1 (by simp_all) | exact absurd h.1.2 (by assumption) | exact absurd h.2 (by intro e; simp_all))]; rfl)) (prov_cons (rfl) (prov_cons (rfl) (prov_cons (rfl) (prov_cons (rfl) (prov_cons (rfl) (prov_cons (rfl) (prov_cons (rfl) prov_nil)))))))) (⟨by show j + 1 ≤ l.length; omega, rfl, by rw [addN_snoc hx38]; first | (rw [addE_y (by assumption) (by assumption) hnw]; exact hM2) | (rw [addE_n (fun h => by first | exact absurd h.1.1 (by simp_all) | exact absurd h.1.2 (by assumption) | exact absurd h.2 (by intro e; simp_all))]; exact hM), by rw [addN_snoc hx38]; first | (rw [addE_y (by assumption) (by assumption) hnw, List.drop_append_of_le_length (by omega), List.map_append]; exact hQ2) | (rw [addE_n (fun h => by first | exact absurd h.1.1 (by simp_all) | exact absurd h.1.2 (by assumption) | exact absurd h.2 (by intro e; simp_all))]; exact hQ), hS⟩) (by repeat (first | exact List.Sublist.refl _ | apply List.Sublist.cons_cons | apply List.Sublist.cons)) (hle1)
     ·refine XC.skip ?_; refine blockN ?_; refine XC.seq2 ?_; refine XC.region ?_; refine XO.add rfl rfl (wrap_i64 (by omega) (by omega)) rfl ?_; refine XO.move rfl rfl ?_; refine XO.nil ?_; refine loop_next ((j + 1, es, cl, pq, aq, cq, oc)) (by show l.length - (j + 1) < l.length - j; omega) (prov_cons (by rw [addN_snoc hx38]; first | (rw [addE_y (by assumption) (by assumption) hnw, List.drop_append_of_le_length (by omega), List.map_append]; rfl) | (rw [addE_n (fun h => by first | exact absurd h.1.1 (by simp_all) | exact absurd h.1.2 (by assumption) | exact absurd h.2 (by intro e; simp_all))]; rfl)) (prov_cons (rfl) (prov_cons (rfl) (prov_cons (rfl) (prov_cons (rfl) (prov_cons (rfl) (prov_cons (rfl) (prov_cons (rfl) prov_nil)))))))) (⟨by show j + 1 ≤ l.length; omega, rfl, by rw [addN_snoc hx38]; first | (rw [addE_y (by assumption) (by assumption) hnw]; exact hM2) | (rw [addE_n (fun h => by first | exact absurd h.1.1 (by simp_all) | exact absurd h.1.2 (by assumption) | exact absurd h.2 (by intro e; simp_all))]; exact hM), by rw [addN_snoc hx38]; first | (rw [addE_y (by assumption) (by assumption) hnw, List.drop_append_of_le_length (by omega), List.map_append]; exact hQ2) | (rw [addE_n (fun h => by first | exact absurd h.1.1 (by simp_all) | exact absurd h.1.2 (by assumption) | exact absurd h.2 (by intro e; simp_all))]; exact hQ), hS⟩) (by repeat (first | exact List.Sublist.refl _ | apply List.Sublist.cons_cons | apply List.Sublist.cons)) (hle1)
    ·have g7p := g7
     refine XO.guardF rfl rfl (g7) rfl rfl ?_; refine XO.guardF rfl rfl (g7) rfl rfl ?_; refine XO.pickF rfl (g7) rfl rfl ?_; refine XO.nil ?_; refine XC.seq2 ?_; refine XC.condF rfl (rfl) ?_; refine XC.skip ?_; refine blockN ?_; refine XC.seq2 ?_; refine XC.region ?_; refine XO.add rfl rfl (wrap_i64 (by omega) (by omega)) rfl ?_; refine XO.move rfl rfl ?_; refine XO.nil ?_; refine loop_next ((j + 1, es, cl, pq, aq, cq, oc)) (by show l.length - (j + 1) < l.length - j; omega) (prov_cons (by rw [addN_snoc hx38]; first | (rw [addE_y (by assumption) (by assumption) hnw, List.drop_append_of_le_length (by omega), List.map_append]; rfl) | (rw [addE_n (fun h => by first | exact absurd h.1.1 (by simp_all) | exact absurd h.1.2 (by assumption) | exact absurd h.2 (by intro e; simp_all))]; rfl)) (prov_cons (rfl) (prov_cons (rfl) (prov_cons (rfl) (prov_cons (rfl) (prov_cons (rfl) (prov_cons (rfl) (prov_cons (rfl) prov_nil)))))))) (⟨by show j + 1 ≤ l.length; omega, rfl, by rw [addN_snoc hx38]; first | (rw [addE_y (by assumption) (by assumption) hnw]; exact hM2) | (rw [addE_n (fun h => by first | exact absurd h.1.1 (by simp_all) | exact absurd h.1.2 (by assumption) | exact absurd h.2 (by intro e; simp_all))]; exact hM), by rw [addN_snoc hx38]; first | (rw [addE_y (by assumption) (by assumption) hnw, List.drop_append_of_le_length (by omega), List.map_append]; exact hQ2) | (rw [addE_n (fun h => by first | exact absurd h.1.1 (by simp_all) | exact absurd h.1.2 (by assumption) | exact absurd h.2 (by intro e; simp_all))]; exact hQ), hS⟩) (by repeat (first | exact List.Sublist.refl _ | apply List.Sublist.cons_cons | apply List.Sublist.cons)) (hle1)
   ·obtain rfl : j = l.length := by omega
    rw [List.take_length] at hM hQ ⊢
    have hm1 := addN_len z n l m
    have hatj := addN_get (l := l) (z := z) (n := n) hat
    have hKJ := hKD.addN hat l.length (Nat.le_refl _)
    rw [List.take_length] at hKJ
    have hq3 : ((addN l z n m).drop k).map Prod.fst = z :: ((addN l z n m).drop (k + 1)).map Prod.fst := by rw [drop_cons hatj]; rfl
    rw [hq3] at hQ
    refine XC.exit ?_; refine seqX_exit ?_; refine loopX_exit ?_; refine blockHit rfl ?_; refine blockN ?_; refine XC.seq2 ?_; refine XC.region ?_; refine XO.move rfl rfl ?_; refine XO.restQ rfl (by rw [hq3]) rfl hQ Try.underlying25 ty_3 rfl (fun aq3 cq3 hQ3 => ?_); refine XO.assign rfl rfl ?_; refine XO.nil ?_; refine loop_next ((k + 1, addN l z n m, es, cl, pq, aq3, cq3, oc)) (by show (2 * l.length + 2) - (k + 1) < (2 * l.length + 2) - k; omega) (prov_cons (rfl) (prov_cons (rfl) (prov_cons (rfl) (prov_cons (rfl) prov_nil)))) (⟨by show k + 1 ≤ (2 * l.length + 2); omega, rfl, near_step (by omega) hxs hat, hM, hQ3, hKJ, by rw [take_snoc hxk]; exact hS⟩) (by repeat (first | exact List.Sublist.refl _ | apply List.Sublist.cons_cons | apply List.Sublist.cons)) (hle0)
  ·skip
   replace hH := hH.mono hleC; replace hs := hs.mono hleC; replace hpk := hpk.mono hleC; replace hpx := hpx.mono hleC; replace hacc17 := hacc17.mono hleC; replace hS := hS.mono hleC; replace hle0 := hle0.trans hleC; refine XO.notB rfl rfl ?_; refine XO.nil ?_; refine XC.seq2 ?_; refine XC.condT rfl (rfl) ?_; refine XC.ret ?_; refine seqX_ret ?_; refine blockR ?_; refine seqX_ret ?_; refine loopX_ret ?_; refine blockR ?_; refine ⟨rfl, _, oC, rfl, (by repeat (first | exact List.Sublist.refl _ | apply List.Sublist.cons_cons | apply List.Sublist.cons)), RetR.mk ?_⟩
   exact ⟨rfl, [], oC, rfl, Or.inr hK⟩
 ·have hkm : m.length ≤ k := by simp at c0_3; omega
  rw [bfs_end hkm] at hxs
  rw [List.take_of_length_le (by rw [hxs]; exact hkm)] at hS
  refine XC.exit ?_; refine seqX_exit ?_; refine loopX_exit ?_; refine blockHit rfl ?_; refine ⟨rfl, _, oc, rfl, (by repeat (first | exact List.Sublist.refl _ | apply List.Sublist.cons_cons | apply List.Sublist.cons)), RetR.mk ?_⟩
  exact ⟨rfl, [], oc, rfl, Or.inl hS⟩

theorem near_fn (a : Option Addr) (c : Nat) (l : Fs) (H : Hp) (hs : SlR faR H a c l) (hl : l.length ≤ 100000) (x : Int) : FnC Try.prog 58 #[.agg ⟨[.slice a l.length c]⟩, .int .i64 x] H [] (RetR (fun v H2 _ => ∃ bx bk, v = .func (.func 59) #[] #[.pointer (some ⟨bx, 0, none⟩), .pointer (some ⟨bk, 0, none⟩)] ∧ SeqF Try.prog 59 [.pointer (some ⟨bx, 0, none⟩), .pointer (some ⟨bk, 0, none⟩)] H2 [] encN lendN (nearL l x))) := by
 refine FnC.intro (args := [.agg ⟨[.slice a l.length c]⟩, .int .i64 x]) Try.func58 rfl rfl Try.ntmps58 rfl rfl rfl fun G rest => ?_
 refine XC.seq ?_; refine XC.region ?_; refine XO.box rfl rfl rfl (fun b2 => ?_); refine XO.box rfl rfl rfl (fun b3 => ?_); refine XO.assign rfl rfl ?_; refine XO.nil ?_; refine XC.seq2 ?_; refine XC.seq ?_; refine XC.region ?_; refine XO.publish 0 rfl rfl rfl (fun HK3 oK3 hleK3 hbK3 hoK3 => ?_)
 have hpK3 := PtH.of_is hbK3 hoK3
 replace hs := hs.mono hleK3; refine XO.publish 0 rfl rfl rfl (fun HK2 oK2 hleK2 hbK2 hoK2 => ?_)
 have hpK2 := PtH.of_is hbK2 hoK2
 replace hs := hs.mono hleK2; replace hpK3 := hpK3.mono hleK2; refine XO.makeFunc rfl rfl ?_; refine XO.assign rfl rfl ?_; refine XO.nil ?_; refine XC.seq2 ?_; refine XC.ret ?_; refine ⟨rfl, _, [], rfl, (by repeat (first | exact List.Sublist.refl _ | apply List.Sublist.cons)), RetR.mk ?_⟩
 exact ⟨b3, b2, rfl, near_seq b3 b2 a c l x _ hs hl hpK2 hpK3⟩

end Go.Proofs

/- Conflicts: the first shortest chain of relatives, and the program's answer, in plain Lean. -/
set_option autoImplicit false
set_option linter.unusedVariables false
set_option linter.unusedSimpArgs false
namespace Go.Proofs
open Go.XL
def LstU (o : Option (List Int)) (H : Hp) (v : Value) : Prop := ∃ a c, v = .tuple #[.slice a (o.getD []).length c, .bool o.isSome] ∧ SlR (intR .i64) H a c (o.getD [])
theorem LstU.mono {o : Option (List Int)} {H H' : Hp} {v : Value} (h : LstU o H v) (hle : Le H H') : LstU o H' v := let ⟨a, c, h1, h2⟩ := h; ⟨a, c, h1, h2.mono hle⟩
theorem LstU.no {o : Option (List Int)} {H : Hp} (h : o = none) : LstU o H (.tuple #[.slice none 0 0, .bool false]) := by subst h; exact ⟨none, 0, rfl, SlR.nil0 _ _⟩
theorem LstU.yes {o : Option (List Int)} {q : List Int} {H : Hp} {a : Option Addr} {c : Nat} (h : o = some q) (hs : SlR (intR .i64) H a c q) : LstU o H (.tuple #[.slice a q.length c, .bool true]) := by subst h; exact ⟨a, c, rfl, hs⟩
theorem LstU.as {o q : Option (List Int)} {H : Hp} {a : Option Addr} {c : Nat} (h : o = q) (hs : SlR (intR .i64) H a c (q.getD [])) : LstU o H (.tuple #[.slice a (q.getD []).length c, .bool q.isSome]) := by subst h; exact ⟨a, c, rfl, hs⟩
/-- a step towards the nearer one -/
def okG (D : Ds) (r : Nat) (z : Int) (f : Fa) : Prop := (((othr f z).isSome = true ∧ (dget D ((othr f z).getD 0)).isSome = true) ∧ f.K = 3) ∧ (((dget D ((othr f z).getD 0)).getD 0 : Nat) : Int) = ((r : Nat) : Int)
instance (D : Ds) (r : Nat) (z : Int) (f : Fa) : Decidable (okG D r z f) := by unfold okG; infer_instance
def relG (l : Fs) (D : Ds) : Nat → Int → List Int
  | 0, _ => []
  | r + 1, z => match l.find? fun f => decide (okG D r z f) with
    | some f => f.No :: relG l D r ((othr f z).getD 0)
    | none => relG l D r z
section
variable {l : Fs} {D : Ds} {r j : Nat} {z : Int} {f : Fa}
theorem relG_y (h : ∀ g ∈ l.take j, ¬ okG D r z g) (hf : l[j]? = some f) (hk : okG D r z f) : relG l D (r + 1) z = f.No :: relG l D r ((othr f z).getD 0) := by
 have e : l.find? (fun f => decide (okG D r z f)) = some f := by
  have e1 : l = l.take j ++ f :: l.drop (j + 1) := by rw [← drop_cons hf, List.take_append_drop]
  rw [e1, List.find?_append, List.find?_eq_none.2 (fun y hy => by simpa using h y hy), Option.none_or, List.find?_cons_of_pos (by simpa using hk)]
 rw [relG, e]
theorem relG_n (h : ∀ g ∈ l, ¬ okG D r z g) : relG l D (r + 1) z = relG l D r z := by
 rw [relG, List.find?_eq_none.2 (fun y hy => by simpa using h y hy)]
theorem relG_len : ∀ (r : Nat) (z : Int), (relG l D r z).length ≤ r
  | 0, z => by simp [relG]
  | r + 1, z => by
    rw [relG]; split
    · have := relG_len r ((othr ‹Fa› z).getD 0)
      rw [List.length_cons]; omega
    · have := relG_len r z; omega
end
def relP (l : Fs) (x y : Int) : Option (List Int) := if (dget (nearL l y) x).isSome = true then some (relG l (nearL l y) ((dget (nearL l y) x).getD 0) x) else none
theorem dget_mem {m : Ds} {x : Int} {n : Nat} (h : dget m x = some n) : (x, n) ∈ m := by
  unfold dget at h
  cases hf : m.find? fun p => decide (p.1 = x) with
  | none => rw [hf] at h; cases h
  | some p =>
    rw [hf] at h
    have h1 : p.1 = x := by simpa using List.find?_some hf
    have h2 : p.2 = n := by simpa using h
    have := List.mem_of_find?_eq_some hf
    rw [← h1, ← h2]; exact this
theorem relP_len (l : Fs) (x y : Int) : ((relP l x y).getD []).length ≤ 2 * l.length + 1 := by
 unfold relP; split
 ·rename_i h
  obtain ⟨n, hn⟩ := Option.isSome_iff_exists.1 h
  have h1 := relG_len (l := l) (D := nearL l y) ((dget (nearL l y) x).getD 0) x
  have h2 := (near_KD l y).lt _ (dget_mem hn)
  have h3 := (near_KD l y).len
  rw [hn] at h1 ⊢
  simp only [Option.getD_some] at h1 ⊢
  omega
 ·simp
theorem lst_len (l : Fs) (x y : Int) : ((lstO (pathsL l x y)).getD []).length ≤ 2 := by
 cases h : lstO (pathsL l x y) with
 | none => simp
 | some q => exact paths_len (lst_mem h)
def bestP (l : Fs) (x y : Int) : Prop := (relP l x y).isSome = true ∧ ((lstO (pathsL l x y)).isSome = false ∨ ordL ((relP l x y).getD []) ((lstO (pathsL l x y)).getD []) < 0)
instance (l : Fs) (x y : Int) : Decidable (bestP l x y) := by unfold bestP; infer_instance
section
variable {l : Fs} {x y : Int}
theorem best_y1 (h : (relP l x y).isSome = true) (h2 : (!(lstO (pathsL l x y)).isSome) = true) : bestP l x y := ⟨h, .inl (by simpa using h2)⟩
theorem best_y2 (h : (relP l x y).isSome = true) (h2 : ordL ((relP l x y).getD []) ((lstO (pathsL l x y)).getD []) < 0) : bestP l x y := ⟨h, .inr h2⟩
theorem best_n1 (h : (relP l x y).isSome = false) : ¬ bestP l x y := fun h2 => Bool.noConfusion (h.symm.trans h2.1)
theorem best_n2 (h : (!(lstO (pathsL l x y)).isSome) = false) (h2 : ¬ ordL ((relP l x y).getD []) ((lstO (pathsL l x y)).getD []) < 0) : ¬ bestP l x y := fun h3 => h3.2.elim (fun e => by rw [e] at h; exact absurd h (by decide)) h2
end
/-- the program's answer -/
def cnfP (l : Fs) (x y : Int) : Option (List Int) := if x = y then some [] else if bestP l x y then relP l x y else lstO (pathsL l x y)
theorem cnfP_0 {l : Fs} {x y : Int} (h : x = y) : cnfP l x y = some [] := if_pos h
theorem cnfP_1 {l : Fs} {x y : Int} (h : ¬ x = y) (h2 : bestP l x y) : cnfP l x y = some ((relP l x y).getD []) := by unfold cnfP; rw [if_neg h, if_pos h2]; exact getD_some h2.1
theorem cnfP_2 {l : Fs} {x y : Int} (h : ¬ x = y) (h2 : ¬ bestP l x y) : cnfP l x y = lstO (pathsL l x y) := by unfold cnfP; rw [if_neg h, if_neg h2]
def cnfC (l : Fs) (a b day time : Int) : Option (List Int) := if errC l a b day time = 0 then cnfP (cntF l day time) a b else none
end Go.Proofs

/- The walks of the functions of conflicts: what each of them computes, at any input. -/
set_option autoImplicit false
set_option linter.unusedVariables false
set_option linter.unusedSimpArgs false
namespace Go.Proofs
open Go.XL

theorem ty_25 : tyF Try.prog 25 1 false = true := by kernel_rfl
theorem ty_70 : tyF Try.prog 70 1 false = true := by kernel_rfl
theorem ty_80 : tyF Try.prog 80 1 false = true := by kernel_rfl
theorem ze_25 : zeroC Try.prog 25 = some [.slice none 0 0] := by kernel_rfl
theorem ze_80 : zeroC Try.prog 80 = some [.map none] := by kernel_rfl

theorem least_fn (f : FuncId) (cap : List Value) (xs : List (List Int)) (H : Hp) (hseq : SeqF Try.prog f cap H [] encP lendP xs) (hxl : ∀ p ∈ xs, p.length < 9223372036854775808) : FnC Try.prog 43 #[.func (.func f) #[] cap.toArray, .func (.func 45) #[] #[]] H [] (RetR (fun v H2 _ => LstU (lstO xs) H2 v)) := by
 refine FnC.introC (args := [.func (.func f) #[] cap.toArray, .func (.func 45) #[] #[]]) Try.func43 rfl rfl Try.ntmps43 rfl rfl rfl fun G rest => ?_
 refine XC.seq ?_; refine XC.region ?_; refine XO.box rfl rfl rfl (fun b3 => ?_); refine XO.alloc ze_25 rfl (fun b4 => ?_); refine XO.alloc ze_4 rfl (fun b5 => ?_); refine XO.perm (List.Perm.swap _ _ _) ?_; refine XO.nil ?_; refine XC.seq2 ?_; refine XC.seq ?_; refine XC.seq ?_; refine XC.region ?_; refine XO.move rfl rfl ?_; refine XO.nil ?_; refine XC.seq2 ?_; refine XC.block ?_; refine XC.keep [3, 4, 5, 7] rfl ?_; refine XC.rangeFuncF (lend := lendP) rfl (hseq) (fun _ _ => rfl) rfl rfl (fun pre Hl own => ∃ (aw : Option Addr) (cw : Nat), (b4, .cells 25 [.slice aw ((lstO pre).getD []).length cw]) :: (b5, .cells 4 [.bool (lstO pre).isSome]) :: (b3, .cells 70 [.func (.func 45) #[] #[]]) :: rest = own ∧ SlR (intR .i64) Hl aw cw ((lstO pre).getD [])) (fun _ _ _ => False) (fun _ _ _ _ hle ⟨a, c, h1, h2⟩ => ⟨a, c, h1, h2.mono hle⟩) (⟨none, 0, rfl, SlR.nil0 _ _⟩) (.inl rfl) ?_ ?_ ?_
 ·rintro G lp hd1 hd2 hrec pre x post hxs ⟨ax, cx⟩ Hl _ ownL hleL ⟨aw, cw, rfl, hw⟩ ⟨rfl, hx⟩
  have hxx : x.length < 9223372036854775808 := hxl x (by rw [hxs]; simp)
  have hww : ((lstO pre).getD []).length < 9223372036854775808 := by
   cases hO : lstO pre with
   | none => simp
   | some q => exact hxl q (by rw [hxs]; exact List.mem_append_left _ (lst_mem hO))
  refine XC.region ?_; refine XO.assign rfl rfl ?_; refine XO.nil ?_; refine assignN ?_; refine XC.block ?_; refine XC.seq ?_; refine XC.region ?_; refine XO.loadO 1 rfl rfl ty_4 rfl rfl rfl ?_; refine XO.notB rfl rfl ?_; refine XO.move rfl rfl ?_; refine XO.guardC rfl rfl rfl rfl (fun g1 => ?_) (fun g1 => ?_)
  ·have g1p := g1
   refine XO.loadO 2 rfl rfl ty_70 rfl rfl rfl ?_; refine XO.guardT rfl rfl (g1) rfl ?_; refine XO.move rfl rfl ?_; refine XO.guardT rfl rfl (g1) rfl ?_; refine XO.loadO 0 rfl rfl ty_25 rfl rfl rfl ?_; refine XO.guardT rfl rfl (g1) rfl ?_; refine XO.callValK rfl trivial rfl (FnV.of_fn (cap := []) (args := [_, _]) (order_fn _ _ _ _ x ((lstO pre).getD []) _ hx hw hxx hww)) rfl ?_; rintro _ rfl; refine XO.guardT rfl rfl (g1) rfl ?_; refine XO.lss rfl rfl rfl ?_; refine XO.pickF rfl (g1) rfl rfl ?_; refine XO.nil ?_; refine XC.seq2 ?_; refine XC.cond rfl (fun c0_3 => ?_) (fun c0_3 => ?_)
   ·refine XC.region ?_; refine XO.move rfl rfl ?_; refine XO.storeO 0 rfl rfl rfl rfl ty_25 rfl rfl rfl rfl rfl ?_; refine XO.storeO 1 rfl rfl rfl rfl ty_4 rfl rfl rfl rfl rfl ?_; refine XO.nil ?_; refine blockN ?_; refine ⟨rfl, _, (by repeat (first | exact List.Sublist.refl _ | apply List.Sublist.cons)), ?_⟩
    first | exact ⟨_, rfl, ax, cx, by rw [lst_snoc, lst_y (.inl (by simpa using (show (!(lstO pre).isSome) = true by assumption)))] <;> rfl, by rw [lst_snoc, lst_y (.inl (by simpa using (show (!(lstO pre).isSome) = true by assumption)))]; exact hx⟩ | exact ⟨_, rfl, ax, cx, by rw [lst_snoc, lst_y (.inr (by assumption))] <;> rfl, by rw [lst_snoc, lst_y (.inr (by assumption))]; exact hx⟩ | exact ⟨_, rfl, aw, cw, by rw [lst_snoc, lst_n (by simpa using (show (!(lstO pre).isSome) = false by assumption)) (by assumption)] <;> rfl, by rw [lst_snoc, lst_n (by simpa using (show (!(lstO pre).isSome) = false by assumption)) (by assumption)]; exact hw⟩
   ·refine XC.skip ?_; refine blockN ?_; refine ⟨rfl, _, (by repeat (first | exact List.Sublist.refl _ | apply List.Sublist.cons)), ?_⟩
    first | exact ⟨_, rfl, ax, cx, by rw [lst_snoc, lst_y (.inl (by simpa using (show (!(lstO pre).isSome) = true by assumption)))] <;> rfl, by rw [lst_snoc, lst_y (.inl (by simpa using (show (!(lstO pre).isSome) = true by assumption)))]; exact hx⟩ | exact ⟨_, rfl, ax, cx, by rw [lst_snoc, lst_y (.inr (by assumption))] <;> rfl, by rw [lst_snoc, lst_y (.inr (by assumption))]; exact hx⟩ | exact ⟨_, rfl, aw, cw, by rw [lst_snoc, lst_n (by simpa using (show (!(lstO pre).isSome) = false by assumption)) (by assumption)] <;> rfl, by rw [lst_snoc, lst_n (by simpa using (show (!(lstO pre).isSome) = false by assumption)) (by assumption)]; exact hw⟩
  ·have g1p := g1
   refine XO.guardF rfl rfl (g1) rfl rfl ?_; refine XO.guardF rfl rfl (g1) rfl rfl ?_; refine XO.guardF rfl rfl (g1) rfl rfl ?_; refine XO.guardF rfl rfl (g1) rfl rfl ?_; refine XO.pickT rfl (g1) rfl rfl ?_; refine XO.nil ?_; refine XC.seq2 ?_; refine XC.condT rfl (rfl) ?_; refine XC.region ?_; refine XO.move rfl rfl ?_; refine XO.storeO 0 rfl rfl rfl rfl ty_25 rfl rfl rfl rfl rfl ?_; refine XO.storeO 1 rfl rfl rfl rfl ty_4 rfl rfl rfl rfl rfl ?_; refine XO.nil ?_; refine blockN ?_; refine ⟨rfl, _, (by repeat (first | exact List.Sublist.refl _ | apply List.Sublist.cons)), ?_⟩
   first | exact ⟨_, rfl, ax, cx, by rw [lst_snoc, lst_y (.inl (by simpa using (show (!(lstO pre).isSome) = true by assumption)))] <;> rfl, by rw [lst_snoc, lst_y (.inl (by simpa using (show (!(lstO pre).isSome) = true by assumption)))]; exact hx⟩ | exact ⟨_, rfl, ax, cx, by rw [lst_snoc, lst_y (.inr (by assumption))] <;> rfl, by rw [lst_snoc, lst_y (.inr (by assumption))]; exact hx⟩ | exact ⟨_, rfl, aw, cw, by rw [lst_snoc, lst_n (by simpa using (show (!(lstO pre).isSome) = false by assumption)) (by assumption)] <;> rfl, by rw [lst_snoc, lst_n (by simpa using (show (!(lstO pre).isSome) = false by assumption)) (by assumption)]; exact hw⟩
 ·rintro Hl ownL hleL ⟨aw, cw, rfl, hw⟩; refine blockN ?_; refine XC.seq2 ?_; refine XC.seq ?_; refine XC.keep [4, 5] rfl ?_
  apply XC.drawS (fun _ => True) trivial 2 (fun p _ => p = (b4, .cells 25 [.slice aw ((lstO xs).getD []).length cw])) (fun p _ => p = (b4, .cells 25 [.slice aw ((lstO xs).getD []).length cw]) ∧ True) (fun _ _ _ _ h => h) (fun _ _ _ _ h => h) 3 [eqF _, eqF _, anyF] follows (by kernel_rfl) ⟨eqF_mono _, eqF_mono _, anyF_mono, trivial⟩ rfl (rfl) ?steps4 ?tail4
  case steps4 =>
   refine stepsS_cons rfl ?_ ?_
   ·intro X e HD hleD _ hfa
    replace hw := hw.mono hleD; refine withP_nil rfl ?_; replace hfa := hfa (Or.inr rfl)
    subst hfa
    refine XO.loadO 0 rfl rfl ty_25 rfl rfl rfl ?_; refine XO.nil ?_
    exact stepQV_ok trivial (rfl) (by unfold foS; rw [if_neg (by decide)])
   refine stepsS_cons rfl ?_ ?_
   ·intro X e HD hleD _ hfa
    replace hw := hw.mono hleD; refine withP_nil rfl ?_; refine XO.loadO 1 rfl rfl ty_4 rfl rfl rfl ?_; refine XO.nil ?_
    exact stepQV_ok trivial (rfl) (by unfold foS; rw [if_neg (by decide)])
   refine stepsS_cons rfl ?_ ?_
   ·intro X e HD hleD _ hfa
    replace hw := hw.mono hleD; refine withP_cons rfl rfl ?_; rintro _ rfl; refine withP_nil rfl ?_; replace hfa := hfa (Or.inl rfl)
    subst hfa
    refine XO.storeO 0 rfl rfl rfl rfl ty_25 rfl rfl rfl rfl rfl ?_; refine XO.nil ?_
    exact stepQV_ok trivial (trivial) (by unfold foS; rw [if_pos rfl]; exact ⟨rfl, trivial⟩)
   exact stepsS_end rfl
  case tail4 =>
   intro HD hleD _
   replace hw := hw.mono hleD; refine withP_cons rfl rfl ?_; rintro _ rfl; refine withP_cons rfl rfl ?_; rintro _ rfl; refine withP_skip rfl rfl ?_; refine withP_nil rfl ?_
   intro e he
   obtain ⟨rfl, _⟩ := he; refine XO.storeO 1 rfl rfl rfl rfl ty_4 rfl rfl rfl rfl rfl ?_; refine XO.nil ?_; refine XC.seq2 ?_; refine XC.ret ?_; refine ⟨rfl, _, [], (resC_cell 0 rfl rfl ty_25 rfl rfl (resC_cell 1 rfl rfl ty_4 rfl rfl resC_nil)), (by repeat (first | exact List.Sublist.refl _ | apply List.Sublist.cons)), RetR.mk ?_⟩
   exact ⟨aw, cw, rfl, hw⟩
 ·rintro c Hl ownL hleL hK
  exact hK.elim

set_option maxRecDepth 100000 in
set_option maxHeartbeats 1600000 in
theorem relatives_fn (a : Option Addr) (c : Nat) (l : Fs) (H : Hp) (hs : SlR faR H a c l) (hl : l.length ≤ 100000) (x y : Int) : FnC Try.prog 46 #[.agg ⟨[.slice a l.length c]⟩, .int .i64 x, .int .i64 y] H [] (RetR (fun v H2 _ => LstU (relP l x y) H2 v)) := by
 refine FnC.intro (args := [.agg ⟨[.slice a l.length c]⟩, .int .i64 x, .int .i64 y]) Try.func46 rfl rfl Try.ntmps46 rfl rfl rfl fun G rest => ?_
 refine XC.seq ?_; refine XC.region ?_; refine XO.box rfl rfl rfl (fun b3 => ?_); refine XO.assign rfl rfl ?_; refine XO.assign rfl rfl ?_; refine XO.nil ?_; refine XC.seq2 ?_; refine XC.seq ?_; refine XC.region ?_; refine XO.makeMap rfl (fun bm => ?_); refine XO.alloc ze_80 rfl (fun b8 => ?_); refine XO.storeO 0 rfl rfl rfl rfl ty_80 rfl rfl rfl rfl rfl ?_; refine XO.nil ?_; refine XC.seq2 ?_; refine XC.seq ?_; refine XC.seq ?_; refine XC.region ?_; refine XO.loadO 2 rfl rfl ty_51 rfl rfl rfl ?_; refine XO.move rfl rfl ?_; refine XO.callH rfl (near_fn _ _ l _ hs hl y) rfl ?_; rintro _ HN hleN ⟨nx, nk, rfl, hseq⟩; replace hs := hs.mono hleN; refine XO.nil ?_; refine XC.seq2 ?_; refine XC.block ?_; refine XC.keep [1, 3, 6, 8, 22] rfl ?_; refine XC.rangeFuncF (lend := lendN) rfl (hseq) (fun _ _ => rfl) rfl rfl (fun pre Hl own => ∃ (es : Array MapEntry) (cl : Nat), (b8, .cells 80 [.map (some bm)]) :: (bm, .obj (.map es cl)) :: (b3, .cells 51 [.slice a l.length c]) :: rest = own ∧ MapI .i64 es (mV pre)) (fun _ _ _ => False) (fun _ _ _ _ _ h => h) (⟨_, _, rfl, MapI.nil .i64⟩) (.inl rfl) ?_ ?_ ?_
 ·rintro G lp hd1 hd2 hrec pre x post hxs _ Hl _ ownL hleL ⟨es, cl, rfl, hM⟩ rfl; replace hs := hs.mono hleL; refine XC.seq ?_; refine XC.region ?_; refine XO.assign rfl rfl ?_; refine XO.nil ?_; refine XC.seq2 ?_; refine XC.region ?_; refine XO.assign rfl rfl ?_; refine XO.nil ?_; refine assignN ?_; refine XC.block ?_; refine XC.region ?_; refine XO.loadO 0 rfl rfl ty_80 rfl rfl rfl ?_; refine XO.move rfl rfl ?_; refine XO.move rfl rfl ?_; refine XO.mapSet 1 rfl rfl rfl rfl hM Try.underlying80 Try.underlying3 rfl ?_
  intro es2 cl2 hM2
  rw [mset_new (near_new hxs)] at hM2
  refine XO.nil ?_; refine blockN ?_; refine ⟨rfl, _, (by repeat (first | exact List.Sublist.refl _ | apply List.Sublist.cons)), ?_⟩
  exact ⟨_, rfl, es2, cl2, rfl, hM2⟩
 ·rintro Hl ownL hleL ⟨es, cl, rfl, hM⟩; replace hs := hs.mono hleL; refine blockN ?_; refine XC.seq2 ?_; refine XC.seq ?_; refine XC.region ?_; refine XO.loadO 0 rfl rfl ty_80 rfl rfl rfl ?_; refine XO.move rfl rfl ?_; refine XO.mapGet2 1 rfl rfl rfl hM Try.underlying80 Try.underlying3 zv_3 rfl (mget_D _ _) (mget_S _ _) ?_; refine XO.move rfl rfl ?_; refine XO.extract rfl rfl rfl ?_; refine XO.extract rfl rfl rfl ?_; refine XO.assign rfl rfl ?_; refine XO.assign rfl rfl ?_; refine XO.nil ?_; refine XC.seq2 ?_; refine XC.seq ?_; refine XC.seq ?_; refine XC.region ?_; refine XO.move rfl rfl ?_; refine XO.notB rfl rfl ?_; refine XO.nil ?_; refine XC.seq2 ?_; refine XC.condB rfl (fun c0_4 => ?_) (fun c0_4 => ?_)
  ·refine XC.seq ?_; refine XC.region ?_; refine XO.assign rfl rfl ?_; refine XO.assign rfl rfl ?_; refine XO.nil ?_; refine XC.seq2 ?_; refine XC.ret ?_; refine seqX_ret ?_; refine ⟨rfl, _, [], rfl, (by repeat (first | exact List.Sublist.refl _ | apply List.Sublist.cons)), RetR.mk ?_⟩
   exact LstU.no (if_neg (by simp_all))
  ·have hNs := getD_some (d := 0) (show (dget (nearL l y) x).isSome = true by simpa using c0_4)
   have hNl := (near_KD l y).lt _ (dget_mem hNs)
   have hNm := (near_KD l y).len
   generalize hN : (dget (nearL l y) x).getD 0 = N at hNs hNl ⊢
   refine XC.skip ?_; refine XC.seq2 ?_; refine XC.seq ?_; refine XC.seq ?_; refine XC.region ?_; refine XO.move rfl rfl ?_; refine XO.assign rfl rfl ?_; refine XO.nil ?_; refine XC.seq2 ?_; refine XC.block ?_; refine XC.keep [6, 11, 12, 3, 8] rfl ?_; refine XC.open0 0 ?_; refine XC.loop (base := [(3, _), (8, _)]) (fun ζ : Nat × (List Int) × (Int) × ((Nat × SObj) × Option Addr × Nat) => [(6, .slice ζ.2.2.2.2.1 (ζ.2.1).length ζ.2.2.2.2.2), (11, .int .i64 ((N - ζ.1 : Nat) : Int)), (12, .int .i64 ζ.2.2.1)]) (fun ζ Hl own => ζ.1 ≤ N ∧ ζ.2.2.2.1 :: (b8, .cells 80 [.map (some bm)]) :: (bm, .obj (.map es cl)) :: (b3, .cells 51 [.slice a l.length c]) :: rest = own ∧ Acc (intR .i64) 3 Hl ζ.2.2.2.1 ζ.2.2.2.2.1 ζ.2.2.2.2.2 (ζ.2.1) ∧ (relG l (nearL l y) N x = ζ.2.1 ++ relG l (nearL l y) (N - (ζ.1)) ζ.2.2.1) ∧ (ζ.2.1.length ≤ ζ.1)) (fun ζ => N - ζ.1) (0, [], x, ((0, .nothing), none, 0)) (prov_cons (rfl) (prov_cons (rfl) (prov_cons (rfl) (prov_cons (rfl) (prov_cons (rfl) prov_nil))))) (by repeat (first | exact List.Sublist.refl _ | apply List.Sublist.cons_cons | apply List.Sublist.cons)) ⟨Nat.zero_le _, rfl, Acc.nil _ _ _ _, rfl, Nat.le_refl _⟩ ?_; rintro ⟨i, P, z, ⟨pw, aw, cw⟩⟩ Hl1 _ hle1 ⟨hki, rfl, haccw, hP, hPl⟩; replace hs := hs.mono hle1
   try dsimp only at hki haccw hP hPl ⊢
   refine XC.seq ?_; refine XC.seq ?_; refine XC.region ?_; refine XO.move rfl rfl ?_; refine XO.gtr rfl rfl rfl ?_; refine XO.nil ?_; refine XC.seq2 ?_; refine XC.cond rfl (fun c1_5 => ?_) (fun c1_5 => ?_)
   ·obtain ⟨r, hr⟩ : ∃ r, N - i = r + 1 := ⟨N - i - 1, by omega⟩
    rw [hr] at hP
    refine XC.skip ?_; refine XC.seq2 ?_; refine XC.seq ?_; refine XC.block ?_; refine XC.seq ?_; refine XC.region ?_; refine XO.fieldAddr rfl fa_51_0 rfl ?_; refine XO.loadO 3 rfl rfl ty_22 rfl rfl rfl ?_; refine XO.lenS (ts := #[]) rfl Try.underlying22 rfl ?_; refine XO.move rfl rfl ?_; refine XO.nil ?_; refine XC.seq2 ?_; refine XC.block ?_; refine XC.keep [6, 12, 44, 3, 8, 11, 42, 43] rfl ?_; refine XC.loop (base := [(3, _), (8, _), (11, _), (42, _), (43, _)]) (fun ζ : Nat => [(6, .slice aw P.length cw), (12, .int .i64 z), (44, .int .i64 (ζ : Nat))]) (fun ζ Hl own => ζ ≤ l.length ∧ pw :: (b8, .cells 80 [.map (some bm)]) :: (bm, .obj (.map es cl)) :: (b3, .cells 51 [.slice a l.length c]) :: rest = own ∧ (∀ f ∈ l.take (ζ), ¬ okG (nearL l y) r z f)) (fun ζ => l.length - ζ) 0 (prov_cons (rfl) (prov_cons (rfl) (prov_cons (rfl) (prov_cons (rfl) (prov_cons (rfl) (prov_cons (rfl) (prov_cons (rfl) (prov_cons (rfl) prov_nil)))))))) (by repeat (first | exact List.Sublist.refl _ | apply List.Sublist.cons_cons | apply List.Sublist.cons)) ⟨Nat.zero_le _, rfl, by simp⟩ ?_; rintro j Hl2 _ hle2 ⟨hkj, rfl, hno⟩; replace hs := hs.mono hle2; replace haccw := haccw.mono hle2; replace hle1 := hle1.trans hle2
    try dsimp only at ⊢
    refine XC.seq ?_; refine XC.region ?_; refine XO.lss rfl rfl rfl ?_; refine XO.nil ?_; refine XC.seq2 ?_; refine XC.seq ?_; refine XC.cond rfl (fun c2_6 => ?_) (fun c2_6 => ?_)
    ·refine XC.skip ?_; refine XC.seq2 ?_; refine XC.seq ?_; refine XC.block ?_; refine XC.seq ?_; refine XC.region ?_; refine XO.indexN rfl hs rfl Try.underlying22 ty_41 (by omega) rfl ?_; rintro eb46 eo46 _ x46 hx46 rfl hp46; refine XO.loadH rfl (by assumption) ty_41 rfl rfl rfl ?_; refine XO.alloc ze_41 rfl (fun b14 => ?_); refine XO.storeO 0 rfl rfl rfl rfl ty_41 rfl rfl rfl rfl rfl ?_; refine XO.nil ?_; refine XC.seq2 ?_; refine XC.seq ?_; refine XC.region ?_; refine XO.loadO 0 rfl rfl ty_41 rfl rfl rfl ?_; refine XO.move rfl rfl ?_; refine XO.callV rfl (other_fn x46 z _) rfl ?_; refine XO.move rfl rfl ?_; refine XO.extract rfl rfl rfl ?_; refine XO.extract rfl rfl rfl ?_; refine XO.assign rfl rfl ?_; refine XO.assign rfl rfl ?_; refine XO.nil ?_; refine XC.seq2 ?_; refine XC.seq ?_; refine XC.region ?_; refine XO.loadO 2 rfl rfl ty_80 rfl rfl rfl ?_; refine XO.move rfl rfl ?_; refine XO.mapGet2 3 rfl rfl rfl hM Try.underlying80 Try.underlying3 zv_3 rfl (mget_D _ _) (mget_S _ _) ?_; refine XO.move rfl rfl ?_; refine XO.extract rfl rfl rfl ?_; refine XO.extract rfl rfl rfl ?_; refine XO.assign rfl rfl ?_; refine XO.assign rfl rfl ?_; refine XO.nil ?_; refine XC.seq2 ?_; refine XC.seq ?_; refine XC.region ?_; refine XO.move rfl rfl ?_; refine XO.move rfl rfl ?_; refine XO.guardC rfl rfl rfl rfl (fun g9 => ?_) (fun g9 => ?_)
     ·have g9p := g9
      refine XO.move rfl rfl ?_; refine XO.pickT rfl (g9) rfl rfl ?_; refine XO.move rfl rfl ?_; refine XO.guardC rfl rfl rfl rfl (fun g10 => ?_) (fun g10 => ?_)
      ·have g10p := g10
       refine XO.fieldAddr rfl fa_41_1 rfl ?_; refine XO.guardT rfl rfl (g10) rfl ?_; refine XO.loadO 0 rfl rfl ty_3 rfl rfl rfl ?_; refine XO.guardT rfl rfl (g10) rfl ?_; refine XO.eql rfl rfl rfl ?_; refine XO.pickT rfl (g10) rfl rfl ?_; refine XO.move rfl rfl ?_; refine XO.guardC rfl rfl rfl rfl (fun g11 => ?_) (fun g11 => ?_)
       ·have g11p := of_decide_eq_true g11
        refine XO.move rfl rfl ?_; refine XO.guardT rfl rfl (g11) rfl ?_; refine XO.move rfl rfl ?_; refine XO.guardT rfl rfl (g11) rfl ?_; refine XO.sub (c := ((r : Nat) : Int)) rfl rfl ((wrap_i64 (by omega) (by omega)).trans (by omega)) rfl ?_; refine XO.guardT rfl rfl (g11) rfl ?_; refine XO.eql rfl rfl rfl ?_; refine XO.pickT rfl (g11) rfl rfl ?_; refine XO.nil ?_; refine XC.seq2 ?_; refine XC.cond rfl (fun c3_13 => ?_) (fun c3_13 => ?_)
        ·refine XC.seq ?_; refine XC.region ?_; refine XO.move rfl rfl ?_; refine XO.fieldAddr rfl fa_41_0 rfl ?_; refine XO.loadO 0 rfl rfl ty_3 rfl rfl rfl ?_; refine XO.buildSlice rfl Try.underlying25 ty_3 ze_3 rfl rfl rfl (fun b78 => ?_); refine XO.publish 0 rfl rfl rfl (fun HP78 oP78 hleP78 hbP78 hoP78 => ?_)
         have hsl78 := SlR.lit (ρ := (intR .i64)) (l := [x46.No]) hbP78 hoP78 (RowsR.one1 rfl)
         replace hs := hs.mono hleP78; replace haccw := haccw.mono hleP78; replace hp46 := hp46.mono hleP78; replace hle1 := hle1.trans hleP78; replace hle2 := hle2.trans hleP78; refine XO.appendA 1 rfl rfl haccw rfl rfl hsl78 rfl Try.underlying25 ty_3 ze_3 rfl by_3 (by simp; omega) rfl (fun p79 a79 c79 hacc79 => ?_); refine XO.move rfl rfl ?_; refine XO.assign rfl rfl ?_; refine XO.assign rfl rfl ?_; refine XO.nil ?_; refine XC.seq2 ?_; refine XC.exit ?_; refine blockMiss rfl ?_; refine seqX_exit ?_; refine loopX_exit ?_; refine blockHit rfl ?_; refine blockN ?_; refine XC.seq2 ?_; refine XC.region ?_; refine XO.move rfl rfl ?_; refine XO.sub (c := ((N - (i + 1) : Nat) : Int)) rfl rfl ((wrap_i64 (by omega) (by omega)).trans (by omega)) rfl ?_; refine XO.assign rfl rfl ?_; refine XO.nil ?_; refine loop_next ((i + 1, P ++ [x46.No], ((othr x46 z).getD 0), (p79, a79, c79))) (by show N - (i + 1) < N - i; omega) (prov_cons (by first | rfl) (prov_cons (rfl) (prov_cons (rfl) (prov_cons (rfl) (prov_cons (rfl) prov_nil))))) (⟨by show i + 1 ≤ N; omega, rfl, by first | (exact hacc79), by rw [show N - (i + 1) = r by omega, hP]; first | (rw [relG_y hno hx46 ⟨⟨⟨by assumption, by assumption⟩, by assumption⟩, by assumption⟩]; simp) | (rw [relG_n hno]), by simp; omega⟩) (by repeat (first | exact List.Sublist.refl _ | apply List.Sublist.cons_cons | apply List.Sublist.cons)) (hle1)
        ·refine XC.skip ?_; refine blockN ?_; refine XC.seq2 ?_; refine XC.region ?_; refine XO.add rfl rfl (wrap_i64 (by omega) (by omega)) rfl ?_; refine XO.move rfl rfl ?_; refine XO.nil ?_; refine loop_next (j + 1) (by show l.length - (j + 1) < l.length - j; omega) (prov_cons (rfl) (prov_cons (rfl) (prov_cons (rfl) (prov_cons (rfl) (prov_cons (rfl) (prov_cons (rfl) (prov_cons (rfl) (prov_cons (rfl) prov_nil)))))))) (⟨by show j + 1 ≤ l.length; omega, rfl, all_snocP (p := fun f => ¬ okG (nearL l y) r z f) hno hx46 (fun h => by first | exact absurd h.2 (by assumption) | exact absurd h.1.2 (by assumption) | exact Bool.noConfusion (h.1.1.2.symm.trans (by assumption)) | exact Bool.noConfusion (h.1.1.1.symm.trans (by assumption)))⟩) (by repeat (first | exact List.Sublist.refl _ | apply List.Sublist.cons_cons | apply List.Sublist.cons)) (hle2)
       ·have g11p := of_decide_eq_false g11
        refine XO.guardF rfl rfl (g11) rfl rfl ?_; refine XO.guardF rfl rfl (g11) rfl rfl ?_; refine XO.guardF rfl rfl (g11) rfl rfl ?_; refine XO.pickF rfl (g11) rfl rfl ?_; refine XO.nil ?_; refine XC.seq2 ?_; refine XC.condF rfl (rfl) ?_; refine XC.skip ?_; refine blockN ?_; refine XC.seq2 ?_; refine XC.region ?_; refine XO.add rfl rfl (wrap_i64 (by omega) (by omega)) rfl ?_; refine XO.move rfl rfl ?_; refine XO.nil ?_; refine loop_next (j + 1) (by show l.length - (j + 1) < l.length - j; omega) (prov_cons (rfl) (prov_cons (rfl) (prov_cons (rfl) (prov_cons (rfl) (prov_cons (rfl) (prov_cons (rfl) (prov_cons (rfl) (prov_cons (rfl) prov_nil)))))))) (⟨by show j + 1 ≤ l.length; omega, rfl, all_snocP (p := fun f => ¬ okG (nearL l y) r z f) hno hx46 (fun h => by first | exact absurd h.2 (by assumption) | exact absurd h.1.2 (by assumption) | exact Bool.noConfusion (h.1.1.2.symm.trans (by assumption)) | exact Bool.noConfusion (h.1.1.1.symm.trans (by assumption)))⟩) (by repeat (first | exact List.Sublist.refl _ | apply List.Sublist.cons_cons | apply List.Sublist.cons)) (hle2)
      ·have g10p := g10
       refine XO.guardF rfl rfl (g10) rfl rfl ?_; refine XO.guardF rfl rfl (g10) rfl rfl ?_; refine XO.pickF rfl (g10) rfl rfl ?_; refine XO.move rfl rfl ?_; refine XO.guardF rfl rfl (rfl) rfl rfl ?_; refine XO.guardF rfl rfl (rfl) rfl rfl ?_; refine XO.guardF rfl rfl (rfl) rfl rfl ?_; refine XO.guardF rfl rfl (rfl) rfl rfl ?_; refine XO.pickF rfl (rfl) rfl rfl ?_; refine XO.nil ?_; refine XC.seq2 ?_; refine XC.condF rfl (rfl) ?_; refine XC.skip ?_; refine blockN ?_; refine XC.seq2 ?_; refine XC.region ?_; refine XO.add rfl rfl (wrap_i64 (by omega) (by omega)) rfl ?_; refine XO.move rfl rfl ?_; refine XO.nil ?_; refine loop_next (j + 1) (by show l.length - (j + 1) < l.length - j; omega) (prov_cons (rfl) (prov_cons (rfl) (prov_cons (rfl) (prov_cons (rfl) (prov_cons (rfl) (prov_cons (rfl) (prov_cons (rfl) (prov_cons (rfl) prov_nil)))))))) (⟨by show j + 1 ≤ l.length; omega, rfl, all_snocP (p := fun f => ¬ okG (nearL l y) r z f) hno hx46 (fun h => by first | exact absurd h.2 (by assumption) | exact absurd h.1.2 (by assumption) | exact Bool.noConfusion (h.1.1.2.symm.trans (by assumption)) | exact Bool.noConfusion (h.1.1.1.symm.trans (by assumption)))⟩) (by repeat (first | exact List.Sublist.refl _ | apply List.Sublist.cons_cons | apply List.Sublist.cons)) (hle2)
     ·have g9p := g9
      refine XO.pickF rfl (g9) rfl rfl ?_; refine XO.move rfl rfl ?_; refine XO.guardF rfl rfl (rfl) rfl rfl ?_; refine XO.guardF rfl rfl (rfl) rfl rfl ?_; refine XO.guardF rfl rfl (rfl) rfl rfl ?_; refine XO.pickF rfl (rfl) rfl rfl ?_; refine XO.move rfl rfl ?_; refine XO.guardF rfl rfl (rfl) rfl rfl ?_; refine XO.guardF rfl rfl (rfl) rfl rfl ?_; refine XO.guardF rfl rfl (rfl) rfl rfl ?_; refine XO.guardF rfl rfl (rfl) rfl rfl ?_; refine XO.pickF rfl (rfl) rfl rfl ?_; refine XO.nil ?_; refine XC.seq2 ?_; refine XC.condF rfl (rfl) ?_; refine XC.skip ?_; refine blockN ?_; refine XC.seq2 ?_; refine XC.region ?_; refine XO.add rfl rfl (wrap_i64 (by omega) (by omega)) rfl ?_; refine XO.move rfl rfl ?_; refine XO.nil ?_; refine loop_next (j + 1) (by show l.length - (j + 1) < l.length - j; omega) (prov_cons (rfl) (prov_cons (rfl) (prov_cons (rfl) (prov_cons (rfl) (prov_cons (rfl) (prov_cons (rfl) (prov_cons (rfl) (prov_cons (rfl) prov_nil)))))))) (⟨by show j + 1 ≤ l.length; omega, rfl, all_snocP (p := fun f => ¬ okG (nearL l y) r z f) hno hx46 (fun h => by first | exact absurd h.2 (by assumption) | exact absurd h.1.2 (by assumption) | exact Bool.noConfusion (h.1.1.2.symm.trans (by assumption)) | exact Bool.noConfusion (h.1.1.1.symm.trans (by assumption)))⟩) (by repeat (first | exact List.Sublist.refl _ | apply List.Sublist.cons_cons | apply List.Sublist.cons)) (hle2)
    ·obtain rfl : j = l.length := by omega
     rw [List.take_length] at hno
     refine XC.exit ?_; refine seqX_exit ?_; refine loopX_exit ?_; refine blockHit rfl ?_; refine blockN ?_; refine XC.seq2 ?_; refine XC.region ?_; refine XO.move rfl rfl ?_; refine XO.sub (c := ((N - (i + 1) : Nat) : Int)) rfl rfl ((wrap_i64 (by omega) (by omega)).trans (by omega)) rfl ?_; refine XO.assign rfl rfl ?_; refine XO.nil ?_; refine loop_next ((i + 1, P, z, (pw, aw, cw))) (by show N - (i + 1) < N - i; omega) (prov_cons (by first | rfl) (prov_cons (rfl) (prov_cons (rfl) (prov_cons (rfl) (prov_cons (rfl) prov_nil))))) (⟨by show i + 1 ≤ N; omega, rfl, by first | (exact haccw), by rw [show N - (i + 1) = r by omega, hP]; first | (rw [relG_y hno hx46 ⟨⟨⟨by assumption, by assumption⟩, by assumption⟩, by assumption⟩]; simp) | (rw [relG_n hno]), by simp; omega⟩) (by repeat (first | exact List.Sublist.refl _ | apply List.Sublist.cons_cons | apply List.Sublist.cons)) (hle1)
   ·have hi0 : N - i = 0 := by omega
    rw [hi0, relG, List.append_nil] at hP
    refine XC.exit ?_; refine seqX_exit ?_; refine loopX_exit ?_; refine blockHit rfl ?_; refine XC.seq2 ?_; refine XC.seq ?_; refine XC.region ?_; refine XO.move rfl rfl ?_; refine XO.assign rfl rfl ?_; refine XO.assign rfl rfl ?_; refine XO.nil ?_; refine XC.seq2 ?_; refine XC.publishA 0 rfl haccw rfl (fun HQ17 hleQ17 hsQ17 => ?_); replace hs := hs.mono hleQ17; replace hle1 := hle1.trans hleQ17; refine XC.ret ?_; refine ⟨rfl, _, [], rfl, (by repeat (first | exact List.Sublist.refl _ | apply List.Sublist.cons)), RetR.mk ?_⟩
    exact LstU.yes (by rw [relP, if_pos (by rw [hNs]; rfl), hN, hP]) (by assumption)
 ·rintro c Hl ownL hleL hK
  exact hK.elim

theorem conflict_fn (a : Option Addr) (c : Nat) (l : Fs) (H : Hp) (hs : SlR faR H a c l) (hl : l.length ≤ 100000) (x y : Int) : FnC Try.prog 27 #[.agg ⟨[.slice a l.length c]⟩, .int .i64 x, .int .i64 y] H [] (RetR (fun v H2 _ => LstU (cnfP l x y) H2 v)) := by
 refine FnC.intro (args := [.agg ⟨[.slice a l.length c]⟩, .int .i64 x, .int .i64 y]) Try.func27 rfl rfl Try.ntmps27 rfl rfl rfl fun G rest => ?_
 refine XC.seq ?_; refine XC.region ?_; refine XO.box rfl rfl rfl (fun b3 => ?_); refine XO.assign rfl rfl ?_; refine XO.assign rfl rfl ?_; refine XO.nil ?_; refine XC.seq2 ?_; refine XC.seq ?_; refine XC.seq ?_; refine XC.region ?_; refine XO.move rfl rfl ?_; refine XO.move rfl rfl ?_; refine XO.eql rfl rfl rfl ?_; refine XO.nil ?_; refine XC.seq2 ?_; refine XC.cond rfl (fun c0_1 => ?_) (fun c0_1 => ?_)
 ·refine XC.seq ?_; refine XC.region ?_; refine XO.assign rfl rfl ?_; refine XO.assign rfl rfl ?_; refine XO.nil ?_; refine XC.seq2 ?_; refine XC.ret ?_; refine seqX_ret ?_; refine ⟨rfl, _, [], rfl, (by repeat (first | exact List.Sublist.refl _ | apply List.Sublist.cons)), RetR.mk ?_⟩
  first | exact LstU.yes (cnfP_0 (by assumption)) (SlR.nil0 _ _) | exact LstU.yes (cnfP_1 (by assumption) (best_y1 (by assumption) (by assumption))) hR | exact LstU.yes (cnfP_1 (by assumption) (best_y2 (by assumption) (by assumption))) hR | exact LstU.as (cnfP_2 (by assumption) (best_n1 (by assumption))) hL | exact LstU.as (cnfP_2 (by assumption) (best_n2 (by assumption) (by assumption))) hL
 ·refine XC.skip ?_; refine XC.seq2 ?_; refine XC.seq ?_; refine XC.region ?_; refine XO.loadO 0 rfl rfl ty_51 rfl rfl rfl ?_; refine XO.move rfl rfl ?_; refine XO.move rfl rfl ?_; refine XO.callH rfl (paths_fn _ _ l _ hs (by omega) x y) rfl ?_; rintro _ HN hleN ⟨qk, qx, qy, rfl, hseq⟩; replace hs := hs.mono hleN; refine XO.callH rfl (least_fn 55 [.pointer (some ⟨qk, 0, none⟩), .pointer (some ⟨qx, 0, none⟩), .pointer (some ⟨qy, 0, none⟩)] (pathsL l x y) _ hseq (fun p hp => by have := paths_len hp; omega)) rfl ?_; rintro _ HL hleL ⟨aL, cL, rfl, hL⟩; replace hs := hs.mono hleL; refine XO.move rfl rfl ?_; refine XO.extract rfl rfl rfl ?_; refine XO.extract rfl rfl rfl ?_; refine XO.assign rfl rfl ?_; refine XO.assign rfl rfl ?_; refine XO.nil ?_; refine XC.seq2 ?_; refine XC.seq ?_; refine XC.seq ?_; refine XC.region ?_; refine XO.loadO 0 rfl rfl ty_51 rfl rfl rfl ?_; refine XO.move rfl rfl ?_; refine XO.move rfl rfl ?_; refine XO.callH rfl (relatives_fn _ _ l _ hs hl x y) rfl ?_; rintro _ HR hleR ⟨aR, cR, rfl, hR⟩; replace hs := hs.mono hleR; replace hL := hL.mono hleR; refine XO.move rfl rfl ?_; refine XO.extract rfl rfl rfl ?_; refine XO.extract rfl rfl rfl ?_; refine XO.assign rfl rfl ?_; refine XO.assign rfl rfl ?_; refine XO.nil ?_; refine XC.seq2 ?_; refine XC.seq ?_; refine XC.region ?_; refine XO.move rfl rfl ?_; refine XO.move rfl rfl ?_; refine XO.guardC rfl rfl rfl rfl (fun g5 => ?_) (fun g5 => ?_)
  ·have g5p := g5
   refine XO.move rfl rfl ?_; refine XO.guardT rfl rfl (g5) rfl ?_; refine XO.notB rfl rfl ?_; refine XO.guardT rfl rfl (g5) rfl ?_; refine XO.move rfl rfl ?_; refine XO.guardC rfl rfl rfl rfl (fun g6 => ?_) (fun g6 => ?_)
   ·have g6p := g6
    refine XO.move rfl rfl ?_; refine XO.guardT rfl rfl (g6) rfl ?_; refine XO.move rfl rfl ?_; refine XO.guardT rfl rfl (g6) rfl ?_; refine XO.callV rfl (order_fn _ _ _ _ ((relP l x y).getD []) ((lstO (pathsL l x y)).getD []) _ hR hL (by have := relP_len l x y; omega) (by have := lst_len l x y; omega)) rfl ?_; refine XO.guardT rfl rfl (g6) rfl ?_; refine XO.lss rfl rfl rfl ?_; refine XO.guardT rfl rfl (g5) rfl ?_; refine XO.pickF rfl (g6) rfl rfl ?_; refine XO.pickT rfl (g5) rfl rfl ?_; refine XO.nil ?_; refine XC.seq2 ?_; refine XC.cond rfl (fun c1_8 => ?_) (fun c1_8 => ?_)
    ·refine XC.seq ?_; refine XC.region ?_; refine XO.move rfl rfl ?_; refine XO.assign rfl rfl ?_; refine XO.assign rfl rfl ?_; refine XO.nil ?_; refine XC.seq2 ?_; refine XC.ret ?_; refine seqX_ret ?_; refine ⟨rfl, _, [], rfl, (by repeat (first | exact List.Sublist.refl _ | apply List.Sublist.cons)), RetR.mk ?_⟩
     first | exact LstU.yes (cnfP_0 (by assumption)) (SlR.nil0 _ _) | exact LstU.yes (cnfP_1 (by assumption) (best_y1 (by assumption) (by assumption))) hR | exact LstU.yes (cnfP_1 (by assumption) (best_y2 (by assumption) (by assumption))) hR | exact LstU.as (cnfP_2 (by assumption) (best_n1 (by assumption))) hL | exact LstU.as (cnfP_2 (by assumption) (best_n2 (by assumption) (by assumption))) hL
    ·refine XC.skip ?_; refine XC.seq2 ?_; refine XC.seq ?_; refine XC.region ?_; refine XO.move rfl rfl ?_; refine XO.move rfl rfl ?_; refine XO.assign rfl rfl ?_; refine XO.assign rfl rfl ?_; refine XO.nil ?_; refine XC.seq2 ?_; refine XC.ret ?_; refine ⟨rfl, _, [], rfl, (by repeat (first | exact List.Sublist.refl _ | apply List.Sublist.cons)), RetR.mk ?_⟩
     first | exact LstU.yes (cnfP_0 (by assumption)) (SlR.nil0 _ _) | exact LstU.yes (cnfP_1 (by assumption) (best_y1 (by assumption) (by assumption))) hR | exact LstU.yes (cnfP_1 (by assumption) (best_y2 (by assumption) (by assumption))) hR | exact LstU.as (cnfP_2 (by assumption) (best_n1 (by assumption))) hL | exact LstU.as (cnfP_2 (by assumption) (best_n2 (by assumption) (by assumption))) hL
   ·have g6p := g6
    refine XO.guardF rfl rfl (g6) rfl rfl ?_; refine XO.guardF rfl rfl (g6) rfl rfl ?_; refine XO.guardF rfl rfl (g6) rfl rfl ?_; refine XO.guardT rfl rfl (g5) rfl ?_; refine XO.pickT rfl (g6) rfl rfl ?_; refine XO.pickT rfl (g5) rfl rfl ?_; refine XO.nil ?_; refine XC.seq2 ?_; refine XC.condT rfl (rfl) ?_; refine XC.seq ?_; refine XC.region ?_; refine XO.move rfl rfl ?_; refine XO.assign rfl rfl ?_; refine XO.assign rfl rfl ?_; refine XO.nil ?_; refine XC.seq2 ?_; refine XC.ret ?_; refine seqX_ret ?_; refine ⟨rfl, _, [], rfl, (by repeat (first | exact List.Sublist.refl _ | apply List.Sublist.cons)), RetR.mk ?_⟩
    first | exact LstU.yes (cnfP_0 (by assumption)) (SlR.nil0 _ _) | exact LstU.yes (cnfP_1 (by assumption) (best_y1 (by assumption) (by assumption))) hR | exact LstU.yes (cnfP_1 (by assumption) (best_y2 (by assumption) (by assumption))) hR | exact LstU.as (cnfP_2 (by assumption) (best_n1 (by assumption))) hL | exact LstU.as (cnfP_2 (by assumption) (best_n2 (by assumption) (by assumption))) hL
  ·have g5p := g5
   refine XO.guardF rfl rfl (g5) rfl rfl ?_; refine XO.guardF rfl rfl (g5) rfl rfl ?_; refine XO.guardU rfl rfl rfl rfl ?_; refine XO.guardU rfl rfl rfl rfl ?_; refine XO.guardU rfl rfl rfl rfl ?_; refine XO.guardU rfl rfl rfl rfl ?_; refine XO.guardF rfl rfl (g5) rfl rfl ?_; refine XO.pickF rfl (g5) rfl rfl ?_; refine XO.nil ?_; refine XC.seq2 ?_; refine XC.condF rfl (rfl) ?_; refine XC.skip ?_; refine XC.seq2 ?_; refine XC.seq ?_; refine XC.region ?_; refine XO.move rfl rfl ?_; refine XO.move rfl rfl ?_; refine XO.assign rfl rfl ?_; refine XO.assign rfl rfl ?_; refine XO.nil ?_; refine XC.seq2 ?_; refine XC.ret ?_; refine ⟨rfl, _, [], rfl, (by repeat (first | exact List.Sublist.refl _ | apply List.Sublist.cons)), RetR.mk ?_⟩
   first | exact LstU.yes (cnfP_0 (by assumption)) (SlR.nil0 _ _) | exact LstU.yes (cnfP_1 (by assumption) (best_y1 (by assumption) (by assumption))) hR | exact LstU.yes (cnfP_1 (by assumption) (best_y2 (by assumption) (by assumption))) hR | exact LstU.as (cnfP_2 (by assumption) (best_n1 (by assumption))) hL | exact LstU.as (cnfP_2 (by assumption) (best_n2 (by assumption) (by assumption))) hL

theorem conf_fn (a : Option Addr) (c : Nat) (l : Fs) (H : Hp) (hs : SlR faR H a c l) (hl : l.length < 9223372036854775808) (x y day time : Int) : FnC Try.prog 12 #[.slice a l.length c, .int .i64 x, .int .i64 y, .int .i64 day, .int .i64 time] H [] (RetR (fun v H2 _ => CnfU (cnfC l x y day time) (errC l x y day time) H2 v)) := by
 refine FnC.intro (args := [.slice a l.length c, .int .i64 x, .int .i64 y, .int .i64 day, .int .i64 time]) Try.func12 rfl rfl Try.ntmps12 rfl rfl rfl fun G rest => ?_
 refine XC.seq ?_; refine XC.region ?_; refine XO.assign rfl rfl ?_; refine XO.assign rfl rfl ?_; refine XO.assign rfl rfl ?_; refine XO.nil ?_; refine XC.seq2 ?_; refine XC.seq ?_; refine XC.seq ?_; refine XC.region ?_; refine XO.move rfl rfl ?_; refine XO.move rfl rfl ?_; refine XO.move rfl rfl ?_; refine XO.move rfl rfl ?_; refine XO.move rfl rfl ?_; refine XO.callV rfl (err_fn _ _ l _ hs hl x y day time) rfl ?_; refine XO.assign rfl rfl ?_; refine XO.nil ?_; refine XC.seq2 ?_; refine XC.seq ?_; refine XC.region ?_; refine XO.move rfl rfl ?_; refine XO.neq rfl rfl rfl ?_; refine XO.nil ?_; refine XC.seq2 ?_; refine XC.cond rfl (fun c0_2 => ?_) (fun c0_2 => ?_)
 ·refine XC.seq ?_; refine XC.region ?_; refine XO.move rfl rfl ?_; refine XO.assign rfl rfl ?_; refine XO.assign rfl rfl ?_; refine XO.assign rfl rfl ?_; refine XO.nil ?_; refine XC.seq2 ?_; refine XC.ret ?_; refine seqX_ret ?_; refine ⟨rfl, _, [], rfl, (by repeat (first | exact List.Sublist.refl _ | apply List.Sublist.cons)), RetR.mk ?_⟩
  first | exact CnfU.no (if_neg (by assumption)) rfl | exact ⟨aR, cR, by rw [show cnfC l x y day time = cnfP (cntF l day time) x y from if_pos hE, hE]; rfl, by rw [show cnfC l x y day time = cnfP (cntF l day time) x y from if_pos hE]; exact hR⟩
 ·have hE : errC l x y day time = 0 := by omega
  have hlx := (chkF_0 (errC_0 hE).1).1
  have hcx := cntF_len l day time
  refine XC.skip ?_; refine XC.seq2 ?_; refine XC.seq ?_; refine XC.region ?_; refine XO.move rfl rfl ?_; refine XO.move rfl rfl ?_; refine XO.move rfl rfl ?_; refine XO.callH rfl (counting_fn _ _ l _ hs hl (by omega) day time) rfl ?_; rintro _ HC hleC ⟨aC, cC, rfl, hC⟩; replace hs := hs.mono hleC; refine XO.move rfl rfl ?_; refine XO.move rfl rfl ?_; refine XO.callH rfl (conflict_fn _ _ (cntF l day time) _ hC (by omega) x y) rfl ?_; rintro _ HR hleR ⟨aR, cR, rfl, hR⟩; replace hs := hs.mono hleR; replace hC := hC.mono hleR; refine XO.move rfl rfl ?_; refine XO.extract rfl rfl rfl ?_; refine XO.extract rfl rfl rfl ?_; refine XO.assign rfl rfl ?_; refine XO.assign rfl rfl ?_; refine XO.nil ?_; refine XC.seq2 ?_; refine XC.seq ?_; refine XC.region ?_; refine XO.move rfl rfl ?_; refine XO.move rfl rfl ?_; refine XO.assign rfl rfl ?_; refine XO.assign rfl rfl ?_; refine XO.assign rfl rfl ?_; refine XO.nil ?_; refine XC.seq2 ?_; refine XC.ret ?_; refine ⟨rfl, _, [], rfl, (by repeat (first | exact List.Sublist.refl _ | apply List.Sublist.cons)), RetR.mk ?_⟩
  first | exact CnfU.no (if_neg (by assumption)) rfl | exact ⟨aR, cR, by rw [show cnfC l x y day time = cnfP (cntF l day time) x y from if_pos hE, hE]; rfl, by rw [show cnfC l x y day time = cnfP (cntF l day time) x y from if_pos hE]; exact hR⟩

end Go.Proofs

/- Conflicts: the search by halves, what proves, and the table, in plain Lean. -/
set_option autoImplicit false
set_option linter.unusedVariables false
set_option linter.unusedSimpArgs false
namespace Go.Proofs
open Go.XL
def riseP (l : Fs) : Prop := l.Pairwise fun f g => f.No < g.No
theorem ok_rise : ∀ {l : Fs} {last : Int}, okB last l = true → riseP l ∧ ∀ f ∈ l, last < f.No ∧ validP f
  | [], _, _ => ⟨List.Pairwise.nil, fun f h => by cases h⟩
  | f :: t, last, h => by
    rw [okB] at h
    simp only [Bool.and_eq_true, decide_eq_true_eq] at h
    obtain ⟨⟨h1, h2⟩, h3⟩ := h
    obtain ⟨h4, h5⟩ := ok_rise h3
    refine ⟨List.pairwise_cons.2 ⟨fun g hg => (h5 g hg).1, h4⟩, fun g hg => ?_⟩
    rcases List.mem_cons.1 hg with rfl | hg
    · exact ⟨h2, h1⟩
    · have := h5 g hg; exact ⟨by have := this.1; omega, this.2⟩
theorem riseP.cnt {l : Fs} (h : riseP l) (day time : Int) : riseP (cntF l day time) := List.Pairwise.filter _ h
theorem riseP.get {l : Fs} (h : riseP l) {i j : Nat} {f g : Fa} (hij : i < j) (hf : l[i]? = some f) (hg : l[j]? = some g) : f.No < g.No := by
 obtain ⟨h1, e1⟩ := List.getElem?_eq_some_iff.1 hf; obtain ⟨h2, e2⟩ := List.getElem?_eq_some_iff.1 hg
 rw [← e1, ← e2]
 exact List.pairwise_iff_getElem.1 h i j h1 h2 hij
theorem bin_none {l : Fs} {n : Int} {k : Nat} (hlo : ∀ q x, q < k → l[q]? = some x → x.No < n) (hhi : ∀ q x, k ≤ q → l[q]? = some x → n ≤ x.No) (hn : ∀ x, l[k]? = some x → ¬ x.No = n) (hr : riseP l) : findN l n = none := by
 refine find_no fun y hy e => ?_
 obtain ⟨q, hq⟩ := List.getElem?_of_mem hy
 rcases Nat.lt_trichotomy q k with h | h | h
 ·have := hlo q y h hq; omega
 ·subst h; exact hn y hq e
 ·have h0 : k < l.length := by have := (List.getElem?_eq_some_iff.1 hq).1; omega
  have h1 := hhi k _ (Nat.le_refl _) (List.getElem?_eq_getElem h0)
  have h2 := hr.get h (List.getElem?_eq_getElem h0) hq
  omega
theorem bin_some {l : Fs} {n : Int} {k : Nat} {x : Fa} (hlo : ∀ q x, q < k → l[q]? = some x → x.No < n) (hx : l[k]? = some x) (h0 : x.No = n) : findN l n = some x := by
 refine find_at (k := k) (fun y hy e => ?_) hx h0; obtain ⟨q, hq⟩ := List.getElem?_of_mem hy
 rw [List.getElem?_take] at hq
 split at hq
 ·have := hlo q y ‹_› hq; omega
 ·cases hq
def BinU (l : Fs) (n : Int) (v : Value) : Prop := ∃ i : Nat, v = .tuple #[.int .i64 (i : Nat), .bool (findN l n).isSome] ∧ ((findN l n).isSome = true → l[i]? = findN l n)
theorem BinU.y {l : Fs} {n : Int} {k : Nat} {x : Fa} (hr : riseP l) (hlo : ∀ q x, q < k → l[q]? = some x → x.No < n) (hhi : ∀ q x, k ≤ q → l[q]? = some x → n ≤ x.No) (hx : l[k]? = some x) : BinU l n (.tuple #[.int .i64 (k : Nat), .bool (decide (sgn x.No n = 0))]) := by
 refine ⟨k, ?_, fun h => ?_⟩
 ·by_cases h0 : x.No = n
  ·rw [bin_some hlo hx h0, decide_eq_true (sgn_0.2 h0)]; rfl
  ·rw [bin_none hlo hhi (fun y hy e => h0 (by rw [hx] at hy; cases hy; exact e)) hr, decide_eq_false (fun e => h0 (sgn_0.1 e))]; rfl
 ·by_cases h0 : x.No = n
  ·rw [bin_some hlo hx h0, hx]
  ·rw [bin_none hlo hhi (fun y hy e => h0 (by rw [hx] at hy; cases hy; exact e)) hr] at h; cases h
theorem BinU.n {l : Fs} {n : Int} {k : Nat} (hr : riseP l) (hlo : ∀ q x, q < k → l[q]? = some x → x.No < n) (hhi : ∀ q x, k ≤ q → l[q]? = some x → n ≤ x.No) (hx : l.length ≤ k) : BinU l n (.tuple #[.int .i64 (k : Nat), .bool false]) := by
 have hn := bin_none hlo hhi (fun y hy e => by rw [List.getElem?_eq_none hx] at hy; cases hy) hr
 exact ⟨k, by rw [hn]; rfl, fun h => by rw [hn] at h; cases h⟩
theorem bin_lo {l : Fs} {n : Int} {h : Nat} {x : Fa} (hr : riseP l) (hx : l[h]? = some x) (hc : sgn x.No n < 0) : ∀ q y, q < h + 1 → l[q]? = some y → y.No < n := by
 have hxn : x.No < n := by
  unfold sgn at hc; split at hc
  ·assumption
  ·split at hc <;> omega
 intro q y hq hy
 rcases Nat.lt_or_ge q h with h1 | h1
 ·have := hr.get h1 hy hx; omega
 ·have : q = h := by omega
  subst this; rw [hx] at hy; cases hy; exact hxn
theorem bin_hi {l : Fs} {n : Int} {h : Nat} {x : Fa} (hr : riseP l) (hx : l[h]? = some x) (hc : ¬ sgn x.No n < 0) : ∀ q y, h ≤ q → l[q]? = some y → n ≤ y.No := by
 have hxn : n ≤ x.No := by
  rcases Int.lt_or_le x.No n with h1 | h1
  ·exact absurd (by rw [sgn_lt h1]; decide) hc
  ·exact h1
 intro q y hq hy
 rcases Nat.lt_or_ge h q with h1 | h1
 ·have := hr.get h1 hx hy; omega
 ·have : q = h := by omega
  subst this; rw [hx] at hy; cases hy; exact hxn
theorem half (i j : Nat) : (((i + j : Nat) : Int)).fdiv (2 ^ min (1 : Int).toNat (IntKind.u64).bits) = (((i + j) / 2 : Nat) : Int) := by
 rw [show (2 : Int) ^ min (1 : Int).toNat (IntKind.u64).bits = 2 by rfl, Int.fdiv_eq_ediv_of_nonneg _ (by decide)]
 omega
/-- people met -/
def bV (m : List Int) : List (Int × Value) := m.map fun z => (z, .bool true)
theorem mget_b (m : List Int) (z : Int) : (mget (bV m) z).getD (.bool false) = .bool (decide (z ∈ m)) := by
  induction m with
  | nil => rfl
  | cons y m ih =>
    by_cases h : z = y
    · subst h; simp [bV, mget]
    · simp only [bV, List.map_cons, mget, if_neg h] at ih ⊢
      rw [ih]; simp [h]
theorem mset_b {m : List Int} {z : Int} (h : z ∉ m) : mset (bV m) z (.bool true) = bV (m ++ [z]) := by
  induction m with
  | nil => rfl
  | cons y m ih =>
    have h1 : ¬ z = y := fun e => h (by rw [e]; simp)
    have h2 := ih fun e => h (List.mem_cons_of_mem _ e)
    simp only [bV, List.map_cons, List.cons_append, mset, if_neg h1] at h2 ⊢
    rw [h2]
theorem oth_nxt {f : Fa} {z : Int} (h : (othr f z).isSome = true) : (othr f z).getD 0 = nxt f z ∧ ¬ (f.A ≠ z ∧ f.B ≠ z) := by
 unfold othr at h ⊢; unfold nxt
 split at h
 ·rename_i h1; rw [if_pos h1, if_pos h1.symm]; exact ⟨rfl, fun e => e.1 h1.symm⟩
 ·rename_i h1
  split at h
  ·rename_i h2; rw [if_neg h1, if_pos h2, if_neg (fun e => h1 e.symm)]; exact ⟨rfl, fun e => e.2 h2.symm⟩
  ·cases h
theorem oth_none {f : Fa} {z : Int} (h : (othr f z).isSome = false) : f.A ≠ z ∧ f.B ≠ z := by
 unfold othr at h
 split at h
 ·cases h
 ·rename_i h1
  split at h
  ·cases h
  ·rename_i h2; exact ⟨fun e => h1 e.symm, fun e => h2 e.symm⟩
theorem rel_cn {b z : Int} {ks : Fs} {f : Fa} {i : Nat} {met : List Int} {c : Bool} (h : c = relF b (ks.drop i) met z) (hf : ks[i]? = some f) (hn : (othr f z).isSome = false ∨ ((othr f z).getD 0 ∈ met ∧ (othr f z).isSome = true) ∨ f.K ≠ 3) : c = false := by
 rw [h, drop_cons hf]
 refine (rel_no ?_).symm
 rcases hn with h1 | ⟨h1, h2⟩ | h1
 ·exact .inr (.inl (oth_none h1))
 ·exact .inr (.inr (by rw [← (oth_nxt h2).1]; exact h1))
 ·exact .inl h1
theorem rel_cy {b z : Int} {ks : Fs} {f : Fa} {i : Nat} {met : List Int} {c : Bool} (h : c = relF b (ks.drop i) met z) (hf : ks[i]? = some f) (h1 : (othr f z).isSome = true) (h2 : ¬ (othr f z).getD 0 ∈ met) (h3 : ¬ f.K ≠ 3) : c = relF b (ks.drop (i + 1)) (met ++ [(othr f z).getD 0]) ((othr f z).getD 0) := by
 rw [h, drop_cons hf, (oth_nxt h1).1, rel_yes (Decidable.not_not.1 h3) (oth_nxt h1).2 (by rw [← (oth_nxt h1).1]; exact h2)]
theorem rel_ce {b z : Int} {ks : Fs} {i : Nat} {met : List Int} {c : Bool} (h : c = relF b (ks.drop i) met z) (hi : ks.length ≤ i) : c = decide (z = b) := by
 rw [h, List.drop_of_length_le hi]; rfl
section
variable {fs : Fs} {a b : Int} {x y : Fa}
theorem pw_1 (h : ¬ (fs.length = 0 ∨ a = b)) (h1 : fs.length = 1) (hx : fs[0]? = some x) (ho : (othr x a).isSome = true) (hb : (othr x a).getD 0 = b) : decide (x.K ≠ 1) = prvB fs a b := by
 rw [pv_1 h h1 hx]
 refine decide_eq_decide.2 ⟨fun hk => ⟨hk, ?_⟩, fun hk => hk.1⟩
 unfold othr at ho hb
 split at ho
 ·rename_i h2; rw [if_pos h2] at hb; exact .inl ⟨h2.symm, hb⟩
 ·rename_i h2
  split at ho
  ·rename_i h3; rw [if_neg h2, if_pos h3] at hb; exact .inr ⟨hb, h3.symm⟩
  ·cases ho
theorem pw_1n (h : ¬ (fs.length = 0 ∨ a = b)) (h1 : fs.length = 1) (hx : fs[0]? = some x) (ho : (othr x a).isSome = false ∨ ¬ (othr x a).getD 0 = b) : false = prvB fs a b := by
 rw [pv_1 h h1 hx]
 refine (decide_eq_false fun hk => ?_).symm
 rcases hk.2 with ⟨h2, h3⟩ | ⟨h2, h3⟩
 ·have : othr x a = some x.B := by unfold othr; rw [if_pos h2.symm]
  rw [this] at ho; rcases ho with ho | ho
  ·cases ho
  ·exact ho h3
 ·have hne : ¬ a = x.A := fun e => h (.inr (by rw [e, h2]))
  have : othr x a = some x.A := by unfold othr; rw [if_neg hne, if_pos h3.symm]
  rw [this] at ho; rcases ho with ho | ho
  ·cases ho
  ·exact ho h2
theorem pw_2 (h : ¬ (fs.length = 0 ∨ a = b)) (h1 : fs.length = 2) (hx : fs[0]? = some x) (hy : fs[1]? = some y) (hk : x.K = 1) (hk2 : y.K = 1) (e1 : x.A = a) (e2 : y.A = b) : decide (x.B = y.B) = prvB fs a b := by
 rw [pv_2 h h1 hx hy ⟨hk, hk2⟩]
 exact decide_eq_decide.2 ⟨fun e => ⟨e1, e2, e⟩, fun e => e.2.2⟩
theorem pw_2n (h : ¬ (fs.length = 0 ∨ a = b)) (h1 : fs.length = 2) (hx : fs[0]? = some x) (hy : fs[1]? = some y) (hk : x.K = 1) (hn : ¬ (y.K = 1 ∧ x.A = a ∧ y.A = b)) : false = prvB fs a b := by
 by_cases hk2 : y.K = 1
 ·rw [pv_2 h h1 hx hy ⟨hk, hk2⟩]
  exact (decide_eq_false fun e => hn ⟨hk2, e.1, e.2.1⟩).symm
 ·rw [← pv_3c h (by omega) hy hk2]
  have e : fs = x :: fs.drop 1 := by
   have := drop_cons hx
   simpa using this
  rw [e]; exact rel_no (.inl (by omega))
theorem pw_3 (h : ¬ (fs.length = 0 ∨ a = b)) (h1 : ¬ fs.length = 1) (h2 : ¬ (fs.length = 2 ∧ ∃ x, fs[0]? = some x ∧ x.K = 1)) : prvB fs a b = relF b (fs.drop 0) [a] a := by
 rw [List.drop_zero]
 refine (pv_3 h h1 fun h3 => h2 ⟨h3.1, ?_⟩).symm
 have := h3.2.1
 cases hq : fs[0]? with
 | none => rw [hq] at this; cases this
 | some x => rw [hq] at this; exact ⟨x, rfl, by simpa using this⟩
end
theorem prvR_at {l : Fs} {x y day time : Int} {p : List Int} {b : Bool} (hE : errC l x y day time = 0) (h : b = prvF (cntF l day time) x y p) : resV [.bool b, .int .i64 0] = .tuple #[.bool (prvR l x y day time p), .int .i64 (errC l x y day time)] := by
 rw [prvR, if_pos hE, hE, ← h]; rfl
def tabC (l : Fs) (es js : List Int) (day time : Int) : List (List Bool) := if tabE l es js day time = 0 then es.map fun a => js.map fun b => (cnfP (cntF l day time) a b).isSome else []
def TabV (l : Fs) (es js : List Int) (day time : Int) (H : Hp) (v : Value) : Prop := ∃ a c, v = .tuple #[.slice a (tabC l es js day time).length c, .int .i64 (tabE l es js day time)] ∧ SlR (slR boolR) H a c (tabC l es js day time)
theorem TabV.no {l : Fs} {es js : List Int} {day time : Int} {H : Hp} {e : Int} (h : tabE l es js day time = e) (h0 : e ≠ 0) : TabV l es js day time H (.tuple #[.slice none 0 0, .int .i64 e]) := by
 have ht : tabC l es js day time = [] := by unfold tabC; rw [if_neg (by rw [h]; exact h0)]
 exact ⟨none, 0, by rw [ht, h]; rfl, by rw [ht]; exact SlR.nil0 _ _⟩
theorem tabE_chk {l : Fs} {es js : List Int} {day time : Int} (h : chkF l ≠ 0) : tabE l es js day time = chkF l := if_neg h
theorem tabE_1 {l : Fs} {es js : List Int} {day time : Int} (hc : chkF l = 0) (h : ¬ tabP l es js day time) : tabE l es js day time = 1 := by unfold tabE; rw [if_pos hc, if_neg h]
theorem tabE_0 {l : Fs} {es js : List Int} {day time : Int} (hc : chkF l = 0) (h : tabP l es js day time) : tabE l es js day time = 0 := by unfold tabE; rw [if_pos hc, if_pos h]
theorem err_nil {l : Fs} {day time : Int} (hc : chkF l = 0) : errC [] 0 0 day time = errC l 0 0 day time := by unfold errC; rw [if_pos hc, if_pos (show chkF [] = 0 by rfl)]
theorem TabV.yes {l : Fs} {es js : List Int} {day time : Int} {H : Hp} {a : Option Addr} {c : Nat} (hE : tabE l es js day time = 0) (hs : SlR (slR boolR) H a c (es.map fun a => js.map fun b => (cnfP (cntF l day time) a b).isSome)) : TabV l es js day time H (.tuple #[.slice a (es.map fun a => js.map fun b => (cnfP (cntF l day time) a b).isSome).length c, .int .i64 0]) := by
 have ht : tabC l es js day time = es.map fun a => js.map fun b => (cnfP (cntF l day time) a b).isSome := by unfold tabC; rw [if_pos hE]
 exact ⟨a, c, by rw [ht, hE], by rw [ht]; exact hs⟩
theorem odd_v (x : Int) (H : Hp) : FnV Try.prog (.func (.func 38) #[] #[]) [.int .i64 x] H [] (RetR fun u _ _ => ∃ b : Bool, u = .bool b ∧ (b = true ↔ ¬ idP x)) := by
 refine (FnV.of_fn (cap := []) (args := [_]) (odd_fn x H)).mono ?_
 intro e H' o' hle h
 cases e with
 | returned u => exact ⟨_, h, decide_eq_true_iff⟩
 | panicked _ => exact h
 | outgrown => exact h
end Go.Proofs

/- The walks of the functions of conflicts: what each of them computes, at any input. -/
set_option autoImplicit false
set_option linter.unusedVariables false
set_option linter.unusedSimpArgs false
namespace Go.Proofs
open Go.XL



theorem bin_fn (a : Option Addr) (c : Nat) (l : Fs) (n : Int) (H : Hp) (hs : SlR faR H a c l) (hl : l.length ≤ 100000) (hr : riseP l) : FnC Try.prog 33 #[.slice a l.length c, .int .i64 n, .func (.func 34) #[] #[]] H [] (RetR (fun v _ _ => BinU l n v)) := by
 refine FnC.intro (args := [.slice a l.length c, .int .i64 n, .func (.func 34) #[] #[]]) Try.func33 rfl rfl Try.ntmps33 rfl rfl rfl fun G rest => ?_
 refine XC.seq ?_; refine XC.region ?_; refine XO.assign rfl rfl ?_; refine XO.assign rfl rfl ?_; refine XO.nil ?_; refine XC.seq2 ?_; refine XC.seq ?_; refine XC.region ?_; refine XO.move rfl rfl ?_; refine XO.lenS (ts := #[]) rfl Try.underlying22 rfl ?_; refine XO.assign rfl rfl ?_; refine XO.nil ?_; refine XC.seq2 ?_; refine XC.seq ?_; refine XC.region ?_; refine XO.move rfl rfl ?_; refine XO.assign rfl rfl ?_; refine XO.assign rfl rfl ?_; refine XO.nil ?_; refine XC.seq2 ?_; refine XC.seq ?_; refine XC.block ?_; refine XC.keep [9, 10, 0, 1, 2, 8] rfl ?_; refine XC.loop (base := [(0, _), (1, _), (2, _), (8, _)]) (fun ζ : Nat × (Nat) => [(9, .int .i64 ((ζ.1 : Nat) : Int)), (10, .int .i64 ((ζ.2 : Nat) : Int))]) (fun ζ Hl own => rest = own ∧ (ζ.1 ≤ ζ.2 ∧ ζ.2 ≤ l.length) ∧ (∀ q x, q < ζ.1 → l[q]? = some x → x.No < n) ∧ (∀ q x, ζ.2 ≤ q → l[q]? = some x → n ≤ x.No)) (fun ζ => ζ.2 - ζ.1) (0, l.length) (prov_cons (rfl) (prov_cons (rfl) (prov_cons (rfl) (prov_cons (rfl) (prov_cons (rfl) (prov_cons (rfl) prov_nil)))))) (by repeat (first | exact List.Sublist.refl _ | apply List.Sublist.cons_cons | apply List.Sublist.cons)) ⟨rfl, ⟨Nat.zero_le _, Nat.le_refl _⟩, fun q x hq => absurd hq (by omega), fun q x hq hx => by rw [List.getElem?_eq_none (by simpa using hq)] at hx; cases hx⟩ ?_; rintro ⟨i, j⟩ Hl0 _ hle0 ⟨rfl, hij, hlo, hhi⟩; replace hs := hs.mono hle0
 try dsimp only at hij hlo hhi ⊢
 refine XC.seq ?_; refine XC.seq ?_; refine XC.region ?_; refine XO.move rfl rfl ?_; refine XO.move rfl rfl ?_; refine XO.lss rfl rfl rfl ?_; refine XO.nil ?_; refine XC.seq2 ?_; refine XC.cond rfl (fun c0_1 => ?_) (fun c0_1 => ?_)
 ·refine XC.skip ?_; refine XC.seq2 ?_; refine XC.block ?_; refine XC.seq ?_; refine XC.region ?_; refine XO.move rfl rfl ?_; refine XO.move rfl rfl ?_; refine XO.add (c := ((i + j : Nat) : Int)) rfl rfl ((wrap_i64 (by omega) (by omega)).trans (by omega)) rfl ?_; refine XO.convI rfl Try.underlying3 Try.underlying73 (wrap_u64 (by omega) (by omega)) rfl ?_; refine XO.shr rfl rfl (by decide) rfl ?_
  rw [half]
  refine XO.convI rfl Try.underlying73 Try.underlying3 (wrap_i64 (by omega) (by omega)) rfl ?_; refine XO.assign rfl rfl ?_
  obtain ⟨xM, hxM⟩ : ∃ x, l[((i + j) / 2)]? = some x := ⟨_, List.getElem?_eq_getElem (by omega)⟩
  refine XO.nil ?_; refine XC.seq2 ?_; refine XC.seq ?_; refine XC.region ?_; refine XO.move rfl rfl ?_; refine XO.move rfl rfl ?_; refine XO.move rfl rfl ?_; refine XO.indexN (i := ((i + j) / 2)) rfl hs rfl Try.underlying22 ty_41 (by omega) rfl ?_; rintro eb27 eo27 _ x27 hx27 rfl hp27; obtain rfl := Option.some.inj (hxM.symm.trans hx27); refine XO.loadH rfl (by assumption) ty_41 rfl rfl rfl ?_; refine XO.move rfl rfl ?_; refine XO.callValK rfl trivial rfl (FnV.of_fn (cap := []) (args := [_, _]) (byNo_fn xM n _)) rfl ?_; rintro _ rfl; refine XO.lss rfl rfl rfl ?_; refine XO.nil ?_; refine XC.seq2 ?_; refine XC.cond rfl (fun c1_6 => ?_) (fun c1_6 => ?_)
  ·refine XC.region ?_; refine XO.move rfl rfl ?_; refine XO.add (c := ((((i + j) / 2) + 1 : Nat) : Int)) rfl rfl ((wrap_i64 (by omega) (by omega)).trans (by omega)) rfl ?_; refine XO.assign rfl rfl ?_; refine XO.nil ?_; refine blockN ?_; refine loop_next ((((i + j) / 2) + 1, j)) (by show _ - _ < _ - _; omega) (prov_cons (rfl) (prov_cons (rfl) (prov_cons (rfl) (prov_cons (rfl) (prov_cons (rfl) (prov_cons (rfl) prov_nil)))))) (⟨rfl, by omega, by first | exact hlo | exact bin_lo hr hxM (by assumption), by first | exact hhi | exact bin_hi hr hxM (by assumption)⟩) (by repeat (first | exact List.Sublist.refl _ | apply List.Sublist.cons_cons | apply List.Sublist.cons)) (hle0)
  ·refine XC.region ?_; refine XO.move rfl rfl ?_; refine XO.assign rfl rfl ?_; refine XO.nil ?_; refine blockN ?_; refine loop_next ((i, ((i + j) / 2))) (by show _ - _ < _ - _; omega) (prov_cons (rfl) (prov_cons (rfl) (prov_cons (rfl) (prov_cons (rfl) (prov_cons (rfl) (prov_cons (rfl) prov_nil)))))) (⟨rfl, by omega, by first | exact hlo | exact bin_lo hr hxM (by assumption), by first | exact hhi | exact bin_hi hr hxM (by assumption)⟩) (by repeat (first | exact List.Sublist.refl _ | apply List.Sublist.cons_cons | apply List.Sublist.cons)) (hle0)
 ·refine XC.exit ?_; refine seqX_exit ?_; refine loopX_exit ?_; refine blockHit rfl ?_; refine XC.seq2 ?_; refine XC.seq ?_; refine XC.region ?_; refine XO.move rfl rfl ?_; refine XO.move rfl rfl ?_; refine XO.move rfl rfl ?_; refine XO.lss rfl rfl rfl ?_; refine XO.move rfl rfl ?_; refine XO.guardC rfl rfl rfl rfl (fun g8 => ?_) (fun g8 => ?_)
  ·have g8p := of_decide_eq_true g8
   refine XO.move rfl rfl ?_; refine XO.guardT rfl rfl (g8) rfl ?_; refine XO.move rfl rfl ?_; refine XO.guardT rfl rfl (g8) rfl ?_; refine XO.move rfl rfl ?_; refine XO.guardT rfl rfl (g8) rfl ?_; refine XO.indexN rfl hs rfl Try.underlying22 ty_41 (by omega) rfl ?_; rintro eb43 eo43 _ x43 hx43 rfl hp43; refine XO.guardT rfl rfl (g8) rfl ?_; refine XO.loadH rfl (by assumption) ty_41 rfl rfl rfl ?_; refine XO.guardT rfl rfl (g8) rfl ?_; refine XO.move rfl rfl ?_; refine XO.guardT rfl rfl (g8) rfl ?_; refine XO.callValK rfl trivial rfl (FnV.of_fn (cap := []) (args := [_, _]) (byNo_fn x43 n _)) rfl ?_; rintro _ rfl; refine XO.guardT rfl rfl (g8) rfl ?_; refine XO.eql rfl rfl rfl ?_; refine XO.pickT rfl (g8) rfl rfl ?_; refine XO.assign rfl rfl ?_; refine XO.assign rfl rfl ?_; refine XO.nil ?_; refine XC.seq2 ?_; refine XC.ret ?_; refine ⟨rfl, _, [], rfl, (by repeat (first | exact List.Sublist.refl _ | apply List.Sublist.cons)), RetR.mk ?_⟩
   first | exact BinU.y hr hlo (fun q x hq => hhi q x (by omega)) hx43 | exact BinU.n hr hlo (fun q x hq => hhi q x (by omega)) (by omega)
  ·have g8p := of_decide_eq_false g8
   refine XO.guardF rfl rfl (g8) rfl rfl ?_; refine XO.guardF rfl rfl (g8) rfl rfl ?_; refine XO.guardF rfl rfl (g8) rfl rfl ?_; refine XO.guardF rfl rfl (g8) rfl rfl ?_; refine XO.guardF rfl rfl (g8) rfl rfl ?_; refine XO.guardF rfl rfl (g8) rfl rfl ?_; refine XO.guardF rfl rfl (g8) rfl rfl ?_; refine XO.pickF rfl (g8) rfl rfl ?_; refine XO.assign rfl rfl ?_; refine XO.assign rfl rfl ?_; refine XO.nil ?_; refine XC.seq2 ?_; refine XC.ret ?_; refine ⟨rfl, _, [], rfl, (by repeat (first | exact List.Sublist.refl _ | apply List.Sublist.cons)), RetR.mk ?_⟩
   first | exact BinU.y hr hlo (fun q x hq => hhi q x (by omega)) hx43 | exact BinU.n hr hlo (fun q x hq => hhi q x (by omega)) (by omega)

end Go.Proofs
