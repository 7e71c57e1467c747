/- The lists of judges, and tables without some judges. -/
import Derived.Test.YtbfleiickdobnaaRcK
set_option autoImplicit false
set_option linter.unusedVariables false
set_option linter.unusedSimpArgs false
namespace Go.Proofs
open Go.XL
abbrev ilR : Rep (List Int) := slR (intR .i64)
/-- strictly rising numbers, from lo to below hi -/
def Rise (hi : Nat) : Nat → List Int → Prop
  | _, [] => True
  | lo, x :: r => ∃ j : Nat, x = j ∧ lo ≤ j ∧ j < hi ∧ Rise hi (j + 1) r
theorem mem_listsF {n : Nat} : ∀ {k : Nat} {l : List Int} {f : Nat} {o : List Int}, o ∈ listsF n k l f ↔ ∃ r, o = l ++ r ∧ r.length = k ∧ Rise n f r
  | 0, l, f, o => by
    simp only [listsF, List.mem_singleton]
    constructor
    · rintro rfl; exact ⟨[], by simp, rfl, trivial⟩
    · rintro ⟨r, rfl, h, _⟩; rw [List.length_eq_zero_iff] at h; subst h; simp
  | k + 1, l, f, o => by
    rw [listsF, List.mem_flatMap]
    constructor
    · rintro ⟨j, hj, h⟩
      rw [List.mem_range'_1] at hj
      obtain ⟨r, rfl, h1, h2⟩ := mem_listsF.1 h
      exact ⟨((j : Nat) : Int) :: r, by simp, by simp [h1], j, rfl, hj.1, by omega, h2⟩
    · rintro ⟨r, rfl, h1, h2⟩
      cases r with
      | nil => simp at h1
      | cons x r =>
        obtain ⟨j, rfl, h3, h4, h5⟩ := h2
        exact ⟨j, List.mem_range'_1.2 ⟨h3, by omega⟩, mem_listsF.2 ⟨r, by simp, by simpa using h1, h5⟩⟩
theorem Rise.mem {hi : Nat} : ∀ {lo : Nat} {r : List Int}, Rise hi lo r → ∀ x ∈ r, (lo : Int) ≤ x ∧ x < hi
  | _, [], _, x, hx => by cases hx
  | lo, y :: r, ⟨j, h1, h2, h3, h4⟩, x, hx => by
    rcases List.mem_cons.1 hx with rfl | hx
    · omega
    · have := Rise.mem h4 x hx; omega
theorem Rise.nodup {hi : Nat} : ∀ {lo : Nat} {r : List Int}, Rise hi lo r → r.Nodup
  | _, [], _ => List.nodup_nil
  | lo, y :: r, ⟨j, h1, h2, h3, h4⟩ => by
    refine List.nodup_cons.2 ⟨fun hm => ?_, Rise.nodup h4⟩
    have := (Rise.mem h4 y hm).1; omega
theorem mem_lists0 {n k : Nat} {o : List Int} : o ∈ listsF n k [] 0 ↔ o.length = k ∧ Rise n 0 o := by
  rw [mem_listsF]
  constructor
  · rintro ⟨r, rfl, h1, h2⟩; exact ⟨by simpa using h1, by simpa using h2⟩
  · rintro ⟨h1, h2⟩; exact ⟨o, by simp, h1, h2⟩
theorem Rise.out {m : Tb} {o : List Int} (h : Rise (wideM m) 0 o) : OutOk m o := ⟨h.nodup, fun j hj => by have := h.mem j hj; omega⟩
theorem listsU_size {n k B : Nat} (h : ∀ l f, (listsF n k l f).length ≤ B) (l : List Int) (f : Nat) : ∀ i, (listsU n k l f i).length ≤ i * B
  | 0 => by simp [listsU]
  | i + 1 => by
    rw [listsU_succ, List.length_append, Nat.succ_mul]
    exact Nat.add_le_add (listsU_size h l f i) (h _ _)
theorem listsF_pow {n : Nat} (hn : n ≤ 16) : ∀ (k : Nat) (l : List Int) (f : Nat), (listsF n k l f).length ≤ 16 ^ k
  | 0, l, f => by simp [listsF]
  | k + 1, l, f => by
    rw [listsF_succ, Nat.pow_succ, Nat.mul_comm]
    exact Nat.le_trans (listsU_size (listsF_pow hn k) l f (n - f)) (Nat.mul_le_mul_right _ (by omega))
theorem listsF_size {n k : Nat} (hn : n ≤ 16) (hk : k ≤ 4) (l : List Int) (f : Nat) : (listsF n k l f).length ≤ 65536 :=
  Nat.le_trans (listsF_pow hn k l f) (Nat.pow_le_pow_right (by decide) hk)
theorem listsU_size2 {n k : Nat} (hn : n ≤ 16) (hk : k ≤ 3) (l : List Int) (f i : Nat) (hi : i ≤ 16) : (listsU n k l f i).length ≤ 65536 :=
  Nat.le_trans (listsU_size (listsF_pow hn k) l f i) (Nat.mul_le_mul hi (Nat.pow_le_pow_right (by decide) hk : 16 ^ k ≤ 16 ^ 3))
/-! ### The order of the lists -/
def lexL : List Int → List Int → Prop
  | x :: a, y :: b => x < y ∨ x = y ∧ lexL a b
  | _, _ => False
theorem lexL_pre : ∀ {l a b : List Int}, lexL (l ++ a) (l ++ b) ↔ lexL a b
  | [], _, _ => Iff.rfl
  | x :: l, a, b => by simp only [List.cons_append, lexL, lexL_pre, Int.lt_irrefl, false_or, true_and]
theorem lexL_irrefl : ∀ {a : List Int}, ¬ lexL a a
  | [] => fun h => h
  | x :: a => by simp only [lexL, Int.lt_irrefl, false_or, true_and]; exact lexL_irrefl
theorem lexL_asymm : ∀ {a b : List Int}, lexL a b → ¬ lexL b a
  | [], _, h => by cases h
  | _ :: _, [], h => by cases h
  | x :: a, y :: b, h => by
    simp only [lexL] at h ⊢
    rintro (h2 | ⟨h2, h3⟩)
    · rcases h with h | ⟨h, _⟩ <;> omega
    · rcases h with h | ⟨_, h⟩
      · omega
      · exact lexL_asymm h h3
theorem listsF_sorted {n : Nat} : ∀ (k : Nat) (l : List Int) (f : Nat), (listsF n k l f).Pairwise lexL
  | 0, l, f => by simp [listsF]
  | k + 1, l, f => by
    rw [listsF, List.pairwise_flatMap]
    refine ⟨fun j _ => listsF_sorted k _ _, ?_⟩
    refine (List.pairwise_lt_range' (s := f) (n := n - f) (step := 1) (by omega)).imp ?_
    intro i j hij x hx y hy
    obtain ⟨r, rfl, _, _⟩ := mem_listsF.1 hx
    obtain ⟨s, rfl, _, _⟩ := mem_listsF.1 hy
    rw [List.append_assoc, List.append_assoc, lexL_pre]
    exact Or.inl (by omega)
/-! ### Without some judges -/
def keepJ (out : List Int) (w : Nat) : List Nat := (List.range w).filter fun j => decide (((j : Nat) : Int) ∉ out)
def wRowN (out : List Int) (row : List Bool) (k : Nat) : List Bool := (keepJ out k).map fun j => row.getD j false
theorem wRowN_yes {out : List Int} {row : List Bool} {k : Nat} {x : Bool} (hx : row[k]? = some x) (h : ((k : Nat) : Int) ∉ out) : wRowN out row (k + 1) = wRowN out row k ++ [x] := by
  simp [wRowN, keepJ, List.range_succ, List.filter_append, h, List.getD_eq_getElem?_getD, hx]
theorem wRowN_no {out : List Int} {row : List Bool} {k : Nat} (h : ¬ ((k : Nat) : Int) ∉ out) : wRowN out row (k + 1) = wRowN out row k := by
  simp only [Decidable.not_not] at h
  simp [wRowN, keepJ, List.range_succ, List.filter_append, h]
theorem wRowN_len {out : List Int} {row : List Bool} {k : Nat} : (wRowN out row k).length ≤ k := by
  rw [wRowN, List.length_map, keepJ]
  have := (List.filter_sublist (p := fun j : Nat => decide (((j : Nat) : Int) ∉ out)) (l := List.range k)).length_le
  rwa [List.length_range] at this
def WoM (m : Tb) (out : List Int) : Tb := m.map fun row => wRowN out row row.length
theorem WoM_len (m : Tb) (out : List Int) : (WoM m out).length = m.length := by simp [WoM]
theorem WoM_snoc {m : Tb} {out : List Int} {i : Nat} {row : List Bool} (h : m[i]? = some row) : WoM (m.take (i + 1)) out = WoM (m.take i) out ++ [wRowN out row row.length] := by
  rw [take_snoc h, WoM, List.map_append]; rfl
theorem mem_keepJ {out : List Int} {w j : Nat} : j ∈ keepJ out w ↔ j < w ∧ ((j : Nat) : Int) ∉ out := by simp [keepJ]
theorem WoM_wide {m : Tb} {out : List Int} : wideM (WoM m out) = (wRowN out (m.headD []) (wideM m)).length := by
  cases m <;> simp [WoM, wideM, wRowN, keepJ]
theorem WoM_wide2 {m : Tb} {out : List Int} : wideM (WoM m out) = (keepJ out (wideM m)).length := by
  rw [WoM_wide, wRowN, List.length_map]
theorem WoM_ok {m : Tb} {out : List Int} (hok : okG m) : okG (WoM m out) := by
  refine ⟨by rw [WoM_len]; exact hok.1, fun r hr => ?_⟩
  obtain ⟨row, hrow, rfl⟩ := List.mem_map.1 hr
  obtain ⟨h1, h2⟩ := hok.2 row hrow
  refine ⟨?_, Nat.le_trans wRowN_len h2⟩
  rw [WoM_wide2, wRowN, List.length_map, h1]
theorem WoM_get {m : Tb} {out : List Int} (hok : okG m) {i k : Nat} : ((WoM m out).getD i []).getD k false = true ↔ ∃ j, (keepJ out (wideM m))[k]? = some j ∧ (m.getD i []).getD j false = true := by
  rcases Nat.lt_or_ge i m.length with hi | hi
  · obtain ⟨row, hrow⟩ : ∃ row, m[i]? = some row := ⟨_, List.getElem?_eq_getElem hi⟩
    have hw := (hok.2 row (List.mem_of_getElem? hrow)).1
    have e : (WoM m out).getD i [] = (keepJ out (wideM m)).map fun j => row.getD j false := by
      rw [List.getD_eq_getElem?_getD, WoM, List.getElem?_map, hrow]; simp [wRowN, hw]
    rw [e, List.getD_eq_getElem?_getD, List.getElem?_map]
    have e2 : m.getD i [] = row := by rw [List.getD_eq_getElem?_getD, hrow]; rfl
    rw [e2]
    cases h : (keepJ out (wideM m))[k]? with
    | none => simp
    | some j => simp
  · have e : (WoM m out).getD i [] = [] := by rw [List.getD_eq_getElem?_getD, List.getElem?_eq_none (by rw [WoM_len]; exact hi)]; rfl
    have e2 : m.getD i [] = [] := by rw [List.getD_eq_getElem?_getD, List.getElem?_eq_none hi]; rfl
    rw [e, e2]; simp
theorem keepJ_nodup (out : List Int) (w : Nat) : (keepJ out w).Nodup := List.filter_sublist.nodup List.nodup_range
theorem idx_get {l : List Nat} (h : l.Nodup) {k j : Nat} (hk : l[k]? = some j) : l.idxOf j = k := by
  have hlt := (List.getElem?_eq_some_iff.1 hk).1
  have e := (List.getElem?_eq_some_iff.1 hk).2
  rw [← e]
  exact h.idxOf_getElem k hlt
theorem idx_of {l : List Nat} {j : Nat} (h : j ∈ l) : l[l.idxOf j]? = some j := by
  rw [List.getElem?_eq_getElem (List.idxOf_lt_length_of_mem h)]; simp
theorem WoM_conn {m : Tb} {out : List Int} (hok : okG m) : AllC (WoM m out) [] ↔ AllC m out := by
  have hw := WoM_wide2 (m := m) (out := out)
  generalize hkj : keepJ out (wideM m) = kj at *
  have hmem : ∀ j, j ∈ kj ↔ j < wideM m ∧ ((j : Nat) : Int) ∉ out := fun j => by rw [← hkj]; exact mem_keepJ
  have hnd : kj.Nodup := by rw [← hkj]; exact keepJ_nodup _ _
  have hE : ∀ e, e ∈ finE (WoM m out) [] ↔ ∃ j, kj[e.2]? = some j ∧ (e.1, j) ∈ finE m out := by
    intro e
    show e ∈ allE (WoM m out) [] (WoM m out).length ↔ ∃ j, kj[e.2]? = some j ∧ (e.1, j) ∈ allE m out m.length
    rw [mem_allE, WoM_get hok, hkj, WoM_len]
    constructor
    · rintro ⟨h1, ⟨j, h2, h3⟩, _⟩
      exact ⟨j, h2, (mem_allE _).2 ⟨h1, h3, ((hmem j).1 (List.mem_of_getElem? h2)).2⟩⟩
    · rintro ⟨j, h2, h3⟩
      obtain ⟨h1, h4, h5⟩ := (mem_allE _).1 h3
      exact ⟨h1, ⟨j, h2, h4⟩, by simp⟩
  constructor
  · intro h x y hx hy
    let φ : Nat → Nat := fun x => if x < m.length then x else m.length + kj.getD (x - m.length) 0
    let ψ : Nat → Nat := fun x => if x < m.length then x else m.length + kj.idxOf (x - m.length)
    have hpsi : ∀ x, inN m out x → inN (WoM m out) [] (ψ x) ∧ φ (ψ x) = x := by
      intro x hx
      by_cases h1 : x < m.length
      · have e : ψ x = x := if_pos h1
        rw [e, inN_nil, WoM_len]
        exact ⟨by omega, if_pos h1⟩
      · have hj : x - m.length ∈ kj := (hmem _).2 ⟨by have := hx.1; omega, hx.2 _ (by omega)⟩
        have e : ψ x = m.length + kj.idxOf (x - m.length) := if_neg h1
        have hlt := List.idxOf_lt_length_of_mem hj
        rw [e, inN_nil, WoM_len, hw]
        refine ⟨by omega, ?_⟩
        have e2 : φ (m.length + kj.idxOf (x - m.length)) = m.length + kj.getD (m.length + kj.idxOf (x - m.length) - m.length) 0 := if_neg (by omega)
        rw [e2, Nat.add_sub_cancel_left, List.getD_eq_getElem?_getD, idx_of hj]
        simp; omega
    obtain ⟨h1, h2⟩ := hpsi x hx
    obtain ⟨h3, h4⟩ := hpsi y hy
    have hc := h _ _ h1 h3
    have := Cn.map (n' := m.length) (E' := finE m out) (φ := φ) (fun e he => by
      obtain ⟨j, h5, h6⟩ := (hE e).1 he
      have h7 := finE_lt hok h6
      have e1 : φ e.1 = e.1 := if_pos h7.1
      have e2 : φ ((WoM m out).length + e.2) = m.length + j := by
        rw [WoM_len]
        have : φ (m.length + e.2) = m.length + kj.getD (m.length + e.2 - m.length) 0 := if_neg (by omega)
        rw [this, Nat.add_sub_cancel_left, List.getD_eq_getElem?_getD, h5]; rfl
      rw [e1, e2]
      exact Cn.edge (e.1, j) h6) hc
    rwa [h2, h4] at this
  · intro h x y hx hy
    rw [inN_nil, WoM_len, hw] at hx hy
    let φ : Nat → Nat := fun x => if x < m.length then x else m.length + kj.getD (x - m.length) 0
    let ψ : Nat → Nat := fun x => if x < m.length then x else m.length + kj.idxOf (x - m.length)
    have hphi : ∀ x, x < m.length + kj.length → inN m out (φ x) ∧ ψ (φ x) = x := by
      intro x hx
      by_cases h1 : x < m.length
      · have e : φ x = x := if_pos h1
        rw [e]
        exact ⟨⟨by omega, fun j hj => by omega⟩, if_pos h1⟩
      · obtain ⟨j, hj⟩ : ∃ j, kj[x - m.length]? = some j := ⟨_, List.getElem?_eq_getElem (by omega)⟩
        have e : φ x = m.length + j := by
          have : φ x = m.length + kj.getD (x - m.length) 0 := if_neg h1
          rw [this, List.getD_eq_getElem?_getD, hj]; rfl
        have hm := (hmem j).1 (List.mem_of_getElem? hj)
        rw [e]
        refine ⟨⟨by omega, fun i hi => by obtain rfl : i = j := by omega
                                          exact hm.2⟩, ?_⟩
        have e2 : ψ (m.length + j) = m.length + kj.idxOf (m.length + j - m.length) := if_neg (by omega)
        rw [e2, Nat.add_sub_cancel_left, idx_get hnd hj]; omega
    obtain ⟨h1, h2⟩ := hphi x hx
    obtain ⟨h3, h4⟩ := hphi y hy
    have hc := h _ _ h1 h3
    have := Cn.map (n' := (WoM m out).length) (E' := finE (WoM m out) []) (φ := ψ) (fun e he => by
      have h7 := finE_lt hok he
      have hj : e.2 ∈ kj := (hmem _).2 h7.2
      have e1 : ψ e.1 = e.1 := if_pos h7.1
      have e2 : ψ (m.length + e.2) = (WoM m out).length + kj.idxOf e.2 := by
        rw [WoM_len]
        have : ψ (m.length + e.2) = m.length + kj.idxOf (m.length + e.2 - m.length) := if_neg (by omega)
        rw [this, Nat.add_sub_cancel_left]
      rw [e1, e2]
      exact Cn.edge (e.1, kj.idxOf e.2) ((hE _).2 ⟨e.2, idx_of hj, he⟩)) hc
    rwa [h2, h4] at this
theorem WoM_p {m : Tb} {out : List Int} (hok : okG m) (ho : OutOk m out) : (finG (WoM m out) []).p ≤ 1 ↔ (finG m out).p ≤ 1 := by
  rw [p_iff (WoM_ok hok) (outOk_nil _), p_iff hok ho, WoM_conn hok]
theorem bad_wo {m : Tb} {out : List Int} (hok : okG m) (ho : OutOk m out) : badB m out = decide (¬ (finG (WoM m out) []).p ≤ 1) := by
  unfold badB
  rw [decide_eq_decide, WoM_p hok ho]
  omega
end Go.Proofs
