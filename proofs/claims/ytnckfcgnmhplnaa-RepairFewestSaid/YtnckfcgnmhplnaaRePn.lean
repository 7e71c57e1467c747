/- Repairs: what the searches find is what the law calls a right answer. -/
import Derived.Test.YtnckfcgnmhplnaaRePm
set_option autoImplicit false
set_option linter.unusedVariables false
set_option linter.unusedSimpArgs false
namespace Go.Proofs
open Go.XL
/-! ### Lists that rise -/
theorem sub_of_sorted : ∀ {l x : List Int}, x.Pairwise (· < ·) → l.Pairwise (· < ·) → (∀ y ∈ x, y ∈ l) → x.Sublist l
  | [], x, _, _, h => by
    cases x with
    | nil => exact List.Sublist.refl _
    | cons b t => have := h b (by simp); cases this
  | a :: l, [], _, _, _ => List.nil_sublist _
  | a :: l, b :: t, hx, hl, h => by
    rw [List.pairwise_cons] at hx hl
    by_cases hab : b = a
    · subst hab
      refine List.Sublist.cons_cons _ (sub_of_sorted hx.2 hl.2 fun y hy => ?_)
      have h1 := hx.1 y hy
      rcases List.mem_cons.1 (h y (by simp [hy])) with h2 | h2
      · omega
      · exact h2
    · have hb : b ∈ l := by
        rcases List.mem_cons.1 (h b (by simp)) with h2 | h2
        · exact absurd h2 hab
        · exact h2
      have hab2 := hl.1 b hb
      refine List.Sublist.cons _ (sub_of_sorted (List.pairwise_cons.2 hx) hl.2 fun y hy => ?_)
      rcases List.mem_cons.1 (h y hy) with h2 | h2
      · rcases List.mem_cons.1 hy with h3 | h3
        · omega
        · have := hx.1 y h3; omega
      · exact h2
theorem mem_comb {bad : Int → Bool} : ∀ {n : Nat} {l x : List Int}, x ∈ comb bad n l ↔ x.length = n ∧ x.Sublist l ∧ ∀ y ∈ x, bad y = false
  | 0, l, x => by
    rw [comb, List.mem_singleton]
    constructor
    · rintro rfl; exact ⟨rfl, List.nil_sublist _, by simp⟩
    · rintro ⟨h, _⟩; exact List.length_eq_zero_iff.1 h
  | n + 1, [], x => by
    rw [comb]
    constructor
    · intro h; cases h
    · rintro ⟨h, h2, _⟩; rw [List.sublist_nil.1 h2] at h; cases h
  | n + 1, a :: t, x => by
    rw [comb, List.mem_append, mem_comb (n := n + 1) (l := t)]
    constructor
    · rintro (h | ⟨h1, h2, h3⟩)
      · split at h
        · cases h
        · rename_i hb
          obtain ⟨z, hz, rfl⟩ := List.mem_map.1 h
          obtain ⟨h1, h2, h3⟩ := mem_comb.1 hz
          refine ⟨by simp [h1], h2.cons_cons _, fun y hy => ?_⟩
          rcases List.mem_cons.1 hy with rfl | hy
          · simpa using hb
          · exact h3 y hy
      · exact ⟨h1, h2.cons _, h3⟩
    · rintro ⟨h1, h2, h3⟩
      cases h2 with
      | cons _ h2 => exact Or.inr ⟨h1, h2, h3⟩
      | cons_cons _ h2 =>
        rename_i z
        refine Or.inl ?_
        rw [if_neg (by rw [h3 a (by simp)]; decide)]
        exact List.mem_map.2 ⟨z, mem_comb.2 ⟨by simpa using h1, h2, fun y hy => h3 y (by simp [hy])⟩, rfl⟩
theorem prs_sorted (J : Int) (ab : List Int) : (prs J ab).Pairwise (· < ·) := by
 unfold prs
 refine List.Pairwise.filter _ ?_
 unfold rangeI
 exact List.Pairwise.map _ (R := fun a b : Nat => a < b) (fun a b h => by omega) (List.pairwise_lt_range')
theorem fitB_iff {J : Int} {r : List Bool} : ∀ {l : List Int} {last : Int}, fitB J r last l = true ↔ l.Pairwise (· < ·) ∧ ∀ x ∈ l, last < x ∧ x < J ∧ r.getD x.toNat false = false
  | [], last => by simp [fitB]
  | y :: t, last => by
    constructor
    · intro h; exact ⟨(fitB_sorted h).1, fun x hx => fitB_mem h hx⟩
    · rintro ⟨h1, h2⟩
      rw [List.pairwise_cons] at h1
      have h3 := h2 y (by simp)
      rw [fitB]
      simp only [Bool.and_eq_true, decide_eq_true_eq, Bool.not_eq_true']
      refine ⟨⟨⟨h3.1, h3.2.1⟩, h3.2.2⟩, fitB_iff.2 ⟨h1.2, fun x hx => ⟨h1.1 x hx, (h2 x (by simp [hx])).2⟩⟩⟩
theorem fitAll_of {w : Wi} : ∀ {B : Tb} {l : Ls}, (∀ (i : Nat) (r : List Bool) (x : List Int), B[i]? = some r → l[i]? = some x → fitW w r x) → fitAll w B l = true
  | [], l, _ => by cases l <;> rfl
  | r :: B, [], _ => rfl
  | r :: B, x :: l, h => by
    rw [fitAll, Bool.and_eq_true, decide_eq_true_eq]
    exact ⟨h 0 r x rfl rfl, fitAll_of fun i r' x' h1 h2 => h (i + 1) r' x' (by simpa using h1) (by simpa using h2)⟩
theorem mem_lst {w : Wi} {ab : List Int} {i : Nat} {r : List Bool} {x : List Int} (hS : 0 ≤ w.S) (hr : w.B[i]? = some r) : x ∈ lstE w (prs w.J ab) i ↔ fitW w r x ∧ ∀ y ∈ x, y ∉ ab := by
 rw [lstE_at (n := w.S.toNat) hr (by omega), mem_comb]
 unfold fitW
 rw [fitB_iff]
 constructor
 ·rintro ⟨h1, h2, h3⟩
  have hm : ∀ y ∈ x, y ∈ prs w.J ab := fun y hy => h2.subset hy
  refine ⟨⟨by omega, (prs_sorted w.J ab).sublist h2, fun y hy => ?_⟩, fun y hy => (mem_prs.1 (hm y hy)).2⟩
  have h4 := (mem_prs.1 (hm y hy)).1
  exact ⟨by omega, h4.2, h3 y hy⟩
 ·rintro ⟨⟨h1, h2, h3⟩, h4⟩; refine ⟨by omega, sub_of_sorted h2 (prs_sorted _ _) fun y hy => ?_, fun y hy => (h3 y hy).2.2⟩
  have h5 := h3 y hy
  exact mem_prs.2 ⟨⟨by omega, h5.2.1⟩, h4 y hy⟩
theorem mem_sols {w : Wi} {pr : List Int} : ∀ {d : Nat} {l p : Ls}, p ∈ sols w pr d l ↔ ∃ m, p = l ++ m ∧ m.length = d ∧ (∀ i x, m[i]? = some x → x ∈ lstE w pr (l.length + i)) ∧ ∀ k, k ≤ d → okP w pr (l ++ m.take k) = true
  | 0, l, p => by
    rw [sols]
    constructor
    · intro h
      split at h
      · rename_i hk
        rw [List.mem_singleton] at h; subst h
        refine ⟨[], by simp, rfl, by simp, fun k hk2 => by simpa using hk⟩
      · cases h
    · rintro ⟨m, rfl, hm, h1, h2⟩
      obtain rfl := List.length_eq_zero_iff.1 hm
      have := h2 0 (Nat.le_refl _)
      rw [if_pos (by simpa using this)]; simp
  | d + 1, l, p => by
    rw [sols]
    constructor
    · intro h
      split at h
      · rename_i hk
        obtain ⟨x, hx, hp⟩ := List.mem_flatMap.1 h
        obtain ⟨m, rfl, hm, h1, h2⟩ := mem_sols.1 hp
        refine ⟨x :: m, by simp, by simp [hm], fun i y hy => ?_, fun k hk2 => ?_⟩
        · cases i with
          | zero => simp at hy; subst hy; exact hx
          | succ i =>
            have := h1 i y (by simpa using hy)
            rw [List.length_append] at this
            rwa [show l.length + (i + 1) = l.length + [x].length + i by simp; omega]
        · cases k with
          | zero => simpa using hk
          | succ k => have := h2 k (by omega); simpa using this
      · cases h
    · rintro ⟨m, rfl, hm, h1, h2⟩
      cases m with
      | nil => cases hm
      | cons x m =>
        have hk := h2 0 (by omega)
        rw [if_pos (by simpa using hk)]
        refine List.mem_flatMap.2 ⟨x, h1 0 x rfl, mem_sols.2 ⟨m, by simp, by simpa using hm, fun i y hy => ?_, fun k hk2 => ?_⟩⟩
        · have := h1 (i + 1) y (by simpa using hy)
          rw [List.length_append]
          rwa [show l.length + [x].length + i = l.length + (i + 1) by simp; omega]
        · have := h2 (k + 1) (by omega); simpa using this
theorem mem_solQ {w : Wi} {ab : List Int} {p : Ls} : p ∈ solQ w ab ↔ p.length = w.B.length ∧ (∀ i x, p[i]? = some x → x ∈ lstE w (prs w.J ab) i) ∧ ∀ k, k ≤ w.B.length → okP w (prs w.J ab) (p.take k) = true := by
 rw [show (p ∈ solQ w ab) = (p ∈ sols w (prs w.J ab) w.B.length []) from rfl, mem_sols]
 constructor
 ·rintro ⟨m, rfl, h1, h2, h3⟩
  exact ⟨by simpa using h1, fun i x hx => by have := h2 i x (by simpa using hx); simpa using this, fun k hk => by simpa using h3 k hk⟩
 ·rintro ⟨h1, h2, h3⟩
  exact ⟨p, rfl, h1, fun i x hx => by have := h2 i x hx; simpa using this, fun k hk => by simpa using h3 k hk⟩
/-! ### Pairs -/
theorem cmn_comm {a b : List Int} (ha : a.Nodup) (hb : b.Nodup) : cmn a b = cmn b a := by
 unfold cmn
 rw [List.countP_eq_length_filter, List.countP_eq_length_filter]
 refine List.Perm.length_eq ((List.perm_ext_iff_of_nodup (ha.filter _) (hb.filter _)).2 fun x => ?_)
 simp only [List.mem_filter, decide_eq_true_eq]
 exact ⟨fun h => ⟨h.2, h.1⟩, fun h => ⟨h.2, h.1⟩⟩
theorem apart_take {w : Wi} {p : Ls} {i : Nat} {y : List Int} (hy : p[i]? = some y) : apartB w (p.take (i + 1)) = false ↔ ∀ x ∈ p.take i, ¬ ((cmn x y : Nat) : Int) < w.N := by
 have hi : i < p.length := (List.getElem?_eq_some_iff.1 hy).1
 have hl : (p.take (i + 1)).length = i + 1 := by rw [List.length_take]; omega
 rw [apart_eq (y := y) (by rw [hl, List.getElem?_take]; simp [hy]), hl, List.take_take, Nat.add_sub_cancel, Nat.min_eq_left (by omega), List.any_eq_false]
 simp only [decide_eq_true_eq]
theorem pairs_iff {w : Wi} {p : Ls} (hn : ∀ x ∈ p, x.Nodup) : (∀ k, k ≤ p.length → apartB w (p.take k) = false) ↔ pairP w p p.length := by
  unfold pairP
  constructor
  · intro h i x hi hx y hy
    have h1 := (apart_take hx).1 (h (i + 1) (by omega)) y hy
    rwa [cmn_comm (hn _ (List.mem_of_mem_take hy)) (hn _ (List.mem_of_getElem? hx))] at h1
  · intro h k hk
    cases k with
    | zero => rfl
    | succ i =>
      have hx := List.getElem?_eq_getElem (show i < p.length by omega)
      refine (apart_take hx).2 fun y hy => ?_
      have h1 := h i _ (by omega) hx y hy
      rwa [cmn_comm (hn _ (List.mem_of_getElem? hx)) (hn _ (List.mem_of_mem_take hy))] at h1
/-! ### Loads -/
theorem count_nodup {x : List Int} (h : x.Nodup) (j : Int) : x.count j = if j ∈ x then 1 else 0 := by
 split
 ·rename_i hj
  have h1 := List.nodup_iff_count.1 h j
  have h2 := List.count_pos_iff.2 hj
  omega
 ·rename_i hj; exact List.count_eq_zero.2 hj
theorem load_cons (x : List Int) (l : Ls) (j : Int) : loadL (x :: l) j = (if j ∈ x then 1 else 0) + loadL l j := by
 unfold loadL; rw [List.countP_cons]; simp only [decide_eq_true_eq]; omega
theorem cnt_load {l : Ls} (h : ∀ x ∈ l, x.Nodup) (j : Int) : cntL l j = loadL l j := by
  induction l with
  | nil => rfl
  | cons x r ih =>
    have h1 := ih fun y hy => h y (by simp [hy])
    rw [load_cons, ← h1, ← count_nodup (h x (by simp))]
    simp [cntL]
theorem load_split (l : Ls) (k : Nat) (j : Int) : loadL l j = loadL (l.take k) j + loadL (l.drop k) j := by
 unfold loadL; rw [← List.countP_append, List.take_append_drop]
def sumI (pr : List Int) (f : Int → Int) : Int := (pr.map f).sum
theorem sum_cons (a : Int) (pr : List Int) (f : Int → Int) : sumI (a :: pr) f = f a + sumI pr f := by unfold sumI; simp
theorem sum_add (pr : List Int) (f g : Int → Int) : sumI pr (fun j => f j + g j) = sumI pr f + sumI pr g := by
 induction pr with
 | nil => rfl
 | cons a r ih => rw [sum_cons, sum_cons, sum_cons, ih]; omega
theorem sum_ind (pr : List Int) (x : List Int) : sumI pr (fun j => if j ∈ x then 1 else 0) = ((pr.filter fun j => decide (j ∈ x)).length : Nat) := by
  induction pr with
  | nil => rfl
  | cons a r ih =>
    rw [sum_cons, ih, List.filter_cons]
    by_cases h : a ∈ x
    · simp [h]; omega
    · simp [h]
theorem filter_mem {pr x : List Int} (hp : pr.Nodup) (hx : x.Nodup) (h : ∀ y ∈ x, y ∈ pr) : (pr.filter fun j => decide (j ∈ x)).length = x.length := by
 refine List.Perm.length_eq ((List.perm_ext_iff_of_nodup (hp.filter _) hx).2 fun y => ?_)
 simp only [List.mem_filter, decide_eq_true_eq]
 exact ⟨fun h => h.2, fun hy => ⟨h y hy, hy⟩⟩
theorem sum_load {pr : List Int} {s : Nat} (hp : pr.Nodup) : ∀ {l : Ls}, (∀ x ∈ l, x.Nodup ∧ x.length = s ∧ ∀ y ∈ x, y ∈ pr) → sumI pr (fun j => ((loadL l j : Nat) : Int)) = (l.length * s : Nat)
  | [], _ => by
    have : ∀ pr : List Int, sumI pr (fun j => ((loadL [] j : Nat) : Int)) = 0 := by
      intro pr
      induction pr with
      | nil => rfl
      | cons a r ih => rw [sum_cons, ih]; rfl
    rw [this]; simp
  | x :: l, h => by
    have h1 := h x (by simp)
    have h2 := sum_load hp (l := l) fun y hy => h y (by simp [hy])
    have e : (fun j => ((loadL (x :: l) j : Nat) : Int)) = fun j => (if j ∈ x then 1 else 0) + ((loadL l j : Nat) : Int) := by
      funext j; rw [load_cons]; split <;> simp
    rw [e, sum_add, sum_ind, filter_mem hp h1.1 h1.2.2, h2, h1.2.1, List.length_cons, Nat.succ_mul]; omega
theorem sum_one {f : Int → Int} {a : Int} : ∀ {pr : List Int} {j : Int}, (∀ i ∈ pr, a ≤ f i ∧ f i ≤ a + 1) → j ∈ pr → f j + ((pr.length : Int) - 1) * a ≤ sumI pr f ∧ sumI pr f ≤ f j + ((pr.length : Int) - 1) * (a + 1)
  | i :: pr, j, h, hj => by
    have hi := h i (by simp)
    have hb : ∀ {pr : List Int}, (∀ i ∈ pr, a ≤ f i ∧ f i ≤ a + 1) → (pr.length : Int) * a ≤ sumI pr f ∧ sumI pr f ≤ (pr.length : Int) * (a + 1) := by
      intro pr
      induction pr with
      | nil => intro _; simp [sumI]
      | cons b r ih =>
        intro h
        have h1 := h b (by simp)
        have h2 := ih fun y hy => h y (by simp [hy])
        rw [sum_cons, List.length_cons]
        have e1 : ((r.length + 1 : Nat) : Int) * a = (r.length : Int) * a + a := by rw [Int.natCast_add, Int.add_mul]; simp
        have e2 : ((r.length + 1 : Nat) : Int) * (a + 1) = (r.length : Int) * (a + 1) + (a + 1) := by rw [Int.natCast_add, Int.add_mul]; simp
        omega
    rw [sum_cons, List.length_cons]
    have e0 : ((pr.length + 1 : Nat) : Int) - 1 = (pr.length : Int) := by omega
    rw [e0]
    rcases List.mem_cons.1 hj with rfl | hj
    · have := hb (pr := pr) fun y hy => h y (by simp [hy]); omega
    · have h2 := sum_one (pr := pr) (fun y hy => h y (by simp [hy])) hj
      have e1 : ((pr.length : Int) - 1) * a = (pr.length : Int) * a - a := by rw [Int.sub_mul]; omega
      have e2 : ((pr.length : Int) - 1) * (a + 1) = (pr.length : Int) * (a + 1) - (a + 1) := by rw [Int.sub_mul]; omega
      omega
end Go.Proofs
