/- Repairs: right answers, their order, and what has nothing to repair. -/
import Derived.Test.YtnckfcgnmhplnaaRePn
set_option autoImplicit false
set_option linter.unusedVariables false
set_option linter.unusedSimpArgs false
namespace Go.Proofs
open Go.XL
theorem fmax_ge {f : Int → Int} : ∀ (L : List Int) (z : Int), z ≤ L.foldl (fun (m : Int) j => max m (f j)) z ∧ ∀ j ∈ L, f j ≤ L.foldl (fun (m : Int) j => max m (f j)) z
  | [], z => ⟨Int.le_refl _, by simp⟩
  | a :: L, z => by
    have h := fmax_ge (f := f) L (max z (f a))
    rw [List.foldl_cons]
    refine ⟨by omega, fun j hj => ?_⟩
    rcases List.mem_cons.1 hj with rfl | hj
    · omega
    · exact h.2 j hj
theorem fmax_le {f : Int → Int} {b : Int} : ∀ (L : List Int) (z : Int), z ≤ b → (∀ j ∈ L, f j ≤ b) → L.foldl (fun (m : Int) j => max m (f j)) z ≤ b
  | [], z, hz, _ => hz
  | a :: L, z, hz, h => by
    have h1 := h a (by simp)
    rw [List.foldl_cons]
    exact fmax_le L _ (by omega) fun j hj => h j (by simp [hj])
theorem fmin_le {f : Int → Int} : ∀ (L : List Int) (z : Int), L.foldl (fun (m : Int) j => min m (f j)) z ≤ z ∧ ∀ j ∈ L, L.foldl (fun (m : Int) j => min m (f j)) z ≤ f j
  | [], z => ⟨Int.le_refl _, by simp⟩
  | a :: L, z => by
    have h := fmin_le (f := f) L (min z (f a))
    rw [List.foldl_cons]
    refine ⟨by omega, fun j hj => ?_⟩
    rcases List.mem_cons.1 hj with rfl | hj
    · omega
    · exact h.2 j hj
theorem fmin_ge {f : Int → Int} {b : Int} : ∀ (L : List Int) (z : Int), b ≤ z → (∀ j ∈ L, b ≤ f j) → b ≤ L.foldl (fun (m : Int) j => min m (f j)) z
  | [], z, hz, _ => hz
  | a :: L, z, hz, h => by
    have h1 := h a (by simp)
    rw [List.foldl_cons]
    exact fmin_ge L _ (by omega) fun j hj => h j (by simp [hj])
def rowsP (w : Wi) (ab : List Int) (p : Ls) : Prop := ∀ x ∈ p, x.Nodup ∧ x.length = w.S.toNat ∧ ∀ y ∈ x, y ∈ prs w.J ab
theorem prs_nodup (J : Int) (ab : List Int) : (prs J ab).Nodup := nodup_of (prs_sorted J ab)
theorem unbal_iff {w : Wi} {pr : List Int} {l : Ls} : unbalB w pr l = false ↔ ∀ j ∈ pr, ¬ offK w.B.length pr.length w.S l.length (loadL l j : Nat) := by
 unfold unbalB; rw [List.any_eq_false]; simp only [decide_eq_true_eq]
theorem bal_iff {w : Wi} {ab : List Int} {p : Ls} (hp : p.length = w.B.length) (hS : 0 ≤ w.S) (hr : rowsP w ab p) :
    (∀ k, k ≤ w.B.length → unbalB w (prs w.J ab) (p.take k) = false) ↔ mxK ab p w.J.toNat - mnK ab p w.J.toNat ≤ 1 := by
  have eF : FL ab w.J.toNat = prs w.J ab := rfl
  have hc : ∀ j, ((cntL p j : Nat) : Int) = (loadL p j : Nat) := fun j => by rw [cnt_load fun x hx => (hr x hx).1]
  have hnS : 0 ≤ (w.B.length : Int) * w.S := Int.mul_nonneg (by omega) hS
  have hsum := sum_load (s := w.S.toNat) (prs_nodup w.J ab) hr
  rw [hp, Int.natCast_mul, Int.toNat_of_nonneg hS] at hsum
  constructor
  · intro h
    have h1 := unbal_iff.1 (h w.B.length (Nat.le_refl _))
    rw [← hp, List.take_length] at h1
    rw [hp] at h1
    cases hpr : prs w.J ab with
    | nil =>
      unfold mxK mnK; rw [eF, hpr]; simp only [List.foldl_nil]; omega
    | cons j0 r =>
      have hm : 0 < ((prs w.J ab).length : Int) := by rw [hpr, List.length_cons]; omega
      have h2 : ∀ j ∈ prs w.J ab, (w.B.length : Int) * w.S / ((prs w.J ab).length : Int) ≤ (loadL p j : Nat) ∧ ((loadL p j : Nat) : Int) ≤ (w.B.length : Int) * w.S / ((prs w.J ab).length : Int) + 1 := by
        intro j hj
        have h3 := h1 j hj
        unfold offK at h3
        have h4 := Int.lt_ediv_add_one_mul_self ((w.B.length : Int) * w.S) hm
        have h5 : ((loadL p j : Nat) : Int) * ((prs w.J ab).length : Int) < ((w.B.length : Int) * w.S / ((prs w.J ab).length : Int) + 2) * ((prs w.J ab).length : Int) := by
          rw [Int.add_mul] at h4 ⊢; omega
        have h6 := Int.lt_of_mul_lt_mul_right h5 (by omega)
        omega
      have hq := Int.ediv_nonneg hnS (Int.le_of_lt hm)
      have h0 := h2 j0 (by rw [hpr]; simp)
      have hl := load_le p j0
      have a1 : mxK ab p w.J.toNat ≤ (w.B.length : Int) * w.S / ((prs w.J ab).length : Int) + 1 := by
        unfold mxK; rw [eF]; exact fmax_le _ _ (by omega) fun j hj => by rw [hc]; exact (h2 j hj).2
      have a2 : (w.B.length : Int) * w.S / ((prs w.J ab).length : Int) ≤ mnK ab p w.J.toNat := by
        unfold mnK; rw [eF]; exact fmin_ge _ _ (by omega) fun j hj => by rw [hc]; exact (h2 j hj).1
      omega
  · intro h k hk
    rw [unbal_iff]
    intro j hj
    have hm : 0 < ((prs w.J ab).length : Int) := by have := List.length_pos_of_mem hj; omega
    have hb : ∀ i ∈ prs w.J ab, mnK ab p w.J.toNat ≤ ((loadL p i : Nat) : Int) ∧ ((loadL p i : Nat) : Int) ≤ mnK ab p w.J.toNat + 1 := by
      intro i hi
      have b1 := (fmin_le (f := fun j => ((cntL p j : Nat) : Int)) (FL ab w.J.toNat) (p.length : Int)).2 i (by rw [eF]; exact hi)
      have b2 := (fmax_ge (f := fun j => ((cntL p j : Nat) : Int)) (FL ab w.J.toNat) 0).2 i (by rw [eF]; exact hi)
      simp only [hc i] at b1 b2
      change mnK ab p w.J.toNat ≤ _ at b1
      change _ ≤ mxK ab p w.J.toNat at b2
      omega
    obtain ⟨s1, s2⟩ := sum_one (f := fun j => ((loadL p j : Nat) : Int)) hb hj
    rw [hsum] at s1 s2
    have hbj := hb j hj
    have hsp := load_split p k j
    have hdl := load_le (p.drop k) j
    rw [List.length_drop] at hdl
    have hkl : (p.take k).length = k := by rw [List.length_take]; omega
    rw [hkl]
    unfold offK
    generalize hM : ((prs w.J ab).length : Int) = M at *
    generalize hA : mnK ab p w.J.toNat = A at *
    generalize hX : (w.B.length : Int) * w.S = X at *
    have e1 : (M - 1) * A = M * A - A := by rw [Int.sub_mul]; omega
    have e2 : (M - 1) * (A + 1) = M * A + M - A - 1 := by rw [Int.sub_mul, Int.mul_add]; omega
    rw [e1] at s1; rw [e2] at s2
    have hL : ((loadL p j : Nat) : Int) = A ∨ ((loadL p j : Nat) : Int) = A + 1 := by omega
    have f1 : ((loadL (p.take k) j : Nat) : Int) * M ≤ ((loadL p j : Nat) : Int) * M := Int.mul_le_mul_of_nonneg_right (by omega) (by omega)
    have f2 : X / M < ((loadL p j : Nat) : Int) + 1 := Int.ediv_lt_of_lt_mul hm (by
      rw [Int.add_mul]
      rcases hL with hL | hL <;> rw [hL] at s2 ⊢
      · rw [Int.mul_comm A M]; omega
      · rw [Int.add_mul, Int.mul_comm A M]; omega)
    have f3 : ((loadL p j : Nat) : Int) * M < X + M := by
      rcases hL with hL | hL <;> rw [hL] at s1 ⊢
      · rw [Int.mul_comm A M]; omega
      · rw [Int.add_mul, Int.mul_comm A M]; omega
    omega
theorem rows_of_fit {w : Wi} {ab : List Int} {r : List Bool} {x : List Int} (h : fitW w r x) (hn : ∀ y ∈ x, y ∉ ab) : x.Nodup ∧ x.length = w.S.toNat ∧ ∀ y ∈ x, y ∈ prs w.J ab := by
 obtain ⟨h1, h2⟩ := h; refine ⟨nodup_of (fitB_sorted h2).1, by omega, fun y hy => ?_⟩
 have h3 := fitB_mem h2 hy
 exact mem_prs.2 ⟨⟨by omega, h3.2.1⟩, hn y hy⟩
theorem load_zero {p : Ls} {j : Int} : loadL p j = 0 ↔ ∀ x ∈ p, j ∉ x := by
 unfold loadL; rw [List.countP_eq_zero]; simp only [decide_eq_true_eq]
/-- what the searches go through is what the law calls right -/
theorem sol_iff {w : Wi} {old : Ls} {ab : List Int} {p : Ls} (he : errE w old ab = 0) : p ∈ solQ w ab ↔ isP w ab p := by
 obtain ⟨g1, g2, g3, g4⟩ := err_eq0 he
 have hr := (chkD_eq0 g1).1
 have hr1 := hr.1
 have hS : 0 ≤ w.S := by omega
 rw [mem_solQ]
 constructor
 ·rintro ⟨h1, h2, h3⟩
  have hf : ∀ (i : Nat) (r : List Bool) (x : List Int), w.B[i]? = some r → p[i]? = some x → fitW w r x ∧ ∀ y ∈ x, y ∉ ab := fun i r x hr hx => (mem_lst hS hr).1 (h2 i x hx)
  have hrow : rowsP w ab p := fun x hx => by
   obtain ⟨i, hi, rfl⟩ := List.getElem_of_mem hx; obtain ⟨f1, f2⟩ := hf i _ _ (List.getElem?_eq_getElem (by omega)) (List.getElem?_eq_getElem hi)
   exact rows_of_fit f1 f2
  refine ⟨chkD_0 hr h1 (fitAll_of fun i r x a b => (hf i r x a b).1), fun j hj0 hj1 hj => ?_, (pairs_iff fun x hx => (hrow x hx).1).1 fun k hk => (ok_iff.1 (h3 k (by omega))).2, (bal_iff h1 hS hrow).1 fun k hk => (ok_iff.1 (h3 k hk)).1⟩
  rw [cnt_load (fun x hx => (hrow x hx).1), load_zero]
  intro x hx hjx
  exact (mem_prs.1 ((hrow x hx).2.2 j hjx)).2 hj
 ·rintro ⟨h1, h2, h3, h4⟩; obtain ⟨_, c2, c3⟩ := chkD_eq0 h1
  have hf : ∀ (i : Nat) (x : List Int), p[i]? = some x → ∃ r, w.B[i]? = some r ∧ fitW w r x := fun i x hx => by
   have hi : i < p.length := (List.getElem?_eq_some_iff.1 hx).1
   exact ⟨_, List.getElem?_eq_getElem (by omega), fitAll_at c3 (List.getElem?_eq_getElem (by omega)) hx⟩
  have hnd : ∀ x ∈ p, x.Nodup := fun x hx => by
   obtain ⟨i, hi, rfl⟩ := List.getElem_of_mem hx; obtain ⟨r, _, f1⟩ := hf i _ (List.getElem?_eq_getElem hi)
   exact nodup_of (fitB_sorted f1.2).1
  have hna : ∀ x ∈ p, ∀ y ∈ x, y ∉ ab := fun x hx y hy hya => by
   obtain ⟨i, hi, rfl⟩ := List.getElem_of_mem hx; obtain ⟨r, _, f1⟩ := hf i _ (List.getElem?_eq_getElem hi)
   have f2 := fitB_mem f1.2 hy
   have f3 := h2 y (by omega) f2.2.1 hya
   rw [cnt_load hnd, load_zero] at f3
   exact f3 _ hx hy
  have hrow : rowsP w ab p := fun x hx => by
   obtain ⟨i, hi, hix⟩ := List.getElem_of_mem hx; obtain ⟨r, _, f1⟩ := hf i _ (List.getElem?_eq_getElem hi)
   rw [hix] at f1
   exact rows_of_fit f1 (hna x hx)
  refine ⟨c2, fun i x hx => ?_, fun k hk => ok_iff.2 ⟨(bal_iff c2 hS hrow).2 h4 k hk, (pairs_iff hnd).2 h3 k (by omega)⟩⟩; obtain ⟨r, hr, f1⟩ := hf i x hx
  exact (mem_lst hS hr).2 ⟨f1, hna x (List.mem_of_getElem? hx)⟩
/-! ### The order -/
theorem lessR_self : ∀ x : List Int, lessR x x = none
 | [] => rfl
 | a :: x => by rw [lessR, if_pos rfl]; exact lessR_self x
theorem lessR_anti : ∀ {x y : List Int}, (lessR x y = none → lessR y x = none) ∧ (lessR x y = some true → lessR y x = some false)
  | [], y => by cases y <;> simp [lessR]
  | a :: x, [] => by simp [lessR]
  | a :: x, b :: y => by
    by_cases h : a = b
    · subst h
      simp only [lessR, if_true]
      exact lessR_anti
    · simp only [lessR, if_neg h, if_neg (fun e : b = a => h e.symm)]
      refine ⟨fun h => (by cases h), fun h2 => ?_⟩
      simp only [Option.some.injEq, decide_eq_true_eq, decide_eq_false_iff_not] at h2 ⊢
      omega
theorem lessB_self : ∀ l : Ls, lessB l l = false
 | [] => rfl
 | x :: l => by rw [lessB, lessR_self]; exact lessB_self l
theorem lessB_anti : ∀ {a b : Ls}, lessB a b = true → lessB b a = false
  | [], b, h => by cases b <;> cases h
  | x :: a, [], h => by cases h
  | x :: a, y :: b, h => by
    rw [lessB] at h ⊢
    cases hr : lessR x y with
    | none =>
      rw [hr] at h
      rw [lessR_anti.1 hr]; exact lessB_anti h
    | some c =>
      rw [hr] at h
      simp only at h
      subst h
      rw [lessR_anti.2 hr]
theorem comb_pair {bad : Int → Bool} : ∀ {n : Nat} {l : List Int}, l.Pairwise (· < ·) → (comb bad n l).Pairwise fun x y => lessR x y = some true
  | 0, l, _ => by rw [comb]; exact List.pairwise_singleton _ _
  | n + 1, [], _ => by rw [comb]; exact List.Pairwise.nil
  | n + 1, a :: t, h => by
    rw [List.pairwise_cons] at h
    rw [comb, List.pairwise_append]
    refine ⟨?_, comb_pair h.2, fun x hx y hy => ?_⟩
    · split
      · exact List.Pairwise.nil
      · refine List.Pairwise.map _ (R := fun x y => lessR x y = some true) (fun x y hxy => ?_) (comb_pair h.2)
        rw [lessR, if_pos rfl]; exact hxy
    · split at hx
      · cases hx
      · obtain ⟨z, _, rfl⟩ := List.mem_map.1 hx
        obtain ⟨y1, y2, _⟩ := mem_comb.1 hy
        cases y with
        | nil => cases y1
        | cons b y =>
          have hb := h.1 b (y2.subset (by simp))
          rw [lessR, if_neg (by omega), decide_eq_true hb]
theorem lessB_pre : ∀ (l a b : Ls), lessB (l ++ a) (l ++ b) = lessB a b
 | [], a, b => rfl
 | x :: l, a, b => by rw [List.cons_append, List.cons_append, lessB, lessR_self]; exact lessB_pre l a b
theorem sols_pair {w : Wi} {pr : List Int} (hp : pr.Pairwise (· < ·)) : ∀ (d : Nat) (l : Ls), (sols w pr d l).Pairwise fun p q => lessB p q = true
  | 0, l => by
    rw [sols]; split
    · exact List.pairwise_singleton _ _
    · exact List.Pairwise.nil
  | d + 1, l => by
    rw [sols]; split
    · rw [List.pairwise_flatMap]
      refine ⟨fun x _ => sols_pair hp d _, ?_⟩
      refine List.Pairwise.imp (fun {x y} hxy => ?_) (comb_pair (bad := badR (w.B.getD l.length [])) (n := w.S.toNat) hp)
      intro p hpx q hqy
      obtain ⟨m, rfl⟩ := sols_pre hpx
      obtain ⟨m2, rfl⟩ := sols_pre hqy
      rw [List.append_assoc, List.append_assoc, lessB_pre]
      show lessB (x :: m) (y :: m2) = true
      rw [lessB, hxy]
    · exact List.Pairwise.nil
section
variable {w : Wi} {old : Ls} {ab : List Int} {l : Ls}
theorem isP_len (h : isP w ab l) : l.length = w.B.length ∧ ∀ x ∈ l, x.length = w.S.toNat ∧ x.length ≤ 256 := by
 obtain ⟨c1, c2, c3⟩ := chkD_eq0 h.1
 have c4 := c1.1
 exact ⟨c2, fun x hx => by have := fit_at c2 c3 hx; omega⟩
theorem fw_is (he : errE w old ab = 0) (h : (makQ w old ab).isSome = true) : isP w ab (oL (makQ w old ab)) ∧ chg old (oL (makQ w old ab)) = oN (makQ w old ab) := by
 rcases q_cases he with ⟨_, h1, _⟩ | ⟨A, p, B, hs, _, _, h1, _⟩
 ·rw [h1] at h; cases h
 ·rw [h1]; exact ⟨(sol_iff he).1 (by rw [hs]; simp [oL]), rfl⟩
theorem fw_old (he : errE w old ab = 0) : old.length = w.B.length ∧ w.B.length ≤ 12 ∧ ∀ x ∈ old, x.length ≤ 1000 := by
 obtain ⟨n, hok, _⟩ := q_ok he
 exact ⟨hok.O, hok.B, hok.wo⟩
theorem fw_none (h : (makQ w old ab).isSome = false) : oL (makQ w old ab) = [] ∧ oN (makQ w old ab) = 0 := by rw [isSome_no h]; exact ⟨rfl, rfl⟩
theorem fw_some (he : errE w old ab = 0) (h : isP w ab l) : (makQ w old ab).isSome = true ∧ oN (makQ w old ab) ≤ chg old l := by
 have hm := (sol_iff he).2 h
 rcases q_cases he with ⟨h0, h1, _⟩ | ⟨A, p, B, hs, hA, hB, h1, _⟩
 ·rw [h0] at hm; cases hm
 ·rw [h1]
  refine ⟨rfl, ?_⟩
  show chg old p ≤ _
  rw [hs] at hm
  rcases List.mem_append.1 hm with hm | hm
  ·have := hA l hm; omega
  ·rcases List.mem_cons.1 hm with rfl | hm
   ·exact Nat.le_refl _
   ·exact hB l hm
theorem fw_less (he : errE w old ab = 0) (h : isP w ab l) (hn : ((oN (makQ w old ab) : Nat) : Int) = (chg old l : Nat)) : lessB l (oL (makQ w old ab)) = false := by
 have hm := (sol_iff he).2 h
 rcases q_cases he with ⟨h0, h1, _⟩ | ⟨A, p, B, hs, hA, hB, h1, _⟩
 ·rw [h0] at hm; cases hm
 ·rw [h1] at hn ⊢
  change ((chg old p : Nat) : Int) = _ at hn
  show lessB l p = false
  have hpw := sols_pair (w := w) (prs_sorted w.J ab) w.B.length []
  change (solQ w ab).Pairwise _ at hpw
  rw [hs] at hm hpw
  rcases List.mem_append.1 hm with hm | hm
  ·have := hA l hm; omega
  ·rcases List.mem_cons.1 hm with rfl | hm
   ·exact lessB_self _
   ·exact lessB_anti ((List.pairwise_cons.1 (List.pairwise_append.1 hpw).2.1).1 l hm)
/-! ### Nothing to repair -/
theorem cmn_self (x : List Int) : cmn x x = x.length := by
 unfold cmn; rw [List.countP_eq_length]; intro y hy; exact decide_eq_true hy
theorem chg_self : ∀ l : Ls, chg l l = 0
 | [] => rfl
 | x :: l => by rw [chg, cmn_self, chg_self l]; omega
theorem chg_zero {s : Nat} : ∀ {old p : Ls}, old.length = p.length → (∀ x ∈ old, x.Pairwise (· < ·) ∧ x.length = s) → (∀ x ∈ p, x.Pairwise (· < ·) ∧ x.length = s) → chg old p = 0 → p = old
  | [], [], _, _, _, _ => rfl
  | [], _ :: _, h, _, _, _ => by cases h
  | _ :: _, [], h, _, _, _ => by cases h
  | o :: old, x :: p, h, ho, hp, hc => by
    rw [chg] at hc
    have h1 := ho o (by simp)
    have h2 := hp x (by simp)
    have h3 := cmn_le x o
    have h4 : cmn x o = x.length := by omega
    unfold cmn at h4
    rw [List.countP_eq_length] at h4
    have h5 := sub_of_sorted h2.1 h1.1 fun y hy => of_decide_eq_true (h4 y hy)
    have h6 := h5.eq_of_length (by omega)
    have h7 := chg_zero (by simpa using h) (fun y hy => ho y (by simp [hy])) (fun y hy => hp y (by simp [hy])) (show chg old p = 0 by omega)
    rw [h6, h7]
theorem chk_rows (h : chkD w l = 0) : ∀ x ∈ l, x.Pairwise (· < ·) ∧ x.length = w.S.toNat := fun x hx => by
 obtain ⟨c1, c2, c3⟩ := chkD_eq0 h; obtain ⟨i, hi, rfl⟩ := List.getElem_of_mem hx
 have f := fitAll_at c3 (List.getElem?_eq_getElem (i := i) (by omega)) (List.getElem?_eq_getElem hi)
 exact ⟨(fitB_sorted f.2).1, by have := f.1; omega⟩
theorem nt_err (he : errE w old ab = 0) : errE w old [] = 0 := by
 obtain ⟨g1, g2, g3, g4⟩ := err_eq0 he
 exact err_0 g1 rfl (by omega)
theorem nt_eq (he : errE w old [] = 0) (h : (makQ w old []).isSome = true) (hn : ((oN (makQ w old []) : Nat) : Int) = 0) : oL (makQ w old []) = old := by
 obtain ⟨h1, h2⟩ := fw_is he h
 have h3 := (err_eq0 he).1
 have h4 := (chkD_eq0 h3).2.1
 have h5 := (isP_len h1).1
 exact chg_zero (by omega) (chk_rows h3) (chk_rows h1.1) (by omega)
theorem nt_iff (he : errE w old [] = 0) : isP w [] old ↔ (makQ w old []).isSome = true ∧ ((oN (makQ w old []) : Nat) : Int) = 0 := by
 constructor
 ·intro h
  obtain ⟨h1, h2⟩ := fw_some he h
  rw [chg_self] at h2
  exact ⟨h1, by omega⟩
 ·rintro ⟨h1, h2⟩
  have h3 := (fw_is he h1).1
  rwa [nt_eq he h1 h2] at h3
theorem nt_1 {b : Bool} (he : errE w old [] = 0) (hb : b = true ↔ isP w [] old) (h : (makQ w old []).isSome = true) : (!(b == decide (((oN (makQ w old []) : Nat) : Int) = 0))) = false := by
 have h1 := nt_iff he
 by_cases hn : ((oN (makQ w old []) : Nat) : Int) = 0
 ·rw [hb.2 (h1.2 ⟨h, hn⟩), decide_eq_true hn]; rfl
 ·rw [decide_eq_false hn]
  cases hbb : b with
  | false => rfl
  | true => exact absurd (h1.1 (hb.1 hbb)).2 hn
theorem nt_2 {b : Bool} (he : errE w old [] = 0) (hb : b = true ↔ isP w [] old) (h : (makQ w old []).isSome = false) : (!(b == false)) = false := by
 cases hbb : b with
 | false => rfl
 | true => have := ((nt_iff he).1 (hb.1 hbb)).1; rw [h] at this; cases this
theorem nt_mak (he : errE w old ab = 0) : makQ ⟨w.J, w.S, w.N, []⟩ [] ab = some ([], 0) ∧ errE ⟨w.J, w.S, w.N, []⟩ [] ab = 0 := by
 obtain ⟨g1, g2, g3, g4⟩ := err_eq0 he
 have hr := (chkD_eq0 g1).1
 have he2 : errE ⟨w.J, w.S, w.N, []⟩ [] ab = 0 := by
  refine err_0 (chkD_0 ⟨hr.1, by simp, by simp⟩ rfl rfl) g2 ?_
  simp only [List.length_nil]; omega
 refine ⟨?_, he2⟩
 have hok : okP ⟨w.J, w.S, w.N, []⟩ (prs w.J ab) [] = true := by
  rw [ok_iff, unbal_iff]
  refine ⟨fun j hj => ?_, rfl⟩
  have hm := List.length_pos_of_mem hj
  show ¬ ((0 : Int) * w.S + ((prs w.J ab).length : Int) ≤ 0 * ((prs w.J ab).length : Int) ∨ (0 : Int) + 0 - 0 < (0 * w.S) / ((prs w.J ab).length : Int))
  rw [Int.zero_mul, Int.zero_mul, Int.zero_ediv]; omega
 have hs : solQ ⟨w.J, w.S, w.N, []⟩ ab = [[]] := if_pos hok
 rcases q_cases he2 with ⟨h0, _, _⟩ | ⟨A, p, B, h0, _, _, h1, _⟩
 ·rw [hs] at h0; cases h0
 ·rw [hs] at h0
  have hp : p ∈ ([[]] : List Ls) := by rw [h0]; simp
  simp only [List.mem_singleton] at hp
  subst hp
  exact h1
end
end Go.Proofs
