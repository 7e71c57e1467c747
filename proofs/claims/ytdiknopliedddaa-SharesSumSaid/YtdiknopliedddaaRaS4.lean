/- Plain facts for the laws of the shares. No program stands here. -/
import Derived.Test.YtdiknopliedddaaRaS3
set_option autoImplicit false
set_option linter.unusedVariables false
set_option linter.unusedSimpArgs false
namespace Go.Proofs
open Go.XL
instance : DecidableEq Pt := fun a b => decidable_of_iff (a.X = b.X ∧ a.Y = b.Y) (by cases a; cases b; simp)
abbrev PickK (l x : List Pt) (turned : Bool) (k : Nat) : Prop := ∃ y : List Pt, y.Sublist (l.take k) ∧ x = (if turned = true then y.reverse else y)
theorem pick_t {l x : List Pt} {turned : Bool} {k : Nat} {p : Pt} (hx : l[k]? = some p) (h : PickK l x turned k) (ht : turned = true) : PickK l ([⟨p.X, p.Y⟩] ++ x) turned (k + 1) := by
  obtain ⟨y, hy, rfl⟩ := h
  subst ht
  refine ⟨y ++ [p], ?_, by simp⟩
  rw [take_snoc hx]; exact List.Sublist.append hy (List.Sublist.refl _)
theorem pick_f {l x : List Pt} {turned : Bool} {k : Nat} {p : Pt} (hx : l[k]? = some p) (h : PickK l x turned k) (ht : turned = false) : PickK l (x ++ [⟨p.X, p.Y⟩]) turned (k + 1) := by
  obtain ⟨y, hy, rfl⟩ := h
  subst ht
  refine ⟨y ++ [p], ?_, by simp⟩
  rw [take_snoc hx]; exact List.Sublist.append hy (List.Sublist.refl _)
theorem pick_n {l x : List Pt} {turned : Bool} {k : Nat} {p : Pt} (hx : l[k]? = some p) (h : PickK l x turned k) : PickK l x turned (k + 1) := by
  obtain ⟨y, hy, rfl⟩ := h
  refine ⟨y, ?_, rfl⟩
  rw [take_snoc hx]; exact hy.trans (List.sublist_append_left _ _)
theorem pick_len {l x : List Pt} {turned : Bool} {k : Nat} (h : PickK l x turned k) : x.length ≤ l.length := by
  obtain ⟨y, hy, rfl⟩ := h
  have := hy.length_le
  have h2 : (l.take k).length ≤ l.length := by simp; omega
  split <;> simp <;> omega
theorem dealE_ok {s : Int} {more : List Int} {n : Int} (h : dealE s more n = 0) : ¬ DB s more n := fun hd => by rw [dealE, if_pos hd] at h; cases h
theorem dealE_bad {s : Int} {more : List Int} {n : Int} (h : dealE s more n ≠ 0) : dealR s more n = [] := by
  rw [dealR]
  split
  · rfl
  · rename_i hd; rw [dealE, if_neg hd] at h; exact absurd rfl h
theorem dealR_len (s : Int) (more : List Int) (n : Int) : (dealR s more n).length ≤ 24 := by
  rw [dealR]
  split
  · simp
  · rename_i hd; rw [dealL_len]; unfold DB at hd; omega
theorem dealL_mem {poly : List Int} {n : Nat} {p : Pt} (h : p ∈ dealL poly n) : ∃ i : Nat, i < n ∧ p = ⟨(i : Int) + 1, valP ((i : Int) + 1) poly 0 1⟩ := by
  simp only [dealL, List.mem_map, List.mem_range] at h
  obtain ⟨i, hi, rfl⟩ := h
  exact ⟨i, hi, rfl⟩
theorem dealL_ok {poly : List Int} {n : Nat} (hn : n ≤ 24) {p : Pt} (h : p ∈ dealL poly n) : okPt p := by
  obtain ⟨i, hi, rfl⟩ := dealL_mem h
  have := valP_rng ((i : Int) + 1) poly 0 1 (by decide) (by decide)
  exact ⟨by show 1 ≤ (i : Int) + 1; omega, by show (i : Int) + 1 ≤ 24; omega, this.1, this.2⟩
theorem dealL_nodup (poly : List Int) (n : Nat) : ((dealL poly n).map Pt.X).Nodup := by
  rw [dealL, List.map_map, List.Nodup, List.pairwise_map]
  refine List.Pairwise.imp ?_ (List.nodup_range (n := n))
  intro a b h
  simp; omega
theorem okX_nodup {l : List Pt} (hok : ∀ p ∈ l, okPt p) (hn : (l.map Pt.X).Nodup) : Nd l := by
  show (l.map _).Nodup
  have : (l.map fun p : Pt => p.X % 1073741789) = l.map Pt.X := List.map_congr_left fun p hp => by
    have := hok p hp
    unfold okPt at this
    exact Int.emod_eq_of_lt (by omega) (by omega)
  rw [this]; exact hn
theorem valR_zero {s : Int} (more : List Int) (h0 : 0 ≤ s) (h1 : s < 1073741789) : valR 0 (s :: more) = s := by
  rw [valR]; simp; exact Int.emod_eq_of_lt h0 h1
theorem fm_sub {l x : List Pt} (hok : ∀ p ∈ x, okPt p) (hn : (x.map Pt.X).Nodup) (h : 0 < x.length) : Fm x := ⟨h, okPts_len hok hn, hok, hn⟩
theorem enough {s : Int} {more : List Int} {n : Nat} {x : List Pt} {turned : Bool} {k : Nat} (h0 : 0 ≤ s) (h1 : s < 1073741789) (hn : n ≤ 24) (hP : PickK (dealL (s :: more) n) x turned k) (hm : more.length < x.length) : recV x = (s, 0) := by
  have hmem : ∀ p ∈ x, p ∈ dealL (s :: more) n := by
    obtain ⟨y, hy, rfl⟩ := hP
    intro p hp
    refine List.mem_of_mem_take (hy.mem ?_)
    split at hp
    · simpa using hp
    · exact hp
  have hnd : (x.map Pt.X).Nodup := by
    obtain ⟨y, hy, rfl⟩ := hP
    have h1 : (y.map Pt.X).Nodup := ((hy.trans (List.take_sublist _ _)).map Pt.X).nodup (dealL_nodup _ _)
    split
    · rw [List.map_reverse]; rw [List.Nodup, List.pairwise_reverse]; exact h1.imp Ne.symm
    · exact h1
  have hok : ∀ p ∈ x, okPt p := fun p hp => dealL_ok hn (hmem p hp)
  have hF : Fm x := fm_sub (l := x) hok hnd (by omega)
  rw [recV, if_pos hF]
  have := atV_interp (l := x) hF.2.1 (okX_nodup hok hnd) (f := fun t => valR t (s :: more)) ((Po.valR (s :: more)).mono (by simp; omega)) (fun p hp => by
    obtain ⟨i, hi, rfl⟩ := dealL_mem (hmem p hp)
    show E _ (valP _ _ _ _)
    rw [valP_eq]; exact E.refl _) 0 (valR_rng _ _).1 (valR_rng _ _).2
  rw [this, valR_zero more h0 h1]
theorem altered {s v : Int} {more : List Int} {n i : Nat} (h0 : 0 ≤ s) (h1 : s < 1073741789) (hn : n ≤ 24) (hm : n = more.length + 1) (hi : i < n) (v0 : 0 ≤ v) (v1 : v < 1073741789) :
    (recV ((dealL (s :: more) n).set i ⟨(i : Int) + 1, v⟩)).2 = 0 ∧ ((recV ((dealL (s :: more) n).set i ⟨(i : Int) + 1, v⟩)).1 = s ↔ v = valP ((i : Int) + 1) (s :: more) 0 1) := by
  have hlen : ((dealL (s :: more) n).set i ⟨(i : Int) + 1, v⟩).length = n := by simp [dealL_len]
  have hget : ∀ j, j < n → ((dealL (s :: more) n).set i ⟨(i : Int) + 1, v⟩)[j]? = some ⟨(j : Int) + 1, if j = i then v else valP ((j : Int) + 1) (s :: more) 0 1⟩ := by
    intro j hj
    rw [List.getElem?_set, dealL_get hj, dealL_len]
    by_cases h : i = j
    · subst h; simp [hi]
    · simp [h, Ne.symm h]
  have hX : ((dealL (s :: more) n).set i ⟨(i : Int) + 1, v⟩).map Pt.X = (dealL (s :: more) n).map Pt.X := by
    rw [List.map_set]
    refine List.ext_getElem? fun j => ?_
    rw [List.getElem?_set, List.length_map, dealL_len]
    by_cases h : i = j
    · subst h; simp [hi, dealL_get hi]
    · simp [h]
  generalize hx : (dealL (s :: more) n).set i ⟨(i : Int) + 1, v⟩ = x at *
  have hok : ∀ p ∈ x, okPt p := by
    intro p hp
    subst hx
    rcases List.mem_or_eq_of_mem_set hp with h | rfl
    · exact dealL_ok hn h
    · exact ⟨by show 1 ≤ (i : Int) + 1; omega, by show (i : Int) + 1 ≤ 24; omega, v0, v1⟩
  have hnd : (x.map Pt.X).Nodup := by rw [hX]; exact dealL_nodup _ _
  have hN := okX_nodup hok hnd
  have hF : Fm x := fm_sub (l := x) hok hnd (by omega)
  rw [recV, if_pos hF, atV_ok hF.2.1 hN]
  refine ⟨rfl, ?_⟩
  show atF 0 x x.length = s ↔ _
  have hval : ∀ j : Nat, j < n → E (atF ((j : Int) + 1) x x.length) (if j = i then v else valP ((j : Int) + 1) (s :: more) 0 1) := fun j hj => atF_val hN (p := ⟨(j : Int) + 1, _⟩) (List.mem_of_getElem? (hget j hj))
  constructor
  · intro h
    have hPo : Po n (fun t => atF t x x.length + -1 * valR t (s :: more)) := by
      refine Po.add ?_ (Po.smul _ ?_)
      · have := Po.atF x x.length (Nat.le_refl _); rwa [hlen] at this ⊢
      · have := Po.valR (s :: more); rwa [List.length_cons, ← hm] at this
    have hz : ∀ {t w : Int}, E (atF t x x.length) w → E w (valR t (s :: more)) → E (atF t x x.length + -1 * valR t (s :: more)) 0 := fun a b => ((a.trans b).add (E.refl _)).trans (E.of_eq (by grind))
    have hroots := Po.roots hPo (0 :: ((List.range n).eraseIdx i).map fun (j : Nat) => (j : Int) + 1) (by simp [List.length_eraseIdx, hi]; omega) ?_ ?_ ((i : Int) + 1)
    · have h3 := hval i hi
      rw [if_pos rfl] at h3
      have h4 : E v (valR ((i : Int) + 1) (s :: more)) := by
        have h5 : E (atF ((i : Int) + 1) x x.length) (valR ((i : Int) + 1) (s :: more)) := by
          refine (E.of_eq ?_).trans ((hroots.add (E.refl (valR ((i : Int) + 1) (s :: more)))).trans (E.of_eq (by simp)))
          grind
        exact h3.symm.trans h5
      rw [valP_eq]
      exact h4.eq v0 v1 (valR_rng _ _).1 (valR_rng _ _).2
    · rw [List.map_cons, List.nodup_cons, List.map_map]
      have hsub : ((List.range n).eraseIdx i).Sublist (List.range n) := List.eraseIdx_sublist _ _
      have hlt : ∀ j ∈ (List.range n).eraseIdx i, j < n := fun j hj => List.mem_range.1 (hsub.mem hj)
      have e : ((List.range n).eraseIdx i).map ((fun x : Int => x % 1073741789) ∘ fun (j : Nat) => (j : Int) + 1) = ((List.range n).eraseIdx i).map fun (j : Nat) => (j : Int) + 1 := List.map_congr_left fun j hj => by
        have := hlt j hj
        simp; omega
      rw [e]
      constructor
      · intro h
        obtain ⟨j, _, h⟩ := List.mem_map.1 h
        simp at h
        omega
      · rw [List.Nodup, List.pairwise_map]
        exact List.Pairwise.imp (fun {a b} h => by simp; omega) (hsub.nodup List.nodup_range)
    · intro t ht
      rcases List.mem_cons.1 ht with rfl | ht
      · refine hz (E.of_eq h) ?_
        rw [valR_zero more h0 h1]; exact E.refl _
      · obtain ⟨j, hj, rfl⟩ := List.mem_map.1 ht
        obtain ⟨q, hq⟩ := List.mem_iff_getElem?.1 hj
        have hne : j ≠ i := by
          intro e; subst e
          rw [List.getElem?_eraseIdx] at hq
          split at hq
          · rw [List.getElem?_range (by omega)] at hq; simp at hq; omega
          · obtain ⟨h5, h6⟩ := List.getElem?_eq_some_iff.1 hq
            simp at h6; omega
        have hjn : j < n := List.mem_range.1 ((List.eraseIdx_sublist (List.range n) i).mem hj)
        have h3 := hval j hjn
        rw [if_neg hne] at h3
        refine hz h3 ?_
        rw [valP_eq]; exact E.refl _
  · intro h
    have h2 : x = dealL (s :: more) n := by
      refine List.ext_getElem? fun j => ?_
      rcases Nat.lt_or_ge j n with hj | hj
      · rw [hget j hj, dealL_get hj]
        split
        · rename_i e; subst e; rw [h]
        · rfl
      · rw [List.getElem?_eq_none (by omega), List.getElem?_eq_none (by rw [dealL_len]; omega)]
    have h3 := enough (s := s) (more := more) (n := n) (x := x) (turned := false) (k := n) h0 h1 hn ⟨x, by rw [h2, List.take_of_length_le (by rw [dealL_len]; omega)]; exact List.Sublist.refl _, by simp⟩ (by omega)
    rw [recV, if_pos hF, atV_ok hF.2.1 hN] at h3
    exact congrArg Prod.fst h3
/-- the sums of further numbers -/
def bothL : List Int → List Int → List Int
  | [], ys => ys.map fun y => (0 + y) % 1073741789
  | x :: xs, [] => x % 1073741789 :: bothL xs []
  | x :: xs, y :: ys => (x % 1073741789 + y) % 1073741789 :: bothL xs ys
theorem bothL_len : ∀ xs ys : List Int, (bothL xs ys).length = max xs.length ys.length
  | [], ys => by simp [bothL]
  | x :: xs, [] => by simp [bothL, bothL_len xs []]
  | x :: xs, y :: ys => by simp [bothL, bothL_len xs ys]
theorem both_tt : ∀ {xs ys : List Int} {k : Nat} {x y : Int}, xs[k]? = some x → ys[k]? = some y → (bothL xs ys)[k]? = some ((x % 1073741789 + y) % 1073741789)
  | [], ys, k, x, y, h, _ => by simp at h
  | _ :: xs, [], k, x, y, _, h => by simp at h
  | _ :: xs, _ :: ys, 0, _, _, h, g => by simp at h g; subst h; subst g; simp [bothL]
  | _ :: xs, _ :: ys, k + 1, _, _, h, g => by simp only [bothL, List.getElem?_cons_succ] at *; exact both_tt h g
theorem both_tf : ∀ {xs ys : List Int} {k : Nat} {x : Int}, xs[k]? = some x → ys.length ≤ k → (bothL xs ys)[k]? = some (x % 1073741789)
  | [], ys, k, x, h, _ => by simp at h
  | _ :: xs, [], 0, _, h, _ => by simp at h; subst h; simp [bothL]
  | _ :: xs, [], k + 1, _, h, _ => by simp only [bothL, List.getElem?_cons_succ] at *; exact both_tf h (by simp)
  | _ :: xs, _ :: ys, 0, _, _, g => by simp at g
  | _ :: xs, _ :: ys, k + 1, _, h, g => by simp only [bothL, List.getElem?_cons_succ] at *; exact both_tf h (by simpa using g)
theorem both_ft : ∀ {xs ys : List Int} {k : Nat} {y : Int}, xs.length ≤ k → ys[k]? = some y → (bothL xs ys)[k]? = some ((0 + y) % 1073741789)
  | [], ys, k, y, _, h => by simp [bothL, h]
  | _ :: xs, [], k, y, _, h => by simp at h
  | _ :: xs, _ :: ys, 0, y, g, _ => by simp at g
  | _ :: xs, _ :: ys, k + 1, _, g, h => by simp only [bothL, List.getElem?_cons_succ] at *; exact both_ft (by simpa using g) h
theorem both_val (t : Int) : ∀ xs ys : List Int, E (sm t (bothL xs ys)) (sm t xs + sm t ys)
  | [], [] => E.of_eq (by simp [bothL, sm])
  | [], y :: ys => by
    have := both_val t [] ys
    simp only [bothL, List.map_cons, sm] at *
    refine ((this.mul (E.refl t)).add (E.mod _)).trans (E.of_eq (by grind))
  | x :: xs, [] => by
    refine (((both_val t xs []).mul (E.refl t)).add (E.mod x)).trans (E.of_eq ?_)
    simp [sm]
  | x :: xs, y :: ys => by
    refine (((both_val t xs ys).mul (E.refl t)).add ((E.mod _).trans ((E.mod x).add (E.refl y)))).trans (E.of_eq ?_)
    simp [sm]; grind
theorem sum_shares (t a b : Int) (more others : List Int) : (valP t (a :: more) 0 1 + valP t (b :: others) 0 1) % 1073741789 = valP t ((a + b) % 1073741789 :: bothL more others) 0 1 := by
  rw [valP_eq, valP_eq, valP_eq]
  refine E.eq ?_ (rng _).1 (rng _).2 (valR_rng _ _).1 (valR_rng _ _).2
  refine ((E.mod _).trans ((valR_sm _ _).add (valR_sm _ _))).trans (E.trans ?_ (valR_sm _ _).symm)
  refine E.symm ((((both_val t more others).mul (E.refl t)).add (E.mod _)).trans (E.of_eq ?_))
  simp [sm]; grind
theorem sum_snoc {a b : Int} {l2 l3 : List Int} {k : Nat} {x1 x2 : Pt} (h1 : x1 = ⟨(k : Int) + 1, valP ((k : Int) + 1) (a :: l2) 0 1⟩) (h2 : x2 = ⟨(k : Int) + 1, valP ((k : Int) + 1) (b :: l3) 0 1⟩) :
    dealL ((a + b) % 1073741789 :: bothL l2 l3) (k + 1) = dealL ((a + b) % 1073741789 :: bothL l2 l3) k ++ [⟨x1.X, (x1.Y + x2.Y) % 1073741789⟩] := by
  rw [dealL_succ, h1, h2, ← sum_shares]
theorem pick_mem {l x : List Pt} {turned : Bool} {k : Nat} (h : PickK l x turned k) : ∀ p ∈ x, p ∈ l := by
  obtain ⟨y, hy, rfl⟩ := h
  intro p hp
  refine List.mem_of_mem_take (hy.mem ?_)
  split at hp
  · simpa using hp
  · exact hp
theorem oth_len (s t : Int) (more ps : List Int) : (othL s t more ps).length = more.length := addM_len _ _ _
end Go.Proofs
