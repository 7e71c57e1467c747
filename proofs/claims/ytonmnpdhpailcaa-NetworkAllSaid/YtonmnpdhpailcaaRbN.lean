/- Plain facts for the laws of the links. No program stands here. -/
import Derived.Test.YtonmnpdhpailcaaRbM
set_option autoImplicit false
set_option linter.unusedVariables false
set_option linter.unusedSimpArgs false
namespace Go.Proofs
open Go.XL
theorem send_ok {n : Nt} {p : Pk} (h : netOk n) (hp : pkOk p) (hl : n.q.length < 4096) : sendV n p = (⟨n.q ++ [p], n.ap⟩, 0) := by
  rw [sendV, if_neg (fun h2 => h2 ⟨h, hp⟩), if_neg (by omega)]
theorem net_snoc {n : Nt} {p : Pk} (h : netOk n) (hp : pkOk p) (hl : n.q.length < 4096) : netOk ⟨n.q ++ [p], n.ap⟩ :=
  ⟨by simp; omega, fun x hx => by rcases List.mem_append.1 hx with h1 | h1; exact h.2.1 x h1; simp at h1; subst h1; exact hp, h.2.2⟩
theorem without_mem {q : List Pk} {k : Nat} {x : Pk} (h : x ∈ withoutL q k) : x ∈ q := by
  rcases List.mem_append.1 h with h | h
  · exact List.mem_of_mem_take h
  · exact List.mem_of_mem_drop h
theorem without_len {q : List Pk} {k : Nat} (h : k < q.length) : (withoutL q k).length + 1 = q.length := by
  simp [withoutL]; omega
theorem net_without {n : Nt} {k : Nat} (h : netOk n) : netOk ⟨withoutL n.q k, n.ap⟩ := by
  refine ⟨?_, fun x hx => h.2.1 x (without_mem hx), h.2.2⟩
  have := h.1
  show (withoutL n.q k).length ≤ 4096
  rcases Nat.lt_or_ge k n.q.length with h1 | h1
  · have := without_len h1; omega
  · rw [withoutL, List.take_of_length_le h1, List.drop_eq_nil_of_le (by omega)]; simpa using this
theorem lost {n : Nt} {k : Nat} {x : Pk} (h : netOk n) (h40 : n.q.length ≤ 40) (hx : n.q[k]? = some x) :
    repV n k = (⟨n.q ++ [x], n.ap⟩, 0) ∧ askE ⟨n.q ++ [x], n.ap⟩ k = 0 ∧ sendV (delN n k) x = (⟨withoutL n.q k ++ [x], n.ap⟩, 0) ∧ delN ⟨n.q ++ [x], n.ap⟩ k = ⟨withoutL n.q k ++ [x], n.ap⟩ ∧ askE n k = 0 := by
  obtain ⟨ea, ep, en, er⟩ := del_eq h hx
  have hk := (List.getElem?_eq_some_iff.1 hx).1
  have hpx : pkOk x := h.2.1 x (List.mem_of_getElem? hx)
  have hnet2 : netOk ⟨n.q ++ [x], n.ap⟩ := net_snoc h hpx (by omega)
  have hask2 : askE ⟨n.q ++ [x], n.ap⟩ k = 0 := ask_ok hnet2 (by simp; omega)
  have hw := without_len hk
  refine ⟨by rw [er, send_ok h hpx (by omega)], hask2, ?_, ?_, ea⟩
  · rw [en, send_ok (net_without h) hpx (by show (withoutL n.q k).length < 4096; omega)]
  · rw [delN, if_neg (by rw [hask2]; decide), Int.toNat_natCast]
    show (⟨withoutL (n.q ++ [x]) k, n.ap⟩ : Nt) = _
    rw [withoutL, withoutL, List.take_append_of_le_length (by omega), List.drop_append_of_le_length (by omega), List.append_assoc]
theorem allP_nodup : allP.Pairwise lexLt := by decide +kernel
theorem allP_link : ∀ x ∈ allP, linkOk x := by decide +kernel
theorem mem_allP {x : Int × Int} : x ∈ allP ↔ linkOk x := by
  refine ⟨allP_link x, fun h => ?_⟩
  unfold linkOk at h
  rw [allP, List.mem_flatMap]
  refine ⟨x.1.toNat, List.mem_range.2 (by omega), ?_⟩
  rw [rowP, List.mem_map]
  refine ⟨x.2.toNat, by rw [List.mem_range'_1]; omega, ?_⟩
  exact Prod.ext (by show ((x.1.toNat : Nat) : Int) = x.1; omega) (by show ((x.2.toNat : Nat) : Int) = x.2; omega)
theorem cut_ap {n : Nt} {ch : Int × Int} {on : Bool} : apOk (cutL n ch on) :=
  ⟨fun x hx => allP_link x (List.mem_filter.1 hx).1, List.Pairwise.sublist List.filter_sublist allP_nodup⟩
theorem mem_cut {n : Nt} {ch x : Int × Int} {on : Bool} (hn : netOk n) (hc : linkOk ch) : x ∈ cutL n ch on ↔ (if x = ch then on = true else x ∈ n.ap) := by
  rw [cutL, List.mem_filter, keepB]
  split
  · rename_i h; subst h; exact ⟨fun h => h.2, fun h => ⟨mem_allP.2 hc, h⟩⟩
  · simp only [decide_eq_true_eq]
    exact ⟨fun h => h.2, fun h => ⟨mem_allP.2 (hn.2.2.1 x h), h⟩⟩
theorem cut_net {n : Nt} {ch : Int × Int} {on : Bool} (h : netOk n) : netOk ⟨n.q, cutL n ch on⟩ := ⟨h.1, h.2.1, cut_ap⟩
/-- two valid lists of links with the same members are equal -/
theorem cut_congr {n m : Nt} {ch : Int × Int} {a b : Bool} (h : ∀ x ∈ allP, keepB n ch a x = keepB m ch b x) : cutL n ch a = cutL m ch b := by
  rw [cutL, cutL]; exact List.filter_congr h
theorem cut_again {n : Nt} {ch : Int × Int} {a b : Bool} (hn : netOk n) (hc : linkOk ch) : cutL ⟨n.q, cutL n ch a⟩ ch b = cutL n ch b := by
  refine cut_congr fun x hx => ?_
  unfold keepB
  split
  · rfl
  · rename_i hne
    have := mem_cut (x := x) (on := a) hn hc
    rw [if_neg hne] at this
    rw [decide_eq_decide]; exact this
theorem filter_count {l : List (Int × Int)} {ch : Int × Int} {q : Int × Int → Bool} (hnd : l.Nodup) (hm : ch ∈ l) :
    (l.filter fun x => if x = ch then true else q x).length = (l.filter fun x => if x = ch then false else q x).length + 1 := by
  induction l with
  | nil => cases hm
  | cons y l ih =>
    rw [List.nodup_cons] at hnd
    by_cases h : y = ch
    · subst h
      have h1 : ∀ b : Bool, (l.filter fun x => if x = y then b else q x) = l.filter q := fun b => List.filter_congr fun x hx => by rw [if_neg (fun e => hnd.1 (by rw [← e]; exact hx))]
      rw [List.filter_cons_of_pos (by simp), List.filter_cons_of_neg (by simp), h1, h1, List.length_cons]
    · have h2 : ch ∈ l := by rcases List.mem_cons.1 hm with h3 | h3; exact absurd h3.symm h; exact h3
      have := ih hnd.2 h2
      simp only [List.filter_cons, if_neg h]
      cases q y
      · simp only [Bool.false_eq_true, if_false]; exact this
      · simp only [if_true, List.length_cons, this]
theorem cut_count {n : Nt} {ch : Int × Int} (hc : linkOk ch) : (cutL n ch true).length = (cutL n ch false).length + 1 := by
  refine filter_count ?_ (mem_allP.2 hc)
  exact List.Pairwise.imp (fun {a b} h e => by subst e; unfold lexLt at h; omega) allP_nodup
theorem lnk_comm (a b : Int) : lnk a b = lnk b a := by
  simp only [lnk]; rw [Int.min_comm, Int.max_comm]
theorem cutN_ok {n : Nt} {a b : Int} {on : Bool} (h : netOk n) (hs : site a ∧ site b ∧ a ≠ b) : cutE n a b = 0 ∧ cutN n a b on = ⟨n.q, cutL n (lnk a b) on⟩ := by
  have : cutE n a b = 0 := by rw [cutE, if_neg (fun h2 => h2 h), if_neg (fun h2 => h2 hs)]
  exact ⟨this, by rw [cutN, this, if_neg (by decide)]⟩
theorem cutE_site {n : Nt} {a b : Int} (h : cutE n a b = 0) : site a ∧ site b ∧ a ≠ b := by
  unfold cutE at h
  split at h
  · cases h
  · split at h
    · cases h
    · exact Decidable.not_not.1 (by assumption)
theorem lnk_eq {a b c d : Int} (h : lnk a b = lnk c d) : (a = c ∧ b = d) ∨ (a = d ∧ b = c) := by
  simp only [lnk, Prod.mk.injEq] at h
  omega
/-- what is delivered over links of which one was cut, and mended -/
theorem del_cut {n : Nt} {a b : Int} {k : Nat} {x : Pk} (h : netOk n) (hs : site a ∧ site b ∧ a ≠ b) (hx : n.q[k]? = some x) (on : Bool) :
    askE (cutN n a b on) k = 0 ∧ delP (cutN n a b on) k = if lnk x.From x.To = lnk a b then (if on then pk0 else x) else if lnk x.From x.To ∈ n.ap then pk0 else x := by
  obtain ⟨h1, h2⟩ := cutN_ok (on := on) h hs
  rw [h2]
  obtain ⟨ea, ep, _, _⟩ := del_eq (n := ⟨n.q, cutL n (lnk a b) on⟩) (cut_net h) hx
  refine ⟨ea, ?_⟩
  rw [ep]
  show (if lnk x.From x.To ∈ cutL n (lnk a b) on then pk0 else x) = _
  have := mem_cut (n := n) (ch := lnk a b) (x := lnk x.From x.To) (on := on) h ((link_site a b).2 hs)
  by_cases he : lnk x.From x.To = lnk a b
  · rw [if_pos he] at this ⊢
    cases on <;> simp [this]
  · rw [if_neg he] at this ⊢
    simp only [this]
theorem cutE_one {n : Nt} {a b : Int} (h : netOk n) (h2 : cutE n a b ≠ 0) : cutE n a b = 1 := by
  unfold cutE at *
  rw [if_neg (fun h5 => h5 h)] at *
  split at h2
  · rename_i h3; rw [if_pos h3]
  · exact absurd rfl h2
theorem cuts_own {n : Nt} {a b : Int} {k : Nat} {x : Pk} (h : netOk n) (hs : site a ∧ site b ∧ a ≠ b) (hx : n.q[k]? = some x) :
    (((delP (cutN n a b false) k).From = a ∧ (delP (cutN n a b false) k).To = b ∨ (delP (cutN n a b false) k).From = b ∧ (delP (cutN n a b false) k).To = a) ∧ a ≠ b ∧ delP (cutN n a b true) k = pk0) ∨
    (¬ ((delP (cutN n a b false) k).From = a ∧ (delP (cutN n a b false) k).To = b ∨ (delP (cutN n a b false) k).From = b ∧ (delP (cutN n a b false) k).To = a) ∧ a ≠ b ∧ delP (cutN n a b true) k = delP (cutN n a b false) k) := by
  obtain ⟨_, d2⟩ := del_cut h hs hx true
  obtain ⟨_, d4⟩ := del_cut h hs hx false
  rw [d2, d4]
  by_cases he : lnk x.From x.To = lnk a b
  · simp only [if_pos he, if_true]
    exact Or.inl ⟨lnk_eq he, hs.2.2, trivial⟩
  · simp only [if_neg he]
    refine Or.inr ⟨?_, hs.2.2, trivial⟩
    split
    · have := hs.2.2; simp only [pk0]; omega
    · intro h2
      apply he
      rcases h2 with ⟨h3, h4⟩ | ⟨h3, h4⟩
      · rw [h3, h4]
      · rw [h3, h4, lnk_comm]
/-- one number, and then the first ones -/
def mvL (a : Int) (k : Nat) : List Int := a :: (List.range k).map fun j : Nat => (j : Int)
theorem mvL_succ {a : Int} {k : Nat} : mvL a (k + 1) = mvL a k ++ [(k : Int)] := by simp [mvL, List.range_succ]
theorem mvL_len (a : Int) (k : Nat) : (mvL a k).length = k + 1 := by simp [mvL]
end Go.Proofs
