/- What the laws of the graph say, in plain Lean. -/
import Derived.Test.YtbfleiickdobnaaRcO
set_option autoImplicit false
set_option linter.unusedVariables false
set_option linter.unusedSimpArgs false
namespace Go.Proofs
open Go.XL
/-! ### Rising lists -/
theorem Rise.up {hi hi' : Nat} (h : hi ≤ hi') : ∀ {lo : Nat} {r : List Int}, Rise hi lo r → Rise hi' lo r
  | _, [], _ => trivial
  | lo, x :: r, ⟨j, h1, h2, h3, h4⟩ => ⟨j, h1, h2, by omega, Rise.up h h4⟩
theorem Rise.snoc {k : Nat} : ∀ {lo : Nat} {r : List Int}, lo ≤ k → Rise k lo r → Rise (k + 1) lo (r ++ [((k : Nat) : Int)])
  | lo, [], h, _ => ⟨k, rfl, h, by omega, trivial⟩
  | lo, x :: r, h, ⟨j, h1, h2, h3, h4⟩ => ⟨j, h1, h2, by omega, Rise.snoc (by omega) h4⟩
theorem someL_rise (Pl : Nat → Nat) (f : Nat) : ∀ n : Nat, Rise n 0 (someL Pl f n)
  | 0 => trivial
  | n + 1 => by
    by_cases h : Pl (f + n) = Pl 0
    · rw [someL_yes h]; exact (someL_rise Pl f n).snoc (by omega)
    · rw [someL_no h]; exact (someL_rise Pl f n).up (by omega)
def chkR (l : List Int) (n : Nat) : Prop := ∀ (i : Nat) (x : Int), l[i]? = some x → 0 ≤ x ∧ x < n ∧ ∀ y, 0 < i → l[i - 1]? = some y → y < x
theorem Rise.chk {n : Nat} : ∀ {lo : Nat} {r : List Int}, Rise n lo r → ∀ (i : Nat) (x : Int), r[i]? = some x → (lo : Int) ≤ x ∧ x < n ∧ ∀ y, 0 < i → r[i - 1]? = some y → y < x
  | _, [], _, i, x, h => by simp at h
  | lo, z :: r, ⟨j, h1, h2, h3, h4⟩, 0, x, h => by simp at h; subst h; exact ⟨by omega, by omega, fun y hy => absurd hy (by omega)⟩
  | lo, z :: r, ⟨j, h1, h2, h3, h4⟩, i + 1, x, h => by
    simp only [List.getElem?_cons_succ] at h
    obtain ⟨g1, g2, g3⟩ := Rise.chk h4 i x h
    refine ⟨by omega, g2, fun y _ hy => ?_⟩
    cases i with
    | zero => simp at hy; omega
    | succ i => exact g3 y (by omega) (by simpa using hy)
theorem Rise.chkR {n : Nat} {r : List Int} (h : Rise n 0 r) : chkR r n := fun i x hx => by have := h.chk i x hx; exact ⟨by omega, this.2⟩
def smallG (m : Tb) : Prop := m.length ≤ 10 ∧ fewG m ∧ chkG m = 0 ∧ wideM m ≤ 8
instance (m : Tb) : Decidable (smallG m) := by unfold smallG; infer_instance
/-! ### One -/
theorem cuA_no {m : Tb} (h : ¬ cuP m) : cuA m = [] := if_neg h
theorem cuB_no {m : Tb} (h : ¬ cuP m) : cuB m = [] := if_neg h
theorem trL_len_p {m : Tb} (hck : chkG m = 0) : ((trL m).length : Int) + (finG m []).p = (m.length : Int) + (wideM m : Nat) := by
  have := tree_p (chk_eq0.1 hck)
  rw [trL, if_pos hck, finG_l, List.length_map]; omega
theorem one_facts {m : Tb} (h : smallG m) : (decide (trP m) == decide (cuP m)) = false ∧ (!(decide (trP m) == decide (((trL m).length : Int) ≥ ((m.length + wideM m : Nat) : Int) - 1))) = false ∧
    (0 < m.length + wideM m → ((trL m).length : Int) ≤ ((m.length + wideM m : Nat) : Int) - 1) ∧ (m.length + wideM m = 0 → (trL m).length = 0) := by
  have hck := h.2.2.1
  have hok := chk_eq0.1 hck
  have h1 := trL_len_p hck
  have hp : 0 ≤ (finG m []).p := by rw [← good_len hok (outOk_nil m)]; omega
  have htr : trP m ↔ (finG m []).p ≤ 1 := by unfold trP; simp [hck]
  have hcu : cuP m ↔ ¬ (finG m []).p ≤ 1 := by unfold cuP; simp [hck]
  refine ⟨?_, ?_, ?_, ?_⟩
  · by_cases hx : (finG m []).p ≤ 1
    · rw [decide_eq_true (htr.2 hx), decide_eq_false (fun h => hcu.1 h hx)]; rfl
    · rw [decide_eq_false (fun h => hx (htr.1 h)), decide_eq_true (hcu.2 hx)]; rfl
  · have : decide (trP m) = decide (((trL m).length : Int) ≥ ((m.length + wideM m : Nat) : Int) - 1) := decide_eq_decide.2 (by rw [htr]; omega)
    rw [this]; simp
  · intro h0
    have := p_pos hok (outOk_nil m) ⟨0, inN_nil.2 h0⟩
    omega
  · intro h0; omega
theorem cut_facts {m : Tb} (h : smallG m) (hc : cuP m) : chkR (cuA m) m.length ∧ chkR (cuB m) (wideM m) ∧ (cuA m).length + (cuB m).length < m.length + wideM m ∧ (0 : Int) ∈ cuA m ∧
    ∀ (i j : Nat) (row : List Bool) (b : Bool), m[i]? = some row → row[j]? = some b → b = true → (((i : Nat) : Int) ∈ cuA m ↔ ((j : Nat) : Int) ∈ cuB m) := by
  have hck := h.2.2.1
  have hok := chk_eq0.1 hck
  have eA : cuA m = someL (finG m []).Pl 0 m.length := if_pos hc
  have eB : cuB m = someL (finG m []).Pl m.length (wideM m) := if_pos hc
  rw [eA, eB]
  have hnot : ¬ ∀ x, x < m.length + wideM m → (finG m []).Pl x = (finG m []).Pl 0 := by
    intro hall
    apply hc.2
    rw [p_iff hok (outOk_nil m)]
    intro x y hx hy
    rw [inN_nil] at hx hy
    rw [← (finG_inv m []).iff, hall x hx, hall y hy]
  have h0 : 0 < m.length := by
    rcases Nat.eq_zero_or_pos m.length with h0 | h0
    · exact absurd (fun x hx => by rw [wide_nil h0, h0] at hx; omega) hnot
    · exact h0
  refine ⟨(someL_rise _ _ _).chkR, (someL_rise _ _ _).chkR, ?_, someL_mem.2 ⟨by omega, by omega, rfl⟩, ?_⟩
  · have l1 := someL_len (finG m []).Pl 0 m.length
    have l2 := someL_len (finG m []).Pl m.length (wideM m)
    rcases Nat.lt_or_ge ((someL (finG m []).Pl 0 m.length).length + (someL (finG m []).Pl m.length (wideM m)).length) (m.length + wideM m) with hlt | hge
    · exact hlt
    · exfalso
      have full : ∀ f n, n ≤ (someL (finG m []).Pl f n).length → ∀ i, i < n → (finG m []).Pl (f + i) = (finG m []).Pl 0 := by
        intro f n hn i hi
        rw [someL, List.length_map] at hn
        have hle := (List.filter_sublist (p := fun i => (finG m []).Pl (f + i) == (finG m []).Pl 0) (l := List.range n)).length_le
        have := List.length_filter_eq_length_iff.1 (show ((List.range n).filter fun i => (finG m []).Pl (f + i) == (finG m []).Pl 0).length = (List.range n).length by rw [List.length_range] at hle ⊢; omega) i (List.mem_range.2 hi)
        simpa using this
      apply hnot
      intro x hx
      by_cases hx2 : x < m.length
      · have := full 0 m.length (by omega) x hx2; rwa [Nat.zero_add] at this
      · have := full m.length (wideM m) (by omega) (x - m.length) (by omega); rwa [show m.length + (x - m.length) = x by omega] at this
  · intro i j row b hi hj hb
    subst hb
    have he : (i, j) ∈ finE m [] := (mem_allE _).2 ⟨(List.getElem?_eq_some_iff.1 hi).1, by rw [List.getD_eq_getElem?_getD (l := m), hi, Option.getD_some, List.getD_eq_getElem?_getD, hj]; rfl, by simp⟩
    have hPl := (finG_inv m []).ed _ he
    obtain ⟨g1, g2, _⟩ := finE_lt hok he
    rw [someL_mem, someL_mem]
    simp only [Int.toNat_natCast, Nat.zero_add]
    simp only at hPl g1 g2
    rw [hPl]
    constructor
    · rintro ⟨_, _, h3⟩; exact ⟨by omega, by omega, h3⟩
    · rintro ⟨_, _, h3⟩; exact ⟨by omega, by omega, h3⟩
/-! ### Resist -/
def befL (a b : List Int) : Prop := a.length < b.length ∨ a.length = b.length ∧ lexL a b
theorem befL_asymm {a b : List Int} (h : befL a b) : ¬ befL b a := by
  unfold befL at *
  rintro (h2 | ⟨h2, h3⟩)
  · rcases h with h | ⟨h, _⟩ <;> omega
  · rcases h with h | ⟨_, h⟩
    · omega
    · exact lexL_asymm h h3
theorem allL_sorted (w : Nat) : ∀ k : Nat, (allL w k).Pairwise befL
  | 0 => List.Pairwise.nil
  | k + 1 => by
    rw [allL, List.pairwise_append]
    refine ⟨allL_sorted w k, ?_, ?_⟩
    · refine List.Pairwise.imp_of_mem ?_ (listsF_sorted k [] 0)
      intro a b ha hb h
      have h1 := (mem_lists0.1 ha).1
      have h2 := (mem_lists0.1 hb).1
      exact Or.inr ⟨by omega, h⟩
    · intro a ha b hb
      have h1 := (allL_mem.1 ha).1
      have h2 := (mem_lists0.1 hb).1
      exact Or.inl (by omega)
theorem find_before {L : List (List Int)} {p : List Int → Bool} (hL : L.Pairwise befL) {x : List Int} (hf : L.find? p = some x) {o : List Int} (ho : o ∈ L) (hb : befL o x) : p o = false := by
  obtain ⟨_, A, B, e, hA⟩ := List.find?_eq_some_iff_append.1 hf
  subst e
  rcases List.mem_append.1 ho with h | h
  · simpa using hA o h
  · rcases List.mem_cons.1 h with rfl | h
    · exact absurd hb (befL_asymm hb)
    · have := (List.pairwise_cons.1 (List.pairwise_append.1 hL).2.1).1 o h
      exact absurd hb (befL_asymm this)
section
variable {m : Tb} {T : Nat}
theorem reF_ok (hck : chkG m = 0) (hT : T ≤ 3) : reF m (T : Nat) = (allL (wideM m) (T + 1)).find? (badB m) := by
  rw [reF, if_pos ⟨hck, by omega, by omega⟩, Int.toNat_natCast]
theorem reE_ok (hck : chkG m = 0) (hT : T ≤ 3) : reE m (T : Nat) = 0 := by
  rw [reE, if_neg (by omega), if_neg (by omega)]
theorem reF_far {t : Int} (ht : t < 0 ∨ 3 < t) : reF m t = none := by rw [reF, if_neg (by omega)]
theorem reP_some {t : Int} (h : reP m t) : reF m t = some (reL m t) := by
  unfold reP at h; unfold reL
  cases hf : reF m t with
  | none => rw [hf] at h; cases h
  | some o => rfl
theorem reP_none {t : Int} (h : ¬ reP m t) : reF m t = none := by
  unfold reP at h
  cases hf : reF m t with
  | none => rfl
  | some o => rw [hf] at h; exact absurd rfl h
theorem reL_none {t : Int} (h : ¬ reP m t) : reL m t = [] := by rw [reL, reP_none h]; rfl
theorem reL_mem (hck : chkG m = 0) (hT : T ≤ 3) (h : reP m (T : Nat)) : (reL m (T : Nat)).length ≤ T ∧ Rise (wideM m) 0 (reL m (T : Nat)) ∧ badB m (reL m (T : Nat)) = true := by
  have hf := reP_some h
  rw [reF_ok hck hT] at hf
  have h1 := allL_mem.1 (List.mem_of_find?_eq_some hf)
  exact ⟨by omega, h1.2, List.find?_some hf⟩
theorem reL_rise (hck : chkG m = 0) (hT : T ≤ 3) : (reL m (T : Nat)).length ≤ T ∧ Rise (wideM m) 0 (reL m (T : Nat)) := by
  by_cases h : reP m (T : Nat)
  · exact ⟨(reL_mem hck hT h).1, (reL_mem hck hT h).2.1⟩
  · rw [reL_none h]; exact ⟨by simp, trivial⟩
theorem trP_wo (hck : chkG m = 0) {o : List Int} (ho : Rise (wideM m) 0 o) : trP (WoM m o) ↔ badB m o = false := by
  have hok := chk_eq0.1 hck
  rw [bad_wo hok ho.out, decide_eq_false_iff_not, Decidable.not_not]
  unfold trP
  rw [chk_eq0.2 (WoM_ok hok)]; simp
theorem re_bad (hck : chkG m = 0) (hT : T ≤ 3) (h : reP m (T : Nat)) : ¬ trP (WoM m (reL m (T : Nat))) := by
  obtain ⟨_, h2, h3⟩ := reL_mem hck hT h
  rw [trP_wo hck h2, h3]; simp
def befP (m : Tb) (t : Int) (o : List Int) : Prop := ¬ reP m t ∨ befL o (reL m t)
noncomputable instance (m : Tb) (t : Int) (o : List Int) : Decidable (befP m t o) := Classical.propDecidable _
theorem re_before (hck : chkG m = 0) (hT : T ≤ 3) {o : List Int} (ho : Rise (wideM m) 0 o) (hl : o.length ≤ T) (hb : befP m (T : Nat) o) : trP (WoM m o) := by
  rw [trP_wo hck ho]
  have hm : o ∈ allL (wideM m) (T + 1) := allL_mem.2 ⟨by omega, ho⟩
  by_cases h : reP m (T : Nat)
  · have hf := reP_some h
    rw [reF_ok hck hT] at hf
    exact find_before (allL_sorted _ _) hf hm (hb.resolve_left (fun hn => hn h))
  · have hf := reP_none h
    rw [reF_ok hck hT] at hf
    have := List.find?_eq_none.1 hf o hm
    simpa using this
theorem re_less (hck : chkG m = 0) (hT : T ≤ 3) (h : reP m ((T - 1 : Nat) : Int)) : reP m (T : Nat) ∧ reL m ((T - 1 : Nat) : Int) = reL m (T : Nat) := by
  cases T with
  | zero => exact ⟨h, rfl⟩
  | succ T =>
    have hf := reP_some h
    rw [show T + 1 - 1 = T by omega, reF_ok hck (by omega)] at hf
    have e : reF m ((T + 1 : Nat) : Int) = some (reL m (T : Nat)) := by
      rw [reF_ok hck hT, allL, List.find?_append, hf]; rfl
    refine ⟨by unfold reP; rw [e]; rfl, ?_⟩
    show reL m (T : Nat) = _
    rw [show reL m ((T + 1 : Nat) : Int) = (reF m ((T + 1 : Nat) : Int)).getD [] from rfl, e]; rfl
theorem re_more (hck : chkG m = 0) (hT : T ≤ 3) (h : ¬ reP m ((T - 1 : Nat) : Int)) (h2 : reP m (T : Nat)) : T - 1 < (reL m (T : Nat)).length := by
  cases T with
  | zero => exact absurd h2 h
  | succ T =>
    have hf := reP_none h
    rw [show T + 1 - 1 = T by omega, reF_ok hck (by omega)] at hf
    have hf2 := reP_some h2
    rw [reF_ok hck hT, allL, List.find?_append, hf] at hf2
    have hf3 : (listsF (wideM m) (T + 1) [] 0).find? (badB m) = some (reL m ((T + 1 : Nat) : Int)) := hf2
    have h3 := (mem_lists0.1 (List.mem_of_find?_eq_some hf3)).1
    omega
end
theorem lexL_at : ∀ {a b : List Int} (i : Nat) {x y : Int}, a.take i = b.take i → a[i]? = some x → b[i]? = some y → x ≠ y → (lexL a b ↔ x < y)
  | [], _, i, x, y, _, h, _, _ => by simp at h
  | _ :: _, [], i, x, y, _, _, h, _ => by simp at h
  | p :: a, q :: b, 0, x, y, _, h1, h2, hn => by
    simp at h1 h2; subst h1; subst h2
    simp only [lexL]; constructor
    · rintro (h | ⟨h, _⟩)
      · exact h
      · exact absurd h hn
    · exact Or.inl
  | p :: a, q :: b, i + 1, x, y, ht, h1, h2, hn => by
    simp only [List.take_succ_cons, List.cons.injEq] at ht
    obtain ⟨rfl, ht⟩ := ht
    simp only [lexL, Int.lt_irrefl, false_or, true_and]
    exact lexL_at i ht (by simpa using h1) (by simpa using h2) hn
section
variable {m : Tb} {t : Int} {o : List Int}
theorem bef_not (h : ¬ reP m t) : (¬ reP m t ∨ o.length < (reL m t).length) ↔ befP m t o := ⟨fun _ => Or.inl h, fun _ => Or.inl h⟩
theorem bef_len (h : ¬ (o.length : Int) = ((reL m t).length : Nat)) : (¬ reP m t ∨ o.length < (reL m t).length) ↔ befP m t o := by
  unfold befP befL
  constructor
  · rintro (h1 | h1)
    · exact Or.inl h1
    · exact Or.inr (Or.inl h1)
  · rintro (h1 | h1 | ⟨h1, _⟩)
    · exact Or.inl h1
    · exact Or.inr h1
    · omega
theorem bef_all (hr : reP m t) (hl : o.length = (reL m t).length) (he : o.take (reL m t).length = (reL m t).take (reL m t).length) : (¬ reP m t ∨ o.length < (reL m t).length) ↔ befP m t o := by
  rw [List.take_length, List.take_of_length_le (by omega)] at he
  unfold befP befL
  constructor
  · rintro (h1 | h1)
    · exact Or.inl h1
    · omega
  · rintro (h1 | h1 | ⟨_, h1⟩)
    · exact Or.inl h1
    · exact Or.inr h1
    · rw [he] at h1; exact absurd h1 lexL_irrefl
theorem bef_at (hr : reP m t) (hl : o.length = (reL m t).length) {i : Nat} {x y : Int} (he : o.take i = (reL m t).take i) (hx : o[i]? = some x) (hy : (reL m t)[i]? = some y) (hn : x ≠ y) : x < y ↔ befP m t o := by
  rw [← lexL_at i he hx hy hn]
  unfold befP befL
  constructor
  · intro h; exact Or.inr (Or.inr ⟨hl, h⟩)
  · rintro (h1 | h1 | ⟨_, h1⟩)
    · exact absurd hr h1
    · omega
    · exact h1
end
end Go.Proofs
