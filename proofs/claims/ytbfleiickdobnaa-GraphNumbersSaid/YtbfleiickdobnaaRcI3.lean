/- Tables in which two entries, and two judges, have changed their places. -/
import Derived.Test.YtbfleiickdobnaaRcI
import Derived.Test.YtbfleiickdobnaaXMd
set_option autoImplicit false
set_option linter.unusedVariables false
set_option linter.unusedSimpArgs false
namespace Go.Proofs
open Go.XL
def sw (a b x : Nat) : Nat := if x = a then b else if x = b then a else x
theorem sw_sw (a b x : Nat) : sw a b (sw a b x) = x := by
  unfold sw
  by_cases h1 : x = a
  · subst h1
    rw [if_pos rfl]
    by_cases h2 : b = x
    · subst h2; simp
    · rw [if_neg h2, if_pos rfl]
  · rw [if_neg h1]
    by_cases h2 : x = b
    · subst h2; rw [if_pos rfl, if_pos rfl]
    · rw [if_neg h2, if_neg h1, if_neg h2]
theorem sw_lt {a b x n : Nat} (ha : a < n) (hb : b < n) : sw a b x < n ↔ x < n := by
  unfold sw
  split
  · rename_i h; subst h; exact ⟨fun _ => ha, fun _ => hb⟩
  · split
    · rename_i h; subst h; exact ⟨fun _ => hb, fun _ => ha⟩
    · exact Iff.rfl
/-- as the statement does it: l[a], l[b] = l[b], l[a] -/
def swapL {α : Type} (l : List α) (a b : Nat) (d : α) : List α := (l.set a (l.getD b d)).set b (l.getD a d)
theorem swapL_len {α : Type} (l : List α) (a b : Nat) (d : α) : (swapL l a b d).length = l.length := by simp [swapL]
theorem swapL_get {α : Type} {l : List α} {a b : Nat} {d : α} (ha : a < l.length) (hb : b < l.length) (i : Nat) : (swapL l a b d).getD i d = l.getD (sw a b i) d := by
  rw [swapL, getD_set (by simpa using hb), getD_set ha]
  unfold sw
  by_cases h1 : i = b
  · subst h1
    rw [if_pos rfl]
    split
    · rename_i h; subst h; rfl
    · rw [if_pos rfl]
  · rw [if_neg h1, if_neg h1]
    split <;> rfl
def swapT (m : Tb) (n o i k : Nat) : Tb := swapL (m.map fun r => swapL r i k false) n o []
section
variable {m : Tb} {n o i k : Nat}
theorem swapT_get (hok : okG m) (hn : n < m.length) (ho : o < m.length) (hi : i < wideM m) (hk : k < wideM m) (a b : Nat) (ha : a < m.length) :
    ((swapT m n o i k).getD a []).getD b false = (m.getD (sw n o a) []).getD (sw i k b) false := by
  have ha2 : sw n o a < m.length := (sw_lt hn ho).2 ha
  rw [swapT, swapL_get (by simpa using hn) (by simpa using ho)]
  have e : (m.map fun r => swapL r i k false).getD (sw n o a) [] = swapL (m.getD (sw n o a) []) i k false := by
    rw [List.getD_eq_getElem?_getD, List.getElem?_map, List.getD_eq_getElem?_getD, List.getElem?_eq_getElem ha2]; rfl
  rw [e, swapL_get (by rw [row_len hok ha2]; exact hi) (by rw [row_len hok ha2]; exact hk)]
theorem swapT_dims (hok : okG m) (hn : n < m.length) (ho : o < m.length) : Dims m (swapT m n o i k) := by
  refine ⟨by simp [swapT, swapL_len], fun a => ?_⟩
  rw [swapT, swapL_get (by simpa using hn) (by simpa using ho)]
  rcases Nat.lt_or_ge a m.length with ha | ha
  · have ha2 : sw n o a < m.length := (sw_lt hn ho).2 ha
    have e : (m.map fun r => swapL r i k false).getD (sw n o a) [] = swapL (m.getD (sw n o a) []) i k false := by
      rw [List.getD_eq_getElem?_getD, List.getElem?_map, List.getD_eq_getElem?_getD, List.getElem?_eq_getElem ha2]; rfl
    rw [e, swapL_len, row_len hok ha2, row_len hok ha]
  · have ha2 : m.length ≤ sw n o a := by
      rcases Nat.lt_or_ge (sw n o a) m.length with h | h
      · exact absurd ((sw_lt hn ho).1 h) (by omega)
      · exact h
    rw [List.getD_eq_getElem?_getD, List.getElem?_eq_none (by simpa using ha2), List.getD_eq_getElem?_getD, List.getElem?_eq_none ha]
/-- how the nodes are numbered anew -/
def swN (m : Tb) (n o i k : Nat) (x : Nat) : Nat := if x < m.length then sw n o x else m.length + sw i k (x - m.length)
theorem swN_e (hn : n < m.length) (ho : o < m.length) {x : Nat} (h : x < m.length) : swN m n o i k x = sw n o x := if_pos h
theorem swN_j (b : Nat) : swN m n o i k (m.length + b) = m.length + sw i k b := by
  rw [swN, if_neg (by omega), Nat.add_sub_cancel_left]
theorem swN_swN (hn : n < m.length) (ho : o < m.length) (x : Nat) : swN m n o i k (swN m n o i k x) = x := by
  by_cases h : x < m.length
  · rw [swN_e hn ho h, swN_e hn ho ((sw_lt hn ho).2 h), sw_sw]
  · obtain ⟨b, rfl⟩ : ∃ b, x = m.length + b := ⟨x - m.length, by omega⟩
    rw [swN_j, swN_j, sw_sw]
theorem swN_lt (hn : n < m.length) (ho : o < m.length) (hi : i < wideM m) (hk : k < wideM m) (x : Nat) : swN m n o i k x < m.length + wideM m ↔ x < m.length + wideM m := by
  by_cases h : x < m.length
  · rw [swN_e hn ho h]; have := (sw_lt hn ho (x := x)).2 h; omega
  · obtain ⟨b, rfl⟩ : ∃ b, x = m.length + b := ⟨x - m.length, by omega⟩
    rw [swN_j]; have := sw_lt hi hk (x := b); omega
def swO (i k : Nat) (out out2 : List Int) : Prop := ∀ j : Nat, ((j : Nat) : Int) ∈ out2 ↔ ((sw i k j : Nat) : Int) ∈ out
theorem swO_back {out out2 : List Int} (h : swO i k out out2) : swO i k out2 out := fun j => by rw [h, sw_sw]
theorem sw_edges (hok : okG m) (hn : n < m.length) (ho : o < m.length) (hi : i < wideM m) (hk : k < wideM m) {out out2 : List Int} (hO : swO i k out out2) (e : Nat × Nat) :
    e ∈ finE (swapT m n o i k) out2 ↔ (sw n o e.1, sw i k e.2) ∈ finE m out := by
  have hd := swapT_dims (i := i) (k := k) hok hn ho
  show e ∈ allE _ _ _ ↔ _ ∈ allE _ _ _
  rw [mem_allE, mem_allE, hd.len]
  simp only
  constructor
  · rintro ⟨h1, h2, h3⟩
    rw [swapT_get hok hn ho hi hk _ _ h1] at h2
    exact ⟨(sw_lt hn ho).2 h1, h2, fun h => h3 ((hO _).2 h)⟩
  · rintro ⟨h1, h2, h3⟩
    have h1' := (sw_lt hn ho).1 h1
    exact ⟨h1', by rw [swapT_get hok hn ho hi hk _ _ h1']; exact h2, fun h => h3 ((hO _).1 h)⟩
theorem sw_cn (hok : okG m) (hn : n < m.length) (ho : o < m.length) (hi : i < wideM m) (hk : k < wideM m) {out out2 : List Int} (hO : swO i k out out2) (x y : Nat) :
    Cn (swapT m n o i k).length (finE (swapT m n o i k) out2) x y ↔ Cn m.length (finE m out) (swN m n o i k x) (swN m n o i k y) := by
  have hd := swapT_dims (i := i) (k := k) hok hn ho
  rw [hd.len]
  constructor
  · intro h
    refine Cn.map (φ := swN m n o i k) (fun e he => ?_) h
    have h2 := (sw_edges hok hn ho hi hk hO e).1 he
    have h3 := (finE_lt (hd.ok hok) he).1
    rw [hd.len] at h3
    rw [swN_e hn ho h3, swN_j]
    exact Cn.edge (sw n o e.1, sw i k e.2) h2
  · intro h
    have := Cn.map (n' := m.length) (E' := finE (swapT m n o i k) out2) (φ := swN m n o i k) (fun e he => by
      have h3 := (finE_lt hok he).1
      rw [swN_e hn ho h3, swN_j]
      refine Cn.edge (sw n o e.1, sw i k e.2) ((sw_edges hok hn ho hi hk hO _).2 ?_)
      simp only [sw_sw]; exact he) h
    rwa [swN_swN hn ho, swN_swN hn ho] at this
theorem sw_in (hok : okG m) (hn : n < m.length) (ho : o < m.length) (hi : i < wideM m) (hk : k < wideM m) {out out2 : List Int} (hO : swO i k out out2) (x : Nat) : inN (swapT m n o i k) out2 (swN m n o i k x) ↔ inN m out x := by
  have hd := swapT_dims (i := i) (k := k) hok hn ho
  unfold inN
  rw [hd.len, hd.wide, swN_lt hn ho hi hk]
  refine and_congr_right fun hx => ?_
  by_cases h : x < m.length
  · rw [swN_e hn ho h]
    have := (sw_lt hn ho (x := x)).2 h
    exact ⟨fun _ j hj => by omega, fun _ j hj => by omega⟩
  · obtain ⟨b, rfl⟩ : ∃ b, x = m.length + b := ⟨x - m.length, by omega⟩
    rw [swN_j]
    constructor
    · intro h2 j hj
      obtain rfl : j = b := by omega
      intro hm
      exact h2 (sw i k j) rfl ((hO _).2 (by rw [sw_sw]; exact hm))
    · intro h2 j hj hm
      obtain rfl : j = sw i k b := by omega
      exact h2 b rfl (by have := (hO _).1 hm; rwa [sw_sw] at this)
theorem sw_allC (hok : okG m) (hn : n < m.length) (ho : o < m.length) (hi : i < wideM m) (hk : k < wideM m) {out out2 : List Int} (hO : swO i k out out2) : AllC (swapT m n o i k) out2 ↔ AllC m out := by
  constructor
  · intro h x y hx hy
    have := (sw_cn hok hn ho hi hk hO _ _).1 (h _ _ ((sw_in hok hn ho hi hk hO x).2 hx) ((sw_in hok hn ho hi hk hO y).2 hy))
    rwa [swN_swN hn ho, swN_swN hn ho] at this
  · intro h x y hx hy
    rw [sw_cn hok hn ho hi hk hO]
    refine h _ _ ?_ ?_
    · rw [← sw_in hok hn ho hi hk hO, swN_swN hn ho]; exact hx
    · rw [← sw_in hok hn ho hi hk hO, swN_swN hn ho]; exact hy
theorem nodup_map_of {l : List Nat} {f : Nat → Nat} : l.Nodup → (∀ x ∈ l, ∀ y ∈ l, f x = f y → x = y) → (l.map f).Nodup := by
  induction l with
  | nil => intro _ _; exact List.nodup_nil
  | cons a r ih =>
    intro hnd hf
    obtain ⟨h1, h2⟩ := List.nodup_cons.1 hnd
    rw [List.map_cons, List.nodup_cons]
    refine ⟨fun hm => ?_, ih h2 fun x hx y hy => hf x (by simp [hx]) y (by simp [hy])⟩
    obtain ⟨b, hb, he⟩ := List.mem_map.1 hm
    have := hf b (by simp [hb]) a (by simp) he
    subst this; exact h1 hb
theorem roots_le {N : Nat} {s1 s2 : GS} (h1 : RInv N s1) (h2 : RInv N s2) {φ : Nat → Nat} (hφ : ∀ x, x < N → φ x < N) (hc : ∀ x y, x < N → y < N → s2.Pl (φ x) = s2.Pl (φ y) → s1.Pl x = s1.Pl y) : (rootsL N s1.Pl).length ≤ (rootsL N s2.Pl).length := by
  have : ((rootsL N s1.Pl).map fun r => s2.Pl (φ r)).length ≤ (rootsL N s2.Pl).length := by
    apply List.Nodup.length_le_of_subset
    · refine nodup_map_of (roots_nodup _ _) fun x hx y hy h => ?_
      rw [mem_roots] at hx hy
      have := hc x y hx.1 hy.1 h
      rw [hx.2, hy.2] at this; exact this
    · intro z hz
      obtain ⟨x, hx, rfl⟩ := List.mem_map.1 hz
      rw [mem_roots] at hx ⊢
      exact ⟨h2.lt _ (hφ _ hx.1), h2.idem _⟩
  simpa using this
theorem sw_nil : swO i k [] [] := fun j => by simp
theorem sw_p (hok : okG m) (hn : n < m.length) (ho : o < m.length) (hi : i < wideM m) (hk : k < wideM m) : (finG (swapT m n o i k) []).p = (finG m []).p := by
  have hd := swapT_dims (i := i) (k := k) hok hn ho
  have hok2 := hd.ok hok
  have h1 := (finG_p (out := []) hok).1
  have h2 := (finG_p (out := []) hok2).1
  have r1 := finG_roots (out := []) hok
  have r2 := finG_roots (out := []) hok2
  rw [hd.len, hd.wide] at r2 h2
  have hcn := fun x y => sw_cn hok hn ho hi hk sw_nil x y
  have l1 := roots_le r2 r1 (φ := swN m n o i k) (fun x hx => (swN_lt hn ho hi hk x).2 hx) (fun x y _ _ h => by
    rw [(finG_inv m []).iff] at h
    rw [(finG_inv _ []).iff]
    exact (hcn x y).2 h)
  have l2 := roots_le r1 r2 (φ := swN m n o i k) (fun x hx => (swN_lt hn ho hi hk x).2 hx) (fun x y _ _ h => by
    rw [(finG_inv _ []).iff] at h
    have := (hcn _ _).1 h
    rw [swN_swN hn ho, swN_swN hn ho] at this
    rw [(finG_inv m []).iff]; exact this)
  omega
theorem sw_tr (hok : okG m) (hn : n < m.length) (ho : o < m.length) (hi : i < wideM m) (hk : k < wideM m) : (trP m ↔ trP (swapT m n o i k)) ∧ (trL m).length = (trL (swapT m n o i k)).length := by
  have hd := swapT_dims (i := i) (k := k) hok hn ho
  have hok2 := hd.ok hok
  have hp := sw_p (i := i) (k := k) hok hn ho hi hk
  have h1 := trL_len_p (chk_eq0.2 hok)
  have h2 := trL_len_p (chk_eq0.2 hok2)
  rw [hd.len, hd.wide] at h2
  constructor
  · unfold trP; rw [chk_eq0.2 hok, chk_eq0.2 hok2, hp]
  · omega
/-! ### Which judges all depend on -/
def ofSet (w : Nat) (q : Nat → Bool) : List Int := ((List.range w).filter q).map fun j : Nat => (j : Int)
theorem ofSet_rise (q : Nat → Bool) : ∀ w : Nat, Rise w 0 (ofSet w q)
  | 0 => trivial
  | w + 1 => by
    have e : ofSet (w + 1) q = ofSet w q ++ (if q w = true then [((w : Nat) : Int)] else []) := by
      simp only [ofSet, List.range_succ, List.filter_append, List.map_append]
      cases h : q w <;> simp [h]
    rw [e]
    split
    · exact (ofSet_rise q w).snoc (by omega)
    · rw [List.append_nil]; exact (ofSet_rise q w).up (by omega)
theorem mem_ofSet {w : Nat} {q : Nat → Bool} {j : Nat} : ((j : Nat) : Int) ∈ ofSet w q ↔ j < w ∧ q j = true := by
  simp only [ofSet, List.mem_map, List.mem_filter, List.mem_range]
  constructor
  · rintro ⟨x, h, e⟩; obtain rfl : x = j := by omega
    exact h
  · intro h; exact ⟨j, h, rfl⟩
/-- the same judges under their new numbers -/
def swS (w i k : Nat) (out : List Int) : List Int := ofSet w fun j => decide (((sw i k j : Nat) : Int) ∈ out)
theorem swS_O {w : Nat} (hi : i < w) (hk : k < w) {out : List Int} (hr : Rise w 0 out) : swO i k out (swS w i k out) := by
  intro j
  rw [swS, mem_ofSet, decide_eq_true_iff]
  refine ⟨fun h => h.2, fun h => ⟨?_, h⟩⟩
  have := hr.mem _ h
  rw [← sw_lt hi hk]; omega
theorem swS_len {w : Nat} (hi : i < w) (hk : k < w) {out : List Int} (hr : Rise w 0 out) : (swS w i k out).length = out.length := by
  have hO := swS_O hi hk hr
  have h0 := ofSet_rise (fun j => decide (((sw i k j : Nat) : Int) ∈ out)) w
  have inj : ∀ l : List Int, Rise w 0 l → l.length = ((List.range w).filter fun j : Nat => decide (((j : Nat) : Int) ∈ l)).length := by
    intro l hl
    have hnd : ((List.range w).filter fun j : Nat => decide (((j : Nat) : Int) ∈ l)).Nodup := List.filter_sublist.nodup List.nodup_range
    apply Nat.le_antisymm
    · have : (l.map Int.toNat).length ≤ ((List.range w).filter fun j : Nat => decide (((j : Nat) : Int) ∈ l)).length := by
        apply List.Nodup.length_le_of_subset
        · have : ∀ l2 : List Int, l2.Nodup → (∀ x ∈ l2, 0 ≤ x) → (l2.map Int.toNat).Nodup := by
            intro l2
            induction l2 with
            | nil => intro _ _; exact List.nodup_nil
            | cons a r ih =>
              intro hnd hp
              obtain ⟨h1, h2⟩ := List.nodup_cons.1 hnd
              rw [List.map_cons, List.nodup_cons]
              refine ⟨fun hm => ?_, ih h2 fun x hx => hp x (by simp [hx])⟩
              obtain ⟨b, hb, he⟩ := List.mem_map.1 hm
              have ha0 := hp a (by simp)
              have hb0 := hp b (by simp [hb])
              exact h1 ((show b = a by omega) ▸ hb)
          exact this l hl.nodup fun x hx => by have := hl.mem x hx; omega
        · intro z hz
          obtain ⟨x, hx, rfl⟩ := List.mem_map.1 hz
          have := hl.mem x hx
          rw [List.mem_filter, List.mem_range, decide_eq_true_iff]
          exact ⟨by omega, by rwa [show ((x.toNat : Nat) : Int) = x by omega]⟩
      simpa using this
    · have : (((List.range w).filter fun j : Nat => decide (((j : Nat) : Int) ∈ l)).map fun j : Nat => (j : Int)).length ≤ l.length := by
        apply List.Nodup.length_le_of_subset
        · exact (ofSet_rise _ w).nodup
        · intro z hz
          obtain ⟨x, hx, rfl⟩ := List.mem_map.1 hz
          rw [List.mem_filter, decide_eq_true_iff] at hx
          exact hx.2
      simpa using this
  rw [show (swS w i k out).length = _ from inj _ h0, inj _ hr]
  -- the numbers of the one are those of the other, renamed
  have cmp : ∀ A B : List Int, swO i k A B → ((List.range w).filter fun j : Nat => decide (((j : Nat) : Int) ∈ B)).length ≤ ((List.range w).filter fun j : Nat => decide (((j : Nat) : Int) ∈ A)).length := by
    intro A B hAB
    have : (((List.range w).filter fun j : Nat => decide (((j : Nat) : Int) ∈ B)).map (sw i k)).length ≤ ((List.range w).filter fun j : Nat => decide (((j : Nat) : Int) ∈ A)).length := by
      apply List.Nodup.length_le_of_subset
      · refine nodup_map_of (List.filter_sublist.nodup List.nodup_range) fun x _ y _ h => ?_
        rw [← sw_sw i k x, h, sw_sw]
      · intro z hz
        obtain ⟨x, hx, rfl⟩ := List.mem_map.1 hz
        rw [List.mem_filter, List.mem_range, decide_eq_true_iff] at hx ⊢
        exact ⟨(sw_lt hi hk).2 hx.1, (hAB x).1 hx.2⟩
    simpa using this
  exact Nat.le_antisymm (cmp _ _ hO) (cmp _ _ (swO_back hO))
theorem find_len {L : List (List Int)} {p : List Int → Bool} (hL : L.Pairwise befL) {o : List Int} (ho : o ∈ L) (hp : p o = true) : ∃ x, L.find? p = some x ∧ x.length ≤ o.length := by
  cases hf : L.find? p with
  | none => have := List.find?_eq_none.1 hf o ho; exact absurd hp this
  | some x =>
    refine ⟨x, rfl, ?_⟩
    obtain ⟨_, A, B, e, hA⟩ := List.find?_eq_some_iff_append.1 hf
    subst e
    rcases List.mem_append.1 ho with h | h
    · have := hA o h; rw [hp] at this; simp at this
    · rcases List.mem_cons.1 h with rfl | h
      · exact Nat.le_refl _
      · have := (List.pairwise_cons.1 (List.pairwise_append.1 hL).2.1).1 o h
        unfold befL at this; omega
theorem re_half {x : Tb} (hok : okG m) (hokx : okG x) (hw : wideM x = wideM m) (htr : ∀ out, Rise (wideM m) 0 out → ∃ out2, Rise (wideM m) 0 out2 ∧ out2.length = out.length ∧ (AllC x out2 ↔ AllC m out)) {t : Int} (h : reP m t) : reP x t ∧ (reL x t).length ≤ (reL m t).length := by
  have hf := reP_some h
  have hc := hf
  unfold reF at hc
  split at hc
  · rename_i hcc
    have hm := allL_mem.1 (List.mem_of_find?_eq_some hc)
    have hb := List.find?_some hc
    rw [bad_iff hok hm.2] at hb
    obtain ⟨o2, h1, h2, h3⟩ := htr _ hm.2
    obtain ⟨y, h4, h5⟩ := find_len (allL_sorted (wideM m) (t.toNat + 1)) (allL_mem.2 ⟨by omega, h1⟩) (show badB x o2 = true by rw [bad_iff hokx (by rw [hw]; exact h1), h3]; exact hb)
    have e : reF x t = some y := by rw [reF, if_pos ⟨chk_eq0.2 hokx, hcc.2⟩, hw, h4]
    refine ⟨by unfold reP; rw [e]; rfl, ?_⟩
    rw [reL, e]; show y.length ≤ _; omega
  · cases hc
theorem sw_re (hok : okG m) (hn : n < m.length) (ho : o < m.length) (hi : i < wideM m) (hk : k < wideM m) (t : Int) : (reP m t ↔ reP (swapT m n o i k) t) ∧ (reL m t).length = (reL (swapT m n o i k) t).length := by
  have hd := swapT_dims (i := i) (k := k) hok hn ho
  have hok2 := hd.ok hok
  have f1 : reP m t → reP (swapT m n o i k) t ∧ (reL (swapT m n o i k) t).length ≤ (reL m t).length := re_half hok hok2 hd.wide (fun out hr => ⟨_, ofSet_rise _ _, swS_len hi hk hr, sw_allC hok hn ho hi hk (swS_O hi hk hr)⟩)
  have f2 : reP (swapT m n o i k) t → reP m t ∧ (reL m t).length ≤ (reL (swapT m n o i k) t).length := re_half hok2 hok hd.wide.symm (fun out hr => by
    rw [hd.wide] at hr ⊢
    exact ⟨_, ofSet_rise _ _, swS_len hi hk hr, (sw_allC hok hn ho hi hk (swO_back (swS_O hi hk hr))).symm⟩)
  refine ⟨⟨fun h => (f1 h).1, fun h => (f2 h).1⟩, ?_⟩
  by_cases h : reP m t
  · exact Nat.le_antisymm (f2 (f1 h).1).2 (f1 h).2
  · rw [reL_none h, reL_none (fun h2 => h (f2 h2).1)]
end
theorem swapL_at {α : Type} {l : List α} {a b : Nat} {d : α} (ha : a < l.length) (hb : b < l.length) {i : Nat} {x : α} (h : (swapL l a b d)[i]? = some x) : l[sw a b i]? = some x := by
  have hi : i < l.length := by have := (List.getElem?_eq_some_iff.1 h).1; rwa [swapL_len] at this
  have h2 := swapL_get (d := d) ha hb i
  rw [List.getD_eq_getElem?_getD, h, Option.getD_some, List.getD_eq_getElem?_getD] at h2
  have hs : sw a b i < l.length := (sw_lt ha hb).2 hi
  rw [List.getElem?_eq_getElem hs] at h2 ⊢
  rw [h2]; rfl
theorem raw_swap {H : Hp} {rs : List Raw} {l : Tb} (h : RawOf boolR H rs l) {n o : Nat} {d : Raw} (hn : n < l.length) (ho : o < l.length) : RawOf boolR H (swapL rs n o d) (swapL l n o []) :=
  ⟨by rw [swapL_len, swapL_len]; exact h.1, fun i r x hr hx => h.2 _ r x (swapL_at (by rw [h.1]; exact hn) (by rw [h.1]; exact ho) hr) (swapL_at hn ho hx)⟩
theorem getD_at {α : Type} {l : List α} {i : Nat} (d : α) (h : i < l.length) : l[i]? = some (l.getD i d) := by
  rw [List.getD_eq_getElem?_getD, List.getElem?_eq_getElem h]; rfl
end Go.Proofs
