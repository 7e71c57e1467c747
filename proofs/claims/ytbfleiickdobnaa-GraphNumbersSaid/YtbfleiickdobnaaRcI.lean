/- Tables with other marks, and with other numbers. -/
import Derived.Test.YtbfleiickdobnaaRcE
set_option autoImplicit false
set_option linter.unusedVariables false
set_option linter.unusedSimpArgs false
namespace Go.Proofs
open Go.XL
/-! ### One more mark -/
def setT (x : Tb) (e : Nat × Nat) : Tb := x.set e.1 ((x.getD e.1 []).set e.2 true)
theorem getD_set {α : Type} {l : List α} {a i : Nat} {v d : α} (ha : a < l.length) : (l.set a v).getD i d = if i = a then v else l.getD i d := by
  rw [List.getD_eq_getElem?_getD, List.getElem?_set, List.getD_eq_getElem?_getD]
  by_cases h : a = i
  · subst h; simp [ha]
  · rw [if_neg h, if_neg (Ne.symm h)]
structure Dims (m x : Tb) : Prop where
  len : x.length = m.length
  row : ∀ i : Nat, (x.getD i []).length = (m.getD i []).length
theorem Marks.dims {m x : Tb} {E : Ed} (h : Marks m x E) : Dims m x := ⟨h.len, h.row⟩
theorem Dims.wide {m x : Tb} (h : Dims m x) : wideM x = wideM m := by
  have := h.row 0
  have hl := h.len
  cases x <;> cases m <;> simp_all [wideM]
theorem Dims.ok {m x : Tb} (h : Dims m x) (hok : okG m) : okG x := by
  refine ⟨by rw [h.len]; exact hok.1, fun r hr => ?_⟩
  obtain ⟨i, hi, rfl⟩ := List.mem_iff_getElem.1 hr
  have h1 := h.row i
  have hi2 : i < m.length := by rw [← h.len]; exact hi
  rw [List.getD_eq_getElem?_getD, List.getD_eq_getElem?_getD, List.getElem?_eq_getElem hi, List.getElem?_eq_getElem hi2] at h1
  simp only [Option.getD_some] at h1
  rw [h.wide, h1]
  exact hok.2 _ (List.getElem_mem hi2)
theorem Dims.trans {m x y : Tb} (h : Dims m x) (k : Dims x y) : Dims m y := ⟨k.len.trans h.len, fun i => (k.row i).trans (h.row i)⟩
theorem setT_dims {x : Tb} {e : Nat × Nat} (he : e.1 < x.length) : Dims x (setT x e) := by
  refine ⟨by simp [setT], fun i => ?_⟩
  rw [setT, getD_set he]
  split
  · rename_i h; subst h; simp
  · rfl
theorem row_len {m : Tb} (hok : okG m) {i : Nat} (hi : i < m.length) : (m.getD i []).length = wideM m := by
  rw [List.getD_eq_getElem?_getD, List.getElem?_eq_getElem hi]
  exact (hok.2 _ (List.getElem_mem hi)).1
theorem setT_mark {x : Tb} {e : Nat × Nat} (he : e.1 < x.length) (he2 : e.2 < (x.getD e.1 []).length) (i j : Nat) : ((setT x e).getD i []).getD j false = true ↔ (x.getD i []).getD j false = true ∨ (i, j) = e := by
  rw [setT, getD_set he]
  by_cases h : i = e.1
  · subst h
    rw [if_pos rfl, getD_set he2]
    by_cases h2 : j = e.2
    · subst h2; simp
    · rw [if_neg h2]
      constructor
      · exact Or.inl
      · rintro (h3 | h3)
        · exact h3
        · exact absurd (congrArg Prod.snd h3) h2
  · rw [if_neg h]
    constructor
    · exact Or.inl
    · rintro (h3 | h3)
      · exact h3
      · exact absurd (congrArg Prod.fst h3) h
theorem setT_edges {m : Tb} {e : Nat × Nat} (hok : okG m) (he : e.1 < m.length) (he2 : e.2 < wideM m) {o : List Int} {f : Nat × Nat} (hf : f ∈ finE m o) : f ∈ finE (setT m e) o := by
  have h := (mem_allE _).1 hf
  refine (mem_allE _).2 ⟨by rw [(setT_dims he).len]; exact h.1, ?_, h.2.2⟩
  exact (setT_mark he (by rw [row_len hok he]; exact he2) _ _).2 (Or.inl h.2.1)
theorem more_allC {m : Tb} {e : Nat × Nat} (hok : okG m) (he : e.1 < m.length) (he2 : e.2 < wideM m) {o : List Int} (h : AllC m o) : AllC (setT m e) o :=
  AllC.mono (setT_dims he).len.symm h (fun y hy => ⟨by rw [← (setT_dims he).len, ← (setT_dims he).wide]; exact hy.1, fun j hj => hy.2 j (by rw [(setT_dims he).len]; exact hj)⟩) (fun f hf => setT_edges hok he he2 hf)
theorem trP_iff {m : Tb} (hok : okG m) : trP m ↔ AllC m [] := by
  unfold trP
  rw [p_iff hok (outOk_nil m)]
  simp [chk_eq0.2 hok]
theorem bad_iff {m : Tb} (hok : okG m) {o : List Int} (ho : Rise (wideM m) 0 o) : badB m o = true ↔ ¬ AllC m o := by
  rw [← p_iff hok ho.out]
  unfold badB
  rw [decide_eq_true_iff]; omega
theorem more_tr {m : Tb} {e : Nat × Nat} (hok : okG m) (he : e.1 < m.length) (he2 : e.2 < wideM m) (h : trP m) : trP (setT m e) :=
  (trP_iff ((setT_dims he).ok hok)).2 (more_allC hok he he2 ((trP_iff hok).1 h))
theorem more_re {m : Tb} {e : Nat × Nat} (hok : okG m) (he : e.1 < m.length) (he2 : e.2 < wideM m) {t : Int} (h : ¬ reP m t) : ¬ reP (setT m e) t := by
  have hd := setT_dims he (x := m)
  have hok2 := hd.ok hok
  intro hx
  have hf := reP_some hx
  unfold reF at hf
  split at hf
  · rename_i hc
    have hn := reP_none h
    rw [reF, if_pos ⟨chk_eq0.2 hok, hc.2⟩] at hn
    have hm := List.mem_of_find?_eq_some hf
    have hb := List.find?_some hf
    rw [hd.wide] at hm
    have hr := (allL_mem.1 hm).2
    have h1 := List.find?_eq_none.1 hn _ hm
    rw [bad_iff hok2 (by rw [hd.wide]; exact hr)] at hb
    rw [bad_iff hok hr] at h1
    exact h1 fun ha => hb (more_allC hok he he2 ha)
  · cases hf
theorem reE_dims {m x : Tb} (hok : okG m) (h : Dims m x) (t : Int) : reE m t = reE x t := by
  unfold reE; rw [chk_eq0.2 hok, chk_eq0.2 (h.ok hok)]
/-! ### Some marks alone -/
def zeroT (m : Tb) : Tb := m.map fun r => List.replicate r.length false
def aloneM (m : Tb) (E : Ed) : Tb := E.foldl setT (zeroT m)
theorem zeroT_get (m : Tb) (i : Nat) : (zeroT m).getD i [] = List.replicate (m.getD i []).length false := by
  rw [zeroT, List.getD_eq_getElem?_getD, List.getElem?_map, List.getD_eq_getElem?_getD]
  cases m[i]? <;> simp
theorem zero_marks (m : Tb) : Marks m (zeroT m) [] := by
  refine ⟨by simp [zeroT], fun i => by rw [zeroT_get]; simp, fun i j => ?_⟩
  rw [zeroT_get, List.getD_eq_getElem?_getD, List.getElem?_replicate]
  split <;> simp
theorem Marks.set {m x : Tb} {E : Ed} (h : Marks m x E) {e : Nat × Nat} (he : e.1 < m.length) (he2 : e.2 < (m.getD e.1 []).length) : Marks m (setT x e) (E ++ [e]) := by
  have hx : e.1 < x.length := by rw [h.len]; exact he
  have hd := h.dims.trans (setT_dims hx)
  refine ⟨hd.len, hd.row, fun i j => ?_⟩
  rw [setT_mark hx (by rw [h.row]; exact he2), h.mark]
  simp
theorem fold_marks {m : Tb} : ∀ (E2 E : Ed) (x : Tb), Marks m x E → (∀ e ∈ E2, e.1 < m.length ∧ e.2 < (m.getD e.1 []).length) → Marks m (E2.foldl setT x) (E ++ E2)
  | [], E, x, h, _ => by simpa using h
  | e :: r, E, x, h, hr => by
    have := fold_marks r (E ++ [e]) (setT x e) (h.set (hr e (by simp)).1 (hr e (by simp)).2) (fun f hf => hr f (by simp [hf]))
    simpa using this
theorem alone_marks {m : Tb} {E : Ed} (h : ∀ e ∈ E, e.1 < m.length ∧ e.2 < (m.getD e.1 []).length) : Marks m (aloneM m E) E := by
  have := fold_marks E [] (zeroT m) (zero_marks m) h
  rwa [List.nil_append] at this
theorem tree_in {m : Tb} (hok : okG m) {A : Ed} (hA : A.Sublist (treeE m)) : ∀ e ∈ A, e.1 < m.length ∧ e.2 < (m.getD e.1 []).length := fun e he => by
  have := treeE_lt hok (hA.subset he)
  exact ⟨this.1, by rw [row_len hok this.1]; exact this.2⟩
theorem trL_tree {m : Tb} (hok : okG m) : trL m = (treeE m).map ie := by rw [trL, if_pos (chk_eq0.2 hok), finG_l]
theorem alone_tr {m : Tb} (hok : okG m) {A : Ed} (hA : A.Sublist (treeE m)) : chkG (aloneM m A) = 0 ∧ trL (aloneM m A) = A.map ie ∧ (finG (aloneM m A) []).p + A.length = (m.length : Int) + (wideM m : Nat) := by
  have hm := alone_marks (tree_in hok hA)
  have hok2 := hm.ok hok
  refine ⟨chk_eq0.2 hok2, ?_, ?_⟩
  · rw [trL_tree hok2, hm.tree hok hA]
  · have := tree_p hok2
    rwa [hm.tree hok hA, hm.len, hm.wide] at this
theorem alone_same {m : Tb} (hok : okG m) : trP (aloneM m (treeE m)) ↔ trP m := by
  obtain ⟨h1, h2, h3⟩ := alone_tr hok (List.Sublist.refl _)
  have h4 := tree_p hok
  unfold trP
  rw [h1, chk_eq0.2 hok]
  simp only [true_and]
  omega
theorem alone_less {m : Tb} (hok : okG m) {k : Nat} (hk : k < (treeE m).length) : ¬ trP (aloneM m ((treeE m).eraseIdx k)) := by
  obtain ⟨h1, h2, h3⟩ := alone_tr hok (List.eraseIdx_sublist (treeE m) k)
  have h4 := tree_p hok
  rw [List.length_eraseIdx_of_lt hk] at h3
  have hx := List.getElem_mem hk
  have hlt := treeE_lt hok hx
  have h5 := p_pos hok (outOk_nil m) ⟨0, inN_nil.2 (by omega)⟩
  intro h
  have := h.2
  omega
theorem tree_marks {m : Tb} (hok : okG m) {i : Nat} {x : Int × Int} (hx : (trL m)[i]? = some x) : ∃ e : Nat × Nat, x = ie e ∧ (treeE m)[i]? = some e ∧ e.1 < m.length ∧ e.2 < wideM m ∧ ∃ row, m[e.1]? = some row ∧ row[e.2]? = some true ∧ e.2 < row.length := by
  rw [trL_tree hok, List.getElem?_map] at hx
  cases he : (treeE m)[i]? with
  | none => rw [he] at hx; cases hx
  | some e =>
    rw [he] at hx
    have hm := List.mem_of_getElem? he
    have hlt := treeE_lt hok hm
    have hf := (mem_allE _).1 ((treeE_sub m).subset hm)
    obtain ⟨row, hrow⟩ : ∃ row, m[e.1]? = some row := ⟨_, List.getElem?_eq_getElem hlt.1⟩
    have h2 := hf.2.1
    rw [List.getD_eq_getElem?_getD (l := m), hrow, Option.getD_some] at h2
    have hw := (hok.2 row (List.mem_of_getElem? hrow)).1
    refine ⟨e, by simpa using hx.symm, rfl, hlt.1, hlt.2, row, hrow, ?_, by omega⟩
    rw [List.getD_eq_getElem?_getD, List.getElem?_eq_getElem (by omega)] at h2
    rw [List.getElem?_eq_getElem (by omega)]
    simpa using h2
theorem tree_order {m : Tb} {i : Nat} {e f : Nat × Nat} (hi : 0 < i) (he : (treeE m)[i - 1]? = some e) (hf : (treeE m)[i]? = some f) : e.1 < f.1 ∨ e.1 = f.1 ∧ e.2 < f.2 := by
  obtain ⟨h1, rfl⟩ := List.getElem?_eq_some_iff.1 he
  obtain ⟨h2, rfl⟩ := List.getElem?_eq_some_iff.1 hf
  exact List.pairwise_iff_getElem.1 (treeE_sorted m) (i - 1) i h1 h2 (by omega)
def slCap {α : Type} (ρ : Rep α) (l : List α) : Value → Hp → Prop := fun v H => ∃ a c, v = .slice a l.length c ∧ SlR ρ H a c l ∧ c ≤ l.length
theorem slCap_mono {α : Type} (ρ : Rep α) (l : List α) : ∀ v H H', Le H H' → slCap ρ l v H → slCap ρ l v H' := fun _ _ _ hle ⟨a, c, h1, h2, h3⟩ => ⟨a, c, h1, h2.mono hle, h3⟩
theorem aloneM_len (m : Tb) : ∀ (E : Ed) (x : Tb), x.length = m.length → (E.foldl setT x).length = m.length
  | [], x, h => h
  | e :: r, x, h => aloneM_len m r (setT x e) (by simp [setT, h])
theorem fold_succ {x : Tb} {E : Ed} {k : Nat} {e : Nat × Nat} (h : E[k]? = some e) : (E.take (k + 1)).foldl setT x = setT ((E.take k).foldl setT x) e := by
  rw [take_snoc h, List.foldl_append]; rfl
theorem less_list {m : Tb} (hok : okG m) (k : Nat) : (trL m).take k ++ (trL m).drop (k + 1) = ((treeE m).eraseIdx k).map ie := by
  rw [trL_tree hok, List.eraseIdx_eq_take_drop_succ, List.map_append, List.map_take, List.map_drop]
theorem fold_dims {m : Tb} {E : Ed} (h : ∀ e ∈ E, e.1 < m.length ∧ e.2 < (m.getD e.1 []).length) (k : Nat) : Dims m ((E.take k).foldl setT (zeroT m)) :=
  (fold_marks (E.take k) [] (zeroT m) (zero_marks m) (fun e he => h e (List.mem_of_mem_take he))).dims
theorem ie_get {E : Ed} {k : Nat} {x : Int × Int} (h : (E.map ie)[k]? = some x) : ∃ i j : Nat, x = (((i : Nat) : Int), ((j : Nat) : Int)) ∧ E[k]? = some (i, j) := by
  rw [List.getElem?_map] at h
  cases he : E[k]? with
  | none => rw [he] at h; cases h
  | some e => rw [he] at h; obtain ⟨i, j⟩ := e; exact ⟨i, j, by simpa [ie] using h.symm, rfl⟩
theorem alone_not {m : Tb} (hok : okG m) : (!(decide (trP (aloneM m (treeE m))) == decide (trP m))) = false := by
  have h := alone_same hok
  simp [h]
theorem tree_marks2 {m : Tb} (hok : okG m) {k : Nat} {x : Int × Int} (hx : (trL m)[k]? = some x) : ∃ i j : Nat, x = (((i : Nat) : Int), ((j : Nat) : Int)) ∧ (treeE m)[k]? = some (i, j) ∧ i < m.length ∧ ∃ row, m[i]? = some row ∧ row[j]? = some true ∧ j < row.length := by
  obtain ⟨⟨i, j⟩, h1, h2, h3, h4, row, h5, h6, h7⟩ := tree_marks hok hx
  exact ⟨i, j, by simpa [ie] using h1, h2, h3, row, h5, h6, h7⟩
theorem tree_prev {m : Tb} (hok : okG m) {k : Nat} {i j : Nat} {y : Int × Int} (hk : 0 < k) (hx : (treeE m)[k]? = some (i, j)) (hy : (trL m)[k - 1]? = some y) : y.1 ≤ (i : Int) ∧ (y.1 = i → y.2 < j) := by
  obtain ⟨a, b, rfl, h2, _⟩ := tree_marks2 hok hy
  have := tree_order hk h2 hx
  constructor
  · simp only at this ⊢; omega
  · intro h; simp only at this h ⊢; omega
end Go.Proofs
