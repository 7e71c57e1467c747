/- Conflicts: what the statements say, in plain Lean. -/
import Derived.Test.YtapacjfkgiigiaaB8
import Derived.Test.YtapacjfkgiigiaaB3
import Derived.Test.YtapacjfkgiigiaaB2
import Derived.OpenShut
set_option autoImplicit false
set_option linter.unusedVariables false
set_option linter.unusedSimpArgs false
namespace Go.Proofs
open Go.XL
section
variable {l : Fs} {a b c day time : Int}
theorem err_rise (hE : errC l a b day time = 0) : riseP l := (ok_rise (chkF_0 (errC_0 hE).1).2).1
theorem cnfC_0 (hE : errC l a b day time = 0) : cnfC l a b day time = cnfP (cntF l day time) a b := if_pos hE
theorem cnfC_e (hE : ¬ errC l a b day time = 0) : cnfC l a b day time = none := if_neg hE
theorem cnf_eq (l : Fs) (a b day time : Int) : cnfC l a b day time = cnfR l a b day time := by
 unfold cnfC cnfR
 split
 ·rename_i h; exact (src_eq ((err_rise h).cnt day time)).symm
 ·rfl
theorem err_ids {es js : List Int} (h : tabE l es js day time = 0) (ha : a ∈ es) (hb : b ∈ js) : errC l a b day time = 0 := by
 have hck : chkF l = 0 := by
  unfold tabE at h
  split at h
  ·assumption
  ·exact absurd h ‹_›
 have hP : tabP l es js day time := by
  unfold tabE at h
  rw [if_pos hck] at h
  split at h
  ·assumption
  ·cases h
 have h0 := (errC_0 hP.1.2.2).2
 unfold errC
 rw [if_pos hck, if_pos]
 exact ⟨⟨⟨⟨⟨hP.2.1 a ha, hP.2.2 b hb⟩, h0.1.1.1.2⟩, h0.1.1.2⟩, h0.1.2⟩, h0.2⟩
theorem tab_eq (l : Fs) (es js : List Int) (day time : Int) : tabC l es js day time = tabT l es js day time := by
 unfold tabC tabT
 split
 ·rename_i h
  refine List.map_congr_left fun a ha => List.map_congr_left fun b hb => ?_
  rw [← cnf_eq, cnfC_0 (err_ids h ha hb)]
 ·rfl
theorem cnf_first (hE : errC l a b day time = 0) : IsFirst (cntF l day time) a b (cnfC l a b day time) := by rw [cnfC_0 hE]; exact first_P ((err_rise hE).cnt day time)
theorem prvR_0 (hE : errC l a b day time = 0) (p : List Int) : prvR l a b day time p = prvF (cntF l day time) a b p := if_pos hE
theorem prvR_e (hE : ¬ errC l a b day time = 0) (p : List Int) : prvR l a b day time p = false := if_neg hE
theorem cnf_yes (h : (cnfC l a b day time).isSome = true) : errC l a b day time = 0 ∧ prvR l a b day time ((cnfC l a b day time).getD []) = true := by
 by_cases hE : errC l a b day time = 0
 ·refine ⟨hE, ?_⟩
  have hf := cnf_first hE
  rw [prvR_0 hE]
  obtain ⟨q, hq⟩ := Option.isSome_iff_exists.1 h
  rw [hq] at hf ⊢; exact hf.1
 ·rw [cnfC_e hE] at h; cases h
theorem cnf_no (hE : errC l a b day time = 0) (h : (cnfC l a b day time).isSome = false) (p : List Int) : prvR l a b day time p = false := by
 have hf := cnf_first hE
 rw [isSome_no h] at hf
 rw [prvR_0 hE]; exact hf p
theorem cnf_shown {p : List Int} (h : prvR l a b day time p = true) : (cnfC l a b day time).isSome = true ∧ ordL ((cnfC l a b day time).getD []) p ≤ 0 := by
 by_cases hE : errC l a b day time = 0
 ·have hf := cnf_first hE
  rw [prvR_0 hE] at h
  cases hc : cnfC l a b day time with
  | none => rw [hc] at hf; have := hf p; rw [h] at this; cases this
  | some q => rw [hc] at hf; exact ⟨rfl, hf.2 p h⟩
 ·rw [prvR_e hE] at h; cases h
theorem cnf_before {p : List Int} (h : prvR l a b day time p = true) : befL p ((cnfC l a b day time).getD []) = false := by
  have h1 := (cnf_shown h).2
  cases hb : befL p ((cnfC l a b day time).getD []) with
  | false => rfl
  | true =>
    have h2 := bef_ord.1 hb
    have := ord_anti p ((cnfC l a b day time).getD [])
    omega
theorem cnf_nil (h : (cnfC l a b day time).isSome = false) : (cnfC l a b day time).getD [] = [] := by rw [isSome_no h]; rfl
theorem err_swap : errC l b a day time = errC l a b day time := by
 unfold errC
 split
 ·congr 1
  rw [and_comm (a := idP b)]
 ·rfl
end
/-- people one after the other, joined by facts -/
def pq : Fs → List Int → Prop
 | [], qs => ∃ z, qs = [z]
 | f :: t, qs => ∃ z w r, qs = z :: w :: r ∧ f.K = 3 ∧ othr f z = some w ∧ pq t (w :: r)
theorem rel_pq {b : Int} : ∀ {fs : Fs} {met : List Int} {z : Int}, relF b fs met z = true ↔ ∃ r, pq fs (z :: r) ∧ (z :: r).getLast? = some b ∧ r.Nodup ∧ ∀ y ∈ r, y ∉ met
  | [], met, z => by
    rw [relF, decide_eq_true_iff]
    constructor
    · rintro rfl; exact ⟨[], ⟨z, rfl⟩, rfl, List.nodup_nil, fun y hy => (by cases hy)⟩
    · rintro ⟨r, ⟨y, h1⟩, h2, _⟩
      cases h1; simpa using h2
  | f :: t, met, z => by
    rw [rel_cases]
    constructor
    · rintro ⟨h1, w, h2, h3, h4⟩
      obtain ⟨r, h5, h6, h7, h8⟩ := rel_pq.1 h4
      refine ⟨w :: r, ⟨z, w, r, rfl, h1, h2, h5⟩, by rw [List.getLast?_cons_cons]; exact h6, List.nodup_cons.2 ⟨fun hw => h8 w hw (by simp), h7⟩, fun y hy => ?_⟩
      rcases List.mem_cons.1 hy with rfl | hy
      · exact h3
      · exact fun hm => h8 y hy (List.mem_append_left _ hm)
    · rintro ⟨r, ⟨z', w, r', h1, h2, h3, h4⟩, h5, h6, h7⟩
      cases h1
      rw [List.nodup_cons] at h6
      refine ⟨h2, w, h3, h7 w List.mem_cons_self, rel_pq.2 ⟨r', h4, by rw [List.getLast?_cons_cons] at h5; exact h5, h6.2, fun y hy hm => ?_⟩⟩
      rcases List.mem_append.1 hm with hm | hm
      · exact h7 y (List.mem_cons_of_mem _ hy) hm
      · simp only [List.mem_singleton] at hm; subst hm; exact h6.1 hy
theorem pq_snoc {f : Fa} {w : Int} (hk : f.K = 3) : ∀ {fs : Fs} {qs : List Int} {z : Int}, pq fs qs → qs.getLast? = some z → othr f z = some w → pq (fs ++ [f]) (qs ++ [w])
  | [], qs, z, ⟨y, h1⟩, h2, h3 => by
    subst h1
    simp at h2; subst h2
    exact ⟨y, w, [], rfl, hk, h3, w, rfl⟩
  | g :: t, qs, z, ⟨z', w', r, h1, h4, h5, h6⟩, h2, h3 => by
    subst h1
    rw [List.getLast?_cons_cons] at h2
    exact ⟨z', w', r ++ [w], rfl, h4, h5, pq_snoc hk h6 h2 h3⟩
theorem pq_rev : ∀ {fs : Fs} {qs : List Int}, pq fs qs → pq fs.reverse qs.reverse
  | [], qs, ⟨z, h⟩ => by subst h; exact ⟨z, rfl⟩
  | f :: t, qs, ⟨z, w, r, h1, h2, h3, h4⟩ => by
    subst h1
    rw [List.reverse_cons, List.reverse_cons]
    exact pq_snoc h2 (pq_rev h4) (by simp) (oth_sym h3)
theorem rel_rev {a b : Int} {fs : Fs} (h : relF b fs [a] a = true) : relF a fs.reverse [b] b = true := by
  obtain ⟨r, h1, h2, h3, h4⟩ := rel_pq.1 h
  have hn : (a :: r).Nodup := List.nodup_cons.2 ⟨fun e => h4 a e (by simp), h3⟩
  have h5 := pq_rev h1
  have hb : ∃ s, (a :: r).reverse = b :: s := by
    cases hr : (a :: r).reverse with
    | nil => simp at hr
    | cons x s =>
      have h6 : (a :: r).reverse.head? = some b := by rw [List.head?_reverse]; exact h2
      rw [hr] at h6; simp at h6; exact ⟨s, by rw [h6]⟩
  obtain ⟨s, hs⟩ := hb
  rw [hs] at h5
  have hn2 : (b :: s).Nodup := by rw [← hs]; exact List.pairwise_reverse.2 (List.Pairwise.imp (fun e => Ne.symm e) hn)
  rw [List.nodup_cons] at hn2
  refine rel_pq.2 ⟨s, h5, ?_, hn2.2, fun y hy e => ?_⟩
  · rw [← hs, List.getLast?_reverse]; rfl
  · simp only [List.mem_singleton] at e; subst e; exact hn2.1 hy
theorem prvB_rev {fs : Fs} {a b : Int} (h : a ≠ b) (hp : prvB fs a b = true) : prvB fs.reverse b a = true := by
 rw [prvB_iff (fun e => h e.symm)]
 rcases (prvB_iff h).1 hp with ⟨f, rfl, hk, ho⟩ | ⟨f, g, rfl, k1, k2, k3, k4, k5⟩ | ⟨h1, h2⟩
 ·exact .inl ⟨f, rfl, hk, oth_sym ho⟩
 ·exact .inr (.inl ⟨g, f, rfl, k2, k1, k4, k3, k5.symm⟩)
 ·exact .inr (.inr ⟨by simpa using h1, rel_rev h2⟩)
theorem prvF_rev {X : Fs} (hr : riseP X) {a b : Int} {p : List Int} (hp : prvF X a b p = true) : prvF X b a p.reverse = true := by
 by_cases h : a = b
 ·subst h
  rw [prv_self] at hp ⊢; subst hp; rfl
 ·obtain ⟨fs, h1, h2, h3⟩ := (prv_iff hr).1 hp
  rw [prv_iff hr]
  exact ⟨fs.reverse, by rw [h1, List.map_reverse], fun f hf => h2 f (List.mem_reverse.1 hf), prvB_rev h h3⟩
section
variable {l : Fs} {a b c day time : Int}
theorem tu_prv (h : (cnfC l a b day time).isSome = true) : prvR l b a day time ((cnfC l a b day time).getD []).reverse = true := by
 obtain ⟨hE, h1⟩ := cnf_yes h
 rw [prvR_0 hE] at h1
 rw [prvR_0 (err_swap.trans hE)]
 exact prvF_rev ((err_rise hE).cnt day time) h1
theorem tu_le (h : (cnfC l a b day time).isSome = true) : (cnfC l b a day time).isSome = true ∧ ((cnfC l b a day time).getD []).length ≤ ((cnfC l a b day time).getD []).length := by
 obtain ⟨h1, h2⟩ := cnf_shown (tu_prv h); refine ⟨h1, ?_⟩
 rcases Nat.lt_or_ge ((cnfC l a b day time).getD []).length ((cnfC l b a day time).getD []).length with h3 | h3
 ·have := ord_short (a := ((cnfC l a b day time).getD []).reverse) (b := (cnfC l b a day time).getD []) (by rw [List.length_reverse]; exact h3)
  have h4 := ord_anti ((cnfC l a b day time).getD []).reverse ((cnfC l b a day time).getD [])
  omega
 ·exact h3
theorem tu_some (l : Fs) (a b day time : Int) : (cnfC l a b day time).isSome = (cnfC l b a day time).isSome := by
  cases h : (cnfC l a b day time).isSome with
  | true => exact (tu_le h).1.symm
  | false =>
    cases h2 : (cnfC l b a day time).isSome with
    | false => rfl
    | true => have := (tu_le h2).1; rw [h] at this; cases this
theorem tu_len (l : Fs) (a b day time : Int) : ((cnfC l a b day time).getD []).length = ((cnfC l b a day time).getD []).length := by
  cases h : (cnfC l a b day time).isSome with
  | true =>
    have h1 := (tu_le h).2
    have h2 := (tu_le (tu_le h).1).2
    omega
  | false => rw [cnf_nil h, cnf_nil (by rw [← tu_some]; exact h)]
/-- facts about relatives, and those that do not count -/
def famP (f : Fa) (day time : Int) : Prop := f.K = 3 ∨ ¬ cntP f day time
instance (f : Fa) (day time : Int) : Decidable (famP f day time) := by unfold famP; infer_instance
def famL (l : Fs) (day time : Int) : Fs := l.filter fun f => decide (famP f day time)
theorem filt_y {p : Fa → Prop} [DecidablePred p] {k : Nat} {x : Fa} (hx : l[k]? = some x) (h : p x) : (l.take k).filter (fun f => decide (p f)) ++ [x] = (l.take (k + 1)).filter fun f => decide (p f) := by
 rw [take_snoc hx, List.filter_append]; simp [h]
theorem filt_n {p : Fa → Prop} [DecidablePred p] {k : Nat} {x : Fa} (hx : l[k]? = some x) (h : ¬ p x) : (l.take k).filter (fun f => decide (p f)) = (l.take (k + 1)).filter fun f => decide (p f) := by
 rw [take_snoc hx, List.filter_append]; simp [h]
theorem filt_len (p : Fa → Bool) (l : Fs) (k : Nat) : ((l.take k).filter p).length ≤ k := by
 have h1 := List.length_filter_le p (l.take k)
 rw [List.length_take] at h1; omega
theorem fam_cnt (f : Fa) (h : f ∈ cntF (famL l day time) day time) : f.K = 3 := by
 unfold cntF famL at h
 rw [List.mem_filter, List.mem_filter] at h
 have h1 := of_decide_eq_true h.1.2
 exact h1.elim id fun e => absurd (of_decide_eq_true h.2) e
theorem ch_app : ∀ {fs gs : Fs} {a b c : Int}, ch fs a b → ch gs b c → ch (fs ++ gs) a c
 | [], gs, a, b, c, h1, h2 => by have h1 : a = b := h1; subst h1; exact h2
 | f :: t, gs, a, b, c, ⟨h1, w, h2, h3⟩, h4 => ⟨h1, w, h2, ch_app h3 h4⟩
theorem fam_ch (hE : errC (famL l day time) a b day time = 0) (h : (cnfC (famL l day time) a b day time).isSome = true) : ∃ fs : Fs, (∀ f ∈ fs, f ∈ cntF (famL l day time) day time) ∧ ch fs a b := by
 by_cases hab : a = b
 ·exact ⟨[], fun f hf => (by cases hf), hab⟩
 ·have h1 := (cnf_yes h).2
  rw [prvR_0 hE] at h1
  obtain ⟨fs, h2, h3, h4⟩ := (prv_iff ((err_rise hE).cnt day time)).1 h1; refine ⟨fs, h3, ?_⟩
  rcases (prvB_iff hab).1 h4 with ⟨f, rfl, hk, ho⟩ | ⟨f, g, rfl, k1, _⟩ | ⟨_, h5⟩
  ·exact ⟨fam_cnt f (h3 f (by simp)), b, ho, rfl⟩
  ·have := fam_cnt f (h3 f (by simp)); omega
  ·exact rel_ch h5
theorem fam_all (hE : errC (famL l day time) a b day time = 0) (hF : errC (famL l day time) b c day time = 0) (hG : errC (famL l day time) a c day time = 0) (h1 : (cnfC (famL l day time) a b day time).isSome = true) (h2 : (cnfC (famL l day time) b c day time).isSome = true) :
  (cnfC (famL l day time) a c day time).isSome = true := by
 by_cases hac : a = c
 ·rw [cnfC_0 hG, cnfP_0 hac]; rfl
 ·obtain ⟨fs, h3, h4⟩ := fam_ch hE h1; obtain ⟨gs, h5, h6⟩ := fam_ch hF h2
  have hr := (err_rise hE).cnt day time
  obtain ⟨r, h7, _⟩ := ch_rel hr (fs := fs ++ gs) (fun f hf => (List.mem_append.1 hf).elim (h3 f) (h5 f)) (ch_app h4 h6)
  have h8 := relP_prv hr hac h7
  exact (cnf_shown (p := r) (by rw [prvR_0 hG]; exact h8)).1
/-- fewer facts -/
theorem ok_of : ∀ {l : Fs} {last : Int}, riseP l → (∀ f ∈ l, last < f.No ∧ validP f) → okB last l = true
  | [], _, _, _ => rfl
  | f :: t, last, hr, h => by
    have hr2 := List.pairwise_cons.1 hr
    have h1 := h f List.mem_cons_self
    rw [okB, decide_eq_true h1.2, decide_eq_true h1.1]
    exact ok_of hr2.2 fun g hg => ⟨hr2.1 g hg, (h g (List.mem_cons_of_mem _ hg)).2⟩
theorem chk_sub {s : Fs} (h : chkF l = 0) (hs : s.Sublist l) : chkF s = 0 := by
 obtain ⟨h1, h2⟩ := chkF_0 h; obtain ⟨h3, h4⟩ := ok_rise h2
 have := hs.length_le
 exact chk_0 (by omega) (ok_of (List.Pairwise.sublist hs h3) fun f hf => h4 f (hs.subset hf))
theorem err_sub {s : Fs} (h : errC l a b day time = 0) (hs : s.Sublist l) : errC s a b day time = 0 := by
 obtain ⟨h1, h2⟩ := errC_0 h
 unfold errC
 rw [if_pos (chk_sub h1 hs), if_pos h2]
theorem clk_eq {s : Fs} (h : errC l a b day time = 0) (hs : s.Sublist l) (hc : cntF s day time = cntF l day time) : cnfC s a b day time = cnfC l a b day time := by
 rw [cnfC_0 h, cnfC_0 (err_sub h hs), hc]
theorem clk_less {s : Fs} (h : errC l a b day time = 0) (hs : s.Sublist l) (h1 : (cnfC s a b day time).isSome = true) : (cnfC l a b day time).isSome = true := by
 have hE := err_sub h hs
 have h2 := (cnf_yes h1).2
 rw [prvR_0 hE] at h2
 have hr := (err_rise h).cnt day time
 have hrs := (err_rise hE).cnt day time
 obtain ⟨fs, h3, h4, h5⟩ := (prv_iff hrs).1 h2
 have hsub : (cntF s day time).Sublist (cntF l day time) := hs.filter _
 exact (cnf_shown (p := (cnfC s a b day time).getD []) (by rw [prvR_0 h]; exact (prv_iff hr).2 ⟨fs, h3, fun f hf => hsub.subset (h4 f hf), h5⟩)).1
theorem cnt_cnt : cntF (cntF l day time) day time = cntF l day time := by unfold cntF; rw [List.filter_filter]; simp
def knwL (l : Fs) (time : Int) : Fs := l.filter fun f => decide (f.Kn ≤ time)
theorem cnt_knw : cntF (knwL l time) day time = cntF l day time := by
 unfold cntF knwL
 rw [List.filter_filter]
 refine List.filter_congr fun f hf => ?_
 by_cases h : cntP f day time
 ·rw [decide_eq_true h, decide_eq_true h.1.1]; rfl
 ·rw [decide_eq_false h]; rfl
theorem er_y {k j : Nat} {x : Fa} (hx : l[k]? = some x) (h : k ≠ j) : (l.take k).eraseIdx j ++ [x] = (l.take (k + 1)).eraseIdx j := by
 have hl : (l.take k).length = k := by rw [List.length_take]; have := (List.getElem?_eq_some_iff.1 hx).1; omega
 rw [take_snoc hx]
 rcases Nat.lt_or_ge j k with h1 | h1
 ·rw [List.eraseIdx_append_of_lt_length (by omega)]
 ·rw [List.eraseIdx_of_length_le (by omega), List.eraseIdx_of_length_le (by simp; omega)]
theorem er_n {k j : Nat} {x : Fa} (hx : l[k]? = some x) (h : k = j) : (l.take k).eraseIdx j = (l.take (k + 1)).eraseIdx j := by
 subst h
 have hl : (l.take k).length = k := by rw [List.length_take]; have := (List.getElem?_eq_some_iff.1 hx).1; omega
 rw [take_snoc hx, List.eraseIdx_of_length_le (by omega), List.eraseIdx_append_of_length_le (by omega)]
 simp [hl]
theorem er_len (l : Fs) (k j : Nat) : ((l.take k).eraseIdx j).length ≤ k := by
 have := List.length_eraseIdx_le (l.take k) j
 rw [List.length_take] at this; omega
theorem tab_get {es js : List Int} (h : tabE l es js day time = 0) {i : Nat} {x : Int} (hx : es[i]? = some x) : (tabC l es js day time)[i]? = some (js.map fun b => (cnfC l x b day time).isSome) := by
 unfold tabC
 rw [if_pos h, List.getElem?_map, hx]
 simp only [Option.map_some, Option.some.injEq]
 exact List.map_congr_left fun b hb => by rw [cnfC_0 (err_ids h (List.mem_of_getElem? hx) hb)]
theorem tab_len {es js : List Int} (h : tabE l es js day time = 0) : (tabC l es js day time).length = es.length := by unfold tabC; rw [if_pos h, List.length_map]
theorem tab_nil {es js : List Int} (h : ¬ tabE l es js day time = 0) : tabC l es js day time = [] := by unfold tabC; rw [if_neg h]
theorem cnfC_len (l : Fs) (a b day time : Int) : ((cnfC l a b day time).getD []).length ≤ 1024 := by
  cases h : (cnfC l a b day time).isSome with
  | false => rw [cnf_nil h]; decide
  | true =>
    obtain ⟨hE, h1⟩ := cnf_yes h
    rw [prvR_0 hE] at h1
    have h2 := prv_len ((err_rise hE).cnt day time) h1
    have h3 := cntF_len l day time
    have h4 := (chkF_0 (errC_0 hE).1).1
    omega
theorem tabC_row {es js : List Int} {r : List Bool} (h : r ∈ tabC l es js day time) : r.length = js.length := by
 unfold tabC at h
 split at h
 ·obtain ⟨x, _, rfl⟩ := List.mem_map.1 h; simp
 ·cases h
theorem tabC_len (l : Fs) (es js : List Int) (day time : Int) : (tabC l es js day time).length ≤ es.length := by
 unfold tabC; split <;> simp
theorem rv_at {C : List Int} {k j : Nat} {x : Int} (hj : ((C.length : Nat) : Int) - 1 - (k : Nat) = (j : Nat)) (hx : C[j]? = some x) : C.reverse[k]? = some x := by
 rw [List.getElem?_reverse (by omega), show C.length - 1 - k = j by omega, hx]
theorem rv_take {C : List Int} : C.reverse.take C.length = C.reverse := List.take_of_length_le (by simp)
end
end Go.Proofs

/- What is handed to a law of conflicts, opened from its reading. -/
set_option autoImplicit false
set_option linter.unusedVariables false
set_option linter.unusedSimpArgs false
namespace Go.Proofs
open Go.XL Go.RowKit Go.ChangeShapes Go.WideShapes
theorem opens_ints : Opens Try.prog 25 (slR (intR .i64)) (fun l => l.length ≤ maxLen ∧ ∀ n ∈ l, (Lit.int .i64 n).wf = true) := Opens.slice Try.underlying25 (by kernel_rfl) (by decide) (Opens.int Try.underlying3)
theorem opens_fa : Opens Try.prog 41 faR (fun _ => True) := by
  intro H enc w base spare held fuel cs x h
  obtain ⟨xs, m, hm, _, hl, hxs, hf⟩ := DataW.trod_struct Try.underlying41 h
  rw [show Try.prog.cellsOf 41 = 8 by kernel_rfl] at hl
  match cs, hl, xs, hxs with
  | [u0, u1, u2, u3, u4, u5, u6, u7], _, [y0, y1, y2, y3, y4, y5, y6, y7], _ =>
    have h0 : DataW.trod enc Try.prog w base spare held m 3 ([u0, u1, u2, u3, u4, u5, u6, u7].take (Try.prog.cellsOf 3)) = some y0 := hf 0 _ rfl
    have h1 : DataW.trod enc Try.prog w base spare held m 3 ([u1, u2, u3, u4, u5, u6, u7].take (Try.prog.cellsOf 3)) = some y1 := hf 1 _ rfl
    have h2 : DataW.trod enc Try.prog w base spare held m 3 ([u2, u3, u4, u5, u6, u7].take (Try.prog.cellsOf 3)) = some y2 := hf 2 _ rfl
    have h3 : DataW.trod enc Try.prog w base spare held m 3 ([u3, u4, u5, u6, u7].take (Try.prog.cellsOf 3)) = some y3 := hf 3 _ rfl
    have h4 : DataW.trod enc Try.prog w base spare held m 3 ([u4, u5, u6, u7].take (Try.prog.cellsOf 3)) = some y4 := hf 4 _ rfl
    have h5 : DataW.trod enc Try.prog w base spare held m 3 ([u5, u6, u7].take (Try.prog.cellsOf 3)) = some y5 := hf 5 _ rfl
    have h6 : DataW.trod enc Try.prog w base spare held m 3 ([u6, u7].take (Try.prog.cellsOf 3)) = some y6 := hf 6 _ rfl
    have h7 : DataW.trod enc Try.prog w base spare held m 3 ([u7].take (Try.prog.cellsOf 3)) = some y7 := hf 7 _ rfl
    simp only [show Try.prog.cellsOf 3 = 1 by kernel_rfl] at h0 h1 h2 h3 h4 h5 h6 h7
    obtain ⟨k0, e0, _, _⟩ := DataW.trod_int Try.underlying3 h0
    obtain ⟨k1, e1, _, _⟩ := DataW.trod_int Try.underlying3 h1
    obtain ⟨k2, e2, _, _⟩ := DataW.trod_int Try.underlying3 h2
    obtain ⟨k3, e3, _, _⟩ := DataW.trod_int Try.underlying3 h3
    obtain ⟨k4, e4, _, _⟩ := DataW.trod_int Try.underlying3 h4
    obtain ⟨k5, e5, _, _⟩ := DataW.trod_int Try.underlying3 h5
    obtain ⟨k6, e6, _, _⟩ := DataW.trod_int Try.underlying3 h6
    obtain ⟨k7, e7, _, _⟩ := DataW.trod_int Try.underlying3 h7
    simp at e0 e1 e2 e3 e4 e5 e6 e7
    subst e0; subst e1; subst e2; subst e3; subst e4; subst e5; subst e6; subst e7
    exact ⟨⟨k0, k1, k2, k3, k4, k5, k6, k7⟩, rfl, trivial⟩
theorem opens_fas : Opens Try.prog 22 (slR faR) (fun l : Fs => l.length ≤ maxLen ∧ ∀ f ∈ l, True) := Opens.slice Try.underlying22 (by kernel_rfl) (by decide) opens_fa
theorem mlt {n : Nat} (h : n ≤ maxLen) : n < 9223372036854775808 := by unfold maxLen at h; omega
end Go.Proofs
