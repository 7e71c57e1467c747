/- Plain facts on shares dealt. No program stands here. -/
import Derived.Test.YtdiknopliedddaaRaS
import Derived.Test.YtdiknopliedddaaXLq
set_option autoImplicit false
set_option linter.unusedVariables false
set_option linter.unusedSimpArgs false
namespace Go.Proofs
open Go.XL
def dealL (poly : List Int) (n : Nat) : List Pt := (List.range n).map fun (i : Nat) => ⟨(i : Int) + 1, valP ((i : Int) + 1) poly 0 1⟩
theorem dealL_len (poly : List Int) (n : Nat) : (dealL poly n).length = n := by simp [dealL]
theorem dealL_get {poly : List Int} {n k : Nat} (h : k < n) : (dealL poly n)[k]? = some ⟨(k : Int) + 1, valP ((k : Int) + 1) poly 0 1⟩ := by
  simp [dealL, h]
theorem dealL_succ (poly : List Int) (k : Nat) : dealL poly (k + 1) = dealL poly k ++ [⟨(k : Int) + 1, valP ((k : Int) + 1) poly 0 1⟩] := by
  simp [dealL, List.range_succ]
theorem dealL_succR (poly : List Int) (k : Nat) : dealL poly (k + 1) = dealL poly k ++ [⟨(k : Int) + 1, valR ((k : Int) + 1) poly⟩] := by
  rw [dealL_succ, valP_eq]
theorem deal_split {poly : List Int} {n k : Nat} (h : k < n) : ∃ post, dealL poly n = dealL poly k ++ ⟨(k : Int) + 1, valP ((k : Int) + 1) poly 0 1⟩ :: post := by
  refine ⟨(dealL poly n).drop (k + 1), ?_⟩
  have h1 := List.take_append_drop k (dealL poly n)
  rw [drop_cons (dealL_get h)] at h1
  refine h1.symm.trans ?_
  congr 1
  refine List.ext_getElem? fun i => ?_
  rw [List.getElem?_take]
  split
  · rw [dealL_get (by omega), dealL_get (by omega)]
  · rw [List.getElem?_eq_none (by rw [dealL_len]; omega)]
abbrev DB (s : Int) (more : List Int) (n : Int) : Prop := s < 0 ∨ 1073741789 ≤ s ∨ n < 1 ∨ 24 < n ∨ n ≤ more.length
def dealE (s : Int) (more : List Int) (n : Int) : Int := if DB s more n then 1 else 0
def dealR (s : Int) (more : List Int) (n : Int) : List Pt := if DB s more n then [] else dealL (s :: more) n.toNat
theorem deal_bad {s : Int} {more : List Int} {n : Int} {H : Hp} (h : DB s more n) :
    ∃ a c, Value.tuple #[.slice none 0 0, .int .i64 1] = .tuple #[.slice a (dealR s more n).length c, .int .i64 (dealE s more n)] ∧ SlR ptR H a c (dealR s more n) := by
  rw [dealR, dealE, if_pos h, if_pos h]
  exact ⟨none, 0, rfl, SlR.nil0 _ _⟩
theorem deal_ok {s : Int} {more : List Int} {n : Nat} (h : ¬ DB s more n) : dealE s more n = 0 ∧ dealR s more n = dealL (s :: more) n := by
  rw [dealR, dealE, if_neg h, if_neg h]; exact ⟨rfl, by simp⟩
instance (p : Pt) : Decidable (okPt p) := by unfold okPt; infer_instance
instance (l : List Pt) : Decidable (Fm l) := by unfold Fm; infer_instance
def recV (l : List Pt) : Int × Int := if Fm l then atV 0 l else (0, 330)
/-- the numbers that were met -/
def metF (l : List Pt) : List Bool := l.foldl (fun m p => m.set p.X.toNat true) (List.replicate 25 false)
theorem met_aux : ∀ (l : List Pt) (m : List Bool) (i : Nat), m.length = 25 → i < 25 → (∀ p ∈ l, okPt p) → (l.foldl (fun m p => m.set p.X.toNat true) m)[i]? = some (m[i]?.getD false || decide ((i : Int) ∈ l.map Pt.X))
  | [], m, i, hm, hi, _ => by
    have : m[i]? = some m[i] := List.getElem?_eq_getElem (by omega)
    simp [this]
  | p :: l, m, i, hm, hi, hok => by
    rw [List.foldl_cons, met_aux l _ i (by simpa using hm) hi (fun q hq => hok q (by simp [hq]))]
    have h1 := hok p (by simp)
    unfold okPt at h1
    have h2 : m[i]? = some m[i] := List.getElem?_eq_getElem (by omega)
    rw [List.getElem?_set]
    by_cases h3 : p.X.toNat = i
    · have : p.X = (i : Int) := by omega
      simp [h3, this, hm, hi]
    · have : ¬ (i : Int) = p.X := by omega
      simp [h3, this]
theorem met_len (l : List Pt) : (metF l).length = 25 := by
  unfold metF
  have : ∀ (l : List Pt) (m : List Bool), (l.foldl (fun m p => m.set p.X.toNat true) m).length = m.length := by
    intro l
    induction l with
    | nil => intro m; rfl
    | cons p l ih => intro m; rw [List.foldl_cons, ih]; simp
  rw [this]; simp
theorem met_get {l : List Pt} {x : Pt} (hok : ∀ p ∈ l, okPt p) (hx : okPt x) : (metF l)[x.X.toNat]? = some (decide (x.X ∈ l.map Pt.X)) := by
  have h : 1 ≤ x.X ∧ x.X ≤ 24 := ⟨hx.1, hx.2.1⟩
  unfold metF
  rw [met_aux l _ _ (by simp) (by omega) hok, show ((x.X.toNat : Nat) : Int) = x.X by omega, List.getElem?_replicate, if_pos (by omega)]
  rfl
theorem met_succ {l : List Pt} {k : Nat} {x : Pt} (h : l[k]? = some x) : metF (l.take (k + 1)) = (metF (l.take k)).set x.X.toNat true := by
  rw [take_snoc h, metF, metF, List.foldl_append]; rfl
theorem nodup_snoc {l : List Pt} {k : Nat} {x : Pt} (h : l[k]? = some x) (hn : ((l.take k).map Pt.X).Nodup) (hx : x.X ∉ (l.take k).map Pt.X) : ((l.take (k + 1)).map Pt.X).Nodup := by
  rw [map_take_snoc h, List.nodup_append]
  exact ⟨hn, by simp, fun a ha b hb => by simp at hb; subst hb; exact fun e => hx (e ▸ ha)⟩
theorem not_fm_dup {l : List Pt} {k : Nat} {x : Pt} (h : l[k]? = some x) (hx : x.X ∈ (l.take k).map Pt.X) : ¬ Fm l := fun hF => by
  have h1 := hF.2.2.2
  have h2 : ((l.take (k + 1)).map Pt.X).Nodup := by
    rw [List.map_take]
    exact (List.take_sublist _ _).nodup h1
  rw [map_take_snoc h, List.nodup_append] at h2
  exact h2.2.2 _ hx _ (by simp) rfl
theorem okPts_len {l : List Pt} (hok : ∀ p ∈ l, okPt p) (hn : (l.map Pt.X).Nodup) : l.length ≤ 24 := by
  have h1 : ∀ x ∈ l.map Pt.X, x ∈ (List.range 24).map (fun (i : Nat) => (i : Int) + 1) := by
    intro x hx
    obtain ⟨p, hp, rfl⟩ := List.mem_map.1 hx
    have := hok p hp
    unfold okPt at this
    exact List.mem_map.2 ⟨(p.X - 1).toNat, by simp; omega, by omega⟩
  have h2 := (hn.length_le_of_subset h1)
  simpa using h2
theorem not_fm_ex {l : List Pt} (h : ∃ x ∈ l, ¬ okPt x) : ¬ Fm l := fun hF => by
  obtain ⟨x, hx, hn⟩ := h
  exact hn (hF.2.2.1 x hx)
/-- some of some shares -/
def Pick (l x : List Pt) (turned : Bool) (most : Int) : Prop := ∃ y : List Pt, y.Sublist l ∧ x = (if turned = true then y.reverse else y) ∧ (x.length : Int) ≤ max most 0
end Go.Proofs
