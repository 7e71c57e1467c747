/- Polynomials modulo 1073741789, as functions: they are determined by their values. No program stands here. -/
import Derived.Test.YtdiknopliedddaaRaP
set_option autoImplicit false
set_option linter.unusedVariables false
namespace Go.Proofs
/-- f is a polynomial with n coefficients -/
def Po : Nat → (Int → Int) → Prop
  | 0, f => ∀ x, E (f x) 0
  | n + 1, f => ∃ c g, Po n g ∧ ∀ x, E (f x) (c + x * g x)
theorem Po.congr {f g : Int → Int} (h : ∀ x, E (f x) (g x)) : ∀ {n : Nat}, Po n f → Po n g
  | 0, k => fun x => (h x).symm.trans (k x)
  | n + 1, ⟨c, u, hu, k⟩ => ⟨c, u, hu, fun x => (h x).symm.trans (k x)⟩
theorem Po.zero : ∀ n, Po n (fun _ => 0)
  | 0 => fun _ => E.refl _
  | n + 1 => ⟨0, fun _ => 0, Po.zero n, fun x => E.of_eq (by grind)⟩
theorem Po.succ : ∀ {n : Nat} {f : Int → Int}, Po n f → Po (n + 1) f
  | 0, f, h => ⟨0, fun _ => 0, Po.zero 0, fun x => (h x).trans (E.of_eq (by grind))⟩
  | n + 1, f, ⟨c, g, hg, h⟩ => ⟨c, g, Po.succ hg, h⟩
theorem Po.mono {n m : Nat} {f : Int → Int} (h : Po n f) (hm : n ≤ m) : Po m f := by
  obtain ⟨k, rfl⟩ : ∃ k, m = n + k := ⟨m - n, by omega⟩
  clear hm
  induction k with
  | zero => exact h
  | succ k ih => exact ih.succ
theorem Po.add : ∀ {n : Nat} {f g : Int → Int}, Po n f → Po n g → Po n (fun x => f x + g x)
  | 0, f, g, h, k => fun x => ((h x).add (k x)).trans (E.of_eq (by grind))
  | n + 1, f, g, ⟨c, u, hu, h⟩, ⟨d, v, hv, k⟩ => ⟨c + d, fun x => u x + v x, hu.add hv, fun x => ((h x).add (k x)).trans (E.of_eq (by grind))⟩
theorem Po.smul (a : Int) : ∀ {n : Nat} {f : Int → Int}, Po n f → Po n (fun x => a * f x)
  | 0, f, h => fun x => ((E.refl a).mul (h x)).trans (E.of_eq (by grind))
  | n + 1, f, ⟨c, u, hu, h⟩ => ⟨a * c, fun x => a * u x, hu.smul a, fun x => ((E.refl a).mul (h x)).trans (E.of_eq (by grind))⟩
theorem Po.lin (a : Int) {n : Nat} {f : Int → Int} (h : Po n f) : Po (n + 1) (fun x => (x - a) * f x) := by
  have h1 : Po (n + 1) (fun x => x * f x) := ⟨0, f, h, fun x => E.of_eq (by grind)⟩
  exact (h1.add (h.smul (-a)).succ).congr fun x => E.of_eq (by grind)
theorem Po.valR : ∀ cs : List Int, Po cs.length (fun x => valR x cs)
  | [] => fun x => E.refl _
  | c :: cs => ⟨c, fun x => Go.Proofs.valR x cs, Po.valR cs, fun x => (E.mod _).trans (((E.mod _).add (E.refl c)).trans (E.of_eq (by grind)))⟩
theorem Po.prF : ∀ ps : List Pt, Po (ps.length + 1) (fun x => prF x ps)
  | [] => ⟨1, fun _ => 0, Po.zero 0, fun x => E.of_eq (by simp [Go.Proofs.prF])⟩
  | q :: ps => (Po.prF ps).lin q.X
theorem Po.factor : ∀ {n : Nat} {f : Int → Int}, Po (n + 1) f → ∀ r, ∃ g, Po n g ∧ ∀ x, E (f x) (f r + (x - r) * g x)
  | 0, f, ⟨c, g, hg, h⟩, r => ⟨fun _ => 0, Po.zero 0, fun x => by
      have h1 := (h x).trans ((E.refl c).add ((E.refl x).mul (hg x)))
      have h2 := (h r).trans ((E.refl c).add ((E.refl r).mul (hg r)))
      refine (h1.trans (E.of_eq ?_)).trans ((h2.add (E.refl ((x - r) * 0))).symm)
      grind⟩
  | n + 1, f, ⟨c, g, hg, h⟩, r => by
    obtain ⟨u, hu, k⟩ := Po.factor hg r
    refine ⟨fun x => g r + x * u x, ⟨g r, u, hu, fun x => E.refl _⟩, fun x => ?_⟩
    have h1 := (h x).trans ((E.refl c).add ((E.refl x).mul (k x)))
    refine (h1.trans (E.of_eq ?_)).trans (((h r).add (E.refl ((x - r) * (g r + x * u x)))).symm)
    grind
theorem sub_zero' {a b : Int} : E (a - b) 0 ↔ E a b := by
  constructor
  · intro h
    have := h.add (E.refl b)
    exact (E.of_eq (by grind)).trans (this.trans (E.of_eq (by grind)))
  · intro h
    exact (h.sub (E.refl b)).trans (E.of_eq (by grind))
theorem Po.roots : ∀ {n : Nat} {f : Int → Int}, Po n f → ∀ xs : List Int, xs.length = n → (xs.map fun x => x % 1073741789).Nodup → (∀ x ∈ xs, E (f x) 0) → ∀ x, E (f x) 0
  | 0, f, h, _, _, _, _ => h
  | n + 1, f, h, [], hl, _, _ => by simp at hl
  | n + 1, f, h, r :: xs, hl, hn, hr => by
    obtain ⟨g, hg, k⟩ := h.factor r
    have h0 := hr r (by simp)
    rw [List.map_cons, List.nodup_cons] at hn
    have hg0 := hg.roots xs (by simpa using hl) hn.2 (fun s hs => by
      have h1 : E ((s - r) * g s) 0 := by
        have h2 := (k s).symm.trans (hr s (by simp [hs]))
        have h3 := h2.sub h0
        exact (E.of_eq (by grind)).trans (h3.trans (E.of_eq (by grind)))
      rcases zero_prod h1 with h4 | h4
      · exfalso
        refine hn.1 (List.mem_map.2 ⟨s, hs, ?_⟩)
        exact sub_zero'.1 h4
      · exact h4)
    intro x
    exact (k x).trans ((h0.add ((E.refl (x - r)).mul (hg0 x))).trans (E.of_eq (by grind)))

theorem atF_E (t : Int) {l : List Pt} {k : Nat} {p : Pt} (h : l[k]? = some p) : E (atF t l (k + 1)) (atF t l k + p.Y * (prF t (l.eraseIdx k) * prF p.X (l.eraseIdx k) ^ pe)) := by
  rw [atF_succ h]
  exact (E.mod _).trans ((E.of_eq (by simp)).trans ((E.refl (atF t l k)).add (atT_E t l k p)))
theorem Po.atF (l : List Pt) : ∀ k, k ≤ l.length → Po l.length (fun t => Go.Proofs.atF t l k)
  | 0, _ => Po.zero _
  | k + 1, h => by
    have hx : l[k]? = some l[k] := List.getElem?_eq_getElem (by omega)
    have h1 : Po l.length (fun t => (l[k].Y * Go.Proofs.prF l[k].X (l.eraseIdx k) ^ pe) * Go.Proofs.prF t (l.eraseIdx k)) := by
      refine Po.smul _ ((Po.prF _).mono ?_)
      rw [List.length_eraseIdx_of_lt (by omega)]; omega
    exact ((Po.atF l k (by omega)).add h1).congr fun t => (E.of_eq (by grind)).trans (atF_E t hx).symm
theorem prF_zero {t : Int} : ∀ {ps : List Pt} {q : Pt}, q ∈ ps → E t q.X → E (prF t ps) 0
  | p :: ps, q, h, e => by
    rcases List.mem_cons.1 h with rfl | h
    · exact ((sub_zero'.2 e).mul (E.refl _)).trans (E.of_eq (by grind))
    · exact ((E.refl (t - p.X)).mul (prF_zero h e)).trans (E.of_eq (by grind))
theorem prF_ne {t : Int} : ∀ {ps : List Pt}, (∀ q ∈ ps, ¬ E t q.X) → ¬ E (prF t ps) 0
  | [], _ => fun h => by simp [prF, E] at h
  | p :: ps, h => fun k => by
    rcases zero_prod k with h1 | h1
    · exact h p (by simp) (sub_zero'.1 h1)
    · exact prF_ne (fun q hq => h q (by simp [hq])) h1
theorem nodup_ne {l : List Pt} (hn : (l.map fun p : Pt => p.X % 1073741789).Nodup) {i j : Nat} {p q : Pt} (hi : l[i]? = some p) (hj : l[j]? = some q) (e : E p.X q.X) : i = j := by
  have h := diff_iff l |>.2 hn
  rcases Nat.lt_trichotomy i j with h1 | h1 | h1
  · exact (h j i q p h1 hj hi e.symm).elim
  · exact h1
  · exact (h i j p q h1 hi hj e).elim
theorem atF_node {l : List Pt} (hn : (l.map fun p : Pt => p.X % 1073741789).Nodup) {j : Nat} {p : Pt} (hj : l[j]? = some p) : ∀ k, k ≤ l.length → E (atF p.X l k) (if j < k then p.Y else 0)
  | 0, _ => E.refl _
  | k + 1, h => by
    have hx : l[k]? = some l[k] := List.getElem?_eq_getElem (by omega)
    refine (atF_E p.X hx).trans ?_
    have ih := atF_node hn hj k (by omega)
    by_cases hjk : j = k
    · subst hjk
      rw [hx] at hj; cases hj
      rw [if_neg (by omega)] at ih
      rw [if_pos (by omega)]
      have h1 : ¬ E (prF l[j].X (l.eraseIdx j)) 0 := prF_ne fun q hq e => by
        obtain ⟨i, hi, hq⟩ := List.mem_eraseIdx_iff_getElem?.1 hq
        exact hi (nodup_ne hn hx hq e).symm
      exact (ih.add ((E.refl _).mul (inv_E h1))).trans (E.of_eq (by grind))
    · have h1 : E (prF p.X (l.eraseIdx k)) 0 := prF_zero (List.mem_eraseIdx_iff_getElem?.2 ⟨j, hjk, hj⟩) (E.refl _)
      refine (ih.add ((E.refl _).mul (h1.mul (E.refl _)))).trans (E.of_eq ?_)
      by_cases h2 : j < k
      · rw [if_pos h2, if_pos (by omega)]; grind
      · rw [if_neg h2, if_neg (by omega)]; grind
/-- The polynomial through some points is the one that has their values. -/
theorem interp {l : List Pt} (hn : (l.map fun p : Pt => p.X % 1073741789).Nodup) {f : Int → Int} (hf : Po l.length f) (hv : ∀ p ∈ l, E (f p.X) p.Y) (t : Int) : E (atF t l l.length) (f t) := by
  have h1 : Po l.length (fun x => atF x l l.length + -1 * f x) := (Po.atF l _ (Nat.le_refl _)).add (hf.smul (-1))
  have h2 := h1.roots (l.map Pt.X) (by simp) (by rw [List.map_map]; exact hn) (fun x hx => by
    obtain ⟨p, hp, rfl⟩ := List.mem_map.1 hx
    obtain ⟨j, hj, rfl⟩ := List.getElem_of_mem hp
    have h3 := atF_node hn (List.getElem?_eq_getElem hj) l.length (Nat.le_refl _)
    rw [if_pos hj] at h3
    exact (h3.add ((E.refl (-1)).mul (hv _ hp))).trans (E.of_eq (by grind))) t
  exact sub_zero'.1 ((E.of_eq (by grind)).trans h2)
theorem atF_rng (t : Int) (l : List Pt) (k : Nat) : 0 ≤ atF t l k ∧ atF t l k < 1073741789 := by
  cases k with
  | zero => exact ⟨by simp [atF], by simp [atF]⟩
  | succ k => exact rng _
theorem atV_node {l : List Pt} (h24 : l.length ≤ 24) (hn : (l.map fun p : Pt => p.X % 1073741789).Nodup) {j : Nat} {p : Pt} (hj : l[j]? = some p) : atV p.X l = (p.Y % 1073741789, 0) := by
  have h := atF_node hn hj l.length (Nat.le_refl _)
  rw [if_pos (List.getElem?_eq_some_iff.1 hj).1] at h
  rw [atV, if_neg (by omega), if_neg (not_not_intro hn)]
  rw [(h.trans (E.mod p.Y).symm).eq (atF_rng _ _ _).1 (atF_rng _ _ _).2 (rng _).1 (rng _).2]
theorem atV_interp {l : List Pt} (h24 : l.length ≤ 24) (hn : (l.map fun p : Pt => p.X % 1073741789).Nodup) {f : Int → Int} (hf : Po l.length f) (hv : ∀ p ∈ l, E (f p.X) p.Y) (t : Int) (h0 : 0 ≤ f t) (h1 : f t < 1073741789) : atV t l = (f t, 0) := by
  rw [atV, if_neg (by omega), if_neg (not_not_intro hn), (interp hn hf hv t).eq (atF_rng _ _ _).1 (atF_rng _ _ _).2 h0 h1]
theorem atV_through {l : List Pt} (h24 : l.length ≤ 24) (hn : (l.map fun p : Pt => p.X % 1073741789).Nodup) {cs : List Int} (hc : cs.length ≤ l.length) (t : Int) : atV t (l.map fun p => ⟨p.X, valP p.X cs 0 1⟩) = (valP t cs 0 1, 0) := by
  have h1 := valR_rng t cs
  rw [valP_eq]
  refine atV_interp (by simpa using h24) ?_ ((Po.valR cs).mono (by simpa using hc)) (fun p hp => ?_) t h1.1 h1.2
  · rw [List.map_map]; exact hn
  · obtain ⟨q, _, rfl⟩ := List.mem_map.1 hp
    exact E.of_eq (valP_eq _ _).symm
def evl (cs : List Int) (l : List Pt) : List Pt := l.map fun p => ⟨p.X, valP p.X cs 0 1⟩
theorem evl_succ {cs : List Int} {l : List Pt} {k : Nat} {x : Pt} (h : l[k]? = some x) : evl cs (l.take (k + 1)) = evl cs (l.take k) ++ [⟨x.X, valP x.X cs 0 1⟩] := by
  obtain ⟨h1, rfl⟩ := List.getElem?_eq_some_iff.1 h
  rw [List.take_succ_eq_append_getElem h1, evl, List.map_append]; rfl
theorem evl_len (cs : List Int) (l : List Pt) : (evl cs l).length = l.length := List.length_map _
/-- the sum of two lists of coefficients, as the law builds it -/
def zipSum : List Int → List Int → List Int
  | [], bs => bs.map fun b => (0 + b) % 1073741789
  | a :: as, [] => a :: as
  | a :: as, b :: bs => (a + b) % 1073741789 :: zipSum as bs
theorem zipSum_len : ∀ as bs : List Int, (zipSum as bs).length = max as.length bs.length
  | [], bs => by simp [zipSum]
  | a :: as, [] => by simp [zipSum]
  | a :: as, b :: bs => by simp [zipSum, zipSum_len as bs]
theorem zip_tt : ∀ {as bs : List Int} {k : Nat} {x y : Int}, as[k]? = some x → bs[k]? = some y → (zipSum as bs)[k]? = some ((x + y) % 1073741789)
  | [], bs, k, x, y, h, _ => by simp at h
  | a :: as, [], k, x, y, _, h => by simp at h
  | a :: as, b :: bs, 0, x, y, h, g => by simp at h g; subst h; subst g; simp [zipSum]
  | a :: as, b :: bs, k + 1, x, y, h, g => by simp only [zipSum, List.getElem?_cons_succ] at *; exact zip_tt h g
theorem zip_tf : ∀ {as bs : List Int} {k : Nat} {x : Int}, as[k]? = some x → bs.length ≤ k → (zipSum as bs)[k]? = some x
  | [], bs, k, x, h, _ => by simp at h
  | a :: as, [], k, x, h, _ => by simpa [zipSum] using h
  | a :: as, b :: bs, 0, x, h, g => by simp at g
  | a :: as, b :: bs, k + 1, x, h, g => by simp only [zipSum, List.getElem?_cons_succ] at *; exact zip_tf h (by simpa using g)
theorem zip_ft : ∀ {as bs : List Int} {k : Nat} {y : Int}, as.length ≤ k → bs[k]? = some y → (zipSum as bs)[k]? = some ((0 + y) % 1073741789)
  | [], bs, k, y, _, h => by simp [zipSum, h]
  | a :: as, [], k, y, _, h => by simp at h
  | a :: as, b :: bs, 0, y, g, h => by simp at g
  | a :: as, b :: bs, k + 1, y, g, h => by simp only [zipSum, List.getElem?_cons_succ] at *; exact zip_ft (by simpa using g) h
def sumL (as bs : List Int) (k : Nat) : List Int := (zipSum as bs).take k
theorem sumL_succ {as bs : List Int} {k : Nat} {v : Int} (h : (zipSum as bs)[k]? = some v) : sumL as bs (k + 1) = sumL as bs k ++ [v] := by
  obtain ⟨h1, rfl⟩ := List.getElem?_eq_some_iff.1 h
  rw [sumL, List.take_succ_eq_append_getElem h1]; rfl
theorem sumL_len (as bs : List Int) (k : Nat) : (sumL as bs k).length = min k (max as.length bs.length) := by rw [sumL, List.length_take, zipSum_len]
def mulL (c : Int) (as : List Int) (k : Nat) : List Int := (as.take k).map fun x => c * x % 1073741789
theorem mulL_succ {c : Int} {as : List Int} {k : Nat} {x : Int} (h : as[k]? = some x) : mulL c as (k + 1) = mulL c as k ++ [c * x % 1073741789] := by
  obtain ⟨h1, rfl⟩ := List.getElem?_eq_some_iff.1 h
  rw [mulL, List.take_succ_eq_append_getElem h1, List.map_append]; rfl
theorem mulL_stay {c : Int} {as : List Int} {k : Nat} (h : as.length ≤ k) : mulL c as (k + 1) = mulL c as k := by
  rw [mulL, mulL, List.take_of_length_le h, List.take_of_length_le (by omega)]
theorem mulL_len (c : Int) (as : List Int) (k : Nat) : (mulL c as k).length = min k as.length := by simp [mulL]
theorem valR_cons (t c : Int) (l : List Int) : E (valR t (c :: l)) (valR t l * t + c) := (E.mod _).trans ((E.mod _).add (E.refl c))
theorem valR_zip (t : Int) : ∀ as bs : List Int, E (valR t (zipSum as bs)) (valR t as + valR t bs)
  | [], bs => by
    refine E.trans ?_ (E.of_eq (show valR t bs = valR t [] + valR t bs by simp [valR]))
    induction bs with
    | nil => exact E.refl _
    | cons b bs ih =>
      refine (valR_cons _ _ _).trans (E.trans ?_ (valR_cons t b bs).symm)
      exact (ih.mul (E.refl t)).add ((E.mod _).trans (E.of_eq (by simp)))
  | a :: as, [] => E.of_eq (by simp [zipSum, show valR t [] = 0 from rfl])
  | a :: as, b :: bs => by
    refine (valR_cons _ _ _).trans ?_
    refine ((((valR_zip t as bs).mul (E.refl t)).add (E.mod _)).trans (E.of_eq ?_)).trans ((valR_cons t a as).add (valR_cons t b bs)).symm
    grind
theorem valR_mul (t c : Int) : ∀ as : List Int, E (valR t (as.map fun x => c * x % 1073741789)) (c * valR t as)
  | [] => E.of_eq (by simp [valR])
  | a :: as => by
    refine (valR_cons _ _ _).trans ?_
    refine ((((valR_mul t c as).mul (E.refl t)).add (E.mod _)).trans (E.of_eq ?_)).trans ((E.refl c).mul (valR_cons t a as)).symm
    grind
theorem sum_val (t : Int) (as bs : List Int) : valP t (sumL as bs (max as.length bs.length)) 0 1 = (valP t as 0 1 + valP t bs 0 1) % 1073741789 := by
  rw [sumL, List.take_of_length_le (by rw [zipSum_len]; exact Nat.le_refl _), valP_eq, valP_eq, valP_eq]
  exact ((valR_zip t as bs).trans (E.mod _).symm).eq (valR_rng _ _).1 (valR_rng _ _).2 (rng _).1 (rng _).2
theorem mul_val (t c : Int) (as bs : List Int) : valP t (mulL c as (max as.length bs.length)) 0 1 = c * valP t as 0 1 % 1073741789 := by
  rw [mulL, List.take_of_length_le (by omega), valP_eq, valP_eq]
  exact ((valR_mul t c as).trans (E.mod _).symm).eq (valR_rng _ _).1 (valR_rng _ _).2 (rng _).1 (rng _).2
def Nd (l : List Pt) : Prop := (l.map fun p : Pt => p.X % 1073741789).Nodup
theorem atV_ok {l : List Pt} (h24 : l.length ≤ 24) (hn : Nd l) (t : Int) : atV t l = (atF t l l.length, 0) := by
  unfold Nd at hn
  rw [atV, if_neg (by omega), if_neg (not_not_intro hn)]
theorem atV_dup {l : List Pt} (h24 : l.length ≤ 24) (hn : ¬ Nd l) (t : Int) : atV t l = (0, 120) := by
  unfold Nd at hn
  rw [atV, if_neg (by omega), if_pos hn]
theorem atF_val {l : List Pt} (hn : Nd l) {p : Pt} (hp : p ∈ l) : E (atF p.X l l.length) p.Y := by
  obtain ⟨j, hj, rfl⟩ := List.getElem_of_mem hp
  have h3 := atF_node hn (List.getElem?_eq_getElem hj) l.length (Nat.le_refl _)
  rwa [if_pos hj] at h3
theorem atV_same {l m : List Pt} (hl : Nd l) (hm : Nd m) (hlen : l.length ≤ m.length) (h24 : m.length ≤ 24) (hv : ∀ p ∈ m, E (atF p.X l l.length) p.Y) (t : Int) : atV t m = atV t l := by
  rw [atV_ok (by omega) hl]
  exact atV_interp h24 hm ((Po.atF l _ (Nat.le_refl _)).mono hlen) hv t (atF_rng _ _ _).1 (atF_rng _ _ _).2
theorem nd_rot {l : List Pt} (hn : Nd l) (r : Nat) : Nd (l.drop r ++ l.take r) := by
  have h1 : (l.drop r ++ l.take r).Perm l := List.perm_append_comm.trans (List.Perm.of_eq (List.take_append_drop r l))
  exact (h1.map _).nodup_iff.2 hn
theorem atV_rot {l : List Pt} (h24 : l.length ≤ 24) (hn : Nd l) (r : Nat) (t : Int) : atV t (l.drop r ++ l.take r) = atV t l := by
  have h1 : (l.drop r ++ l.take r).Perm l := List.perm_append_comm.trans (List.Perm.of_eq (List.take_append_drop r l))
  exact atV_same hn (nd_rot hn r) (by rw [h1.length_eq]; exact Nat.le_refl _) (by rw [h1.length_eq]; exact h24) (fun p hp => atF_val hn (h1.mem_iff.1 hp)) t
theorem atV_plus {l : List Pt} (h24 : l.length < 24) (hn : Nd l) (u t : Int) (hp : Nd (l ++ [⟨u, (atV u l).1⟩])) : atV t (l ++ [⟨u, (atV u l).1⟩]) = atV t l := by
  refine atV_same hn hp (by simp) (by simp; omega) (fun p hp => ?_) t
  rcases List.mem_append.1 hp with h | h
  · exact atF_val hn h
  · obtain rfl := List.mem_singleton.1 h
    rw [atV_ok (by omega) hn]
    exact E.refl _
end Go.Proofs
