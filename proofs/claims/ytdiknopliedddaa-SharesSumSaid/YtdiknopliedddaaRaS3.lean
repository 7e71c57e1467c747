/- Plain facts on the numbers with which another secret leads to the same shares. No program stands here. -/
import Derived.Test.YtdiknopliedddaaRaS2
set_option autoImplicit false
set_option linter.unusedVariables false
set_option linter.unusedSimpArgs false
namespace Go.Proofs
open Go.XL
theorem getD_some {l : List Int} {n : Nat} (h : n < l.length) : l[n]? = some (l.getD n 0) := by
  rw [List.getD_eq_getElem?_getD, List.getElem?_eq_getElem h]; rfl
theorem getD_of {l : List Int} {n : Nat} {x : Int} (h : l[n]? = some x) : l.getD n 0 = x := by
  rw [List.getD_eq_getElem?_getD, h]; rfl
def nxtS (l : List Int) (p : Int) (m : List Int) (k : Nat) : List Int :=
  (m.set k ((m.getD k 0 + (0 - l.getD k 0 * p % 1073741789)) % 1073741789)).set (k + 1) (((m.set k ((m.getD k 0 + (0 - l.getD k 0 * p % 1073741789)) % 1073741789)).getD (k + 1) 0 + l.getD k 0) % 1073741789)
def nxtF (l : List Int) (p : Int) : Nat → List Int
  | 0 => List.replicate (l.length + 1) 0
  | k + 1 => nxtS l p (nxtF l p k) k
theorem nxtF_len (l : List Int) (p : Int) : ∀ k, (nxtF l p k).length = l.length + 1
  | 0 => by simp [nxtF]
  | k + 1 => by simp [nxtF, nxtS, nxtF_len l p k]
theorem nxtF_succ {l : List Int} {p : Int} {k : Nat} {x : Int} (hx : l[k]? = some x) : nxtF l p (k + 1) =
    ((nxtF l p k).set (k : Int).toNat (((nxtF l p k).getD (k : Int).toNat 0 + (0 - x * p % 1073741789)) % 1073741789)).set ((k : Int) + 1).toNat ((((nxtF l p k).set (k : Int).toNat (((nxtF l p k).getD (k : Int).toNat 0 + (0 - x * p % 1073741789)) % 1073741789)).getD ((k : Int) + 1).toNat 0 + x) % 1073741789) := by
  rw [show ((k : Int) + 1).toNat = k + 1 by omega, Int.toNat_natCast, nxtF, nxtS, getD_of hx]
def prodF (ps : List Int) : Nat → List Int
  | 0 => [1]
  | k + 1 => nxtF (prodF ps k) (ps.getD k 0) (prodF ps k).length
theorem prodF_len (ps : List Int) : ∀ k, (prodF ps k).length = k + 1
  | 0 => rfl
  | k + 1 => by rw [prodF, nxtF_len, prodF_len ps k]
theorem prodF_succ {ps : List Int} {k : Nat} {p : Int} (h : ps[k]? = some p) : prodF ps (k + 1) = nxtF (prodF ps k) p (prodF ps k).length := by
  rw [prodF, getD_of h]
/-- a polynomial's value, without reducing -/
def sm (x : Int) : List Int → Int
  | [] => 0
  | c :: l => sm x l * x + c
theorem valR_sm (x : Int) : ∀ l : List Int, E (valR x l) (sm x l)
  | [] => E.refl _
  | c :: l => (valR_cons x c l).trans (((valR_sm x l).mul (E.refl _)).add (E.refl _))
theorem sm_set (x : Int) : ∀ (l : List Int) (k : Nat) (v : Int), k < l.length → sm x (l.set k v) = sm x l + x ^ k * (v - l.getD k 0)
  | [], k, v, h => by simp at h
  | c :: l, 0, v, _ => by simp [sm]; grind
  | c :: l, k + 1, v, h => by
    simp only [List.set_cons_succ, sm, sm_set x l k v (by simpa using h), List.getD_cons_succ]
    rw [Int.pow_succ]; grind
theorem sm_take {x : Int} : ∀ {l : List Int} {k : Nat} {c : Int}, l[k]? = some c → sm x (l.take (k + 1)) = sm x (l.take k) + x ^ k * c
  | [], k, c, h => by simp at h
  | d :: l, 0, c, h => by simp at h; subst h; simp [sm]
  | d :: l, k + 1, c, h => by
    simp only [List.take_succ_cons, sm, sm_take (l := l) (k := k) (by simpa using h)]
    rw [Int.pow_succ]; grind
theorem sm_zero (x : Int) : ∀ n : Nat, sm x (List.replicate n 0) = 0
  | 0 => rfl
  | n + 1 => by rw [List.replicate_succ, sm, sm_zero x n]; simp
theorem nxtF_val (x p : Int) (l : List Int) : ∀ k, k ≤ l.length → E (sm x (nxtF l p k)) ((x - p) * sm x (l.take k))
  | 0, _ => by rw [nxtF, sm_zero]; exact E.of_eq (by simp [sm])
  | k + 1, h => by
    have hx : l[k]? = some l[k] := List.getElem?_eq_getElem (by omega)
    have ih := nxtF_val x p l k (by omega)
    have hl := nxtF_len l p k
    rw [nxtF, nxtS, getD_of hx, sm_set _ _ _ _ (by simp; omega), sm_set _ _ _ _ (by omega), sm_take hx]
    generalize (nxtF l p k).getD k 0 = u
    generalize ((nxtF l p k).set k ((u + (0 - l[k] * p % 1073741789)) % 1073741789)).getD (k + 1) 0 = v
    have h1 : E ((u + (0 - l[k] * p % 1073741789)) % 1073741789 - u) (u + (0 - l[k] * p) - u) := ((E.mod _).trans ((E.refl u).add ((E.refl 0).sub (E.mod _)))).sub (E.refl u)
    have h2 : E ((v + l[k]) % 1073741789 - v) (v + l[k] - v) := (E.mod _).sub (E.refl v)
    refine ((ih.add ((E.refl (x ^ k)).mul h1)).add ((E.refl (x ^ (k + 1))).mul h2)).trans (E.of_eq ?_)
    rw [Int.pow_succ]; grind
theorem prodF_step (x : Int) (ps : List Int) (k : Nat) : E (sm x (prodF ps (k + 1))) ((x - ps.getD k 0) * sm x (prodF ps k)) := by
  have := nxtF_val x (ps.getD k 0) (prodF ps k) _ (Nat.le_refl _)
  rwa [List.take_length] at this
theorem prodF_root {x : Int} {ps : List Int} {j : Nat} (hj : E x (ps.getD j 0)) : ∀ k, j < k → E (sm x (prodF ps k)) 0
  | 0, h => by omega
  | k + 1, h => by
    refine (prodF_step x ps k).trans ?_
    rcases Nat.lt_or_ge j k with h1 | h1
    · exact ((E.refl _).mul (prodF_root hj k h1)).trans (E.of_eq (by simp))
    · obtain rfl : j = k := by omega
      exact ((sub_zero'.2 hj).mul (E.refl _)).trans (E.of_eq (by simp))
theorem prodF_ne {x : Int} {ps : List Int} (h : ∀ j, j < ps.length → ¬ E x (ps.getD j 0)) : ∀ k, k ≤ ps.length → ¬ E (sm x (prodF ps k)) 0
  | 0, _ => fun h => by simp [prodF, sm, E] at h
  | k + 1, hk => fun h1 => by
    rcases zero_prod ((prodF_step x ps k).symm.trans h1) with h2 | h2
    · exact h k (by omega) (sub_zero'.1 h2)
    · exact prodF_ne h k (by omega) h2
theorem sm_at0 (l : List Int) : sm 0 l = l.getD 0 0 := by cases l <;> simp [sm]
/-- the further numbers -/
def addM (c : Int) : List Int → List Int → List Int
  | [], _ => []
  | m :: ms, [] => m % 1073741789 :: addM c ms []
  | m :: ms, x :: xs => (m % 1073741789 + c * x % 1073741789) % 1073741789 :: addM c ms xs
theorem addM_len (c : Int) : ∀ ms xs : List Int, (addM c ms xs).length = ms.length
  | [], _ => rfl
  | m :: ms, [] => by simp [addM, addM_len c ms []]
  | m :: ms, x :: xs => by simp [addM, addM_len c ms xs]
theorem addM_t {c : Int} : ∀ {ms xs : List Int} {k : Nat} {m x : Int}, ms[k]? = some m → xs[k]? = some x → (addM c ms xs)[k]? = some ((m % 1073741789 + c * x % 1073741789) % 1073741789)
  | [], xs, k, m, x, h, _ => by simp at h
  | m :: ms, [], k, _, x, _, h => by simp at h
  | m :: ms, x :: xs, 0, _, _, h, g => by simp at h g; subst h; subst g; simp [addM]
  | m :: ms, x :: xs, k + 1, _, _, h, g => by simp only [addM, List.getElem?_cons_succ] at *; exact addM_t h g
theorem addM_f {c : Int} : ∀ {ms xs : List Int} {k : Nat} {m : Int}, ms[k]? = some m → xs.length ≤ k → (addM c ms xs)[k]? = some (m % 1073741789)
  | [], xs, k, m, h, _ => by simp at h
  | m :: ms, [], 0, _, h, _ => by simp at h; subst h; simp [addM]
  | m :: ms, [], k + 1, _, h, _ => by simp only [addM, List.getElem?_cons_succ] at *; exact addM_f h (by simp)
  | m :: ms, x :: xs, 0, _, h, g => by simp at g
  | m :: ms, x :: xs, k + 1, _, h, g => by simp only [addM, List.getElem?_cons_succ] at *; exact addM_f h (by simpa using g)
theorem addM_val (x c : Int) : ∀ ms xs : List Int, xs.length ≤ ms.length → E (sm x (addM c ms xs)) (sm x ms + c * sm x xs)
  | [], [], _ => E.of_eq (by simp [addM, sm])
  | [], y :: ys, h => by simp at h
  | m :: ms, [], _ => by
    refine (((addM_val x c ms [] (by simp)).mul (E.refl x)).add (E.mod m)).trans (E.of_eq ?_)
    simp [sm]
  | m :: ms, y :: ys, h => by
    refine (((addM_val x c ms ys (by simpa using h)).mul (E.refl x)).add ((E.mod _).trans ((E.mod m).add (E.mod _)))).trans (E.of_eq ?_)
    simp [sm]; grind
def othC (s t : Int) (ps : List Int) : Int := (t - s) * inv0 ((prodF ps ps.length).getD 0 0) % 1073741789
def othL (s t : Int) (more ps : List Int) : List Int := addM (othC s t ps) more (prodF ps ps.length).tail
theorem oth_t {s t : Int} {more ps : List Int} {k : Nat} {m x : Int} (h : more[k]? = some m) (g : (prodF ps ps.length)[k + 1]? = some x) :
    (othL s t more ps).take (k + 1) = (othL s t more ps).take k ++ [(m % 1073741789 + othC s t ps * x % 1073741789) % 1073741789] :=
  take_snoc (addM_t h (by rw [List.getElem?_tail]; exact g))
theorem oth_f {s t : Int} {more ps : List Int} {k : Nat} {m : Int} (h : more[k]? = some m) (g : (prodF ps ps.length).length ≤ k + 1) :
    (othL s t more ps).take (k + 1) = (othL s t more ps).take k ++ [m % 1073741789] :=
  take_snoc (addM_f h (by rw [List.length_tail]; omega))
theorem inv0_E1 {a : Int} (h : ¬ E a 0) : E (a * inv0 a) 1 := by
  have : ¬ a % 1073741789 = 0 := fun e => h (by simpa [E] using e)
  show a * inv0 a % 1073741789 = 1 % 1073741789
  rw [inv0_mul this]; rfl
theorem other_val {s t : Int} {more ps : List Int} (hl : ps.length ≤ more.length) (hp : ∀ p ∈ ps, 1 ≤ p ∧ p ≤ 24) {x : Int} (hx : x ∈ ps) :
    valR x (t :: othL s t more ps) = valR x (s :: more) := by
  obtain ⟨j, hj, rfl⟩ := List.getElem_of_mem hx
  have hj' : ps[j]? = some ps[j] := List.getElem?_eq_getElem hj
  have hne : ¬ E ((prodF ps ps.length).getD 0 0) 0 := by
    have := prodF_ne (x := 0) (ps := ps) (fun i hi h => by
      have h1 := hp _ (List.getElem_mem hi)
      rw [getD_of (List.getElem?_eq_getElem hi)] at h
      have h2 := h.symm.dvd
      have := Int.le_of_dvd (by omega) h2
      omega) ps.length (Nat.le_refl _)
    rwa [sm_at0] at this
  have hroot : E (sm ps[j] (prodF ps ps.length)) 0 := prodF_root (j := j) (by rw [getD_of hj']; exact E.refl _) _ hj
  have hlen := prodF_len ps ps.length
  generalize hL : prodF ps ps.length = L at *
  refine E.eq ?_ (valR_rng _ _).1 (valR_rng _ _).2 (valR_rng _ _).1 (valR_rng _ _).2
  refine (valR_sm _ _).trans (E.trans ?_ (valR_sm _ _).symm)
  match L, hlen with
  | c0 :: cs, hlen =>
    simp only [sm, othL, hL, List.tail_cons, othC] at *
    simp only [List.getD_cons_zero] at *
    have h1 := addM_val ps[j] ((t - s) * inv0 c0 % 1073741789) more cs (by simp at hlen; omega)
    have h2 : E ((t - s) * inv0 c0 % 1073741789 * c0) (t - s) := by
      refine ((E.mod _).mul (E.refl c0)).trans ((E.of_eq ?_).trans (((E.refl (t - s)).mul (inv0_E1 hne)).trans (E.of_eq (by simp))))
      grind
    generalize (t - s) * inv0 c0 % 1073741789 = c at *
    have h3 : E (c * (sm ps[j] cs * ps[j] + c0)) 0 := ((E.refl c).mul hroot).trans (E.of_eq (by simp))
    refine ((h1.mul (E.refl _)).add (E.refl t)).trans ?_
    have h4 : E ((sm ps[j] more + c * sm ps[j] cs) * ps[j] + t) ((sm ps[j] more * ps[j] + s) + c * (sm ps[j] cs * ps[j] + c0) + (t - s - c * c0)) := E.of_eq (by grind)
    refine h4.trans ((((E.refl _).add h3).add ((E.refl (t - s)).sub h2)).trans (E.of_eq (by grind)))
end Go.Proofs
