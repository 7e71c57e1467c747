/- What Tree and Cut answer. -/
import Derived.Test.YtbfleiickdobnaaRcZ
import Derived.Test.YtbfleiickdobnaaRcT
set_option autoImplicit false
set_option linter.unusedVariables false
set_option linter.unusedSimpArgs false
namespace Go.Proofs
open Go.XL
def TreeR (m : Tb) (H : Hp) (v : Value) : Prop :=
  (chkG m ≠ 0 → v = .tuple #[.slice none 0 0, .bool false, .int .i64 (chkG m)]) ∧ (chkG m = 0 → ∃ a c, SlR pairR H a c (finG m []).l ∧ v = .tuple #[.slice a (finG m []).l.length c, .bool (decide ((finG m []).p ≤ 1)), .int .i64 0])
def someL (Pl : Nat → Nat) (f n : Nat) : List Int := ((List.range n).filter fun i => Pl (f + i) == Pl 0).map (fun i : Nat => (i : Int))
theorem someL_yes {Pl : Nat → Nat} {f k : Nat} (h : Pl (f + k) = Pl 0) : someL Pl f (k + 1) = someL Pl f k ++ [((k : Nat) : Int)] := by
  simp [someL, List.range_succ, List.filter_append, h]
theorem someL_no {Pl : Nat → Nat} {f k : Nat} (h : Pl (f + k) ≠ Pl 0) : someL Pl f (k + 1) = someL Pl f k := by
  simp [someL, List.range_succ, List.filter_append, h]
theorem someL_len (Pl : Nat → Nat) (f n : Nat) : (someL Pl f n).length ≤ n := by
  rw [someL, List.length_map]
  have := (List.filter_sublist (p := fun i => Pl (f + i) == Pl 0) (l := List.range n)).length_le
  rwa [List.length_range] at this
theorem someL_mem {Pl : Nat → Nat} {f n : Nat} {x : Int} : x ∈ someL Pl f n ↔ 0 ≤ x ∧ x < n ∧ Pl (f + x.toNat) = Pl 0 := by
  simp only [someL, List.mem_map, List.mem_filter, List.mem_range, beq_iff_eq]
  constructor
  · rintro ⟨i, ⟨h1, h2⟩, rfl⟩; exact ⟨by omega, by omega, by simpa using h2⟩
  · rintro ⟨h1, h2, h3⟩; exact ⟨x.toNat, ⟨by omega, h3⟩, by omega⟩
def CutR (m : Tb) (H : Hp) (v : Value) : Prop :=
  (chkG m ≠ 0 → v = .tuple #[.slice none 0 0, .slice none 0 0, .bool false, .int .i64 (chkG m)]) ∧
  (chkG m = 0 → (finG m []).p ≤ 1 → v = .tuple #[.slice none 0 0, .slice none 0 0, .bool false, .int .i64 0]) ∧
  (chkG m = 0 → ¬ (finG m []).p ≤ 1 → ∃ a c b d, SlR (intR .i64) H a c (someL (finG m []).Pl 0 m.length) ∧ SlR (intR .i64) H b d (someL (finG m []).Pl m.length (wideM m)) ∧
    v = .tuple #[.slice a (someL (finG m []).Pl 0 m.length).length c, .slice b (someL (finG m []).Pl m.length (wideM m)).length d, .bool true, .int .i64 0])
def renL (l : List Int) (x y : Int) : List Int := l.map fun z => if z = x then y else z
theorem renL_len (l : List Int) (x y : Int) : (renL l x y).length = l.length := by simp [renL]
theorem renL_snoc {l : List Int} {k : Nat} {z x y : Int} (h : l[k]? = some z) : renL (l.take (k + 1)) x y = renL (l.take k) x y ++ [if z = x then y else z] := by
  rw [take_snoc h, renL, List.map_append]; rfl
theorem renL_yes {l : List Int} {k : Nat} {z x y : Int} (h : l[k]? = some z) (he : z = x) : renL (l.take (k + 1)) x y = renL (l.take k) x y ++ [y] := by rw [renL_snoc h, if_pos he]
theorem renL_no {l : List Int} {k : Nat} {z x y : Int} (h : l[k]? = some z) (he : ¬ z = x) : renL (l.take (k + 1)) x y = renL (l.take k) x y ++ [z] := by rw [renL_snoc h, if_neg he]
/-- the numbers of the parts, as a list -/
def plL (N : Nat) (Pl : Nat → Nat) : List Int := (List.range N).map fun x => ((Pl x : Nat) : Int)
theorem plL_len (N : Nat) (Pl : Nat → Nat) : (plL N Pl).length = N := by simp [plL]
theorem plL_succ (k : Nat) (Pl : Nat → Nat) : plL (k + 1) Pl = plL k Pl ++ [((Pl k : Nat) : Int)] := by simp [plL, List.range_succ]
theorem plL_get {N k : Nat} {Pl : Nat → Nat} {z : Int} (h : (plL N Pl)[k]? = some z) : k < N ∧ z = (Pl k : Nat) := by
  have hk : k < N := by have := (List.getElem?_eq_some_iff.1 h).1; rwa [plL_len] at this
  rw [plL, List.getElem?_map, List.getElem?_range hk] at h
  simp at h; exact ⟨hk, h.symm⟩
theorem plL_ren {N : Nat} {Pl : Nat → Nat} {a b : Nat} (h : Pl a ≠ Pl b) : renL (plL N Pl) (Pl b : Nat) (Pl a : Nat) = plL N (jnP Pl a b) := by
  unfold renL plL
  rw [List.map_map]
  apply List.map_congr_left
  intro x _
  simp only [Function.comp, jnP_ne h]
  by_cases h2 : Pl x = Pl b
  · rw [if_pos (by omega), if_pos h2]
  · rw [if_neg (by omega), if_neg h2]
def PartsR (m : Tb) (H : Hp) (v : Value) : Prop := ∃ a c b d, SlR (intR .i64) H a c (plL (m.length + wideM m) (finG m []).Pl) ∧ SlR pairR H b d (finG m []).l ∧
  v = .tuple #[.slice a (plL (m.length + wideM m) (finG m []).Pl).length c, .slice b (finG m []).l.length d]
def connB (m : Tb) : Prop := ∀ z ∈ plL (m.length + wideM m) (finG m []).Pl, z = ((finG m []).Pl 0 : Nat)
theorem conn_p {m : Tb} (hok : okG m) : connB m ↔ (finG m []).p ≤ 1 := by
  rw [p_iff hok (outOk_nil m)]
  constructor
  · intro h x y hx hy
    rw [inN_nil] at hx hy
    rw [← (finG_inv m []).iff]
    have h1 := h _ (List.mem_map.2 ⟨x, List.mem_range.2 hx, rfl⟩)
    have h2 := h _ (List.mem_map.2 ⟨y, List.mem_range.2 hy, rfl⟩)
    omega
  · intro h z hz
    obtain ⟨x, hx, rfl⟩ := List.mem_map.1 hz
    rw [List.mem_range] at hx
    have := ((finG_inv m []).iff x 0).2 (h x 0 (inN_nil.2 hx) (inN_nil.2 (by omega)))
    omega
theorem eL_yes {Pl : Nat → Nat} {k n : Nat} (h : k < n) (he : Pl k = Pl 0) : someL Pl 0 (min (k + 1) n) = someL Pl 0 (min k n) ++ [((k : Nat) : Int)] := by
  rw [Nat.min_eq_left (by omega), Nat.min_eq_left (by omega)]; exact someL_yes (by rw [Nat.zero_add]; exact he)
theorem eL_ge {Pl : Nat → Nat} {k n : Nat} (h : n ≤ k) : someL Pl 0 (min (k + 1) n) = someL Pl 0 (min k n) := by
  rw [Nat.min_eq_right (by omega), Nat.min_eq_right (by omega)]
theorem eL_no {Pl : Nat → Nat} {k n : Nat} (he : Pl k ≠ Pl 0) : someL Pl 0 (min (k + 1) n) = someL Pl 0 (min k n) := by
  rcases Nat.lt_or_ge k n with h | h
  · rw [Nat.min_eq_left (by omega), Nat.min_eq_left (by omega)]; exact someL_no (by rw [Nat.zero_add]; exact he)
  · exact eL_ge h
theorem jL_yes {Pl : Nat → Nat} {k n : Nat} (h : n ≤ k) (he : Pl k = Pl 0) : someL Pl n (k + 1 - n) = someL Pl n (k - n) ++ [((k : Nat) : Int) - (n : Nat)] := by
  rw [show k + 1 - n = (k - n) + 1 by omega, someL_yes (by rw [show n + (k - n) = k by omega]; exact he)]
  congr 2; omega
theorem jL_lt {Pl : Nat → Nat} {k n : Nat} (h : k < n) : someL Pl n (k + 1 - n) = someL Pl n (k - n) := by
  rw [show k + 1 - n = k - n by omega]
theorem jL_no {Pl : Nat → Nat} {k n : Nat} (he : Pl k ≠ Pl 0) : someL Pl n (k + 1 - n) = someL Pl n (k - n) := by
  rcases Nat.lt_or_ge k n with h | h
  · exact jL_lt h
  · rw [show k + 1 - n = (k - n) + 1 by omega, someL_no (by rw [show n + (k - n) = k by omega]; exact he)]
end Go.Proofs
