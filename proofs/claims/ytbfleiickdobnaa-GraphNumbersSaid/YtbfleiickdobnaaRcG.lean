/- The parts of a table, as both the code and the reference reckon them. -/
import Derived.Test.YtbfleiickdobnaaRcF
set_option autoImplicit false
set_option linter.unusedVariables false
set_option linter.unusedSimpArgs false
namespace Go.Proofs
open Go.XL
structure GS where
  Pl : Nat → Nat
  p : Int
  l : List (Int × Int)
def stepG (n : Nat) (out : List Int) (i j : Nat) (ok : Bool) (s : GS) : GS :=
  if ok = true ∧ (j : Int) ∉ out ∧ s.Pl i ≠ s.Pl (n + j) then ⟨jnP s.Pl i (n + j), s.p - 1, s.l ++ [((i : Int), (j : Int))]⟩ else s
def rowG (n : Nat) (out : List Int) (i : Nat) (row : List Bool) : Nat → GS → GS
  | 0, s => s
  | k + 1, s => stepG n out i k (row.getD k false) (rowG n out i row k s)
def allG (m : Tb) (out : List Int) : Nat → GS
  | 0 => ⟨fun x => x, (m.length : Int) + (wideM m : Nat) - out.length, []⟩
  | i + 1 => rowG m.length out i (m.getD i []) (m.getD i []).length (allG m out i)
/-- the state of a callback: what it holds after these marks -/
structure CbS where
  St : List (Int × Int) → Hp → XL.Own → Prop
  mono : ∀ l H H' oc, Le H H' → St l H oc → St l H' oc
def CbS.Holds (S : CbS) (l : List (Int × Int)) (H : Hp) (oc : XL.Own) : Prop := S.St l H oc
theorem CbS.Holds.mono {S : CbS} {l : List (Int × Int)} {H H' : Hp} {oc : XL.Own} (h : S.Holds l H oc) (hle : Le H H') : S.Holds l H' oc := S.mono _ _ _ _ hle h
def LeW (H H' : Hp) : Prop := Le H H'
theorem LeW.mono {H H' H'' : Hp} (h : LeW H H') (hle : Le H' H'') : LeW H H'' := Le.trans h hle
/-- 'g' is told of one mark after another -/
def CbOk (P : Program) (S : CbS) (g : Value) (H : Hp) : Prop := ∀ l H' oc (x : Int × Int), LeW H H' → l.length < 4000 → S.Holds l H' oc → FnV P g [.agg ⟨[.int .i64 x.1, .int .i64 x.2]⟩] H' oc (RetR fun _ H2 oc2 => S.Holds (l ++ [x]) H2 oc2)
theorem step_yes {n : Nat} {out : List Int} {i j : Nat} {s : GS} (h1 : (j : Int) ∉ out) (h2 : s.Pl i ≠ s.Pl (n + j)) : stepG n out i j true s = ⟨jnP s.Pl i (n + j), s.p - 1, s.l ++ [((i : Int), (j : Int))]⟩ := if_pos ⟨rfl, h1, h2⟩
theorem step_off {n : Nat} {out : List Int} {i j : Nat} {s : GS} : stepG n out i j false s = s := if_neg (fun h => by cases h.1)
theorem step_out {n : Nat} {out : List Int} {i j : Nat} {ok : Bool} {s : GS} (h : (j : Int) ∈ out) : stepG n out i j ok s = s := if_neg (fun h2 => h2.2.1 h)
theorem step_same {n : Nat} {out : List Int} {i j : Nat} {ok : Bool} {s : GS} (h : s.Pl i = s.Pl (n + j)) : stepG n out i j ok s = s := if_neg (fun h2 => h2.2.2 h)
theorem row_succ {n : Nat} {out : List Int} {i k : Nat} {row : List Bool} {s s2 : GS} {ok : Bool} (hs : s2 = rowG n out i row k s) (hx : row[k]? = some ok) : rowG n out i row (k + 1) s = stepG n out i k ok s2 := by
  rw [rowG, List.getD_eq_getElem?_getD, hx, hs]; rfl
theorem all_succ {m : Tb} {out : List Int} {i : Nat} {row : List Bool} (hx : m[i]? = some row) : allG m out (i + 1) = rowG m.length out i row row.length (allG m out i) := by
  rw [allG, List.getD_eq_getElem?_getD, hx]; rfl
theorem FI.init (N : Nat) {u : Nat → Nat} (h : ∀ x, x < N → u x = x) : FI N u (fun x => x) (fun _ => 0) :=
  ⟨fun x hx => by rw [h x hx]; exact hx, fun x hx => h x hx, fun _ _ _ => rfl, fun x hx hn => absurd (h x hx) hn⟩
theorem okG_wide {m : Tb} (h : okG m) : wideM m ≤ 16 := by
  cases m with
  | nil => simp [wideM]
  | cons r t => have := h.2 r (by simp); simp only [wideM, List.headD_cons] at this ⊢; omega
theorem upd_id {u : Nat → Nat} {x : Nat} (h : ∀ y, y < x → u y = y) : ∀ y, y < x + 1 → upd u x x y = y := by
  intro y hy
  unfold upd
  split
  · rename_i e; exact e.symm
  · exact h y (by omega)
theorem row_p {n : Nat} {out : List Int} {i : Nat} {row : List Bool} {s : GS} : ∀ k : Nat, s.p - k ≤ (rowG n out i row k s).p ∧ (rowG n out i row k s).p ≤ s.p
  | 0 => by simp [rowG]
  | k + 1 => by
    have := row_p (n := n) (out := out) (i := i) (row := row) (s := s) k
    rw [rowG, stepG]
    split
    · constructor
      · show s.p - ((k + 1 : Nat) : Int) ≤ (rowG n out i row k s).p - 1; omega
      · show (rowG n out i row k s).p - 1 ≤ s.p; omega
    · omega
theorem all_p {m : Tb} {out : List Int} (hok : okG m) : ∀ i : Nat, i ≤ m.length → (m.length : Int) + (wideM m : Nat) - out.length - 16 * i ≤ (allG m out i).p ∧ (allG m out i).p ≤ (m.length : Int) + (wideM m : Nat) - out.length
  | 0, _ => by simp [allG]
  | i + 1, h => by
    have ih := all_p (out := out) hok i (by omega)
    obtain ⟨row, hx⟩ : ∃ row, m[i]? = some row := ⟨_, List.getElem?_eq_getElem (by omega)⟩
    have hw := (hok.2 row (List.mem_of_getElem? hx)).2
    rw [all_succ hx]
    have := row_p (n := m.length) (out := out) (i := i) (row := row) (s := allG m out i) row.length
    omega
theorem gs_p {m : Tb} {out : List Int} {i j : Nat} {row : List Bool} (hok : okG m) (hl : out.length ≤ 16) (hx : m[i]? = some row) (hj : j ≤ row.length) :
    -2000 ≤ (rowG m.length out i row j (allG m out i)).p ∧ (rowG m.length out i row j (allG m out i)).p ≤ 2000 := by
  have hi := (List.getElem?_eq_some_iff.1 hx).1
  have h1 := all_p (out := out) hok i (by omega)
  have h2 := row_p (n := m.length) (out := out) (i := i) (row := row) (s := allG m out i) j
  have hw := (hok.2 row (List.mem_of_getElem? hx)).2
  have hm := hok.1
  have hwm := okG_wide hok
  omega
theorem step_yes2 {n : Nat} {out : List Int} {i j : Nat} {ok : Bool} {s : GS} (h0 : ok = true) (h1 : (j : Int) ∉ out) (h2 : s.Pl i ≠ s.Pl (n + j)) : stepG n out i j ok s = ⟨jnP s.Pl i (n + j), s.p - 1, s.l ++ [((i : Int), (j : Int))]⟩ := if_pos ⟨h0, h1, h2⟩
theorem step_off2 {n : Nat} {out : List Int} {i j : Nat} {ok : Bool} {s : GS} (h : ok = !true) : stepG n out i j ok s = s := by subst h; exact step_off
def nopS : CbS := ⟨fun _ _ oc => oc = [], fun _ _ _ _ _ h => h⟩
theorem row_l {n : Nat} {out : List Int} {i : Nat} {row : List Bool} {s : GS} : ∀ k : Nat, (rowG n out i row k s).l.length ≤ s.l.length + k
  | 0 => by simp [rowG]
  | k + 1 => by
    have := row_l (n := n) (out := out) (i := i) (row := row) (s := s) k
    rw [rowG, stepG]
    split
    · simp only [List.length_append, List.length_cons, List.length_nil]; omega
    · omega
theorem all_l {m : Tb} {out : List Int} (hok : okG m) : ∀ i : Nat, i ≤ m.length → (allG m out i).l.length ≤ 16 * i
  | 0, _ => by simp [allG]
  | i + 1, h => by
    have ih := all_l (out := out) hok i (by omega)
    obtain ⟨row, hx⟩ : ∃ row, m[i]? = some row := ⟨_, List.getElem?_eq_getElem (by omega)⟩
    have hw := (hok.2 row (List.mem_of_getElem? hx)).2
    rw [all_succ hx]
    have := row_l (n := m.length) (out := out) (i := i) (row := row) (s := allG m out i) row.length
    omega
theorem gs_l {m : Tb} {out : List Int} {i j : Nat} {row : List Bool} (hok : okG m) (hx : m[i]? = some row) (hj : j ≤ row.length) : (rowG m.length out i row j (allG m out i)).l.length < 4000 := by
  have hi := (List.getElem?_eq_some_iff.1 hx).1
  have h1 := all_l (out := out) hok i (by omega)
  have h2 := row_l (n := m.length) (out := out) (i := i) (row := row) (s := allG m out i) j
  have hw := (hok.2 row (List.mem_of_getElem? hx)).2
  have hm := hok.1
  omega
/-- the marks that a tree has gathered: a variable with a slice, and the slice's block -/
def addS (bm : Nat) : CbS := ⟨fun l H oc => ∃ pa a c, oc = [pa, (bm, .cells 53 [.slice a l.length c])] ∧ XL.Acc pairR 41 H pa a c l, fun _ _ _ _ hle ⟨pa, a, c, h1, h2⟩ => ⟨pa, a, c, h1, h2.mono hle⟩⟩
end Go.Proofs
