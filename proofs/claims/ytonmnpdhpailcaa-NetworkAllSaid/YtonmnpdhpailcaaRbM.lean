/- Links and packets, in plain Lean. No program stands here. -/
import Derived.Test.YtonmnpdhpailcaaXLs
set_option autoImplicit false
set_option linter.unusedVariables false
set_option linter.unusedSimpArgs false
namespace Go.Proofs
open Go.XL
structure Pk where
  From : Int
  To : Int
  Data : List UInt8
deriving DecidableEq
structure Nt where
  q : List Pk
  ap : List (Int × Int)
deriving DecidableEq
def pkR : Rep Pk where
  sz := 3
  R := fun H cs p => ∃ a c, cs = [.int .i64 p.From, .int .i64 p.To, .slice a p.Data.length c] ∧ SlR u8R H a c p.Data
  len := fun ⟨_, _, h, _⟩ => by subst h; rfl
  one := fun ⟨_, _, h, _⟩ => by subst h; rfl
  mono := fun hle ⟨a, c, h, k⟩ => ⟨a, c, h, k.mono hle⟩
def PkV (H : Hp) (v : Value) (p : Pk) : Prop := ∃ a c, v = .agg ⟨[.int .i64 p.From, .int .i64 p.To, .slice a p.Data.length c]⟩ ∧ SlR u8R H a c p.Data
def NtV (H : Hp) (v : Value) (n : Nt) : Prop := ∃ aq cq ap cp, v = .agg ⟨[.slice aq n.q.length cq, .slice ap n.ap.length cp]⟩ ∧ SlR pkR H aq cq n.q ∧ SlR pairR H ap cp n.ap
abbrev site (x : Int) : Prop := 0 ≤ x ∧ x < 24
abbrev pkOk (p : Pk) : Prop := site p.From ∧ site p.To ∧ p.From ≠ p.To ∧ p.Data.length ≤ 1048576
abbrev linkOk (x : Int × Int) : Prop := 0 ≤ x.1 ∧ x.1 < x.2 ∧ x.2 < 24
abbrev lexLt (x y : Int × Int) : Prop := x.1 < y.1 ∨ (x.1 = y.1 ∧ x.2 < y.2)
abbrev apOk (l : List (Int × Int)) : Prop := (∀ x ∈ l, linkOk x) ∧ l.Pairwise lexLt
abbrev netOk (n : Nt) : Prop := n.q.length ≤ 4096 ∧ (∀ p ∈ n.q, pkOk p) ∧ apOk n.ap
def chkE (n : Nt) : Int := if netOk n then 0 else 60
theorem lexLt_trans {x y z : Int × Int} (h : lexLt x y) (k : lexLt y z) : lexLt x z := by unfold lexLt at *; omega
/-- how two lists of numbers compare -/
def cmpI (a b : Int) : Int := if a < b then -1 else if b < a then 1 else 0
def cmpL : List Int → List Int → Int
  | [], [] => 0
  | [], _ :: _ => -1
  | _ :: _, [] => 1
  | x :: xs, y :: ys => if cmpI x y ≠ 0 then cmpI x y else cmpL xs ys
theorem drop_cons {α : Type} {l : List α} {k : Nat} {x : α} (h : l[k]? = some x) : l.drop k = x :: l.drop (k + 1) := by
  obtain ⟨hk, rfl⟩ := List.getElem?_eq_some_iff.1 h
  exact List.drop_eq_getElem_cons hk
theorem cmpL_step {l m : List Int} {k : Nat} {x y : Int} (hx : l[k]? = some x) (hy : m[k]? = some y) : cmpL (l.drop k) (m.drop k) = if cmpI x y ≠ 0 then cmpI x y else cmpL (l.drop (k + 1)) (m.drop (k + 1)) := by
  rw [drop_cons hx, drop_cons hy, cmpL]
theorem cmpL_long {l m : List Int} {k : Nat} {x : Int} (hx : l[k]? = some x) (hy : m.length ≤ k) : cmpL (l.drop k) (m.drop k) = 1 := by
  rw [drop_cons hx, List.drop_eq_nil_of_le hy]; rfl
theorem cmpL_end {l m : List Int} (h : l.length ≤ m.length) : cmpL (l.drop l.length) (m.drop l.length) = if l.length < m.length then -1 else 0 := by
  rw [List.drop_length]
  split
  · rename_i hlt
    rw [drop_cons (List.getElem?_eq_getElem hlt)]; rfl
  · rw [List.drop_eq_nil_of_le (by omega)]; rfl
theorem cmpL_pair (a b c d : Int) : ¬ (0 ≤ cmpL [a, b] [c, d]) ↔ lexLt (a, b) (c, d) := by
  simp only [cmpL, cmpI, lexLt]
  split <;> split <;> (try split) <;> (try split) <;> omega
theorem ap_nil : apOk (List.take 0 ([] : List (Int × Int))) := ⟨by simp, by simp⟩
theorem ap_snoc {l : List (Int × Int)} {k : Nat} {x : Int × Int} (h : apOk (l.take k)) (hx : l[k]? = some x) (hl : linkOk x) (hlt : ∀ y, 0 < k → l[k - 1]? = some y → lexLt y x) : apOk (l.take (k + 1)) := by
  rw [take_snoc hx]
  refine ⟨?_, ?_⟩
  · intro y hy
    rcases List.mem_append.1 hy with h1 | h1
    · exact h.1 y h1
    · simp at h1; subst h1; exact hl
  · rw [List.pairwise_append]
    refine ⟨h.2, by simp, ?_⟩
    intro a ha b hb
    simp at hb; subst hb
    obtain ⟨j, hj, rfl⟩ := List.getElem_of_mem ha
    have hk : 0 < k := by simp at hj; omega
    have hlen : k < l.length := (List.getElem?_eq_some_iff.1 hx).1
    have hlast := hlt _ hk (List.getElem?_eq_getElem (by omega))
    have hjk : j < k := by simp at hj; omega
    rcases Nat.lt_or_ge j (k - 1) with h1 | h1
    · have h2 := List.pairwise_iff_getElem.1 h.2 j (k - 1) hj (by simp; omega) h1
      refine lexLt_trans h2 ?_
      simpa using hlast
    · obtain rfl : j = k - 1 := by omega
      simpa using hlast
theorem ap_bad1 {l : List (Int × Int)} {k : Nat} {x : Int × Int} (hx : l[k]? = some x) (hl : ¬ linkOk x) : ¬ apOk l := fun h => hl (h.1 x (List.mem_of_getElem? hx))
theorem ap_bad2 {l : List (Int × Int)} {k : Nat} {x y : Int × Int} (hx : l[k]? = some x) (hk : 0 < k) (hy : l[k - 1]? = some y) (hl : ¬ lexLt y x) : ¬ apOk l := fun h => by
  obtain ⟨h1, rfl⟩ := List.getElem?_eq_some_iff.1 hx
  obtain ⟨h2, rfl⟩ := List.getElem?_eq_some_iff.1 hy
  exact hl (List.pairwise_iff_getElem.1 h.2 (k - 1) k h2 h1 (by omega))
theorem chk_ok {n : Nt} (h : netOk n) : chkE n = 0 := if_pos h
theorem chk_bad {n : Nt} (h : ¬ netOk n) : chkE n = 60 := if_neg h
theorem chk_eq {n : Nt} : chkE n = 0 ↔ netOk n := ⟨fun h => Decidable.by_contra fun hn => absurd ((chk_bad hn).symm.trans h) (by decide), chk_ok⟩
def slCap {α : Type} (ρ : Rep α) (l : List α) : Value → Hp → Prop := fun v H => ∃ a c, v = .slice a l.length c ∧ SlR ρ H a c l ∧ c ≤ l.length
theorem slCap_mono {α : Type} (ρ : Rep α) (l : List α) : ∀ v H H', Le H H' → slCap ρ l v H → slCap ρ l v H' := fun _ _ _ hle ⟨a, c, h1, h2, h3⟩ => ⟨a, c, h1, h2.mono hle, h3⟩
/-- what the functions of the links answer -/
def sendV (n : Nt) (p : Pk) : Nt × Int :=
  if ¬ (netOk n ∧ pkOk p) then (⟨[], []⟩, 60) else if n.q.length = 4096 then (⟨[], []⟩, 2) else (⟨n.q ++ [p], n.ap⟩, 0)
def askE (n : Nt) (i : Int) : Int := if ¬ netOk n then 60 else if i < 0 ∨ (n.q.length : Int) ≤ i then 1 else 0
def pk0 : Pk := ⟨0, 0, []⟩
def lnk (a b : Int) : Int × Int := (min a b, max a b)
def withoutL (q : List Pk) (i : Nat) : List Pk := q.take i ++ q.drop (i + 1)
def atP (n : Nt) (i : Int) : Pk := n.q.getD i.toNat pk0
def isCut (n : Nt) (a b : Int) : Bool := decide (lnk a b ∈ n.ap)
def delP (n : Nt) (i : Int) : Pk := if askE n i ≠ 0 then pk0 else if lnk (atP n i).From (atP n i).To ∈ n.ap then pk0 else atP n i
def delN (n : Nt) (i : Int) : Nt := if askE n i ≠ 0 then ⟨[], []⟩ else ⟨withoutL n.q i.toNat, n.ap⟩
def repV (n : Nt) (i : Int) : Nt × Int := if askE n i ≠ 0 then (⟨[], []⟩, askE n i) else sendV n (atP n i)
def rowP (a : Nat) : List (Int × Int) := (List.range' (a + 1) (23 - a)).map fun (b : Nat) => ((a : Int), (b : Int))
def allP : List (Int × Int) := (List.range 24).flatMap rowP
def keepB (n : Nt) (ch : Int × Int) (on : Bool) (x : Int × Int) : Bool := if x = ch then on else decide (x ∈ n.ap)
def cutL (n : Nt) (ch : Int × Int) (on : Bool) : List (Int × Int) := allP.filter (keepB n ch on)
def cutE (n : Nt) (a b : Int) : Int := if ¬ netOk n then 60 else if ¬ (site a ∧ site b ∧ a ≠ b) then 1 else 0
def cutN (n : Nt) (a b : Int) (on : Bool) : Nt := if cutE n a b ≠ 0 then ⟨[], []⟩ else ⟨n.q, cutL n (lnk a b) on⟩
theorem link_site (a b : Int) : linkOk (lnk a b) ↔ site a ∧ site b ∧ a ≠ b := by
  simp only [linkOk, lnk, site]; omega
theorem NtV.nil (H : Hp) : NtV H (.agg ⟨[.slice none 0 0, .slice none 0 0]⟩) ⟨[], []⟩ := ⟨none, 0, none, 0, rfl, SlR.nil0 _ _, SlR.nil0 _ _⟩
theorem PkV.nil (H : Hp) : PkV H (.agg ⟨[.int .i64 0, .int .i64 0, .slice none 0 0]⟩) pk0 := ⟨none, 0, rfl, SlR.nil0 _ _⟩
theorem NtV.mono {H H' : Hp} {v : Value} {n : Nt} (hle : Le H H') (h : NtV H v n) : NtV H' v n := by
  obtain ⟨a, b, c, d, h1, h2, h3⟩ := h; exact ⟨a, b, c, d, h1, h2.mono hle, h3.mono hle⟩
theorem PkV.mono {H H' : Hp} {v : Value} {p : Pk} (hle : Le H H') (h : PkV H v p) : PkV H' v p := by
  obtain ⟨a, b, h1, h2⟩ := h; exact ⟨a, b, h1, h2.mono hle⟩
def atR (n : Nt) (i : Int) : Pk := if askE n i ≠ 0 then pk0 else atP n i
theorem ask_ok {n : Nt} {k : Nat} (h : netOk n) (hk : k < n.q.length) : askE n k = 0 := by
  rw [askE, if_neg (fun h2 => h2 h), if_neg (by omega)]
theorem ask_net {n : Nt} {i : Int} (h : ¬ netOk n) : askE n i = 60 := if_pos h
theorem ask_arg {n : Nt} {i : Int} (h : netOk n) (hi : i < 0 ∨ (n.q.length : Int) ≤ i) : askE n i = 1 := by
  rw [askE, if_neg (fun h2 => h2 h), if_pos hi]
theorem ask_inv {n : Nt} {i : Int} (h : askE n i = 0) : netOk n ∧ ∃ k : Nat, i = k ∧ k < n.q.length := by
  unfold askE at h
  split at h
  · cases h
  · split at h
    · cases h
    · exact ⟨Decidable.not_not.1 (by assumption), i.toNat, by omega, by omega⟩
theorem atP_get {n : Nt} {k : Nat} {x : Pk} (h : n.q[k]? = some x) : atP n k = x := by
  rw [atP, Int.toNat_natCast, List.getD_eq_getElem?_getD, h]; rfl
theorem mem_take_snoc {l : List (Int × Int)} {k : Nat} {x y : Int × Int} (h : ∀ z ∈ l.take k, z ≠ y) (hx : l[k]? = some x) (hn : x ≠ y) : ∀ z ∈ l.take (k + 1), z ≠ y := by
  intro z hz
  rw [take_snoc hx] at hz
  rcases List.mem_append.1 hz with h1 | h1
  · exact h z h1
  · simp at h1; subst h1; exact hn
theorem at_eq {n : Nt} {k : Nat} {x : Pk} (h : netOk n) (hx : n.q[k]? = some x) : atR n k = x := by
  rw [atR, if_neg (by rw [ask_ok h (List.getElem?_eq_some_iff.1 hx).1]; decide), atP_get hx]
theorem at_bad {n : Nt} {i : Int} (h : askE n i ≠ 0) : atR n i = pk0 ∧ delP n i = pk0 ∧ delN n i = ⟨[], []⟩ ∧ repV n i = (⟨[], []⟩, askE n i) := ⟨if_pos h, if_pos h, if_pos h, if_pos h⟩
theorem del_eq {n : Nt} {k : Nat} {x : Pk} (h : netOk n) (hx : n.q[k]? = some x) : askE n k = 0 ∧ delP n k = (if lnk x.From x.To ∈ n.ap then pk0 else x) ∧ delN n k = ⟨withoutL n.q k, n.ap⟩ ∧ repV n k = sendV n x := by
  have h1 := ask_ok h (List.getElem?_eq_some_iff.1 hx).1
  refine ⟨h1, ?_, ?_, ?_⟩
  · rw [delP, if_neg (by rw [h1]; decide), atP_get hx]
  · rw [delN, if_neg (by rw [h1]; decide), Int.toNat_natCast]
  · rw [repV, if_neg (by rw [h1]; decide), atP_get hx]
theorem send_len (n : Nt) (p : Pk) : (sendV n p).1.q.length ≤ n.q.length + 1 ∧ (sendV n p).1.ap.length ≤ n.ap.length := by
  unfold sendV; split
  · simp
  · split <;> simp
theorem del_len (n : Nt) (i : Int) : (delN n i).q.length ≤ n.q.length + n.q.length ∧ (delN n i).ap.length ≤ n.ap.length := by
  unfold delN; split
  · simp
  · simp [withoutL]; omega
theorem rep_len (n : Nt) (i : Int) : (repV n i).1.q.length ≤ n.q.length + 1 ∧ (repV n i).1.ap.length ≤ n.ap.length := by
  unfold repV; split
  · simp
  · exact send_len _ _
def doneP (a : Nat) : List (Int × Int) := (List.range a).flatMap rowP
theorem rowP_len (a : Nat) : (rowP a).length = 23 - a := by simp [rowP]
theorem rowP_get {a j : Nat} (h : j < 23 - a) : (rowP a)[j]? = some ((a : Int), ((a + 1 + j : Nat) : Int)) := by
  simp [rowP, h]
theorem doneP_succ (a : Nat) : doneP (a + 1) = doneP a ++ rowP a := by simp [doneP, List.range_succ]
theorem allP_split {a j : Nat} (ha : a < 24) (h : j < 23 - a) : ∃ r, allP = (doneP a ++ (rowP a).take j) ++ ((a : Int), ((a + 1 + j : Nat) : Int)) :: r := by
  have h1 : (List.range 24) = List.range a ++ a :: (List.range' (a + 1) (23 - a)) := by
    rw [List.range_eq_range', List.range_eq_range', show 24 = a + (1 + (23 - a)) by omega, ← List.range'_append_1, Nat.zero_add, ← List.range'_append_1]; simp
  have h2 : rowP a = (rowP a).take j ++ ((a : Int), ((a + 1 + j : Nat) : Int)) :: (rowP a).drop (j + 1) := by
    conv => lhs; rw [← List.take_append_drop j (rowP a), drop_cons (rowP_get h)]
  refine ⟨(rowP a).drop (j + 1) ++ (List.range' (a + 1) (23 - a)).flatMap rowP, ?_⟩
  rw [allP, h1, List.flatMap_append, List.flatMap_cons]
  show doneP a ++ (rowP a ++ _) = _
  conv => lhs; rw [h2]
  simp
theorem keep_split {a j : Nat} {f : Int × Int → Bool} (ha : a < 24) (h : j < 23 - a) (hk : f ((a : Int), ((a + 1 + j : Nat) : Int)) = true) :
    ∃ r, allP.filter f = (doneP a ++ (rowP a).take j).filter f ++ ((a : Int), ((a + 1 + j : Nat) : Int)) :: r := by
  obtain ⟨r, hr⟩ := allP_split ha h
  exact ⟨r.filter f, by rw [hr, List.filter_append, List.filter_cons_of_pos (by simpa using hk)]⟩
theorem keep_yes {a j : Nat} {f : Int × Int → Bool} (h : j < 23 - a) (hk : f ((a : Int), ((a + 1 + j : Nat) : Int)) = true) :
    (doneP a ++ (rowP a).take (j + 1)).filter f = (doneP a ++ (rowP a).take j).filter f ++ [((a : Int), ((a + 1 + j : Nat) : Int))] := by
  rw [take_snoc (rowP_get h), ← List.append_assoc, List.filter_append, List.filter_cons_of_pos (by simpa using hk)]; rfl
theorem keep_no {a j : Nat} {f : Int × Int → Bool} (h : j < 23 - a) (hk : f ((a : Int), ((a + 1 + j : Nat) : Int)) = false) :
    (doneP a ++ (rowP a).take (j + 1)).filter f = (doneP a ++ (rowP a).take j).filter f := by
  rw [take_snoc (rowP_get h), ← List.append_assoc, List.filter_append]
  simp only [List.filter_cons, hk, Bool.false_eq_true, if_false, List.filter_nil, List.append_nil]
theorem pre_len {a j : Nat} (ha : a < 24) (h : j < 23 - a) (f : Int × Int → Bool) : ((doneP a ++ (rowP a).take j).filter f).length + 1 ≤ 276 := by
  obtain ⟨r, hr⟩ := allP_split ha h
  have h1 := congrArg List.length hr
  rw [show allP.length = 276 by decide +kernel, List.length_append, List.length_cons] at h1
  have h2 := List.length_filter_le f (doneP a ++ (rowP a).take j)
  omega
theorem keep_eq {n : Nt} {a b : Int} {on : Bool} {x y : Int} (h : x < y) : keepB n (lnk a b) on (x, y) = if (x = min a b ∧ y = max a b) then on else isCut n x y := by
  unfold keepB isCut
  rw [show lnk x y = (x, y) by simp only [lnk]; rw [Int.min_eq_left (by omega), Int.max_eq_right (by omega)]]
  simp only [lnk, Prod.mk.injEq]
theorem keep_row {a : Nat} {f : Int × Int → Bool} : (doneP a ++ (rowP a).take (23 - a)).filter f = (doneP (a + 1)).filter f := by
  rw [List.take_of_length_le (by rw [rowP_len]; omega), doneP_succ]
theorem cut_len (n : Nt) (a b : Int) (on : Bool) : (cutN n a b on).q.length ≤ n.q.length ∧ (cutN n a b on).ap.length ≤ 276 := by
  unfold cutN; split
  · simp
  · refine ⟨Nat.le_refl _, ?_⟩
    have h2 := List.length_filter_le (keepB n (lnk a b) on) allP
    rw [show allP.length = 276 by decide +kernel] at h2
    exact h2
theorem allP_done : allP = doneP 24 := rfl
theorem allP_len : allP.length = 276 := by decide +kernel
end Go.Proofs
