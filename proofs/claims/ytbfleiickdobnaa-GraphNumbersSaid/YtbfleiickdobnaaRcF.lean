/- The forest of the graph: its block, and what its joins keep. -/
import Derived.Test.YtbfleiickdobnaaRcM
import Derived.Test.YtbfleiickdobnaaXLw
set_option autoImplicit false
set_option linter.unusedVariables false
set_option linter.unusedSimpArgs false
namespace Go.XL
theorem subL_one : ∀ {xs : List Value} {o : Nat} {v : Value}, xs[o]? = some v → subL xs o 1 = some [v]
  | [], o, v, h => by cases h
  | x :: xs, 0, v, h => by simp at h; subst h; cases xs <;> rfl
  | x :: xs, o + 1, v, h => by
    have := subL_one (xs := xs) (o := o) (v := v) (by simpa using h)
    cases xs with
    | nil => simp at h
    | cons y r => simpa [subL] using this
theorem setL_one : ∀ {xs : List Value} {o : Nat} {v : Value}, o < xs.length → setL xs o [v] = some (xs.set o v)
  | [], o, v, h => by simp at h
  | x :: xs, 0, v, h => by cases xs <;> rfl
  | x :: xs, o + 1, v, h => by
    have := setL_one (xs := xs) (o := o) (v := v) (by simpa using h)
    simp [setL, this]
section
variable {C : Ctx} {ops : Array Oper} {Q : Exit → St → Prop} {rest : List Oper} {env : Env} {df : List Deferred} {H : Hp} {own : Own} {dst : Option Tmp} {ty : TypeId} {pos : String} {af : Array Edge}
theorem XO.loadC (i : Nat) {t T : TypeId} {x : Operand} {b o : Nat} {cs : List Value} {v : Value} (hx : ev env x = some (.pointer (some ⟨b, o, none⟩))) (ho : Own.at own i = some (b, .cells T cs))
    (ht : tyF C.P t 1 false = true) (hl : cs[o]? = some v) (hd : dstOk C.N dst = true) (h : XO C ops Q rest ⟨putE dst v env, df, H, own⟩) :
    XO C ops Q (⟨dst, .load t x, ty, pos, af, none⟩ :: rest) ⟨env, df, H, own⟩ := XO.loadO i hx ho ht (subL_one hl) rfl hd h
theorem XO.storeC (i : Nat) {t T : TypeId} {x y : Operand} {b o : Nat} {cs cs' : List Value} {own' : Own} {v : Value} (hx : ev env x = some (.pointer (some ⟨b, o, none⟩))) (hy : ev env y = some v)
    (ho : Own.at own i = some (b, .cells T cs)) (hv : cellsO v = some [v]) (ht : tyF C.P t 1 false = true) (h1 : oneAll [v] = true) (hl : o < cs.length) (hs : cs.set o v = cs') (hp : Own.put own i (.cells T cs') = some own') (hd : dstOk C.N dst = true)
    (h : XO C ops Q rest ⟨putE dst undef env, df, H, own'⟩) : XO C ops Q (⟨dst, .store t x y, ty, pos, af, none⟩ :: rest) ⟨env, df, H, own⟩ :=
  XO.storeO i hx hy ho hv ht rfl h1 (by rw [setL_one hl, hs]) hp hd h
end
end Go.XL
namespace Go.Proofs
open Go.XL
/-- the block of a forest: to which node each node leads, and the number of parts -/
def frC (up : Nat → Nat) (p : Int) : List Value := (List.range 80).map (fun i => Value.int .i64 (up i : Nat)) ++ [.int .i64 p]
def upd (up : Nat → Nat) (k v : Nat) : Nat → Nat := fun x => if x = k then v else up x
theorem fr_len (up : Nat → Nat) (p : Int) : (frC up p).length = 81 := by simp [frC]
theorem fr_get {up : Nat → Nat} {p : Int} {k : Nat} (h : k < 80) : (frC up p)[k]? = some (.int .i64 (up k : Nat)) := by
  simp [frC, List.getElem?_append, h]
theorem fr_parts {up : Nat → Nat} {p : Int} : (frC up p)[80]? = some (.int .i64 p) := by
  simp [frC, List.getElem?_append]
theorem fr_set {up : Nat → Nat} {p : Int} {k v : Nat} (h : k < 80) : (frC up p).set k (.int .i64 (v : Nat)) = frC (upd up k v) p := by
  apply List.ext_getElem?
  intro i
  rw [List.getElem?_set]
  by_cases hik : k = i
  · subst hik; rw [if_pos rfl, if_pos (by rw [fr_len]; omega), fr_get h]; simp [upd]
  · rw [if_neg hik]
    rcases Nat.lt_or_ge i 80 with h2 | h2
    · rw [fr_get h2, fr_get h2]; simp [upd, Ne.symm hik]
    · simp [frC, List.getElem?_append, Nat.not_lt.2 h2]
theorem fr_setp {up : Nat → Nat} {p q : Int} : (frC up p).set 80 (.int .i64 q) = frC up q := by
  apply List.ext_getElem?
  intro i
  rw [List.getElem?_set]
  by_cases hik : 80 = i
  · subst hik; rw [if_pos rfl, if_pos (by rw [fr_len]; omega), fr_parts]
  · rw [if_neg hik]
    rcases Nat.lt_or_ge i 80 with h2 | h2
    · rw [fr_get h2, fr_get h2]
    · rw [List.getElem?_eq_none (by rw [fr_len]; omega), List.getElem?_eq_none (by rw [fr_len]; omega)]
/-- Pl names the part of each node by the node to which all of it lead -/
structure FI (N : Nat) (up Pl d : Nat → Nat) : Prop where
  lt : ∀ x, x < N → up x < N
  lab : ∀ x, x < N → Pl (up x) = Pl x
  top : ∀ x, x < N → up x = x → Pl x = x
  dec : ∀ x, x < N → up x ≠ x → d (up x) < d x
theorem FI.root {N : Nat} {up Pl d : Nat → Nat} (h : FI N up Pl d) : ∀ (k x : Nat), d x ≤ k → x < N → Pl x < N ∧ up (Pl x) = Pl x ∧ Pl (Pl x) = Pl x := by
  intro k
  induction k with
  | zero =>
    intro x hk hx
    have he : up x = x := Decidable.by_contra fun hn => by have := h.dec x hx hn; omega
    have := h.top x hx he
    rw [this]; exact ⟨hx, he, this⟩
  | succ k ih =>
    intro x hk hx
    by_cases he : up x = x
    · have := h.top x hx he
      rw [this]; exact ⟨hx, he, this⟩
    · have h1 := h.dec x hx he
      have h2 := ih (up x) (by omega) (h.lt x hx)
      rwa [h.lab x hx] at h2
theorem FI.halve {N : Nat} {up Pl d : Nat → Nat} (h : FI N up Pl d) {x : Nat} (hx : x < N) (hne : up x ≠ x) : FI N (upd up x (up (up x))) Pl d ∧ d (up (up x)) < d x := by
  have hu := h.lt x hx
  have h1 := h.dec x hx hne
  have hd : d (up (up x)) < d x := by
    by_cases he : up (up x) = up x
    · rw [he]; exact h1
    · exact Nat.lt_trans (h.dec _ hu he) h1
  refine ⟨⟨?_, ?_, ?_, ?_⟩, hd⟩
  · intro y hy; unfold upd; split
    · exact h.lt _ hu
    · exact h.lt y hy
  · intro y hy; unfold upd; split
    · rename_i e; subst e; rw [h.lab _ hu, h.lab _ hx]
    · exact h.lab y hy
  · intro y hy; unfold upd; split
    · rename_i e; subst e; intro he; rw [he] at hd; omega
    · exact h.top y hy
  · intro y hy; unfold upd; split
    · rename_i e; subst e; intro _; exact hd
    · exact h.dec y hy
def ren (Pl : Nat → Nat) (b a : Nat) : Nat → Nat := fun x => if Pl x = b then a else Pl x
theorem FI.join {N : Nat} {up Pl d : Nat → Nat} (h : FI N up Pl d) {a b : Nat} (ha : a < N) (hb : b < N) (hne : Pl a ≠ Pl b) :
    FI N (upd up (Pl b) (Pl a)) (ren Pl (Pl b) (Pl a)) (fun x => if Pl x = Pl b then d x + d (Pl a) + 1 else d x) := by
  obtain ⟨a1, a2, a3⟩ := h.root _ a (Nat.le_refl _) ha
  obtain ⟨b1, b2, b3⟩ := h.root _ b (Nat.le_refl _) hb
  refine ⟨?_, ?_, ?_, ?_⟩
  · intro y hy; unfold upd; split
    · exact a1
    · exact h.lt y hy
  · intro y hy; unfold upd ren; split
    · rename_i e; subst e; rw [a3, b3, if_neg hne, if_pos rfl]
    · rw [h.lab y hy]
  · intro y hy; unfold upd ren; split
    · rename_i e; subst e; intro he; rw [b3, if_pos rfl]; exact he
    · rename_i e
      intro he
      have := h.top y hy he
      rw [this, if_neg e]
  · intro y hy; unfold upd
    split
    · rename_i e; subst e; intro _; rw [a3, if_neg hne, if_pos b3]; omega
    · intro he
      rw [h.lab y hy]
      have := h.dec y hy he
      split <;> omega
theorem upd_self {up : Nat → Nat} {k v : Nat} : upd up k v k = v := if_pos rfl
theorem fr_at {up : Nat → Nat} {p : Int} {k : Nat} (h : k < 80) : (frC up p)[0 + 0 + ((k : Nat) : Int).toNat * 1]? = some (.int .i64 (up k : Nat)) := by
  simpa using fr_get h
theorem fr_put {up : Nat → Nat} {p : Int} {k v : Nat} (h : k < 80) : (frC up p).set (0 + 0 + ((k : Nat) : Int).toNat * 1) (.int .i64 (v : Nat)) = frC (upd up k v) p := by
  simpa using fr_set h
theorem fr_in {up : Nat → Nat} {p : Int} {k : Nat} (h : k < 80) : 0 + 0 + ((k : Nat) : Int).toNat * 1 < (frC up p).length := by
  rw [fr_len]; simp; omega
def jnP (Pl : Nat → Nat) (a b : Nat) : Nat → Nat := if Pl a = Pl b then Pl else ren Pl (Pl b) (Pl a)
theorem fr_parts0 {up : Nat → Nat} {p : Int} : (frC up p)[0 + 80]? = some (.int .i64 p) := fr_parts
theorem fr_setp0 {up : Nat → Nat} {p q : Int} : (frC up p).set (0 + 80) (.int .i64 q) = frC up q := fr_setp
end Go.Proofs
