/- What is handed to a law of the graph, opened from its reading; what the calls answer, in one form for all tables. -/
import Derived.Test.YtbfleiickdobnaaRcS2
import Derived.Test.YtbfleiickdobnaaXLm
set_option autoImplicit false
set_option linter.unusedVariables false
set_option linter.unusedSimpArgs false
namespace Go.Proofs
open Go.XL Go.RowKit Go.ChangeShapes
theorem opens_tb : Opens Try.prog 22 (slR tbR) (fun l : Tb => l.length ≤ maxLen ∧ ∀ r ∈ l, r.length ≤ maxLen ∧ ∀ b ∈ r, True) :=
  Opens.slice Try.underlying22 (by kernel_rfl) (by decide) (Opens.slice Try.underlying40 (by kernel_rfl) (by decide) (Opens.bool Try.underlying4))
def trL (m : Tb) : List (Int × Int) := if chkG m = 0 then (finG m []).l else []
def trP (m : Tb) : Prop := chkG m = 0 ∧ (finG m []).p ≤ 1
instance (m : Tb) : Decidable (trP m) := by unfold trP; infer_instance
def TreeU (m : Tb) (H : Hp) (v : Value) : Prop := ∃ a c, SlR pairR H a c (trL m) ∧ v = .tuple #[.slice a (trL m).length c, .bool (decide (trP m)), .int .i64 (chkG m)]
theorem TreeR.u {m : Tb} {H : Hp} {v : Value} (h : TreeR m H v) : TreeU m H v := by
  unfold TreeU trL trP
  by_cases h0 : chkG m = 0
  · obtain ⟨a, c, h1, h2⟩ := h.2 h0
    simp only [h0, if_true, true_and]
    exact ⟨a, c, h1, h2⟩
  · simp only [h0, if_false, false_and, decide_false]
    exact ⟨none, 0, SlR.nil0 _ _, h.1 h0⟩
def cuP (m : Tb) : Prop := chkG m = 0 ∧ ¬ (finG m []).p ≤ 1
instance (m : Tb) : Decidable (cuP m) := by unfold cuP; infer_instance
def cuA (m : Tb) : List Int := if cuP m then someL (finG m []).Pl 0 m.length else []
def cuB (m : Tb) : List Int := if cuP m then someL (finG m []).Pl m.length (wideM m) else []
def CutU (m : Tb) (H : Hp) (v : Value) : Prop := ∃ a c b d, SlR (intR .i64) H a c (cuA m) ∧ SlR (intR .i64) H b d (cuB m) ∧ v = .tuple #[.slice a (cuA m).length c, .slice b (cuB m).length d, .bool (decide (cuP m)), .int .i64 (chkG m)]
theorem CutR.u {m : Tb} {H : Hp} {v : Value} (h : CutR m H v) : CutU m H v := by
  unfold CutU cuA cuB
  by_cases hc : cuP m
  · obtain ⟨a, c, b, d, h1, h2, h3⟩ := h.2.2 hc.1 hc.2
    have h0 := hc.1
    simp only [hc, if_true, decide_true, h0]
    exact ⟨a, c, b, d, h1, h2, h3⟩
  · simp only [hc, if_false, decide_false]
    refine ⟨none, 0, none, 0, SlR.nil0 _ _, SlR.nil0 _ _, ?_⟩
    by_cases h0 : chkG m = 0
    · rw [h0]; exact h.2.1 h0 (Decidable.byContradiction fun hn => hc ⟨h0, hn⟩)
    · exact h.1 h0
def reF (m : Tb) (t : Int) : Option (List Int) := if chkG m = 0 ∧ 0 ≤ t ∧ t ≤ 3 then (allL (wideM m) (t.toNat + 1)).find? (badB m) else none
def reL (m : Tb) (t : Int) : List Int := (reF m t).getD []
def reP (m : Tb) (t : Int) : Prop := (reF m t).isSome = true
instance (m : Tb) (t : Int) : Decidable (reP m t) := by unfold reP; infer_instance
def reE (m : Tb) (t : Int) : Int := if chkG m ≠ 0 then chkG m else if t < 0 ∨ 3 < t then 1 else 0
def ResU (m : Tb) (t : Int) (H : Hp) (v : Value) : Prop := ∃ a c, SlR (intR .i64) H a c (reL m t) ∧ v = .tuple #[.slice a (reL m t).length c, .bool (decide (reP m t)), .int .i64 (reE m t)]
theorem reP_dec (m : Tb) (t : Int) : decide (reP m t) = (reF m t).isSome := by
  by_cases h : reP m t
  · rw [decide_eq_true h]; exact h.symm
  · rw [decide_eq_false h]; symm; simpa [reP] using h
theorem ResR.u {m : Tb} {t : Int} {H : Hp} {v : Value} (h : ResR m t H v) : ResU m t H v := by
  unfold ResU reL reE
  rw [reP_dec]
  by_cases h0 : chkG m = 0
  · by_cases ht : t < 0 ∨ 3 < t
    · have h2 := h.2.1 h0 ht
      have e : reF m t = none := by rw [reF, if_neg (by omega)]
      rw [e, if_neg (by omega), if_pos ht]
      exact ⟨none, 0, SlR.nil0 _ _, h2⟩
    · have e : reF m t = (allL (wideM m) (t.toNat + 1)).find? (badB m) := by rw [reF, if_pos (by omega)]
      rw [e, if_neg (by omega), if_neg ht]
      obtain ⟨h2, h3⟩ := h.2.2 t.toNat (by omega) h0 (by omega)
      cases hf : (allL (wideM m) (t.toNat + 1)).find? (badB m) with
      | none => exact ⟨none, 0, SlR.nil0 _ _, h3 hf⟩
      | some o => obtain ⟨a, c, h4, h5⟩ := h2 o hf; exact ⟨a, c, h4, h5⟩
  · have e : reF m t = none := by rw [reF, if_neg (by omega)]
    rw [e, if_pos h0]
    exact ⟨none, 0, SlR.nil0 _ _, h.1 h0⟩
theorem toU {P : Program} {f : FuncId} {args : Array Value} {H : Hp} {R R' : Value → Hp → Prop} (h : FnC P f args H [] (RetR fun v H2 _ => R v H2)) (hr : ∀ v H2, R v H2 → R' v H2) : FnC P f args H [] (RetR fun v H2 _ => R' v H2) :=
  h.mono fun e _ _ _ h2 => by
    cases e with
    | returned v => exact hr _ _ h2
    | panicked _ => exact h2.elim
    | outgrown => exact h2.elim
section
variable (a : Option Addr) (c : Nat) (m : Tb) (H : Hp) (hs : SlR tbR H a c m) (hl : m.length < 9223372036854775808)
include hs hl
theorem tree_u : FnC Try.prog 12 #[.slice a m.length c] H [] (RetR fun v H2 _ => TreeU m H2 v) := toU (dropOwn (tree_fn a c m H hs hl)) fun _ _ h => h.u
theorem rtree_u : FnC Try.prog 13 #[.slice a m.length c] H [] (RetR fun v H2 _ => TreeU m H2 v) := toU (rtree_fn a c m H hs hl) fun _ _ h => h.u
theorem cut_u : FnC Try.prog 14 #[.slice a m.length c] H [] (RetR fun v H2 _ => CutU m H2 v) := toU (dropOwn (cut_fn a c m H hs hl)) fun _ _ h => h.u
theorem rcut_u : FnC Try.prog 15 #[.slice a m.length c] H [] (RetR fun v H2 _ => CutU m H2 v) := toU (rcut_fn a c m H hs hl) fun _ _ h => h.u
theorem resist_u (t : Int) (ht : -9223372036854775808 ≤ t ∧ t ≤ 9223372036854775807) : FnC Try.prog 20 #[.slice a m.length c, .int .i64 t] H [] (RetR fun v H2 _ => ResU m t H2 v) := toU (dropOwn (resist_fn a c m H hs hl t ht)) fun _ _ h => h.u
theorem rresist_u (t : Int) (ht : -9223372036854775808 ≤ t ∧ t ≤ 9223372036854775807) : FnC Try.prog 21 #[.slice a m.length c, .int .i64 t] H [] (RetR fun v H2 _ => ResU m t H2 v) := toU (rresist_fn a c m H hs hl t ht) fun _ _ h => h.u
end
theorem trL_len {m : Tb} : (trL m).length ≤ 1024 := by
  unfold trL
  split
  · rename_i h
    have hok := chk_eq0.1 h
    have h1 := all_l (out := []) hok m.length (Nat.le_refl _)
    have := hok.1
    show (allG m [] m.length).l.length ≤ 1024
    omega
  · simp
theorem cuA_len {m : Tb} : (cuA m).length ≤ 64 := by
  unfold cuA
  split
  · rename_i h; have := someL_len (finG m []).Pl 0 m.length; have := (chk_eq0.1 h.1).1; omega
  · simp
theorem cuB_len {m : Tb} : (cuB m).length ≤ 16 := by
  unfold cuB
  split
  · rename_i h; have := someL_len (finG m []).Pl m.length (wideM m); have := okG_wide (chk_eq0.1 h.1); omega
  · simp
theorem allL_mem {w : Nat} : ∀ {k : Nat} {o : List Int}, o ∈ allL w k ↔ o.length < k ∧ Rise w 0 o
  | 0, o => by simp [allL]
  | k + 1, o => by
    rw [allL, List.mem_append, allL_mem, mem_lists0]
    constructor
    · rintro (⟨h1, h2⟩ | ⟨h1, h2⟩)
      · exact ⟨by omega, h2⟩
      · exact ⟨by omega, h2⟩
    · rintro ⟨h1, h2⟩
      by_cases h : o.length = k
      · exact Or.inr ⟨h, h2⟩
      · exact Or.inl ⟨by omega, h2⟩
theorem reL_len {m : Tb} {t : Int} : (reL m t).length ≤ 3 := by
  unfold reL
  cases h : reF m t with
  | none => simp
  | some o =>
    unfold reF at h
    split at h
    · have := (allL_mem.1 (List.mem_of_find?_eq_some h)).1
      simp; omega
    · cases h
end Go.Proofs
