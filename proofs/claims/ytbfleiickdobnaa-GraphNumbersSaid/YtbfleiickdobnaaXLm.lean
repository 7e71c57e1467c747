/- From a law's contract to what its row asks: what was there stays; and arguments are opened from their readings. No statement of the program stands here. -/
import Derived.Test.YtbfleiickdobnaaXLk
import Derived.Carry
import Derived.ChangeArms
import Derived.ChangeSame
set_option autoImplicit false
namespace Go.XL
open Go.RowKit Go.ChangeShapes

def hpOf (w : World) : Hp := fun b => w.heap[b]?

theorem FnC.below {P : Program} {f : FuncId} {args : Array Value} {W : World} {V : Value} (h : FnC P f args (hpOf W) [] (RetR fun v _ _ => v = V)) :
    Calls P f args W fun e w' => e = .returned V ∧ Below W.heap.size W w' := by
  refine (h.2 W [] W ⟨rfl, rfl, rfl, fun _ _ e => e, fun p hp => by simp [live] at hp, by simp [live]⟩).mono ?_
  rintro e w' ⟨h0, H', own', hle, hok, hR⟩
  have hb : ∀ k, k < W.heap.size → w'.heap[k]? = W.heap[k]? := fun k hk => by
    have e1 : W.heap[k]? = some W.heap[k] := Array.getElem?_eq_getElem hk
    rw [e1]; exact hok.pub _ _ (hle _ _ e1)
  refine ⟨?_, hok.os, hok.tape, hok.out, ?_, hb⟩
  · cases e with
    | returned v => obtain rfl : v = V := hR; rfl
    | panicked _ => exact hR.elim
    | outgrown => exact hR.elim
  · rcases Nat.eq_zero_or_pos W.heap.size with h1 | h1
    · omega
    · have := hb (W.heap.size - 1) (by omega)
      rw [Array.getElem?_eq_getElem (by omega : W.heap.size - 1 < W.heap.size)] at this
      have := heap_lt this
      omega

/-- Whatever reads as a value of type t stands for one of ρ. -/
def Opens (P : Program) (t : TypeId) {α : Type} (ρ : Rep α) (wf : α → Prop) : Prop := ∀ {H : Type} (enc : TypeId × Value → H) (w : World) (base : Nat) (spare : Nat → Bool) (held : Bool) (fuel : Nat) (cs : List Value) (x : DataW H × List MemPlace),
  DataW.trod enc P w base spare held fuel t cs = some x → ∃ u, ρ.R (hpOf w) cs u ∧ wf u

theorem Opens.int {P : Program} {t : TypeId} {k : IntKind} (ht : P.underlying t = some (.int k)) : Opens P t (intR k) (fun n => (Lit.int k n).wf = true) := by
  intro H enc w base spare held fuel cs x h
  obtain ⟨n, h1, _, h3⟩ := DataW.trod_int ht h
  exact ⟨n, h1, h3⟩
theorem Opens.str {P : Program} {t : TypeId} (ht : P.underlying t = some .string) : Opens P t strR (fun s => s.size ≤ maxLen) := by
  intro H enc w base spare held fuel cs x h
  obtain ⟨n, h1, _, h3⟩ := DataW.trod_string ht h
  exact ⟨n, h1, h3⟩
theorem Opens.bool {P : Program} {t : TypeId} (ht : P.underlying t = some .bool) : Opens P t boolR (fun _ => True) := by
  intro H enc w base spare held fuel cs x h
  cases fuel with
  | zero => simp [DataW.trod] at h
  | succ n =>
    unfold DataW.trod at h
    rw [ht] at h
    split at h <;> simp_all
    rename_i b
    cases b
    · exact .inl rfl
    · exact .inr rfl

theorem list_choose {α : Type} {Q : Nat → α → Prop} : ∀ (n : Nat), (∀ i, i < n → ∃ u, Q i u) → ∃ l : List α, l.length = n ∧ ∀ (i : Nat) (u : α), l[i]? = some u → Q i u
  | 0, _ => ⟨[], rfl, fun i u h => by simp at h⟩
  | n + 1, h => by
    obtain ⟨l, h1, h2⟩ := list_choose n (fun i hi => h i (by omega))
    obtain ⟨u, hu⟩ := h n (by omega)
    refine ⟨l ++ [u], by simp [h1], fun i v hv => ?_⟩
    rw [List.getElem?_append] at hv
    split at hv
    · exact h2 i v hv
    · rename_i hi
      rcases Nat.lt_or_ge n i with h3 | h3
      · rw [List.getElem?_eq_none (by simp; omega)] at hv; cases hv
      · obtain rfl : i = n := by omega
        simp [h1] at hv; subst hv; exact hu

theorem cells?_get {w : World} {base : Nat} {a : Addr} {n : Nat} {cs : List Value} (h : w.cells? base a n = some cs) : cs.length = n ∧ ∀ j u, cs[j]? = some u → w.cell? (a.add j) = some u := by
  unfold World.cells? at h
  split at h
  · have h1 := mapM_some_length h
    have h2 := mapM_some_get h
    simp at h1
    refine ⟨h1, fun j u hj => ?_⟩
    have hj' : j < n := by rw [← h1]; exact (List.getElem?_eq_some_iff.1 hj).1
    rw [h2 j j (by simp [hj']), hj]
  · cases h

theorem Opens.slice {P : Program} {t e : TypeId} {α : Type} {ρ : Rep α} {wf : α → Prop} (ht : P.underlying t = some (.slice e)) (hsz : P.cellsOf e = ρ.sz) (hpos : 0 < ρ.sz) (ho : Opens P e ρ wf) :
    Opens P t (slR ρ) (fun l => l.length ≤ maxLen ∧ ∀ u ∈ l, wf u) := by
  intro H enc w base spare held fuel cs x h
  rcases DataW.trod_slice ht h with ⟨rfl, _⟩ | ⟨a, len, cap, elems, rest, n, _, rfl, _, _, hl, hm, hlen, hel, _, _⟩
  · exact ⟨[], ⟨none, 0, rfl, SlR.nil0 _ _⟩, Nat.zero_le _, by simp⟩
  · obtain ⟨l, h1, h2⟩ := list_choose (Q := fun i (u : α) => ∃ cs, w.cells? base (a.add (i * ρ.sz)) ρ.sz = some cs ∧ ρ.R (hpOf w) cs u ∧ wf u) len (fun i hi => by
      have h3 := hel i hi
      rw [List.getElem?_eq_getElem (by omega), hsz, Option.bind_eq_some_iff] at h3
      obtain ⟨cs, h4, h5⟩ := h3
      obtain ⟨u, h6, h7⟩ := ho enc w base spare held n cs _ h5
      exact ⟨u, cs, h4, h6, h7⟩)
    refine ⟨l, ⟨some a, cap, by rw [h1], by omega, by simp, fun i u hu => ?_⟩, by omega, fun u hu => ?_⟩
    · obtain ⟨cs, h3, h4, h5⟩ := h2 i u hu
      have hi : i < l.length := (List.getElem?_eq_some_iff.1 hu).1
      obtain ⟨cs0, h30, h40, _⟩ := h2 0 l[0] (by rw [List.getElem?_eq_getElem])
      obtain ⟨hk1, hk2⟩ := cells?_get h30
      have hsp : a.spot = none := by
        have := hk2 0 cs0[0] (List.getElem?_eq_getElem (by omega))
        simp [Addr.add] at this
        exact World.cell?_spot this
      obtain ⟨b, o, sp⟩ := a
      simp only at hsp; subst hsp
      refine ⟨b, o, cs, rfl, ?_, h4⟩
      obtain ⟨hc1, hc2⟩ := cells?_get h3
      have hadd : ∀ j k : Nat, ((⟨b, o, none⟩ : Addr).add j).add k = ⟨b, o + j + k, none⟩ := fun j k => by
        unfold Addr.add; (repeat' split) <;> simp_all
      have hblk : ∃ c T fz, w.heap[b]? = some (.cells c T fz) := by
        have := hc2 0 cs[0] (List.getElem?_eq_getElem (by omega))
        rw [hadd] at this
        unfold World.cell? at this
        split at this
        · rename_i c T fz hh; exact ⟨c, T, fz, hh⟩
        · cases this
      obtain ⟨c, T, fz, hh⟩ := hblk
      refine ⟨c, T, fz, hh, fun j v hj => ?_⟩
      have := hc2 j v hj
      rw [hadd] at this
      unfold World.cell? at this
      simpa [hh] using this
    · obtain ⟨i, hi, rfl⟩ := List.getElem_of_mem hu
      obtain ⟨_, _, _, h5⟩ := h2 i _ (List.getElem?_eq_getElem hi)
      exact h5
end Go.XL
