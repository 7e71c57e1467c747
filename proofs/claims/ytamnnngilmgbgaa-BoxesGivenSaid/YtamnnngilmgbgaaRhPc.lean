/- Boxes: one card put into a box, in plain Lean. -/
import Derived.Test.YtamnnngilmgbgaaB6
set_option maxRecDepth 100000
set_option autoImplicit false
set_option linter.unusedVariables false
set_option linter.unusedSimpArgs false
namespace Go.Proofs
open Go.XL
theorem fnd_slot {r : Box} {x : List Card} (h : Ris r) (hx : x ∈ r) : fndC r (plcL (hd x)) = if x.length = 1 then some (hd x) else none := by
 obtain ⟨k, hk⟩ := List.mem_iff_getElem?.1 hx
 by_cases h1 : x.length = 1
 ·rw [if_pos h1]
  refine fnd_y (k := k) (fun y hy hc => ?_) hk ⟨rfl, h1⟩; obtain ⟨i, hi⟩ := List.mem_iff_getElem?.1 hy
  have hik : i < k := by
   have := (List.getElem?_eq_some_iff.1 hi).1
   rw [List.length_take] at this; omega
  rw [List.getElem?_take, if_pos hik] at hi
  have e := pw_uniq h (List.mem_of_getElem? hi) hx hc.1
  subst e
  have h2 := List.pairwise_iff_getElem.1 h i k (List.getElem?_eq_some_iff.1 hi).1 (List.getElem?_eq_some_iff.1 hk).1 hik
  rw [(List.getElem?_eq_some_iff.1 hi).2, (List.getElem?_eq_some_iff.1 hk).2] at h2
  exact plq_irr rfl h2
 ·rw [if_neg h1]
  refine fnd_n fun y hy hc => ?_
  have e := pw_uniq h hy hx hc.1
  subst e
  exact h1 hc.2
theorem put_len {b : Box} {s : Card} (h : Ris b) : b.length ≤ (putB b s).length ∧ (putB b s).length ≤ b.length + 1 := by
 rw [putB_ins h]
 obtain ⟨p, q, _, _, ⟨e1, e2⟩ | ⟨x, e1, _, e2⟩⟩ := ins_split (s := s) b h
 ·rw [e2, e1]; simp; omega
 ·rw [e2, e1]; simp
/-- one card more -/
structure On (l : Box) (s : Card) : Prop where
 e1 : pputE [] s = 0
 e2 : pmrgE l (pputX [] s) = 0
 s1 : pputX l s = pmrgX l (pputX [] s)
 c : chkB (pputX l s) = 0
 l1 : l.length ≤ (pputX l s).length
 l2 : (pputX l s).length ≤ l.length + 1
 f1 : ∀ x ∈ l, (fndR l (plcL (hd x))).isSome = false → (fndR (pputX l s) (plcL (hd x))).isSome = false
 f2 : ∀ x ∈ l, ¬ plcL (hd x) = plcL s → fndR (pputX l s) (plcL (hd x)) = fndR l (plcL (hd x))
theorem put_x {b : Box} {s : Card} (h : chkB b = 0) (h2 : okC s) (hl : b.length ≤ 2000) (hD : D32 b) (hs : s.D.length = 32) : pputE b s = 0 ∧ pputX b s = putB b s := by
 have hb := IsBox.of h hD
 have h3 := put_len (s := s) hb.pw
 have e := put_eq h hD ⟨h2, hs⟩
 have hn : ¬ 4096 < (pmB b [[s]]).length := by rw [e]; omega
 exact ⟨(pput_3 h h2).1.trans (p_0 hn).1, by rw [(pput_3 h h2).2, (p_0 hn).2, e]⟩
theorem on {l : Box} {s : Card} (h : chkB l = 0) (h2 : okC s) (hl : l.length ≤ 12 ∨ 4096 < l.length) (hD : D32 l) (hs : s.D.length = 32) : On l s := by
 have hll := (chkB_0 h).1
 have il := IsBox.of h hD
 obtain ⟨e1, x1⟩ := put_x (b := []) (by decide) h2 (by decide) dN hs; obtain ⟨e2, x2⟩ := put_x h h2 (by omega) hD hs
 have i1 : IsBox (fun t => t = s) (putB [] s) := (put_is IsBox.empty ⟨h2, hs⟩).congr fun t => by simp
 have i2 := put_is il ⟨h2, hs⟩
 have hpl := put_len (s := s) il.pw
 have hp1 := put_len (b := []) (s := s) .nil
 have hp2 : (putB [] s).length ≤ 1 := hp1.2
 have c1 := i1.chk (by omega)
 have c2 := i2.chk (by omega)
 have m := mg h c1 hD i1.d32 (by omega)
 rw [← x1] at m
 refine ⟨e1, m.e, ?_, by rw [x2]; exact c2, by rw [x2]; exact hpl.1, by rw [x2]; exact hpl.2, fun x hx => ?_, fun x hx hne => ?_⟩
 ·rw [x2]
  rw [x1] at m ⊢
  exact i2.uniq (il.comp i1 m.is) fun t => Iff.rfl
 ·rw [x2]
  unfold fndR
  rw [if_pos h, if_pos c2, fnd_slot il.pw hx]
  have hxo := il.ok x hx
  obtain ⟨y, hy, e, -⟩ := i2.cov _ (.inl (il.sub x hx _ (hd_mem (pos_of hxo))))
  rw [← e, fnd_slot i2.pw hy]
  intro hf
  by_cases h1 : x.length = 1
  ·rw [if_pos h1] at hf; cases hf
  ·rcases slot_cases hxo with ⟨t, rfl⟩ | ⟨t, u, rfl, htu⟩
   ·simp at h1
   ·have kp : ∀ v ∈ [t, u], Kept v y := fun v hv => by
     obtain ⟨z, hz, e3, hk⟩ := i2.cov v (.inl (il.sub _ hx v hv))
     rw [pw_uniq i2.pw hy hz (by rw [e, e3, slot_plc hxo hv])]; exact hk
    rw [if_neg]
    ·rfl
    ·intro hy1
     have := len_one hy1
     rw [this] at kp
     have k1 := kept1.1 (kp t (by simp)); have k2 := kept1.1 (kp u (by simp))
     rw [k1, k2] at htu
     exact ltT_irr htu
 ·rw [x2]
  unfold fndR
  rw [if_pos h, if_pos c2, fnd_slot il.pw hx]
  have hxo := il.ok x hx
  obtain ⟨y, hy, e, -⟩ := i2.cov _ (.inl (il.sub x hx _ (hd_mem (pos_of hxo))))
  have hyo := i2.ok y hy
  have exy : x = y := by
   refine slot_same hxo hyo (fun v hv => ?_) (fun v hv => ?_)
   ·obtain ⟨z, hz, e3, hk⟩ := i2.cov v (.inl (il.sub x hx v hv))
    rw [pw_uniq i2.pw hy hz (by rw [e, e3, slot_plc hxo hv])]; exact hk
   ·have ev := slot_plc hyo hv
    rcases i2.sub y hy v hv with hv2 | rfl
    ·obtain ⟨z, hz, e3, hk⟩ := il.cov v hv2
     rw [pw_uniq il.pw hx hz (by rw [e3, ev, e])]; exact hk
    ·exact absurd (by rw [ev, e] : plcL (hd x) = plcL v) hne
  rw [← exy] at hy
  rw [fnd_slot i2.pw hy]
end Go.Proofs
