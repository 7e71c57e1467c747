/- The law TopSeverity: it returns true, whatever the input, and what it was handed reads as before. No condition. -/
import Derived.Test.YthpfckdllencmaaGreatB10
import Derived.Test.YthpfckdllencmaaGreatRows
import Derived.WalkKit
import Derived.ProofKit
import Derived.OpenShut
import Derived.ShutString
import Derived.ChangeOld
import Derived.Below
set_option maxRecDepth 100000
set_option autoImplicit false
set_option linter.unusedVariables false
set_option linter.unusedSimpArgs false
namespace Go.Proofs.YthpfckdllencmaaGreat
open Go.XL

namespace topSeverity
open Go.ChangeShapes Go.WideShapes Go.ChangeAt Go.RowKit
open Go.ChangeMaps (open_string shut_string)
theorem own : ownKnob Tryz.prog.godebug = none := by kernel_rfl
theorem aIw : laidOutB Tryz.prog = true := by kernel_rfl
set_option maxRecDepth 100000 in
theorem lifted (os : Os) (started : os.Started) (H : Type) (enc : TypeId × Value → H) :
    ReturnsInHanded {} Tryz.checked os 3 .any (Rows.topSeveritySpec.pre6 enc Tryz.prog Tryz.f3 Rows.topSeverityRow.domain false) (Rows.topSeveritySpec.post enc Tryz.prog Tryz.f3 false true false false) := by
  refine returnsInHanded_of_change (C := Tryz.checked) own started (by kernel_rfl) Tryz.func3
    (ChangeSpec.witness6 (enc := enc) (C := Tryz.checked) false ⟨#[], #[.slice none 0 0, .slice none 0 0, .slice none 0 0, .int .i64 0, .agg ⟨[.slice none 0 0, .slice none 0 0]⟩], []⟩ 8 (by kernel_rfl) (by kernel_rfl) (by kernel_rfl) (by kernel_rfl)) ?_
  intro W base args ds gs before hval0 hW hcnd _
  have hval : ∀ (j : Nat) t v, Tryz.f3.params[j]? = some t → args[j]? = some v → Value.okWide Tryz.prog W .any base t v := hval0
  have hW' := hW
  obtain ⟨p, q, hA0, hV, rfl, hfz, hnd⟩ := hW
  have hA : DataW.TrodAll enc Tryz.prog W 0 (fun _ => true) true Tryz.f3.params.toList args.toList ds p := hA0
  rw [Tryz.params3] at hA hval
  obtain ⟨v0, vs0, d0, ds0, p0, q0, hargs, rfl, rfl, h0, r0⟩ := trodAll_cons hA
  obtain ⟨v1, vs1, d1, ds1, p1, q1, rfl, rfl, rfl, h1, r1⟩ := trodAll_cons r0
  obtain ⟨v2, vs2, d2, ds2, p2, q2, rfl, rfl, rfl, h2, r2⟩ := trodAll_cons r1
  obtain ⟨v3, vs3, d3, ds3, p3, q3, rfl, rfl, rfl, h3, r3⟩ := trodAll_cons r2
  obtain ⟨v4, vs4, d4, ds4, p4, q4, rfl, rfl, rfl, h4, r4⟩ := trodAll_cons r3
  obtain ⟨rfl, rfl, rfl⟩ := trodAll_nil r4
  obtain rfl : args = #[v0, v1, v2, v3, v4] := by cases args; simp_all
  obtain ⟨rfl, rfl⟩ := trodVars_none hV
  obtain ⟨a0, len0, cap0, rfl⟩ := okWide_slice cH (hval 0 22 v0 rfl rfl)
  have k0 := h0
  have lt0 : ∀ x ∈ p0, x.block < W.heap.size := by obtain ⟨m, hm⟩ := k0; exact DataW.trod_lt m _ _ _ hm
  obtain ⟨fuel0, hf0⟩ := h0
  obtain ⟨l0, ⟨aa0, cc0, hcs0, hs0⟩, hw0⟩ := aQy enc W 0 _ _ fuel0 _ _ hf0
  simp [Value.cells] at hcs0
  obtain ⟨rfl, rfl, rfl⟩ := hcs0
  obtain ⟨a1, len1, cap1, rfl⟩ := okWide_slice cH (hval 1 22 v1 rfl rfl)
  have k1 := h1
  have lt1 : ∀ x ∈ p1, x.block < W.heap.size := by obtain ⟨m, hm⟩ := k1; exact DataW.trod_lt m _ _ _ hm
  obtain ⟨fuel1, hf1⟩ := h1
  obtain ⟨l1, ⟨aa1, cc1, hcs1, hs1⟩, hw1⟩ := aQy enc W 0 _ _ fuel1 _ _ hf1
  simp [Value.cells] at hcs1
  obtain ⟨rfl, rfl, rfl⟩ := hcs1
  obtain ⟨a2, len2, cap2, rfl⟩ := okWide_slice gP (hval 2 23 v2 rfl rfl)
  have k2 := h2
  have lt2 : ∀ x ∈ p2, x.block < W.heap.size := by obtain ⟨m, hm⟩ := k2; exact DataW.trod_lt m _ _ _ hm
  obtain ⟨fuel2, hf2⟩ := h2
  obtain ⟨l2, ⟨aa2, cc2, hcs2, hs2⟩, hw2⟩ := opens_tb enc W 0 _ _ fuel2 _ _ hf2
  simp [Value.cells] at hcs2
  obtain ⟨rfl, rfl, rfl⟩ := hcs2
  obtain ⟨a3, rfl, rfl, rfl, w3⟩ := open_int lL (hval 3 3 v3 rfl rfl) h3
  have k4 := h4
  have lt4 : ∀ x ∈ p4, x.block < W.heap.size := by obtain ⟨m, hm⟩ := k4; exact DataW.trod_lt m _ _ _ hm
  obtain ⟨fuel4, hf4⟩ := h4
  obtain ⟨l4, cl4, rfl, hR4, hw4⟩ := open_agg opens_fit Tryz.underlying26 (hval 4 26 v4 rfl rfl) hf4
  obtain ⟨aq, cq, ag, cg, rfl, hq, hg⟩ := hR4
  clear hA0 hval0
  refine (law_fn _ _ l0 _ _ l1 _ _ l2 a3 _ _ _ _ l4.1 l4.2 (aTt W) hs0 hs1 hs2 hq hg ⟨mlt hw0.1, fun r hr => mlt (hw0.2 r hr).1⟩ ⟨mlt hw1.1, fun r hr => mlt (hw1.2 r hr).1⟩ ⟨mlt hw2.1, fun r hr => mlt (hw2.2 r hr).1⟩ ⟨mlt hw4.1, mlt hw4.2⟩ ⟨(aUi w3).1, Int.lt_of_le_of_lt (aUi w3).2 (by decide)⟩).below.mono fun e W' ⟨he, bel⟩ => ?_
  subst he
  exact ⟨_, rfl, _, _, _, [], _, [], hW', trodAll_mk1 (shut_bool nR _), (trodAll_cons_mk (Below.trod aIw (by kernel_rfl) (eT (by kernel_rfl)) k0 bel lt0) (trodAll_cons_mk (Below.trod aIw (by kernel_rfl) (eT (by kernel_rfl)) k1 bel lt1) (trodAll_cons_mk (Below.trod aIw (by kernel_rfl) (eT (by kernel_rfl)) k2 bel lt2) (trodAll_cons_mk (shut_int lL w3) (trodAll_cons_mk (Below.trod aIw (by kernel_rfl) (eT (by kernel_rfl)) k4 bel lt4) trodAll_mk0))))), rfl, bel.frame _, fun h => by cases h⟩
theorem aQ3 : Rows.topSeverityRow.holds Tryz.pinned (OpenSpec.ofChange Rows.topSeveritySpec) :=
  OpenClaim.holds_of_wide 3 Tryz.f3 rfl rfl rfl rfl rfl rfl rfl ⟨rfl, rfl, rfl, rfl, rfl⟩ rfl rfl rfl rfl rfl (by kernel_rfl) Tryz.func3 (by kernel_rfl)
    (eT (by kernel_rfl)) (by unfold Func.isWrapper; first | (rw [eX (by decide +kernel)]; kernel_rfl) | (rw [dG (by decide +kernel)]; exact ⟨rfl, rfl⟩))
    (fun os started H enc _ => lifted os started H enc)
/-- The given statement. -/
theorem proved : Rows.TopSeveritySaid := aQ3
#print axioms proved
end topSeverity
end Go.Proofs.YthpfckdllencmaaGreat
