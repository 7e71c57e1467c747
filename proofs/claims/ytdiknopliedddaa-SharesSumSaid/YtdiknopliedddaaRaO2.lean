/- What is handed to a law of the shares, opened from its reading. -/
import Derived.Test.YtdiknopliedddaaRaO
set_option autoImplicit false
set_option linter.unusedVariables false
set_option linter.unusedSimpArgs false
namespace Go.Proofs
open Go.XL Go.RowKit Go.ChangeShapes
theorem opens_share : Opens Try.prog 52 ptR (fun p => (Lit.int .i64 p.X).wf = true ∧ (Lit.int .i64 p.Y).wf = true) := by
  intro H enc w base spare held fuel cs x h
  obtain ⟨y0, y1, n, _, hl, h0, h1⟩ := trod_struct2 Try.underlying52 h
  rw [show Try.prog.cellsOf 52 = 2 by kernel_rfl] at hl
  simp only [show Try.prog.cellsOf 3 = 1 by kernel_rfl] at h0 h1
  match cs, hl with
  | [u, v], _ =>
    obtain ⟨x, hx, _, wx⟩ := DataW.trod_int Try.underlying3 h0
    obtain ⟨y, hy, _, wy⟩ := DataW.trod_int Try.underlying3 h1
    simp at hx hy; subst hx; subst hy
    exact ⟨⟨x, y⟩, rfl, wx, wy⟩
theorem opens_shares : Opens Try.prog 42 (slR ptR) (fun l => l.length ≤ maxLen ∧ ∀ p ∈ l, (Lit.int .i64 p.X).wf = true ∧ (Lit.int .i64 p.Y).wf = true) := Opens.slice Try.underlying42 (by kernel_rfl) (by decide) opens_share
end Go.Proofs
