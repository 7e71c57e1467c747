/- What is handed to a law, opened from its reading. -/
import Derived.Test.YtdiknopliedddaaXLm
import Derived.Test.YtdiknopliedddaaRaM
import Derived.Test.YtdiknopliedddaaProg
set_option autoImplicit false
set_option linter.unusedVariables false
set_option linter.unusedSimpArgs false
namespace Go.Proofs
open Go.XL Go.RowKit Go.ChangeShapes
theorem opens_pt : Opens Try.prog 38 ptR (fun p => (Lit.int .i64 p.X).wf = true ∧ (Lit.int .i64 p.Y).wf = true) := by
  intro H enc w base spare held fuel cs x h
  obtain ⟨y0, y1, n, _, hl, h0, h1⟩ := trod_struct2 Try.underlying38 h
  rw [show Try.prog.cellsOf 38 = 2 by kernel_rfl] at hl
  simp only [show Try.prog.cellsOf 3 = 1 by kernel_rfl] at h0 h1
  match cs, hl with
  | [u, v], _ =>
    obtain ⟨x, hx, _, wx⟩ := DataW.trod_int Try.underlying3 h0
    obtain ⟨y, hy, _, wy⟩ := DataW.trod_int Try.underlying3 h1
    simp at hx hy; subst hx; subst hy
    exact ⟨⟨x, y⟩, rfl, wx, wy⟩
theorem opens_pts : Opens Try.prog 30 (slR ptR) (fun l => l.length ≤ maxLen ∧ ∀ p ∈ l, (Lit.int .i64 p.X).wf = true ∧ (Lit.int .i64 p.Y).wf = true) := Opens.slice Try.underlying30 (by kernel_rfl) (by decide) opens_pt
theorem opens_ints : Opens Try.prog 29 (slR (intR .i64)) (fun l => l.length ≤ maxLen ∧ ∀ n ∈ l, (Lit.int .i64 n).wf = true) := Opens.slice Try.underlying29 (by kernel_rfl) (by decide) (Opens.int Try.underlying3)
end Go.Proofs
