/- What is handed to a law of the links, opened from its reading. -/
import Derived.Test.YtonmnpdhpailcaaXLm
import Derived.Test.YtonmnpdhpailcaaRbM
import Derived.OpenShut
import Derived.Test.YtonmnpdhpailcaaProg
set_option autoImplicit false
set_option linter.unusedVariables false
set_option linter.unusedSimpArgs false
namespace Go.Proofs
open Go.XL Go.RowKit Go.ChangeShapes Go.WideShapes
theorem open_agg {P : Program} {t : TypeId} {α : Type} {ρ : Rep α} {wf : α → Prop} (ho : Opens P t ρ wf) {fs : Array Field} (ht : P.underlying t = some (.struct fs)) {W : World} {r : Reach} {base : Nat} {v : Value} (hv : Value.okWide P W r base t v)
    {H : Type} {enc : TypeId × Value → H} {b2 : Nat} {spare : Nat → Bool} {held : Bool} {fuel : Nat} {x : DataW H × List MemPlace} (h : DataW.trod enc P W b2 spare held fuel t v.cells.toList = some x) : ∃ u l, v = .agg ⟨l⟩ ∧ ρ.R (hpOf W) l u ∧ wf u := by
  obtain ⟨cs, rfl, _⟩ := okWide_struct ht hv
  obtain ⟨u, hR, hw⟩ := ho enc W b2 spare held fuel _ _ h
  exact ⟨u, cs.toList, rfl, hR, hw⟩
theorem wf_u64 {n : Int} (h : (Lit.int .u64 n).wf = true) : 0 ≤ n ∧ n < 18446744073709551616 := by
  have h2 : 0 ≤ n ∧ n ≤ 18446744073709551615 := by simpa [Lit.wf, IntKind.min, IntKind.max, IntKind.signed, IntKind.bits] using h
  omega
theorem opens_u8 : Opens Try.prog 5 u8R (fun _ => True) := by
  intro H enc w base spare held fuel cs x h
  obtain ⟨n, rfl, _, hw⟩ := DataW.trod_int Try.underlying5 h
  have := wf_u8 hw
  refine ⟨UInt8.ofNat n.toNat, ?_, trivial⟩
  show [Value.int .u8 n] = [Value.int .u8 ((UInt8.ofNat n.toNat).toNat : Nat)]
  have h2 : (UInt8.ofNat n.toNat).toNat = n.toNat := by simp [UInt8.toNat_ofNat']; omega
  rw [h2, show ((n.toNat : Nat) : Int) = n by omega]
theorem opens_bytes : Opens Try.prog 26 (slR u8R) (fun l => l.length ≤ maxLen ∧ ∀ p ∈ l, True) := Opens.slice Try.underlying26 (by kernel_rfl) (by decide) opens_u8
theorem opens_pair : Opens Try.prog 55 pairR (fun _ => True) := by
  intro H enc w base spare held fuel cs x h
  obtain ⟨xs, m, _, _, hl, hxs, hf⟩ := DataW.trod_array Try.underlying55 h
  rw [show Try.prog.cellsOf 55 = 2 by kernel_rfl] at hl
  match cs, hl, xs, hxs with
  | [u, v], _, [y0, y1], _ =>
    have h0 := hf 0 (by decide)
    have h1 := hf 1 (by decide)
    simp only [show Try.prog.cellsOf 3 = 1 by kernel_rfl] at h0 h1
    obtain ⟨x, hx, _, wx⟩ := DataW.trod_int Try.underlying3 h0
    obtain ⟨y, hy, _, wy⟩ := DataW.trod_int Try.underlying3 h1
    simp at hx hy; subst hx; subst hy
    exact ⟨(x, y), rfl, trivial⟩
theorem opens_pk : Opens Try.prog 28 pkR (fun _ => True) := by
  intro H enc w base spare held fuel cs x h
  obtain ⟨xs, m, _, _, hl, hxs, hf⟩ := DataW.trod_struct Try.underlying28 h
  rw [show Try.prog.cellsOf 28 = 3 by kernel_rfl] at hl
  match cs, hl, xs, hxs with
  | [u, v, s], _, [y0, y1, y2], _ =>
    have h0 : DataW.trod enc Try.prog w base spare held m 3 ([u, v, s].take (Try.prog.cellsOf 3)) = some y0 := hf 0 _ rfl
    have h1 : DataW.trod enc Try.prog w base spare held m 3 ([v, s].take (Try.prog.cellsOf 3)) = some y1 := hf 1 _ rfl
    have h2 : DataW.trod enc Try.prog w base spare held m 26 ([s].take (Try.prog.cellsOf 26)) = some y2 := hf 2 _ rfl
    simp only [show Try.prog.cellsOf 3 = 1 by kernel_rfl, show Try.prog.cellsOf 26 = 1 by kernel_rfl] at h0 h1 h2
    obtain ⟨x, hx, _, wx⟩ := DataW.trod_int Try.underlying3 h0
    obtain ⟨y, hy, _, wy⟩ := DataW.trod_int Try.underlying3 h1
    obtain ⟨d, ⟨a, c, hd, hs⟩, wd⟩ := opens_bytes enc w base spare held m _ _ h2
    simp at hx hy hd; subst hx; subst hy; subst hd
    exact ⟨⟨x, y, d⟩, ⟨a, c, rfl, hs⟩, trivial⟩
theorem opens_pks : Opens Try.prog 22 (slR pkR) (fun l => l.length ≤ maxLen ∧ ∀ p ∈ l, True) := Opens.slice Try.underlying22 (by kernel_rfl) (by decide) opens_pk
theorem opens_pairs : Opens Try.prog 23 (slR pairR) (fun l => l.length ≤ maxLen ∧ ∀ p ∈ l, True) := Opens.slice Try.underlying23 (by kernel_rfl) (by decide) opens_pair
def netR : Rep Nt where
  sz := 2
  R := fun H cs n => ∃ aq cq ap cp, cs = [.slice aq n.q.length cq, .slice ap n.ap.length cp] ∧ SlR pkR H aq cq n.q ∧ SlR pairR H ap cp n.ap
  len := fun ⟨_, _, _, _, h, _⟩ => by subst h; rfl
  one := fun ⟨_, _, _, _, h, _⟩ => by subst h; rfl
  mono := fun hle ⟨a, c, b, d, h, k, k2⟩ => ⟨a, c, b, d, h, k.mono hle, k2.mono hle⟩
theorem opens_net : Opens Try.prog 25 netR (fun _ => True) := by
  intro H enc w base spare held fuel cs x h
  obtain ⟨y0, y1, n, _, hl, h0, h1⟩ := trod_struct2 Try.underlying25 h
  rw [show Try.prog.cellsOf 25 = 2 by kernel_rfl] at hl
  simp only [show Try.prog.cellsOf 22 = 1 by kernel_rfl, show Try.prog.cellsOf 23 = 1 by kernel_rfl] at h0 h1
  match cs, hl with
  | [u, v], _ =>
    obtain ⟨q, ⟨a, c, hd, hs⟩, wd⟩ := opens_pks enc w base spare held n _ _ h0
    obtain ⟨p, ⟨a2, c2, hd2, hs2⟩, wd2⟩ := opens_pairs enc w base spare held n _ _ h1
    simp at hd hd2; subst hd; subst hd2
    exact ⟨⟨q, p⟩, ⟨a, c, a2, c2, rfl, hs, hs2⟩, trivial⟩
end Go.Proofs
