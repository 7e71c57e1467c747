/- The walks of the functions of boxes: what each of them computes, at any input. -/
import Derived.Test.YtamnnngilmgbgaaRhPd
set_option maxRecDepth 100000
set_option autoImplicit false
set_option linter.unusedVariables false
set_option linter.unusedSimpArgs false
namespace Go.Proofs
open Go.XL



theorem given_fn (a : Option Addr) (c : Nat) (l : List Card) (H : Hp) (hs : SlR cardR H a c l) (hl : l.length < 9223372036854775808) (hlc : ∀ s ∈ l, s.C.length < 9223372036854775808) : FnC Try.prog 22 #[.slice none 0 0, .slice a l.length c] H [] (RetR (fun v H2 _ => GvU (gv l) H2 v)) := by
 refine FnC.intro (args := [.slice none 0 0, .slice a l.length c]) Try.func22 rfl rfl Try.ntmps22 rfl rfl rfl fun G rest => ?_
 refine XC.seq ?_; refine XC.region ?_; refine XO.assign rfl rfl ?_; refine XO.assign rfl rfl ?_; refine XO.nil ?_; refine XC.seq2 ?_; refine XC.seq ?_; refine XC.region ?_; refine XO.move rfl rfl ?_; refine XO.assign rfl rfl ?_; refine XO.nil ?_; refine XC.seq2 ?_; refine XC.seq ?_; refine XC.seq ?_; refine XC.region ?_; refine XO.assign rfl rfl ?_; refine XO.nil ?_; refine XC.seq2 ?_; refine XC.block ?_; refine XC.keep [4, 6, 1] rfl ?_; refine XC.loop (base := [(1, _)]) (fun ζ : Nat × (Box) × (Option Addr) × (Nat) => [(4, .slice ζ.2.2.1 ζ.2.1.length ζ.2.2.2), (6, .int .i64 (ζ.1 : Nat))]) (fun ζ Hl own => ζ.1 ≤ l.length ∧ rest = own ∧ (SlR (slR cardR) Hl ζ.2.2.1 ζ.2.2.2 ζ.2.1) ∧ (gv (l.take (ζ.1)) = some ζ.2.1) ∧ (goodB ζ.2.1 ∧ ζ.2.1.length ≤ 4096)) (fun ζ => l.length - ζ.1) (0, [], none, 0) (prov_cons (rfl) (prov_cons (rfl) (prov_cons (rfl) prov_nil))) (by repeat (first | exact List.Sublist.refl _ | apply List.Sublist.cons_cons | apply List.Sublist.cons)) ⟨Nat.zero_le _, rfl, SlR.nil0 _ _, rfl, ⟨good_nil, Nat.zero_le _⟩⟩ ?_; rintro ⟨k, X, ax, cx⟩ Hl0 _ hle0 ⟨hkk, rfl, hX, hgv, hgd⟩; replace hs := hs.mono hle0
 try dsimp only at hkk hX hgv hgd ⊢
 refine XC.seq ?_; refine XC.seq ?_; refine XC.region ?_; refine XO.move rfl rfl ?_; refine XO.move rfl rfl ?_; refine XO.lenS (ts := #[]) rfl Try.underlying31 rfl ?_; refine XO.lss rfl rfl rfl ?_; refine XO.nil ?_; refine XC.seq2 ?_; refine XC.cond rfl (fun c0_1 => ?_) (fun c0_1 => ?_)
 ·refine XC.skip ?_; refine XC.seq2 ?_; refine XC.seq ?_; refine XC.block ?_; refine XC.seq ?_; refine XC.region ?_; refine XO.move rfl rfl ?_; refine XO.move rfl rfl ?_; refine XO.move rfl rfl ?_; refine XO.indexN rfl hs rfl Try.underlying31 ty_27 (by omega) rfl ?_; rintro eb20 eo20 _ x20 hx20 ⟨ax20, cx20, rfl, hd20, hD20⟩ hp20; refine XO.loadH rfl (by assumption) ty_27 rfl rfl rfl ?_; refine XO.callH rfl (pput_b X x20 _ _ _ _ _ hX hd20 hD20 (small_of hgd).1 (small_of hgd).2.1 (small_of hgd).2.2 (hlc _ (List.mem_of_getElem? hx20))) rfl ?_; rintro _ HN22 hleN22 hU22; obtain ⟨aN22, cN22, rfl, hN22⟩ := hU22; replace hs := hs.mono hleN22; replace hX := hX.mono hleN22; replace hp20 := hp20.mono hleN22; replace hd20 := hd20.mono hleN22; replace hle0 := hle0.trans hleN22; refine XO.move rfl rfl ?_; refine XO.extract rfl rfl rfl ?_; refine XO.extract rfl rfl rfl ?_; refine XO.assign rfl rfl ?_; refine XO.assign rfl rfl ?_; refine XO.nil ?_; refine XC.seq2 ?_; refine XC.seq ?_; refine XC.seq ?_; refine XC.region ?_; refine XO.move rfl rfl ?_; refine XO.neq rfl rfl rfl ?_; refine XO.nil ?_; refine XC.seq2 ?_; refine XC.cond rfl (fun c1_4 => ?_) (fun c1_4 => ?_)
  ·refine XC.seq ?_; refine XC.region ?_; refine XO.assign rfl rfl ?_; refine XO.assign rfl rfl ?_; refine XO.nil ?_; refine XC.seq2 ?_; refine XC.ret ?_; refine seqX_ret ?_; refine blockR ?_; refine seqX_ret ?_; refine loopX_ret ?_; refine blockR ?_; refine seqX_ret ?_; refine ⟨rfl, _, [], rfl, (by repeat (first | exact List.Sublist.refl _ | apply List.Sublist.cons)), RetR.mk ?_⟩
   first | exact GvU.no (gv_stop hx20 hgv (by omega)) | exact GvU.yes hgv (by assumption)
  ·refine XC.skip ?_; refine XC.seq2 ?_; refine XC.region ?_; refine XO.move rfl rfl ?_; refine XO.assign rfl rfl ?_; refine XO.nil ?_; refine blockN ?_; refine XC.seq2 ?_; refine XC.region ?_; refine XO.move rfl rfl ?_; refine XO.add rfl rfl (wrap_i64 (by omega) (by omega)) rfl ?_; refine XO.assign rfl rfl ?_; refine XO.nil ?_; refine loop_next ((k + 1, (pputX X x20), aN22, cN22)) (by show l.length - (k + 1) < l.length - k; omega) (prov_cons (rfl) (prov_cons (rfl) (prov_cons (rfl) prov_nil))) (⟨by show k + 1 ≤ l.length; omega, rfl, hN22, gv_step hx20 hgv (by omega), pput_good X x20⟩) (by repeat (first | exact List.Sublist.refl _ | apply List.Sublist.cons_cons | apply List.Sublist.cons)) (hle0)
 ·obtain rfl : k = l.length := by omega
  rw [List.take_length] at hgv
  refine XC.exit ?_; refine seqX_exit ?_; refine loopX_exit ?_; refine blockHit rfl ?_; refine XC.seq2 ?_; refine XC.seq ?_; refine XC.region ?_; refine XO.move rfl rfl ?_; refine XO.assign rfl rfl ?_; refine XO.assign rfl rfl ?_; refine XO.nil ?_; refine XC.seq2 ?_; refine XC.ret ?_; refine ⟨rfl, _, [], rfl, (by repeat (first | exact List.Sublist.refl _ | apply List.Sublist.cons)), RetR.mk ?_⟩
  first | exact GvU.no (gv_stop hx20 hgv (by omega)) | exact GvU.yes hgv (by assumption)

end Go.Proofs
