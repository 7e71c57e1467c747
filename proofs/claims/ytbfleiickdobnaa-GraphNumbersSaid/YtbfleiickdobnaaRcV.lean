/- The walks of the functions of the graph: what each of them computes, at any input. -/
import Derived.Test.YtbfleiickdobnaaRcU
set_option autoImplicit false
set_option linter.unusedVariables false
set_option linter.unusedSimpArgs false
namespace Go.Proofs
open Go.XL

theorem by_3 : Nat.ble (Try.prog.bytesOf 3) 4096 = true := by kernel_rfl
theorem ze_26 : zeroC Try.prog 26 = some [.int .i64 0] := by kernel_rfl
theorem ze_3 : zeroC Try.prog 3 = some [.int .i64 0] := by kernel_rfl
theorem ze_53 : zeroC Try.prog 53 = some [.slice none 0 0] := by kernel_rfl

theorem some_fn (bf N : Nat) (up Pl d : Nat → Nat) (p : Int) (H : Hp) (hF : FI N up Pl d) (hN : N ≤ 80) (f n : Nat) (hf : f + n ≤ N) : FnC Try.prog 35 #[.pointer (some ⟨bf, 0, none⟩), .int .i64 (f : Nat), .int .i64 (n : Nat)] H [(bf, .cells 59 (frC up p))] (RetR (fun v H2 own => ∃ a c up', v = .slice a (someL Pl f n).length c ∧ SlR (intR .i64) H2 a c (someL Pl f n) ∧ FI N up' Pl d ∧ own = [(bf, .cells 59 (frC up' p))])) := by
  refine FnC.intro (args := [.pointer (some ⟨bf, 0, none⟩), .int .i64 (f : Nat), .int .i64 (n : Nat)]) Try.func35 rfl rfl Try.ntmps35 rfl rfl rfl fun G rest => ?_
  refine XC.seq ?_
  refine XC.region ?_
  refine XO.assign rfl rfl ?_
  refine XO.nil ?_
  refine XC.seq2 ?_
  refine XC.seq ?_
  refine XC.seq ?_
  refine XC.region ?_
  refine XO.move rfl rfl ?_
  refine XO.move rfl rfl ?_
  refine XO.nil ?_
  refine XC.seq2 ?_
  refine XC.block ?_
  refine XC.keep [6, 9, 0, 1, 8] rfl ?_
  refine XC.open0 0 ?_
  refine XC.loop (base := [(0, _), (1, _), (8, _)]) (fun ζ : Nat × (Nat → Nat) × ((Nat × SObj) × Option Addr × Nat) => [(6, .slice ζ.2.2.2.1 (someL Pl f (ζ.1)).length ζ.2.2.2.2), (9, .int .i64 (ζ.1 : Nat))]) (fun ζ Hl own => ζ.1 ≤ n ∧ ζ.2.2.1 :: (bf, .cells 59 (frC ζ.2.1 p)) :: rest = own ∧ Acc (intR .i64) 3 Hl ζ.2.2.1 ζ.2.2.2.1 ζ.2.2.2.2 (someL Pl f (ζ.1)) ∧ (FI N ζ.2.1 Pl d)) (fun ζ => n - ζ.1) (0, up, ((0, .nothing), none, 0)) (prov_cons (rfl) (prov_cons (rfl) (prov_cons (rfl) (prov_cons (rfl) (prov_cons (rfl) prov_nil))))) (by repeat (first | exact List.Sublist.refl _ | apply List.Sublist.cons_cons | apply List.Sublist.cons)) ⟨Nat.zero_le _, rfl, Acc.nil _ _ _ _, hF⟩ ?_
  rintro ⟨k, u, ⟨po, ao, co⟩⟩ Hl0 _ hle0 ⟨hkk, rfl, hacco, hF⟩
  try dsimp only at hkk hacco hF ⊢
  refine XC.seq ?_
  refine XC.region ?_
  refine XO.lss rfl rfl rfl ?_
  refine XO.nil ?_
  refine XC.seq2 ?_
  refine XC.seq ?_
  refine XC.cond rfl (fun c0_1 => ?_) (fun c0_1 => ?_)
  · refine XC.skip ?_
    refine XC.seq2 ?_
    refine XC.seq ?_
    refine XC.block ?_
    refine XC.seq ?_
    refine XC.region ?_
    refine XO.move rfl rfl ?_
    refine XO.assign rfl rfl ?_
    refine XO.nil ?_
    refine XC.seq2 ?_
    refine XC.seq ?_
    refine XC.region ?_
    refine XO.move rfl rfl ?_
    refine XO.move rfl rfl ?_
    refine XO.move rfl rfl ?_
    refine XO.add (c := ((f + k : Nat) : Int)) rfl rfl ((wrap_i64 (by omega) (by omega)).trans (by omega)) rfl ?_
    refine XO.callF 1 rfl (root_fn bf N u Pl d p _ hF hN (f + k) (by omega)) rfl rfl ?_
    rintro _ HR16 _ hleR16 ⟨u16, rfl, hF16, rfl⟩
    refine ⟨_, rfl, ?_⟩
    replace hacco := hacco.mono hleR16
    replace hle0 := hle0.trans hleR16
    refine XO.move rfl rfl ?_
    refine XO.callF 1 rfl (root_fn bf N u16 Pl d p _ hF16 hN 0 (by omega)) rfl rfl ?_
    rintro _ HR18 _ hleR18 ⟨u18, rfl, hF18, rfl⟩
    refine ⟨_, rfl, ?_⟩
    replace hacco := hacco.mono hleR18
    replace hle0 := hle0.trans hleR18
    refine XO.eql rfl rfl rfl ?_
    refine XO.nil ?_
    refine XC.seq2 ?_
    refine XC.cond rfl (fun c1_5 => ?_) (fun c1_5 => ?_)
    · refine XC.region ?_
      have hlenS := someL_len Pl f k
      refine XO.move rfl rfl ?_
      refine XO.move rfl rfl ?_
      refine XO.buildSlice rfl Try.underlying29 ty_3 ze_3 rfl rfl rfl (fun b22 => ?_)
      refine XO.publish 0 rfl rfl rfl (fun HP22 oP22 hleP22 hbP22 hoP22 => ?_)
      have hsl22 := SlR.lit (ρ := (intR .i64)) (l := [((k : Nat) : Int)]) hbP22 hoP22 (RowsR.one1 rfl)
      replace hacco := hacco.mono hleP22
      replace hle0 := hle0.trans hleP22
      refine XO.appendA 0 rfl rfl hacco rfl rfl hsl22 rfl Try.underlying29 ty_3 ze_3 rfl by_3 (by simp; omega) rfl (fun p23 a23 c23 hacc23 => ?_)
      refine XO.assign rfl rfl ?_
      refine XO.nil ?_
      refine blockN ?_
      refine XC.seq2 ?_
      refine XC.region ?_
      refine XO.add rfl rfl (wrap_i64 (by omega) (by omega)) rfl ?_
      refine XO.move rfl rfl ?_
      refine XO.nil ?_
      refine loop_next ((k + 1, u18, (p23, a23, c23))) (by show n - (k + 1) < n - k; omega) (prov_cons (by first | rfl | (rw [someL_yes (by omega)]; rfl) | (rw [someL_no (by omega)]; rfl)) (prov_cons (rfl) (prov_cons (rfl) (prov_cons (rfl) (prov_cons (rfl) prov_nil))))) (⟨by show k + 1 ≤ n; omega, rfl, by first | (exact hacc23) | (rw [someL_yes (by omega)]; exact hacc23) | (rw [someL_no (by omega)]; exact hacc23), by assumption⟩) (by repeat (first | exact List.Sublist.refl _ | apply List.Sublist.cons_cons | apply List.Sublist.cons)) (hle0)
    · refine XC.skip ?_
      refine blockN ?_
      refine XC.seq2 ?_
      refine XC.region ?_
      refine XO.add rfl rfl (wrap_i64 (by omega) (by omega)) rfl ?_
      refine XO.move rfl rfl ?_
      refine XO.nil ?_
      refine loop_next ((k + 1, u18, (po, ao, co))) (by show n - (k + 1) < n - k; omega) (prov_cons (by first | rfl | (rw [someL_yes (by omega)]; rfl) | (rw [someL_no (by omega)]; rfl)) (prov_cons (rfl) (prov_cons (rfl) (prov_cons (rfl) (prov_cons (rfl) prov_nil))))) (⟨by show k + 1 ≤ n; omega, rfl, by first | (exact hacco) | (rw [someL_yes (by omega)]; exact hacco) | (rw [someL_no (by omega)]; exact hacco), by assumption⟩) (by repeat (first | exact List.Sublist.refl _ | apply List.Sublist.cons_cons | apply List.Sublist.cons)) (hle0)
  · obtain rfl : k = n := by omega
    refine XC.exit ?_
    refine seqX_exit ?_
    refine loopX_exit ?_
    refine blockHit rfl ?_
    refine XC.seq2 ?_
    refine XC.seq ?_
    refine XC.region ?_
    refine XO.move rfl rfl ?_
    refine XO.assign rfl rfl ?_
    refine XO.nil ?_
    refine XC.seq2 ?_
    refine XC.publishA 0 rfl hacco rfl (fun HQ7 hleQ7 hsQ7 => ?_)
    replace hle0 := hle0.trans hleQ7
    refine XC.ret ?_
    refine ⟨rfl, _, [_], rfl, (by repeat (first | exact List.Sublist.refl _ | apply List.Sublist.cons)), RetR.mk ?_⟩
    exact ⟨_, _, u, rfl, by assumption, hF, rfl⟩

theorem tree_fn (a : Option Addr) (c : Nat) (m : Tb) (H : Hp) (hs : SlR tbR H a c m) (hl : m.length < 9223372036854775808) : FnC Try.prog 12 #[.slice a m.length c] H [] (RetR (fun v H2 own => own = [] ∧ TreeR m H2 v)) := by
  refine FnC.introD (args := [.slice a m.length c]) Try.func12 rfl rfl Try.ntmps12 rfl rfl rfl fun G rest => ?_
  refine XC.seq ?_
  refine XC.region ?_
  refine XO.assign rfl rfl ?_
  refine XO.assign rfl rfl ?_
  refine XO.alloc ze_26 rfl (fun b4 => ?_)
  refine XO.nil ?_
  refine XC.seq2 ?_
  refine XC.seq ?_
  refine XC.region ?_
  refine XO.defer0 (L := [_]) rfl rfl rfl rfl rfl (fun msD rest hrest => ?_)
  simp only [List.cons_append, List.nil_append]
  refine XO.nil ?_
  refine XC.seq2 ?_
  refine XC.seq ?_
  refine XC.region ?_
  refine XO.move rfl rfl ?_
  refine XO.callV rfl (check_fn _ _ m _ hs hl) rfl ?_
  by_cases hck : chkG m = 0
  · refine XO.callV rfl (must_ok _ hck _) rfl ?_
    have hok := chk_eq0.1 hck
    have hwm := okG_wide hok
    have hlm := hok.1
    refine XO.nil ?_
    refine XC.seq2 ?_
    refine XC.seq ?_
    refine XC.region ?_
    refine XO.open0 (σ := []) (fun ba => ?_)
    refine XO.alloc ze_53 rfl (fun b5 => ?_)
    refine XO.perm (List.Perm.swap _ _ _) ?_
    refine XO.nil ?_
    refine XC.seq2 ?_
    refine XC.seq ?_
    refine XC.region ?_
    refine XO.move rfl rfl ?_
    refine XO.makeFunc1 rfl rfl rfl ?_
    refine XO.open0 (σ := []) (fun b0 => ?_)
    refine XO.callMid [] (ownF := [_, _, _]) rfl (grown_fn a none c 0 (b0, .nothing) m [] _ [(ba, .nothing), (b5, .cells 53 [.slice none 0 0])] (addS b5) _ hs hok (Acc.nil _ _ _ _) (by decide) trivial (add_cb b5 _) ⟨_, none, 0, rfl, Acc.nil _ _ _ _⟩) rfl rfl ?_
    rintro _ HG oG hleG ⟨bf, up, d, oc2, rfl, hF, ⟨pa2, a2, c2, rfl, hacc2⟩, rfl⟩
    replace hs := hs.mono hleG
    refine XO.assign rfl rfl ?_
    refine XO.nil ?_
    refine XC.seq2 ?_
    refine XC.seq ?_
    refine XC.keep [4, 5, 6] rfl ?_
    apply XC.draw 8 [eqF _, eqF _, eqF _, eqF _, eqF _, eqF _, eqF _, eqF _] follows (by kernel_rfl) (by kernel_rfl) ⟨eqF_mono _, eqF_mono _, eqF_mono _, eqF_mono _, eqF_mono _, eqF_mono _, eqF_mono _, eqF_mono _, trivial⟩ ?steps2 ?tail2
    case steps2 =>
      refine stepsK_cons rfl ?_ ?_
      · intro X
        refine withPreds_nil rfl ?_
        refine XO.fieldAddr rfl fa_53_0 rfl ?_
        refine XO.nil ?_
        exact stepQ_ok rfl (rfl)
      refine stepsK_cons rfl ?_ ?_
      · intro X
        refine withPreds_cons rfl rfl ?_
        rintro _ rfl
        refine withPreds_nil rfl ?_
        refine XO.loadO 3 rfl rfl ty_25 rfl rfl rfl ?_
        refine XO.nil ?_
        exact stepQ_ok rfl (rfl)
      refine stepsK_cons rfl ?_ ?_
      · intro X
        refine withPreds_nil rfl ?_
        refine XO.move rfl rfl ?_
        refine XO.nil ?_
        exact stepQ_ok rfl (rfl)
      refine stepsK_cons rfl ?_ ?_
      · intro X
        refine withPreds_cons rfl rfl ?_
        rintro _ rfl
        refine withPreds_nil rfl ?_
        refine XO.nilCheckP rfl rfl ?_
        refine XO.nil ?_
        exact stepQ_ok rfl (rfl)
      refine stepsK_cons rfl ?_ ?_
      · intro X
        refine withPreds_cons rfl rfl ?_
        rintro _ rfl
        refine withPreds_nil rfl ?_
        refine XO.fieldAddr rfl fa_59_1 rfl ?_
        refine XO.nil ?_
        exact stepQ_ok rfl (rfl)
      refine stepsK_cons rfl ?_ ?_
      · intro X
        refine withPreds_cons rfl rfl ?_
        rintro _ rfl
        refine withPreds_nil rfl ?_
        refine XO.loadC 0 rfl rfl ty_3 fr_parts0 rfl ?_
        refine XO.nil ?_
        exact stepQ_ok rfl (rfl)
      refine stepsK_cons rfl ?_ ?_
      · intro X
        refine withPreds_cons rfl rfl ?_
        rintro _ rfl
        refine withPreds_nil rfl ?_
        refine XO.leq rfl rfl rfl ?_
        refine XO.nil ?_
        exact stepQ_ok rfl (rfl)
      refine stepsK_cons rfl ?_ ?_
      · intro X
        refine withPreds_cons rfl rfl ?_
        rintro _ rfl
        refine withPreds_nil rfl ?_
        refine XO.assign rfl rfl ?_
        refine XO.nil ?_
        exact stepQ_ok rfl (rfl)
      exact stepsD_end rfl
    case tail2 =>
      refine withPreds_cons rfl rfl ?_
      rintro _ rfl
      refine withPreds_cons rfl rfl ?_
      rintro _ rfl
      refine withPreds_cons rfl rfl ?_
      rintro _ rfl
      refine withPreds_cons rfl rfl ?_
      rintro _ rfl
      refine withPreds_cons rfl rfl ?_
      rintro _ rfl
      refine withPreds_cons rfl rfl ?_
      rintro _ rfl
      refine withPreds_cons rfl rfl ?_
      rintro _ rfl
      refine withPreds_cons rfl rfl ?_
      rintro _ rfl
      refine withPreds_nil rfl ?_
      refine XO.assign rfl rfl ?_
      refine XO.storeO 4 rfl rfl rfl rfl ty_26 rfl rfl rfl rfl rfl ?_
      refine XO.nil ?_
      refine XC.seq2 ?_
      refine XC.publishA 2 rfl hacc2 rfl (fun HQ4 hleQ4 hsQ4 => ?_)
      replace hs := hs.mono hleQ4
      refine XC.ret ?_
      refine leaveD_one 3 (L := [_, _, _, _]) rfl hrest rfl ((caught_ret _ _ _).mono (fun u2 HE own2 hleE hD => ?_))
      obtain ⟨h1, h2⟩ := hD
      subst h2
      replace hs := hs.mono hleE
      replace hsQ4 := hsQ4.mono hleE
      refine ⟨by subst h1; rfl, _, _, rfl, (resC_tmp rfl (resC_tmp rfl (resC_cell 0 rfl rfl ty_26 rfl rfl resC_nil))), RetR.mk ?_⟩
      exact ⟨rfl, fun h => absurd hck h, fun _ => ⟨_, _, by assumption, rfl⟩⟩
  · refine XO.callP rfl (must_bad _ hck _) rfl (fun HB hleB => ?_)
    replace hs := hs.mono hleB
    refine seqX_panic ?_
    refine leaveD_one 0 (L := [_]) rfl hrest rfl ((caught_pan _ _ _ _).mono (fun u2 HE own2 hleE hD => ?_))
    obtain ⟨h1, h2⟩ := hD
    subst h2
    replace hs := hs.mono hleE
    refine ⟨h1, _, _, rfl, (resC_tmp rfl (resC_tmp rfl (resC_cell 0 rfl rfl ty_26 rfl rfl resC_nil))), RetR.mk ?_⟩
    exact ⟨rfl, fun _ => rfl, fun h => absurd h hck⟩

theorem cut_fn (a : Option Addr) (c : Nat) (m : Tb) (H : Hp) (hs : SlR tbR H a c m) (hl : m.length < 9223372036854775808) : FnC Try.prog 14 #[.slice a m.length c] H [] (RetR (fun v H2 own => own = [] ∧ CutR m H2 v)) := by
  refine FnC.introD (args := [.slice a m.length c]) Try.func14 rfl rfl Try.ntmps14 rfl rfl rfl fun G rest => ?_
  refine XC.seq ?_
  refine XC.region ?_
  refine XO.assign rfl rfl ?_
  refine XO.assign rfl rfl ?_
  refine XO.assign rfl rfl ?_
  refine XO.alloc ze_26 rfl (fun b5 => ?_)
  refine XO.nil ?_
  refine XC.seq2 ?_
  refine XC.seq ?_
  refine XC.region ?_
  refine XO.defer0 (L := [_]) rfl rfl rfl rfl rfl (fun msD rest hrest => ?_)
  simp only [List.cons_append, List.nil_append]
  refine XO.nil ?_
  refine XC.seq2 ?_
  refine XC.seq ?_
  refine XC.region ?_
  refine XO.move rfl rfl ?_
  refine XO.callV rfl (check_fn _ _ m _ hs hl) rfl ?_
  by_cases hck : chkG m = 0
  · refine XO.callV rfl (must_ok _ hck _) rfl ?_
    have hok := chk_eq0.1 hck
    have hwm := okG_wide hok
    have hlm := hok.1
    refine XO.nil ?_
    refine XC.seq2 ?_
    refine XC.seq ?_
    refine XC.region ?_
    refine XO.move rfl rfl ?_
    refine XO.open0 (σ := []) (fun b0 => ?_)
    refine XO.callMid [] (ownF := [_]) rfl (grown_fn a none c 0 (b0, .nothing) m [] _ [] nopS _ hs hok (Acc.nil _ _ _ _) (by decide) trivial (nop34_cb _) rfl) rfl rfl ?_
    rintro _ HG oG hleG ⟨bf, up, d, oc2, rfl, hF, hoc2, rfl⟩
    obtain rfl : oc2 = [] := hoc2
    replace hs := hs.mono hleG
    refine XO.assign rfl rfl ?_
    refine XO.nil ?_
    refine XC.seq2 ?_
    refine XC.seq ?_
    refine XC.seq ?_
    refine XC.region ?_
    refine XO.move rfl rfl ?_
    refine XO.nilCheckP rfl rfl ?_
    refine XO.fieldAddr rfl fa_59_1 rfl ?_
    refine XO.loadC 0 rfl rfl ty_3 fr_parts0 rfl ?_
    refine XO.leq rfl rfl rfl ?_
    refine XO.nil ?_
    refine XC.seq2 ?_
    refine XC.cond rfl (fun c0_3 => ?_) (fun c0_3 => ?_)
    · refine XC.seq ?_
      refine XC.region ?_
      refine XO.assign rfl rfl ?_
      refine XO.assign rfl rfl ?_
      refine XO.assign rfl rfl ?_
      refine XO.storeO 2 rfl rfl rfl rfl ty_26 rfl rfl rfl rfl rfl ?_
      refine XO.nil ?_
      refine XC.seq2 ?_
      refine XC.ret ?_
      refine seqX_ret ?_
      refine leaveD_one 2 (L := [_, _, _]) rfl hrest rfl ((caught_ret _ _ _).mono (fun u2 HE own2 hleE hD => ?_))
      obtain ⟨h1, h2⟩ := hD
      subst h2
      replace hs := hs.mono hleE
      refine ⟨by subst h1; rfl, _, _, rfl, (resC_tmp rfl (resC_tmp rfl (resC_tmp rfl (resC_cell 0 rfl rfl ty_26 rfl rfl resC_nil)))), RetR.mk ?_⟩
      exact ⟨rfl, fun h => absurd hck h, fun _ _ => rfl, fun _ h => absurd (by assumption) h⟩
    · refine XC.skip ?_
      refine XC.seq2 ?_
      refine XC.seq ?_
      refine XC.region ?_
      refine XO.move rfl rfl ?_
      refine XO.move rfl rfl ?_
      refine XO.lenS (ts := #[]) rfl Try.underlying22 rfl ?_
      refine XO.callF 0 rfl (some_fn bf (m.length + wideM m) up (finG m []).Pl d _ _ hF (by omega) 0 m.length (by omega)) rfl rfl ?_
      rintro _ HR20 _ hleR20 ⟨a20, c20, u20, rfl, hs20, hF20, rfl⟩
      refine ⟨_, rfl, ?_⟩
      replace hs := hs.mono hleR20
      refine XO.move rfl rfl ?_
      refine XO.move rfl rfl ?_
      refine XO.lenS (ts := #[]) rfl Try.underlying22 rfl ?_
      refine XO.move rfl rfl ?_
      refine XO.callV rfl (wide_fn _ _ m _ hs (by omega)) rfl ?_
      refine XO.callF 0 rfl (some_fn bf (m.length + wideM m) u20 (finG m []).Pl d _ _ hF20 (by omega) m.length (wideM m) (by omega)) rfl rfl ?_
      rintro _ HR26 _ hleR26 ⟨a26, c26, u26, rfl, hs26, hF26, rfl⟩
      refine ⟨_, rfl, ?_⟩
      replace hs := hs.mono hleR26
      replace hs20 := hs20.mono hleR26
      refine XO.assign rfl rfl ?_
      refine XO.assign rfl rfl ?_
      refine XO.assign rfl rfl ?_
      refine XO.storeO 2 rfl rfl rfl rfl ty_26 rfl rfl rfl rfl rfl ?_
      refine XO.nil ?_
      refine XC.seq2 ?_
      refine XC.ret ?_
      refine leaveD_one 2 (L := [_, _, _]) rfl hrest rfl ((caught_ret _ _ _).mono (fun u2 HE own2 hleE hD => ?_))
      obtain ⟨h1, h2⟩ := hD
      subst h2
      replace hs := hs.mono hleE
      replace hs20 := hs20.mono hleE
      replace hs26 := hs26.mono hleE
      refine ⟨by subst h1; rfl, _, _, rfl, (resC_tmp rfl (resC_tmp rfl (resC_tmp rfl (resC_cell 0 rfl rfl ty_26 rfl rfl resC_nil)))), RetR.mk ?_⟩
      exact ⟨rfl, fun h => absurd hck h, fun _ h => absurd h (by assumption), fun _ _ => ⟨_, _, _, _, hs20, hs26, rfl⟩⟩
  · refine XO.callP rfl (must_bad _ hck _) rfl (fun HB hleB => ?_)
    replace hs := hs.mono hleB
    refine seqX_panic ?_
    refine leaveD_one 0 (L := [_]) rfl hrest rfl ((caught_pan _ _ _ _).mono (fun u2 HE own2 hleE hD => ?_))
    obtain ⟨h1, h2⟩ := hD
    subst h2
    replace hs := hs.mono hleE
    refine ⟨h1, _, _, rfl, (resC_tmp rfl (resC_tmp rfl (resC_tmp rfl (resC_cell 0 rfl rfl ty_26 rfl rfl resC_nil)))), RetR.mk ?_⟩
    exact ⟨rfl, fun _ => rfl, fun h => absurd h hck, fun h => absurd h hck⟩

end Go.Proofs
