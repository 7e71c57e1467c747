/- The walks of the functions of the graph: what each of them computes, at any input. -/
import Derived.Test.YtbfleiickdobnaaRcV
set_option autoImplicit false
set_option linter.unusedVariables false
set_option linter.unusedSimpArgs false
namespace Go.Proofs
open Go.XL



theorem rename_fn (a : Option Addr) (c : Nat) (l : List Int) (H : Hp) (hs : SlR (intR .i64) H a c l) (hl : l.length < 1000000) (x y : Int) : FnC Try.prog 46 #[.slice a l.length c, .int .i64 x, .int .i64 y] H [] (RetR (fun v H2 _ => ∃ a2 c2 l2, l2 = renL l x y ∧ v = .slice a2 l2.length c2 ∧ SlR (intR .i64) H2 a2 c2 l2)) := by
  refine FnC.intro (args := [.slice a l.length c, .int .i64 x, .int .i64 y]) Try.func46 rfl rfl Try.ntmps46 rfl rfl rfl fun G rest => ?_
  refine XC.seq ?_
  refine XC.region ?_
  refine XO.assign rfl rfl ?_
  refine XO.nil ?_
  refine XC.seq2 ?_
  refine XC.seq ?_
  refine XC.region ?_
  refine XO.buildRow (ρ := (intR .i64)) (l := []) rfl Try.underlying29 ty_3 ze_3 rfl rfl rfl rfl rfl (fun p9 a9 c9 hacc9 => ?_)
  refine XO.assign rfl rfl ?_
  refine XO.nil ?_
  refine XC.seq2 ?_
  refine XC.seq ?_
  refine XC.seq ?_
  refine XC.region ?_
  refine XO.assign rfl rfl ?_
  refine XO.nil ?_
  refine XC.seq2 ?_
  refine XC.block ?_
  refine XC.keep [7, 8, 0, 1, 2] rfl ?_
  refine XC.loop (base := [(0, _), (1, _), (2, _)]) (fun ζ : Nat × ((Nat × SObj) × Option Addr × Nat) => [(7, .slice ζ.2.2.1 (renL (l.take (ζ.1)) x y).length ζ.2.2.2), (8, .int .i64 (ζ.1 : Nat))]) (fun ζ Hl own => ζ.1 ≤ l.length ∧ ζ.2.1 :: rest = own ∧ Acc (intR .i64) 3 Hl ζ.2.1 ζ.2.2.1 ζ.2.2.2 (renL (l.take (ζ.1)) x y)) (fun ζ => l.length - ζ.1) (0, (p9, a9, c9)) (prov_cons (rfl) (prov_cons (rfl) (prov_cons (rfl) (prov_cons (rfl) (prov_cons (rfl) prov_nil))))) (by repeat (first | exact List.Sublist.refl _ | apply List.Sublist.cons_cons | apply List.Sublist.cons)) ⟨Nat.zero_le _, rfl, hacc9⟩ ?_
  rintro ⟨k, ⟨po, ao, co⟩⟩ Hl0 _ hle0 ⟨hkk, rfl, hacco⟩
  replace hs := hs.mono hle0
  try dsimp only at hkk hacco ⊢
  refine XC.seq ?_
  refine XC.seq ?_
  refine XC.region ?_
  refine XO.move rfl rfl ?_
  refine XO.move rfl rfl ?_
  refine XO.lenS (ts := #[]) rfl Try.underlying29 rfl ?_
  refine XO.lss rfl rfl rfl ?_
  refine XO.nil ?_
  refine XC.seq2 ?_
  refine XC.cond rfl (fun c0_1 => ?_) (fun c0_1 => ?_)
  · refine XC.skip ?_
    refine XC.seq2 ?_
    refine XC.seq ?_
    refine XC.block ?_
    refine XC.seq ?_
    refine XC.region ?_
    refine XO.move rfl rfl ?_
    refine XO.move rfl rfl ?_
    refine XO.indexN rfl hs rfl Try.underlying29 ty_3 (by omega) rfl ?_
    rintro eb18 eo18 _ x18 hx18 rfl hp18
    refine XO.loadH rfl (by assumption) ty_3 rfl rfl rfl ?_
    refine XO.move rfl rfl ?_
    refine XO.eql rfl rfl rfl ?_
    refine XO.nil ?_
    refine XC.seq2 ?_
    refine XC.cond rfl (fun c1_3 => ?_) (fun c1_3 => ?_)
    · refine XC.region ?_
      have hrl := renL_len (l.take k) x y
      rw [List.length_take] at hrl
      refine XO.move rfl rfl ?_
      refine XO.move rfl rfl ?_
      refine XO.buildSlice rfl Try.underlying29 ty_3 ze_3 rfl rfl rfl (fun b24 => ?_)
      refine XO.publish 0 rfl rfl rfl (fun HP24 oP24 hleP24 hbP24 hoP24 => ?_)
      have hsl24 := SlR.lit (ρ := (intR .i64)) (l := [y]) hbP24 hoP24 (RowsR.one1 rfl)
      replace hs := hs.mono hleP24
      replace hacco := hacco.mono hleP24
      replace hp18 := hp18.mono hleP24
      replace hle0 := hle0.trans hleP24
      refine XO.appendA 0 rfl rfl hacco rfl rfl hsl24 rfl Try.underlying29 ty_3 ze_3 rfl by_3 (by simp; omega) rfl (fun p25 a25 c25 hacc25 => ?_)
      refine XO.assign rfl rfl ?_
      refine XO.nil ?_
      refine blockN ?_
      refine XC.seq2 ?_
      refine XC.region ?_
      refine XO.move rfl rfl ?_
      refine XO.add rfl rfl (wrap_i64 (by omega) (by omega)) rfl ?_
      refine XO.assign rfl rfl ?_
      refine XO.nil ?_
      refine loop_next ((k + 1, (p25, a25, c25))) (by show l.length - (k + 1) < l.length - k; omega) (prov_cons (by first | rfl | (rw [renL_yes hx18 (by omega)]; rfl) | (rw [renL_no hx18 (by omega)]; rfl)) (prov_cons (rfl) (prov_cons (rfl) (prov_cons (rfl) (prov_cons (rfl) prov_nil))))) (⟨by show k + 1 ≤ l.length; omega, rfl, by first | (exact hacc25) | (rw [renL_yes hx18 (by omega)]; exact hacc25) | (rw [renL_no hx18 (by omega)]; exact hacc25)⟩) (by repeat (first | exact List.Sublist.refl _ | apply List.Sublist.cons_cons | apply List.Sublist.cons)) (hle0)
    · refine XC.region ?_
      have hrl := renL_len (l.take k) x y
      rw [List.length_take] at hrl
      refine XO.move rfl rfl ?_
      refine XO.move rfl rfl ?_
      refine XO.move rfl rfl ?_
      refine XO.indexN rfl hs rfl Try.underlying29 ty_3 (by omega) rfl ?_
      rintro eb29 eo29 _ x29 hx29 rfl hp29
      obtain rfl := Option.some.inj (hx18.symm.trans hx29)
      refine XO.loadH rfl (by assumption) ty_3 rfl rfl rfl ?_
      refine XO.buildSlice rfl Try.underlying29 ty_3 ze_3 rfl rfl rfl (fun b31 => ?_)
      refine XO.publish 0 rfl rfl rfl (fun HP31 oP31 hleP31 hbP31 hoP31 => ?_)
      have hsl31 := SlR.lit (ρ := (intR .i64)) (l := [x18]) hbP31 hoP31 (RowsR.one1 rfl)
      replace hs := hs.mono hleP31
      replace hacco := hacco.mono hleP31
      replace hp18 := hp18.mono hleP31
      replace hp29 := hp29.mono hleP31
      replace hle0 := hle0.trans hleP31
      refine XO.appendA 0 rfl rfl hacco rfl rfl hsl31 rfl Try.underlying29 ty_3 ze_3 rfl by_3 (by simp; omega) rfl (fun p32 a32 c32 hacc32 => ?_)
      refine XO.assign rfl rfl ?_
      refine XO.nil ?_
      refine blockN ?_
      refine XC.seq2 ?_
      refine XC.region ?_
      refine XO.move rfl rfl ?_
      refine XO.add rfl rfl (wrap_i64 (by omega) (by omega)) rfl ?_
      refine XO.assign rfl rfl ?_
      refine XO.nil ?_
      refine loop_next ((k + 1, (p32, a32, c32))) (by show l.length - (k + 1) < l.length - k; omega) (prov_cons (by first | rfl | (rw [renL_yes hx18 (by omega)]; rfl) | (rw [renL_no hx18 (by omega)]; rfl)) (prov_cons (rfl) (prov_cons (rfl) (prov_cons (rfl) (prov_cons (rfl) prov_nil))))) (⟨by show k + 1 ≤ l.length; omega, rfl, by first | (exact hacc32) | (rw [renL_yes hx18 (by omega)]; exact hacc32) | (rw [renL_no hx18 (by omega)]; exact hacc32)⟩) (by repeat (first | exact List.Sublist.refl _ | apply List.Sublist.cons_cons | apply List.Sublist.cons)) (hle0)
  · obtain rfl : k = l.length := by omega
    rw [List.take_length] at hacco ⊢
    refine XC.exit ?_
    refine seqX_exit ?_
    refine loopX_exit ?_
    refine blockHit rfl ?_
    refine XC.seq2 ?_
    refine XC.seq ?_
    refine XC.region ?_
    refine XO.move rfl rfl ?_
    refine XO.publishA 0 rfl hacco rfl (fun HQ7 hleQ7 hsQ7 => ?_)
    replace hs := hs.mono hleQ7
    replace hle0 := hle0.trans hleQ7
    refine XO.assign rfl rfl ?_
    refine XO.nil ?_
    refine XC.seq2 ?_
    refine XC.ret ?_
    refine ⟨rfl, _, [], rfl, (by repeat (first | exact List.Sublist.refl _ | apply List.Sublist.cons)), RetR.mk ?_⟩
    exact ⟨_, _, _, rfl, rfl, by assumption⟩

set_option maxRecDepth 100000 in
set_option maxHeartbeats 1600000 in
theorem parts_fn (a : Option Addr) (c : Nat) (m : Tb) (H : Hp) (hs : SlR tbR H a c m) (hl : m.length < 9223372036854775808) (hok : okG m) : FnC Try.prog 32 #[.slice a m.length c] H [] (RetR (fun v H2 _ => PartsR m H2 v)) := by
  refine FnC.intro (args := [.slice a m.length c]) Try.func32 rfl rfl Try.ntmps32 rfl rfl rfl fun G rest => ?_
  have hlm := hok.1
  have hwm : wideM m ≤ 16 := okG_wide hok
  refine XC.seq ?_
  refine XC.region ?_
  refine XO.assign rfl rfl ?_
  refine XO.assign rfl rfl ?_
  refine XO.nil ?_
  refine XC.seq2 ?_
  refine XC.seq ?_
  refine XC.region ?_
  refine XO.buildRow (ρ := (intR .i64)) (l := []) rfl Try.underlying29 ty_3 ze_3 rfl rfl rfl rfl rfl (fun p11 a11 c11 hacc11 => ?_)
  refine XO.assign rfl rfl ?_
  refine XO.nil ?_
  refine XC.seq2 ?_
  refine XC.seq ?_
  refine XC.seq ?_
  refine XC.region ?_
  refine XO.assign rfl rfl ?_
  refine XO.nil ?_
  refine XC.seq2 ?_
  refine XC.block ?_
  refine XC.keep [4, 5, 0] rfl ?_
  refine XC.loop (base := [(0, _)]) (fun ζ : Nat × ((Nat × SObj) × Option Addr × Nat) => [(4, .slice ζ.2.2.1 (plL (ζ.1) (fun x => x)).length ζ.2.2.2), (5, .int .i64 (ζ.1 : Nat))]) (fun ζ Hl own => ζ.1 ≤ (m.length + wideM m) ∧ ζ.2.1 :: rest = own ∧ Acc (intR .i64) 3 Hl ζ.2.1 ζ.2.2.1 ζ.2.2.2 (plL (ζ.1) (fun x => x))) (fun ζ => (m.length + wideM m) - ζ.1) (0, (p11, a11, c11)) (prov_cons (rfl) (prov_cons (rfl) (prov_cons (rfl) prov_nil))) (by repeat (first | exact List.Sublist.refl _ | apply List.Sublist.cons_cons | apply List.Sublist.cons)) ⟨Nat.zero_le _, rfl, hacc11⟩ ?_
  rintro ⟨k, ⟨po, ao, co⟩⟩ Hl0 _ hle0 ⟨hkk, rfl, hacco⟩
  replace hs := hs.mono hle0
  try dsimp only at hkk hacco ⊢
  refine XC.seq ?_
  refine XC.seq ?_
  refine XC.region ?_
  refine XO.move rfl rfl ?_
  refine XO.move rfl rfl ?_
  refine XO.lenS (ts := #[]) rfl Try.underlying22 rfl ?_
  refine XO.move rfl rfl ?_
  refine XO.callV rfl (judges_fn _ _ m _ hs hl) rfl ?_
  refine XO.add rfl rfl (wrap_i64 (by omega) (by omega)) rfl ?_
  refine XO.lss rfl rfl rfl ?_
  refine XO.nil ?_
  refine XC.seq2 ?_
  refine XC.cond rfl (fun c0_2 => ?_) (fun c0_2 => ?_)
  · refine XC.skip ?_
    refine XC.seq2 ?_
    refine XC.seq ?_
    refine XC.block ?_
    refine XC.region ?_
    have hpl := plL_len k (fun x => x)
    refine XO.move rfl rfl ?_
    refine XO.move rfl rfl ?_
    refine XO.buildSlice rfl Try.underlying29 ty_3 ze_3 rfl rfl rfl (fun b23 => ?_)
    refine XO.publish 0 rfl rfl rfl (fun HP23 oP23 hleP23 hbP23 hoP23 => ?_)
    have hsl23 := SlR.lit (ρ := (intR .i64)) (l := [((k : Nat) : Int)]) hbP23 hoP23 (RowsR.one1 rfl)
    replace hs := hs.mono hleP23
    replace hacco := hacco.mono hleP23
    replace hle0 := hle0.trans hleP23
    refine XO.appendA 0 rfl rfl hacco rfl rfl hsl23 rfl Try.underlying29 ty_3 ze_3 rfl by_3 (by simp; omega) rfl (fun p24 a24 c24 hacc24 => ?_)
    refine XO.assign rfl rfl ?_
    refine XO.nil ?_
    refine blockN ?_
    refine XC.seq2 ?_
    refine XC.region ?_
    refine XO.move rfl rfl ?_
    refine XO.add rfl rfl (wrap_i64 (by omega) (by omega)) rfl ?_
    refine XO.assign rfl rfl ?_
    refine XO.nil ?_
    refine loop_next ((k + 1, (p24, a24, c24))) (by show (m.length + wideM m) - (k + 1) < (m.length + wideM m) - k; omega) (prov_cons (by first | rfl | (rw [plL_succ]; rfl)) (prov_cons (rfl) (prov_cons (rfl) prov_nil))) (⟨by show k + 1 ≤ (m.length + wideM m); omega, rfl, by first | (exact hacc24) | (rw [plL_succ]; exact hacc24)⟩) (by repeat (first | exact List.Sublist.refl _ | apply List.Sublist.cons_cons | apply List.Sublist.cons)) (hle0)
  · obtain rfl : k = m.length + wideM m := by omega
    refine XC.exit ?_
    refine seqX_exit ?_
    refine loopX_exit ?_
    refine blockHit rfl ?_
    refine XC.seq2 ?_
    refine XC.seq ?_
    refine XC.region ?_
    refine XO.publishA 0 rfl hacco rfl (fun HQ4 hleQ4 hsQ4 => ?_)
    replace hs := hs.mono hleQ4
    replace hle0 := hle0.trans hleQ4
    refine XO.buildRow (ρ := pairR) (l := []) rfl Try.underlying25 ty_41 ze_41 rfl rfl rfl rfl rfl (fun p25 a25 c25 hacc25 => ?_)
    refine XO.assign rfl rfl ?_
    refine XO.nil ?_
    refine XC.seq2 ?_
    refine XC.seq ?_
    refine XC.seq ?_
    refine XC.region ?_
    refine XO.assign rfl rfl ?_
    refine XO.nil ?_
    refine XC.seq2 ?_
    refine XC.block ?_
    refine XC.keep [4, 6, 7, 0] rfl ?_
    refine XC.loop (base := [(0, _)]) (fun ζ : Nat × (Option Addr) × (Nat) × ((Nat × SObj) × Option Addr × Nat) => [(4, .slice ζ.2.1 (plL (m.length + wideM m) (allG m [] (ζ.1)).Pl).length ζ.2.2.1), (6, .slice ζ.2.2.2.2.1 ((allG m [] (ζ.1)).l).length ζ.2.2.2.2.2), (7, .int .i64 (ζ.1 : Nat))]) (fun ζ Hl own => ζ.1 ≤ m.length ∧ ζ.2.2.2.1 :: rest = own ∧ Acc pairR 41 Hl ζ.2.2.2.1 ζ.2.2.2.2.1 ζ.2.2.2.2.2 ((allG m [] (ζ.1)).l) ∧ (SlR (intR .i64) Hl ζ.2.1 ζ.2.2.1 (plL (m.length + wideM m) (allG m [] (ζ.1)).Pl))) (fun ζ => m.length - ζ.1) (0, ao, co, (p25, a25, c25)) (prov_cons (rfl) (prov_cons (rfl) (prov_cons (rfl) (prov_cons (rfl) prov_nil)))) (by repeat (first | exact List.Sublist.refl _ | apply List.Sublist.cons_cons | apply List.Sublist.cons)) ⟨Nat.zero_le _, rfl, hacc25, by assumption⟩ ?_
    rintro ⟨i, a4, c4, ⟨pq, aq, cq⟩⟩ Hl1 _ hle1 ⟨hki, rfl, haccq, hs4⟩
    replace hs := hs.mono hle1
    replace hsQ4 := hsQ4.mono hle1
    replace hle0 := hle0.trans hle1
    try dsimp only at hki haccq hs4 ⊢
    refine XC.seq ?_
    refine XC.seq ?_
    refine XC.region ?_
    refine XO.move rfl rfl ?_
    refine XO.move rfl rfl ?_
    refine XO.lenS (ts := #[]) rfl Try.underlying22 rfl ?_
    refine XO.lss rfl rfl rfl ?_
    refine XO.nil ?_
    refine XC.seq2 ?_
    refine XC.cond rfl (fun c1_5 => ?_) (fun c1_5 => ?_)
    · refine XC.skip ?_
      refine XC.seq2 ?_
      refine XC.seq ?_
      refine XC.block ?_
      refine XC.seq ?_
      refine XC.region ?_
      refine XO.assign rfl rfl ?_
      refine XO.nil ?_
      refine XC.seq2 ?_
      refine XC.block ?_
      refine XC.keep [4, 6, 8, 0, 7] rfl ?_
      obtain ⟨row, hrow⟩ : ∃ row, m[i]? = some row := ⟨_, List.getElem?_eq_getElem (by omega)⟩
      refine XC.loop (base := [(0, _), (7, _)]) (fun ζ : Nat × (GS) × (Option Addr) × (Nat) × ((Nat × SObj) × Option Addr × Nat) => [(4, .slice ζ.2.2.1 (plL (m.length + wideM m) (ζ.2.1).Pl).length ζ.2.2.2.1), (6, .slice ζ.2.2.2.2.2.1 ((ζ.2.1).l).length ζ.2.2.2.2.2.2), (8, .int .i64 (ζ.1 : Nat))]) (fun ζ Hl own => ζ.1 ≤ row.length ∧ ζ.2.2.2.2.1 :: rest = own ∧ Acc pairR 41 Hl ζ.2.2.2.2.1 ζ.2.2.2.2.2.1 ζ.2.2.2.2.2.2 ((ζ.2.1).l) ∧ (ζ.2.1 = rowG m.length [] i row ζ.1 (allG m [] (i))) ∧ (SlR (intR .i64) Hl ζ.2.2.1 ζ.2.2.2.1 (plL (m.length + wideM m) (ζ.2.1).Pl))) (fun ζ => row.length - ζ.1) (0, (allG m [] (i)), a4, c4, (pq, aq, cq)) (prov_cons (rfl) (prov_cons (rfl) (prov_cons (rfl) (prov_cons (rfl) (prov_cons (rfl) prov_nil))))) (by repeat (first | exact List.Sublist.refl _ | apply List.Sublist.cons_cons | apply List.Sublist.cons)) ⟨Nat.zero_le _, rfl, haccq, rfl, hs4⟩ ?_
      rintro ⟨j, s, a4, c4, ⟨pq, aq, cq⟩⟩ Hl2 _ hle2 ⟨hkj, rfl, haccq, hs2, hs4⟩
      replace hs := hs.mono hle2
      replace hsQ4 := hsQ4.mono hle2
      replace hle0 := hle0.trans hle2
      replace hle1 := hle1.trans hle2
      try dsimp only at hkj haccq hs2 hs4 ⊢
      refine XC.seq ?_
      refine XC.seq ?_
      refine XC.region ?_
      refine XO.move rfl rfl ?_
      refine XO.move rfl rfl ?_
      refine XO.move rfl rfl ?_
      refine XO.indexN rfl hs rfl Try.underlying22 ty_40 (by omega) rfl ?_
      rintro eb35 eo35 _ x35 hx35 ⟨ax35, cx35, rfl, hd35⟩ hp35
      obtain rfl := Option.some.inj (hrow.symm.trans hx35)
      refine XO.loadH rfl (by assumption) ty_40 rfl rfl rfl ?_
      refine XO.lenS (ts := #[]) rfl Try.underlying40 rfl ?_
      refine XO.lss rfl rfl rfl ?_
      refine XO.nil ?_
      refine XC.seq2 ?_
      refine XC.cond rfl (fun c2_7 => ?_) (fun c2_7 => ?_)
      · refine XC.skip ?_
        refine XC.seq2 ?_
        refine XC.seq ?_
        refine XC.block ?_
        refine XC.seq ?_
        refine XC.region ?_
        have hpl := plL_len (m.length + wideM m) s.Pl
        have hsl : s.l.length < 4000 := by rw [hs2]; exact gs_l hok hrow (by omega)
        have hwx : row.length = wideM m := (hok.2 _ (List.mem_of_getElem? hrow)).1
        refine XO.move rfl rfl ?_
        refine XO.move rfl rfl ?_
        refine XO.indexN rfl hs4 rfl Try.underlying29 ty_3 (by omega) rfl ?_
        rintro eb43 eo43 _ x43 hx43 rfl hp43
        refine XO.loadH rfl (by assumption) ty_3 rfl rfl rfl ?_
        refine XO.assign rfl rfl ?_
        refine XO.nil ?_
        refine XC.seq2 ?_
        refine XC.seq ?_
        refine XC.region ?_
        refine XO.move rfl rfl ?_
        refine XO.move rfl rfl ?_
        refine XO.lenS (ts := #[]) rfl Try.underlying22 rfl ?_
        refine XO.move rfl rfl ?_
        refine XO.add (c := ((m.length + j : Nat) : Int)) rfl rfl ((wrap_i64 (by omega) (by omega)).trans (by omega)) rfl ?_
        refine XO.indexN rfl hs4 rfl Try.underlying29 ty_3 (by omega) rfl ?_
        rintro eb50 eo50 _ x50 hx50 rfl hp50
        refine XO.loadH rfl (by assumption) ty_3 rfl rfl rfl ?_
        refine XO.assign rfl rfl ?_
        refine XO.nil ?_
        refine XC.seq2 ?_
        refine XC.seq ?_
        refine XC.region ?_
        refine XO.move rfl rfl ?_
        refine XO.move rfl rfl ?_
        refine XO.indexN rfl hs rfl Try.underlying22 ty_40 (by omega) rfl ?_
        rintro eb54 eo54 _ x54 hx54 ⟨ax54, cx54, rfl, hd54⟩ hp54
        obtain rfl := Option.some.inj (hrow.symm.trans hx54)
        refine XO.loadH rfl (by assumption) ty_40 rfl rfl rfl ?_
        refine XO.move rfl rfl ?_
        refine XO.indexN rfl (by assumption) rfl Try.underlying40 ty_4 (by omega) rfl ?_
        rintro eb57 eo57 _ x57 hx57 rfl hp57
        refine XO.loadH rfl (by assumption) ty_4 rfl rfl rfl ?_
        refine XO.move rfl rfl ?_
        refine XO.guardC rfl rfl rfl rfl (fun g13 => ?_) (fun g13 => ?_)
        · have g13p := g13
          refine XO.move rfl rfl ?_
          refine XO.guardT rfl rfl (g13) rfl ?_
          refine XO.move rfl rfl ?_
          refine XO.guardT rfl rfl (g13) rfl ?_
          refine XO.neq rfl rfl rfl ?_
          refine XO.pickT rfl (g13) rfl rfl ?_
          refine XO.nil ?_
          refine XC.seq2 ?_
          refine XC.cond rfl (fun c3_14 => ?_) (fun c3_14 => ?_)
          · obtain ⟨_, e43⟩ := plL_get hx43
            obtain ⟨_, e50⟩ := plL_get hx50
            have hne : s.Pl i ≠ s.Pl (m.length + j) := by omega
            subst e43
            subst e50
            refine XC.seq ?_
            refine XC.region ?_
            refine XO.move rfl rfl ?_
            refine XO.move rfl rfl ?_
            refine XO.move rfl rfl ?_
            refine XO.buildArr Try.underlying41 ty_3 ze_41 rfl rfl rfl ?_
            refine XO.buildSlice rfl Try.underlying25 ty_41 ze_41 rfl rfl rfl (fun b68 => ?_)
            refine XO.publish 0 rfl rfl rfl (fun HP68 oP68 hleP68 hbP68 hoP68 => ?_)
            have hsl68 := SlR.lit (ρ := pairR) (l := [((i : Int), (j : Int))]) hbP68 hoP68 (RowsR.one1 rfl)
            replace hs := hs.mono hleP68
            replace hsQ4 := hsQ4.mono hleP68
            replace haccq := haccq.mono hleP68
            replace hs4 := hs4.mono hleP68
            replace hp35 := hp35.mono hleP68
            replace hd35 := hd35.mono hleP68
            replace hp43 := hp43.mono hleP68
            replace hp50 := hp50.mono hleP68
            replace hp54 := hp54.mono hleP68
            replace hd54 := hd54.mono hleP68
            replace hp57 := hp57.mono hleP68
            replace hle0 := hle0.trans hleP68
            replace hle1 := hle1.trans hleP68
            replace hle2 := hle2.trans hleP68
            refine XO.appendA 0 rfl rfl haccq rfl rfl hsl68 rfl Try.underlying25 ty_41 ze_41 rfl by_41 (by simp; omega) rfl (fun p69 a69 c69 hacc69 => ?_)
            refine XO.assign rfl rfl ?_
            refine XO.nil ?_
            refine XC.seq2 ?_
            refine XC.region ?_
            refine XO.move rfl rfl ?_
            refine XO.move rfl rfl ?_
            refine XO.move rfl rfl ?_
            have hcall73 := rename_fn _ _ (plL (m.length + wideM m) s.Pl) _ hs4 (by omega) ((s.Pl (m.length + j) : Nat) : Int) ((s.Pl i : Nat) : Int)
            refine XO.callH rfl hcall73 rfl ?_
            rintro _ HR73 hleR73 ⟨a73, c73, l73, hl73, rfl, hs73⟩
            obtain rfl : l73 = plL (m.length + wideM m) (jnP s.Pl i (m.length + j)) := hl73.trans (plL_ren hne)
            replace hs := hs.mono hleR73
            replace hsQ4 := hsQ4.mono hleR73
            replace hs4 := hs4.mono hleR73
            replace hp35 := hp35.mono hleR73
            replace hd35 := hd35.mono hleR73
            replace hp43 := hp43.mono hleR73
            replace hp50 := hp50.mono hleR73
            replace hp54 := hp54.mono hleR73
            replace hd54 := hd54.mono hleR73
            replace hp57 := hp57.mono hleR73
            replace hsl68 := hsl68.mono hleR73
            replace hacc69 := hacc69.mono hleR73
            replace hle0 := hle0.trans hleR73
            replace hle1 := hle1.trans hleR73
            replace hle2 := hle2.trans hleR73
            refine XO.assign rfl rfl ?_
            refine XO.nil ?_
            refine blockN ?_
            refine XC.seq2 ?_
            refine XC.region ?_
            refine XO.move rfl rfl ?_
            refine XO.add rfl rfl (wrap_i64 (by omega) (by omega)) rfl ?_
            refine XO.assign rfl rfl ?_
            refine XO.nil ?_
            refine loop_next ((j + 1, ⟨jnP s.Pl i (m.length + j), s.p - 1, s.l ++ [((i : Int), (j : Int))]⟩, a73, c73, (p69, a69, c69))) (by show row.length - (j + 1) < row.length - j; omega) (prov_cons (rfl) (prov_cons (by first | rfl) (prov_cons (rfl) (prov_cons (rfl) (prov_cons (rfl) prov_nil))))) (⟨by show j + 1 ≤ row.length; omega, rfl, by first | (exact hacc69), by first | exact ((row_succ hs2 hx57).trans (step_yes2 (by assumption) (by simp) hne)).symm | exact ((row_succ hs2 hx57).trans (step_same he)).symm | exact ((row_succ hs2 hx57).trans (step_off2 (by assumption))).symm, by assumption⟩) (by repeat (first | exact List.Sublist.refl _ | apply List.Sublist.cons_cons | apply List.Sublist.cons)) (hle2)
          · obtain ⟨_, e43⟩ := plL_get hx43
            obtain ⟨_, e50⟩ := plL_get hx50
            try have he : s.Pl i = s.Pl (m.length + j) := by omega
            refine XC.skip ?_
            refine blockN ?_
            refine XC.seq2 ?_
            refine XC.region ?_
            refine XO.move rfl rfl ?_
            refine XO.add rfl rfl (wrap_i64 (by omega) (by omega)) rfl ?_
            refine XO.assign rfl rfl ?_
            refine XO.nil ?_
            refine loop_next ((j + 1, s, a4, c4, (pq, aq, cq))) (by show row.length - (j + 1) < row.length - j; omega) (prov_cons (rfl) (prov_cons (by first | rfl) (prov_cons (rfl) (prov_cons (rfl) (prov_cons (rfl) prov_nil))))) (⟨by show j + 1 ≤ row.length; omega, rfl, by first | (exact haccq), by first | exact ((row_succ hs2 hx57).trans (step_yes2 (by assumption) (by simp) hne)).symm | exact ((row_succ hs2 hx57).trans (step_same he)).symm | exact ((row_succ hs2 hx57).trans (step_off2 (by assumption))).symm, by assumption⟩) (by repeat (first | exact List.Sublist.refl _ | apply List.Sublist.cons_cons | apply List.Sublist.cons)) (hle2)
        · have g13p := g13
          refine XO.guardF rfl rfl (g13) rfl rfl ?_
          refine XO.guardF rfl rfl (g13) rfl rfl ?_
          refine XO.pickF rfl (g13) rfl rfl ?_
          refine XO.nil ?_
          refine XC.seq2 ?_
          refine XC.condF rfl (rfl) ?_
          refine XC.skip ?_
          refine blockN ?_
          refine XC.seq2 ?_
          refine XC.region ?_
          refine XO.move rfl rfl ?_
          refine XO.add rfl rfl (wrap_i64 (by omega) (by omega)) rfl ?_
          refine XO.assign rfl rfl ?_
          refine XO.nil ?_
          refine loop_next ((j + 1, s, a4, c4, (pq, aq, cq))) (by show row.length - (j + 1) < row.length - j; omega) (prov_cons (rfl) (prov_cons (by first | rfl) (prov_cons (rfl) (prov_cons (rfl) (prov_cons (rfl) prov_nil))))) (⟨by show j + 1 ≤ row.length; omega, rfl, by first | (exact haccq), by first | exact ((row_succ hs2 hx57).trans (step_yes2 (by assumption) (by simp) hne)).symm | exact ((row_succ hs2 hx57).trans (step_same he)).symm | exact ((row_succ hs2 hx57).trans (step_off2 (by assumption))).symm, by assumption⟩) (by repeat (first | exact List.Sublist.refl _ | apply List.Sublist.cons_cons | apply List.Sublist.cons)) (hle2)
      · obtain rfl : j = row.length := by omega
        rw [← all_succ hrow] at hs2
        subst hs2
        refine XC.exit ?_
        refine seqX_exit ?_
        refine loopX_exit ?_
        refine blockHit rfl ?_
        refine blockN ?_
        refine XC.seq2 ?_
        refine XC.region ?_
        refine XO.move rfl rfl ?_
        refine XO.add rfl rfl (wrap_i64 (by omega) (by omega)) rfl ?_
        refine XO.assign rfl rfl ?_
        refine XO.nil ?_
        refine loop_next ((i + 1, a4, c4, (pq, aq, cq))) (by show m.length - (i + 1) < m.length - i; omega) (prov_cons (rfl) (prov_cons (by first | rfl) (prov_cons (rfl) (prov_cons (rfl) prov_nil)))) (⟨by show i + 1 ≤ m.length; omega, rfl, by first | (exact haccq), hs4⟩) (by repeat (first | exact List.Sublist.refl _ | apply List.Sublist.cons_cons | apply List.Sublist.cons)) (hle1)
    · obtain rfl : i = m.length := by omega
      refine XC.exit ?_
      refine seqX_exit ?_
      refine loopX_exit ?_
      refine blockHit rfl ?_
      refine XC.seq2 ?_
      refine XC.seq ?_
      refine XC.region ?_
      refine XO.move rfl rfl ?_
      refine XO.move rfl rfl ?_
      refine XO.assign rfl rfl ?_
      refine XO.publishA 0 rfl haccq rfl (fun HQ17 hleQ17 hsQ17 => ?_)
      replace hs := hs.mono hleQ17
      replace hsQ4 := hsQ4.mono hleQ17
      replace hs4 := hs4.mono hleQ17
      replace hle0 := hle0.trans hleQ17
      replace hle1 := hle1.trans hleQ17
      refine XO.assign rfl rfl ?_
      refine XO.nil ?_
      refine XC.seq2 ?_
      refine XC.ret ?_
      refine ⟨rfl, _, [], rfl, (by repeat (first | exact List.Sublist.refl _ | apply List.Sublist.cons)), RetR.mk ?_⟩
      exact ⟨_, _, _, _, by assumption, by assumption, rfl⟩

theorem conn_fn (a : Option Addr) (c : Nat) (m : Tb) (H : Hp) (hs : SlR tbR H a c m) (hl : m.length < 9223372036854775808) (hok : okG m) : FnC Try.prog 33 #[.slice a m.length c] H [] (RetR (fun v _ _ => v = .bool (decide ((finG m []).p ≤ 1)))) := by
  refine FnC.intro (args := [.slice a m.length c]) Try.func33 rfl rfl Try.ntmps33 rfl rfl rfl fun G rest => ?_
  have hlm := hok.1
  have hwm : wideM m ≤ 16 := okG_wide hok
  have hpl := plL_len (m.length + wideM m) (finG m []).Pl
  refine XC.seq ?_
  refine XC.region ?_
  refine XO.assign rfl rfl ?_
  refine XO.nil ?_
  refine XC.seq2 ?_
  refine XC.seq ?_
  refine XC.region ?_
  refine XO.move rfl rfl ?_
  have hcall8 := parts_fn a c m _ hs hl hok
  refine XO.callH rfl hcall8 rfl ?_
  rintro _ HP8 hleP8 ⟨a8, c8, b8, d8, hs8, hr8, rfl⟩
  replace hs := hs.mono hleP8
  refine XO.move rfl rfl ?_
  refine XO.extract rfl rfl rfl ?_
  refine XO.extract rfl rfl rfl ?_
  refine XO.assign rfl rfl ?_
  refine XO.assign rfl rfl ?_
  refine XO.nil ?_
  refine XC.seq2 ?_
  refine XC.seq ?_
  refine XC.seq ?_
  refine XC.region ?_
  refine XO.assign rfl rfl ?_
  refine XO.nil ?_
  refine XC.seq2 ?_
  refine XC.block ?_
  refine XC.keep [5, 3] rfl ?_
  refine XC.loop (base := [(3, _)]) (fun ζ : Nat => [(5, .int .i64 (ζ : Nat))]) (fun ζ Hl own => ζ ≤ (m.length + wideM m) ∧ rest = own ∧ (∀ y ∈ (plL (m.length + wideM m) (finG m []).Pl).take ζ, ¬ (y ≠ ((finG m []).Pl 0 : Nat)))) (fun ζ => (m.length + wideM m) - ζ) 0 (prov_cons (rfl) (prov_cons (rfl) prov_nil)) (by repeat (first | exact List.Sublist.refl _ | apply List.Sublist.cons_cons | apply List.Sublist.cons)) ⟨Nat.zero_le _, rfl, by simp⟩ ?_
  rintro k Hl0 _ hle0 ⟨hkk, rfl, hno⟩
  replace hs := hs.mono hle0
  replace hs8 := hs8.mono hle0
  replace hr8 := hr8.mono hle0
  try dsimp only at ⊢
  refine XC.seq ?_
  refine XC.seq ?_
  refine XC.region ?_
  refine XO.move rfl rfl ?_
  refine XO.move rfl rfl ?_
  refine XO.lenS (ts := #[]) rfl Try.underlying29 rfl ?_
  refine XO.lss rfl rfl rfl ?_
  refine XO.nil ?_
  refine XC.seq2 ?_
  refine XC.cond rfl (fun c0_2 => ?_) (fun c0_2 => ?_)
  · refine XC.skip ?_
    refine XC.seq2 ?_
    refine XC.seq ?_
    refine XC.block ?_
    refine XC.seq ?_
    refine XC.keep [3, 5] rfl ?_
    obtain ⟨bEX, oEX, rfl⟩ := hs8.addr (by omega)
    obtain ⟨_, xX, hxX, rfl, hpX⟩ := hs8.elem (k) (by omega)
    obtain ⟨_, xZ, hxZ, rfl, hpZ⟩ := hs8.elem (0) (by omega)
    apply XC.draw 7 [eqF _, eqF _, eqF _, eqF _, eqF _, eqF _, eqF _] follows (by kernel_rfl) (by kernel_rfl) ⟨eqF_mono _, eqF_mono _, eqF_mono _, eqF_mono _, eqF_mono _, eqF_mono _, eqF_mono _, trivial⟩ ?steps3 ?tail3
    case steps3 =>
      refine stepsK_cons rfl ?_ ?_
      · intro X
        refine withPreds_nil rfl ?_
        refine XO.move rfl rfl ?_
        refine XO.nil ?_
        exact stepQ_ok rfl (rfl)
      refine stepsK_cons rfl ?_ ?_
      · intro X
        refine withPreds_nil rfl ?_
        refine XO.move rfl rfl ?_
        refine XO.nil ?_
        exact stepQ_ok rfl (rfl)
      refine stepsK_cons rfl ?_ ?_
      · intro X
        refine withPreds_cons rfl rfl ?_
        rintro _ rfl
        refine withPreds_cons rfl rfl ?_
        rintro _ rfl
        refine withPreds_nil rfl ?_
        refine XO.indexE rfl rfl Try.underlying29 ty_3 (by omega) (by omega) rfl ?_
        refine XO.nil ?_
        exact stepQ_ok rfl (rfl)
      refine stepsK_cons rfl ?_ ?_
      · intro X
        refine withPreds_cons rfl rfl ?_
        rintro _ rfl
        refine withPreds_nil rfl ?_
        refine XO.loadH rfl (by assumption) ty_3 rfl rfl rfl ?_
        refine XO.nil ?_
        exact stepQ_ok rfl (rfl)
      refine stepsK_cons rfl ?_ ?_
      · intro X
        refine withPreds_nil rfl ?_
        refine XO.move rfl rfl ?_
        refine XO.nil ?_
        exact stepQ_ok rfl (rfl)
      refine stepsK_cons rfl ?_ ?_
      · intro X
        refine withPreds_cons rfl rfl ?_
        rintro _ rfl
        refine withPreds_nil rfl ?_
        refine XO.indexE rfl rfl Try.underlying29 ty_3 (by omega) (by omega) rfl ?_
        refine XO.nil ?_
        exact stepQ_ok rfl (rfl)
      refine stepsK_cons rfl ?_ ?_
      · intro X
        refine withPreds_cons rfl rfl ?_
        rintro _ rfl
        refine withPreds_nil rfl ?_
        refine XO.loadH rfl (by assumption) ty_3 rfl rfl rfl ?_
        refine XO.nil ?_
        exact stepQ_ok rfl (rfl)
      exact stepsD_end rfl
    case tail3 =>
      refine withPreds_cons rfl rfl ?_
      rintro _ rfl
      refine withPreds_cons rfl rfl ?_
      rintro _ rfl
      refine withPreds_cons rfl rfl ?_
      rintro _ rfl
      refine withPreds_cons rfl rfl ?_
      rintro _ rfl
      refine withPreds_cons rfl rfl ?_
      rintro _ rfl
      refine withPreds_cons rfl rfl ?_
      rintro _ rfl
      refine withPreds_cons rfl rfl ?_
      rintro _ rfl
      refine withPreds_nil rfl ?_
      refine XO.neq rfl rfl rfl ?_
      refine XO.nil ?_
      refine XC.seq2 ?_
      refine XC.cond rfl (fun c1_6 => ?_) (fun c1_6 => ?_)
      · refine XC.seq ?_
        refine XC.region ?_
        refine XO.assign rfl rfl ?_
        refine XO.nil ?_
        refine XC.seq2 ?_
        refine XC.ret ?_
        refine blockR ?_
        refine seqX_ret ?_
        refine loopX_ret ?_
        refine blockR ?_
        refine seqX_ret ?_
        refine ⟨rfl, _, [], rfl, (by repeat (first | exact List.Sublist.refl _ | apply List.Sublist.cons)), RetR.mk ?_⟩
        exact congrArg Value.bool (decide_eq_false (fun h => by have h1 := (conn_p hok).2 h _ (List.mem_of_getElem? hxX); have := (plL_get hxZ).2; omega)).symm
      · refine XC.skip ?_
        refine blockN ?_
        refine XC.seq2 ?_
        refine XC.region ?_
        refine XO.move rfl rfl ?_
        refine XO.add rfl rfl (wrap_i64 (by omega) (by omega)) rfl ?_
        refine XO.assign rfl rfl ?_
        refine XO.nil ?_
        refine loop_next (k + 1) (by show (m.length + wideM m) - (k + 1) < (m.length + wideM m) - k; omega) (prov_cons (rfl) (prov_cons (rfl) prov_nil)) (⟨by show k + 1 ≤ (m.length + wideM m); omega, rfl, all_snoc hno hxX (by have := (plL_get hxX).2; have := (plL_get hxZ).2; omega)⟩) (by repeat (first | exact List.Sublist.refl _ | apply List.Sublist.cons_cons | apply List.Sublist.cons)) (hle0)
  · have hk : k = (plL (m.length + wideM m) (finG m []).Pl).length := by omega
    rw [hk, List.take_length] at hno
    refine XC.exit ?_
    refine seqX_exit ?_
    refine loopX_exit ?_
    refine blockHit rfl ?_
    refine XC.seq2 ?_
    refine XC.seq ?_
    refine XC.region ?_
    refine XO.assign rfl rfl ?_
    refine XO.nil ?_
    refine XC.seq2 ?_
    refine XC.ret ?_
    refine ⟨rfl, _, [], rfl, (by repeat (first | exact List.Sublist.refl _ | apply List.Sublist.cons)), RetR.mk ?_⟩
    exact congrArg Value.bool (decide_eq_true ((conn_p hok).1 fun z hz => Decidable.not_not.1 (hno z hz))).symm

theorem rtree_fn (a : Option Addr) (c : Nat) (m : Tb) (H : Hp) (hs : SlR tbR H a c m) (hl : m.length < 9223372036854775808) : FnC Try.prog 13 #[.slice a m.length c] H [] (RetR (fun v H2 _ => TreeR m H2 v)) := by
  refine FnC.intro (args := [.slice a m.length c]) Try.func13 rfl rfl Try.ntmps13 rfl rfl rfl fun G rest => ?_
  refine XC.seq ?_
  refine XC.region ?_
  refine XO.assign rfl rfl ?_
  refine XO.assign rfl rfl ?_
  refine XO.assign rfl rfl ?_
  refine XO.nil ?_
  refine XC.seq2 ?_
  refine XC.seq ?_
  refine XC.region ?_
  refine XO.move rfl rfl ?_
  refine XO.callV rfl (rcheck_fn _ _ m _ hs hl) rfl ?_
  refine XO.assign rfl rfl ?_
  refine XO.nil ?_
  refine XC.seq2 ?_
  refine XC.seq ?_
  refine XC.seq ?_
  refine XC.region ?_
  refine XO.move rfl rfl ?_
  refine XO.neq rfl rfl rfl ?_
  refine XO.nil ?_
  refine XC.seq2 ?_
  refine XC.cond rfl (fun c0_2 => ?_) (fun c0_2 => ?_)
  · refine XC.seq ?_
    refine XC.region ?_
    refine XO.move rfl rfl ?_
    refine XO.assign rfl rfl ?_
    refine XO.assign rfl rfl ?_
    refine XO.assign rfl rfl ?_
    refine XO.nil ?_
    refine XC.seq2 ?_
    refine XC.ret ?_
    refine seqX_ret ?_
    refine ⟨rfl, _, [], rfl, (by repeat (first | exact List.Sublist.refl _ | apply List.Sublist.cons)), RetR.mk ?_⟩
    exact ⟨fun _ => rfl, fun h => absurd h (by assumption)⟩
  · have hck : chkG m = 0 := by omega
    have hok := chk_eq0.1 hck
    have hlm := hok.1
    have hwm := okG_wide hok
    refine XC.skip ?_
    refine XC.seq2 ?_
    refine XC.seq ?_
    refine XC.region ?_
    refine XO.move rfl rfl ?_
    have hcall15 := parts_fn a c m _ hs hl hok
    refine XO.callH rfl hcall15 rfl ?_
    rintro _ HP15 hleP15 ⟨a15, c15, b15, d15, hs15, hr15, rfl⟩
    replace hs := hs.mono hleP15
    refine XO.move rfl rfl ?_
    refine XO.extract rfl rfl rfl ?_
    refine XO.extract rfl rfl rfl ?_
    refine XO.assign rfl rfl ?_
    refine XO.assign rfl rfl ?_
    refine XO.nil ?_
    refine XC.seq2 ?_
    refine XC.seq ?_
    refine XC.region ?_
    refine XO.move rfl rfl ?_
    refine XO.move rfl rfl ?_
    refine XO.callV rfl (conn_fn _ _ m _ hs hl hok) rfl ?_
    refine XO.assign rfl rfl ?_
    refine XO.assign rfl rfl ?_
    refine XO.assign rfl rfl ?_
    refine XO.nil ?_
    refine XC.seq2 ?_
    refine XC.ret ?_
    refine ⟨rfl, _, [], rfl, (by repeat (first | exact List.Sublist.refl _ | apply List.Sublist.cons)), RetR.mk ?_⟩
    exact ⟨fun h => absurd hck h, fun _ => ⟨_, _, hr15, rfl⟩⟩

theorem rcut_fn (a : Option Addr) (c : Nat) (m : Tb) (H : Hp) (hs : SlR tbR H a c m) (hl : m.length < 9223372036854775808) : FnC Try.prog 15 #[.slice a m.length c] H [] (RetR (fun v H2 _ => CutR m H2 v)) := by
  refine FnC.intro (args := [.slice a m.length c]) Try.func15 rfl rfl Try.ntmps15 rfl rfl rfl fun G rest => ?_
  refine XC.seq ?_
  refine XC.region ?_
  refine XO.assign rfl rfl ?_
  refine XO.assign rfl rfl ?_
  refine XO.assign rfl rfl ?_
  refine XO.assign rfl rfl ?_
  refine XO.nil ?_
  refine XC.seq2 ?_
  refine XC.seq ?_
  refine XC.region ?_
  refine XO.move rfl rfl ?_
  refine XO.callV rfl (rcheck_fn _ _ m _ hs hl) rfl ?_
  refine XO.assign rfl rfl ?_
  refine XO.nil ?_
  refine XC.seq2 ?_
  refine XC.seq ?_
  refine XC.seq ?_
  refine XC.region ?_
  refine XO.move rfl rfl ?_
  refine XO.neq rfl rfl rfl ?_
  refine XO.nil ?_
  refine XC.seq2 ?_
  refine XC.cond rfl (fun c0_2 => ?_) (fun c0_2 => ?_)
  · refine XC.seq ?_
    refine XC.region ?_
    refine XO.move rfl rfl ?_
    refine XO.assign rfl rfl ?_
    refine XO.assign rfl rfl ?_
    refine XO.assign rfl rfl ?_
    refine XO.assign rfl rfl ?_
    refine XO.nil ?_
    refine XC.seq2 ?_
    refine XC.ret ?_
    refine seqX_ret ?_
    refine ⟨rfl, _, [], rfl, (by repeat (first | exact List.Sublist.refl _ | apply List.Sublist.cons)), RetR.mk ?_⟩
    exact ⟨fun _ => rfl, fun h => absurd h (by assumption), fun h => absurd h (by assumption)⟩
  · have hck : chkG m = 0 := by omega
    have hok := chk_eq0.1 hck
    have hlm := hok.1
    have hwm := okG_wide hok
    have hpl := plL_len (m.length + wideM m) (finG m []).Pl
    refine XC.skip ?_
    refine XC.seq2 ?_
    refine XC.seq ?_
    refine XC.seq ?_
    refine XC.region ?_
    refine XO.move rfl rfl ?_
    refine XO.callV rfl (conn_fn _ _ m _ hs hl hok) rfl ?_
    refine XO.nil ?_
    refine XC.seq2 ?_
    refine XC.cond rfl (fun c1_4 => ?_) (fun c1_4 => ?_)
    · refine XC.seq ?_
      refine XC.region ?_
      refine XO.assign rfl rfl ?_
      refine XO.assign rfl rfl ?_
      refine XO.assign rfl rfl ?_
      refine XO.assign rfl rfl ?_
      refine XO.nil ?_
      refine XC.seq2 ?_
      refine XC.ret ?_
      refine seqX_ret ?_
      refine ⟨rfl, _, [], rfl, (by repeat (first | exact List.Sublist.refl _ | apply List.Sublist.cons)), RetR.mk ?_⟩
      exact ⟨fun h => absurd hck h, fun _ _ => rfl, fun _ h => absurd (by assumption) h⟩
    · refine XC.skip ?_
      refine XC.seq2 ?_
      refine XC.seq ?_
      refine XC.region ?_
      refine XO.move rfl rfl ?_
      have hcall21 := parts_fn a c m _ hs hl hok
      refine XO.callH rfl hcall21 rfl ?_
      rintro _ HP21 hleP21 ⟨a21, c21, b21, d21, hs21, hr21, rfl⟩
      replace hs := hs.mono hleP21
      refine XO.move rfl rfl ?_
      refine XO.extract rfl rfl rfl ?_
      refine XO.extract rfl rfl rfl ?_
      refine XO.assign rfl rfl ?_
      refine XO.assign rfl rfl ?_
      refine XO.nil ?_
      refine XC.seq2 ?_
      refine XC.seq ?_
      refine XC.region ?_
      refine XO.buildRow (ρ := (intR .i64)) (l := []) rfl Try.underlying29 ty_3 ze_3 rfl rfl rfl rfl rfl (fun p24 a24 c24 hacc24 => ?_)
      refine XO.assign rfl rfl ?_
      refine XO.nil ?_
      refine XC.seq2 ?_
      refine XC.seq ?_
      refine XC.region ?_
      refine XO.buildRow (ρ := (intR .i64)) (l := []) rfl Try.underlying29 ty_3 ze_3 rfl rfl rfl rfl rfl (fun p25 a25 c25 hacc25 => ?_)
      refine XO.assign rfl rfl ?_
      refine XO.nil ?_
      refine XC.seq2 ?_
      refine XC.seq ?_
      refine XC.seq ?_
      refine XC.region ?_
      refine XO.assign rfl rfl ?_
      refine XO.nil ?_
      refine XC.seq2 ?_
      refine XC.block ?_
      refine XC.keep [9, 10, 11, 0, 7] rfl ?_
      refine XC.loop (base := [(0, _), (7, _)]) (fun ζ : Nat × ((Nat × SObj) × Option Addr × Nat) × ((Nat × SObj) × Option Addr × Nat) => [(9, .slice ζ.2.1.2.1 (someL (finG m []).Pl 0 (min (ζ.1) m.length)).length ζ.2.1.2.2), (10, .slice ζ.2.2.2.1 (someL (finG m []).Pl m.length (ζ.1 - m.length)).length ζ.2.2.2.2), (11, .int .i64 (ζ.1 : Nat))]) (fun ζ Hl own => ζ.1 ≤ (m.length + wideM m) ∧ ζ.2.2.1 :: ζ.2.1.1 :: rest = own ∧ Acc (intR .i64) 3 Hl ζ.2.1.1 ζ.2.1.2.1 ζ.2.1.2.2 (someL (finG m []).Pl 0 (min (ζ.1) m.length)) ∧ Acc (intR .i64) 3 Hl ζ.2.2.1 ζ.2.2.2.1 ζ.2.2.2.2 (someL (finG m []).Pl m.length (ζ.1 - m.length))) (fun ζ => (m.length + wideM m) - ζ.1) (0, (p24, a24, c24), (p25, a25, c25)) (prov_cons (rfl) (prov_cons (by show _ = some (Value.slice _ (someL _ _ (0 - _)).length _); rw [Nat.zero_sub]; rfl) (prov_cons (rfl) (prov_cons (rfl) (prov_cons (rfl) prov_nil))))) (by repeat (first | exact List.Sublist.refl _ | apply List.Sublist.cons_cons | apply List.Sublist.cons)) ⟨Nat.zero_le _, rfl, hacc24, (by show XL.Acc _ _ _ _ _ _ (someL _ _ (0 - _)); rw [Nat.zero_sub]; exact hacc25)⟩ ?_
      rintro ⟨k, ⟨po, ao, co⟩, ⟨pq, aq, cq⟩⟩ Hl0 _ hle0 ⟨hkk, rfl, hacco, haccq⟩
      replace hs := hs.mono hle0
      replace hs21 := hs21.mono hle0
      replace hr21 := hr21.mono hle0
      try dsimp only at hkk hacco haccq ⊢
      refine XC.seq ?_
      refine XC.seq ?_
      refine XC.region ?_
      refine XO.move rfl rfl ?_
      refine XO.move rfl rfl ?_
      refine XO.lenS (ts := #[]) rfl Try.underlying29 rfl ?_
      refine XO.lss rfl rfl rfl ?_
      refine XO.nil ?_
      refine XC.seq2 ?_
      refine XC.cond rfl (fun c2_6 => ?_) (fun c2_6 => ?_)
      · refine XC.skip ?_
        refine XC.seq2 ?_
        refine XC.seq ?_
        refine XC.block ?_
        refine XC.seq ?_
        refine XC.keep [0, 7, 9, 10, 11] rfl ?_
        obtain ⟨bEX, oEX, rfl⟩ := hs21.addr (by omega)
        obtain ⟨_, xX, hxX, rfl, hpX⟩ := hs21.elem (k) (by omega)
        obtain ⟨_, xZ, hxZ, rfl, hpZ⟩ := hs21.elem (0) (by omega)
        obtain ⟨_, gX⟩ := plL_get hxX
        obtain ⟨_, gZ⟩ := plL_get hxZ
        apply XC.draw 7 [eqF _, eqF _, eqF _, eqF _, eqF _, eqF _, eqF _] follows (by kernel_rfl) (by kernel_rfl) ⟨eqF_mono _, eqF_mono _, eqF_mono _, eqF_mono _, eqF_mono _, eqF_mono _, eqF_mono _, trivial⟩ ?steps7 ?tail7
        case steps7 =>
          refine stepsK_cons rfl ?_ ?_
          · intro X
            refine withPreds_nil rfl ?_
            refine XO.move rfl rfl ?_
            refine XO.nil ?_
            exact stepQ_ok rfl (rfl)
          refine stepsK_cons rfl ?_ ?_
          · intro X
            refine withPreds_nil rfl ?_
            refine XO.move rfl rfl ?_
            refine XO.nil ?_
            exact stepQ_ok rfl (rfl)
          refine stepsK_cons rfl ?_ ?_
          · intro X
            refine withPreds_cons rfl rfl ?_
            rintro _ rfl
            refine withPreds_cons rfl rfl ?_
            rintro _ rfl
            refine withPreds_nil rfl ?_
            refine XO.indexE rfl rfl Try.underlying29 ty_3 (by omega) (by omega) rfl ?_
            refine XO.nil ?_
            exact stepQ_ok rfl (rfl)
          refine stepsK_cons rfl ?_ ?_
          · intro X
            refine withPreds_cons rfl rfl ?_
            rintro _ rfl
            refine withPreds_nil rfl ?_
            refine XO.loadH rfl (by assumption) ty_3 rfl rfl rfl ?_
            refine XO.nil ?_
            exact stepQ_ok rfl (rfl)
          refine stepsK_cons rfl ?_ ?_
          · intro X
            refine withPreds_nil rfl ?_
            refine XO.move rfl rfl ?_
            refine XO.nil ?_
            exact stepQ_ok rfl (rfl)
          refine stepsK_cons rfl ?_ ?_
          · intro X
            refine withPreds_cons rfl rfl ?_
            rintro _ rfl
            refine withPreds_nil rfl ?_
            refine XO.indexE rfl rfl Try.underlying29 ty_3 (by omega) (by omega) rfl ?_
            refine XO.nil ?_
            exact stepQ_ok rfl (rfl)
          refine stepsK_cons rfl ?_ ?_
          · intro X
            refine withPreds_cons rfl rfl ?_
            rintro _ rfl
            refine withPreds_nil rfl ?_
            refine XO.loadH rfl (by assumption) ty_3 rfl rfl rfl ?_
            refine XO.nil ?_
            exact stepQ_ok rfl (rfl)
          exact stepsD_end rfl
        case tail7 =>
          refine withPreds_cons rfl rfl ?_
          rintro _ rfl
          refine withPreds_cons rfl rfl ?_
          rintro _ rfl
          refine withPreds_cons rfl rfl ?_
          rintro _ rfl
          refine withPreds_cons rfl rfl ?_
          rintro _ rfl
          refine withPreds_cons rfl rfl ?_
          rintro _ rfl
          refine withPreds_cons rfl rfl ?_
          rintro _ rfl
          refine withPreds_cons rfl rfl ?_
          rintro _ rfl
          refine withPreds_nil rfl ?_
          refine XO.eql rfl rfl rfl ?_
          refine XO.nil ?_
          refine XC.seq2 ?_
          refine XC.cond rfl (fun c3_10 => ?_) (fun c3_10 => ?_)
          · refine XC.seq ?_
            refine XC.region ?_
            refine XO.move rfl rfl ?_
            refine XO.move rfl rfl ?_
            refine XO.lenS (ts := #[]) rfl Try.underlying22 rfl ?_
            refine XO.lss rfl rfl rfl ?_
            refine XO.nil ?_
            refine XC.seq2 ?_
            refine XC.cond rfl (fun c4_11 => ?_) (fun c4_11 => ?_)
            · refine XC.region ?_
              have hsl := someL_len (finG m []).Pl 0 (min k m.length)
              refine XO.move rfl rfl ?_
              refine XO.move rfl rfl ?_
              refine XO.buildSlice rfl Try.underlying29 ty_3 ze_3 rfl rfl rfl (fun b46 => ?_)
              refine XO.publish 0 rfl rfl rfl (fun HP46 oP46 hleP46 hbP46 hoP46 => ?_)
              have hsl46 := SlR.lit (ρ := (intR .i64)) (l := [((k : Nat) : Int)]) hbP46 hoP46 (RowsR.one1 rfl)
              replace hs := hs.mono hleP46
              replace hs21 := hs21.mono hleP46
              replace hr21 := hr21.mono hleP46
              replace hacco := hacco.mono hleP46
              replace haccq := haccq.mono hleP46
              replace hpX := hpX.mono hleP46
              replace hpZ := hpZ.mono hleP46
              replace hle0 := hle0.trans hleP46
              refine XO.appendA 1 rfl rfl hacco rfl rfl hsl46 rfl Try.underlying29 ty_3 ze_3 rfl by_3 (by simp; omega) rfl (fun p47 a47 c47 hacc47 => ?_)
              refine XO.assign rfl rfl ?_
              refine XO.nil ?_
              refine blockN ?_
              refine XC.seq2 ?_
              refine XC.region ?_
              refine XO.move rfl rfl ?_
              refine XO.add rfl rfl (wrap_i64 (by omega) (by omega)) rfl ?_
              refine XO.assign rfl rfl ?_
              refine XO.nil ?_
              refine loop_next ((k + 1, (p47, a47, c47), (pq, aq, cq))) (by show (m.length + wideM m) - (k + 1) < (m.length + wideM m) - k; omega) (prov_cons (by first | rfl | (rw [eL_yes (by omega) (by omega)]; rfl) | (rw [eL_ge (by omega)]; rfl) | (rw [eL_no (by omega)]; rfl)) (prov_cons (by first | rfl | (rw [jL_yes (by omega) (by omega)]; rfl) | (rw [jL_lt (by omega)]; rfl) | (rw [jL_no (by omega)]; rfl)) (prov_cons (rfl) (prov_cons (rfl) (prov_cons (rfl) prov_nil))))) (⟨by show k + 1 ≤ (m.length + wideM m); omega, rfl, by first | (exact hacc47) | (rw [eL_yes (by omega) (by omega)]; exact hacc47) | (rw [eL_ge (by omega)]; exact hacc47) | (rw [eL_no (by omega)]; exact hacc47), by first | (exact haccq) | (rw [jL_yes (by omega) (by omega)]; exact haccq) | (rw [jL_lt (by omega)]; exact haccq) | (rw [jL_no (by omega)]; exact haccq)⟩) (by repeat (first | exact List.Sublist.refl _ | apply List.Sublist.cons_cons | apply List.Sublist.cons)) (hle0)
            · refine XC.region ?_
              have hsl := someL_len (finG m []).Pl m.length (k - m.length)
              refine XO.move rfl rfl ?_
              refine XO.move rfl rfl ?_
              refine XO.move rfl rfl ?_
              refine XO.lenS (ts := #[]) rfl Try.underlying22 rfl ?_
              refine XO.sub rfl rfl (wrap_i64 (by omega) (by omega)) rfl ?_
              refine XO.buildSlice rfl Try.underlying29 ty_3 ze_3 rfl rfl rfl (fun b53 => ?_)
              refine XO.publish 0 rfl rfl rfl (fun HP53 oP53 hleP53 hbP53 hoP53 => ?_)
              have hsl53 := SlR.lit (ρ := (intR .i64)) (l := [((k : Nat) : Int) - (m.length : Nat)]) hbP53 hoP53 (RowsR.one1 rfl)
              replace hs := hs.mono hleP53
              replace hs21 := hs21.mono hleP53
              replace hr21 := hr21.mono hleP53
              replace hacco := hacco.mono hleP53
              replace haccq := haccq.mono hleP53
              replace hpX := hpX.mono hleP53
              replace hpZ := hpZ.mono hleP53
              replace hle0 := hle0.trans hleP53
              refine XO.appendA 0 rfl rfl haccq rfl rfl hsl53 rfl Try.underlying29 ty_3 ze_3 rfl by_3 (by simp; omega) rfl (fun p54 a54 c54 hacc54 => ?_)
              refine XO.assign rfl rfl ?_
              refine XO.nil ?_
              refine blockN ?_
              refine XC.seq2 ?_
              refine XC.region ?_
              refine XO.move rfl rfl ?_
              refine XO.add rfl rfl (wrap_i64 (by omega) (by omega)) rfl ?_
              refine XO.assign rfl rfl ?_
              refine XO.nil ?_
              refine loop_next ((k + 1, (po, ao, co), (p54, a54, c54))) (by show (m.length + wideM m) - (k + 1) < (m.length + wideM m) - k; omega) (prov_cons (by first | rfl | (rw [eL_yes (by omega) (by omega)]; rfl) | (rw [eL_ge (by omega)]; rfl) | (rw [eL_no (by omega)]; rfl)) (prov_cons (by first | rfl | (rw [jL_yes (by omega) (by omega)]; rfl) | (rw [jL_lt (by omega)]; rfl) | (rw [jL_no (by omega)]; rfl)) (prov_cons (rfl) (prov_cons (rfl) (prov_cons (rfl) prov_nil))))) (⟨by show k + 1 ≤ (m.length + wideM m); omega, rfl, by first | (exact hacco) | (rw [eL_yes (by omega) (by omega)]; exact hacco) | (rw [eL_ge (by omega)]; exact hacco) | (rw [eL_no (by omega)]; exact hacco), by first | (exact hacc54) | (rw [jL_yes (by omega) (by omega)]; exact hacc54) | (rw [jL_lt (by omega)]; exact hacc54) | (rw [jL_no (by omega)]; exact hacc54)⟩) (by repeat (first | exact List.Sublist.refl _ | apply List.Sublist.cons_cons | apply List.Sublist.cons)) (hle0)
          · refine XC.skip ?_
            refine blockN ?_
            refine XC.seq2 ?_
            refine XC.region ?_
            refine XO.move rfl rfl ?_
            refine XO.add rfl rfl (wrap_i64 (by omega) (by omega)) rfl ?_
            refine XO.assign rfl rfl ?_
            refine XO.nil ?_
            refine loop_next ((k + 1, (po, ao, co), (pq, aq, cq))) (by show (m.length + wideM m) - (k + 1) < (m.length + wideM m) - k; omega) (prov_cons (by first | rfl | (rw [eL_yes (by omega) (by omega)]; rfl) | (rw [eL_ge (by omega)]; rfl) | (rw [eL_no (by omega)]; rfl)) (prov_cons (by first | rfl | (rw [jL_yes (by omega) (by omega)]; rfl) | (rw [jL_lt (by omega)]; rfl) | (rw [jL_no (by omega)]; rfl)) (prov_cons (rfl) (prov_cons (rfl) (prov_cons (rfl) prov_nil))))) (⟨by show k + 1 ≤ (m.length + wideM m); omega, rfl, by first | (exact hacco) | (rw [eL_yes (by omega) (by omega)]; exact hacco) | (rw [eL_ge (by omega)]; exact hacco) | (rw [eL_no (by omega)]; exact hacco), by first | (exact haccq) | (rw [jL_yes (by omega) (by omega)]; exact haccq) | (rw [jL_lt (by omega)]; exact haccq) | (rw [jL_no (by omega)]; exact haccq)⟩) (by repeat (first | exact List.Sublist.refl _ | apply List.Sublist.cons_cons | apply List.Sublist.cons)) (hle0)
      · obtain rfl : k = m.length + wideM m := by omega
        rw [Nat.min_eq_right (by omega)] at hacco
        rw [show m.length + wideM m - m.length = wideM m by omega] at haccq
        rw [Nat.min_eq_right (by omega), show m.length + wideM m - m.length = wideM m by omega]
        refine XC.exit ?_
        refine seqX_exit ?_
        refine loopX_exit ?_
        refine blockHit rfl ?_
        refine XC.seq2 ?_
        refine XC.seq ?_
        refine XC.region ?_
        refine XO.move rfl rfl ?_
        refine XO.move rfl rfl ?_
        refine XO.publishA 1 rfl hacco rfl (fun HQ14 hleQ14 hsQ14 => ?_)
        replace hs := hs.mono hleQ14
        replace hs21 := hs21.mono hleQ14
        replace hr21 := hr21.mono hleQ14
        replace haccq := haccq.mono hleQ14
        replace hle0 := hle0.trans hleQ14
        refine XO.assign rfl rfl ?_
        refine XO.publishA 0 rfl haccq rfl (fun HQ15 hleQ15 hsQ15 => ?_)
        replace hs := hs.mono hleQ15
        replace hs21 := hs21.mono hleQ15
        replace hr21 := hr21.mono hleQ15
        replace hsQ14 := hsQ14.mono hleQ15
        replace hle0 := hle0.trans hleQ15
        refine XO.assign rfl rfl ?_
        refine XO.assign rfl rfl ?_
        refine XO.assign rfl rfl ?_
        refine XO.nil ?_
        refine XC.seq2 ?_
        refine XC.ret ?_
        refine ⟨rfl, _, [], rfl, (by repeat (first | exact List.Sublist.refl _ | apply List.Sublist.cons)), RetR.mk ?_⟩
        exact ⟨fun h => absurd hck h, fun _ h => absurd h (by assumption), fun _ _ => ⟨_, _, _, _, by assumption, by assumption, rfl⟩⟩

end Go.Proofs
