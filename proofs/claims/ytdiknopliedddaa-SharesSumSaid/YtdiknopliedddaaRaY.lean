/- More walks of the functions of the shares: what each of them computes, at any input. -/
import Derived.Test.YtdiknopliedddaaRaX
set_option autoImplicit false
set_option linter.unusedVariables false
set_option linter.unusedSimpArgs false
namespace Go.Proofs
open Go.XL



theorem picked_fn (a0 : Option Addr) (c0 : Nat) (l0 : List Pt) (bits most : Int) (turned : Bool) (H : Hp) (hs0 : SlR ptR H a0 c0 l0) (hl : l0.length < 1073741823) : FnC Try.prog 36 #[.slice a0 l0.length c0, .int .u32 bits, .int .i64 most, .bool turned] H [] (RetR fun v H _ => ∃ x a c, v = .slice a x.length c ∧ SlR ptR H a c x ∧ PickK l0 x turned l0.length ∧ (x.length : Int) ≤ max most 0) := by
  refine FnC.intro (args := [.slice a0 l0.length c0, .int .u32 bits, .int .i64 most, .bool turned]) Try.func36 rfl rfl Try.ntmps36 rfl rfl rfl fun G rest => ?_
  refine XC.seq ?_
  refine XC.region ?_
  refine XO.assign rfl rfl ?_
  refine XO.nil ?_
  refine XC.seq2 ?_
  refine XC.seq ?_
  refine XC.seq ?_
  refine XC.region ?_
  refine XO.move rfl rfl ?_
  refine XO.lenS (ts := #[]) rfl Try.underlying42 rfl ?_
  refine XO.move rfl rfl ?_
  refine XO.nil ?_
  refine XC.seq2 ?_
  refine XC.block ?_
  refine XC.keep [8, 13, 1, 2, 3, 11, 12] rfl ?_
  refine XC.open0 0 ?_
  refine XC.loop (base := [(1, _), (2, _), (3, _), (11, _), (12, _)]) (fun ζ : Nat × (List Pt) × ((Nat × SObj) × Option Addr × Nat) => [(8, .slice ζ.2.2.2.1 (ζ.2.1).length ζ.2.2.2.2), (13, .int .i64 (ζ.1 : Nat))]) (fun ζ Hl own => ζ.1 ≤ l0.length ∧ ζ.2.2.1 :: rest = own ∧ Acc ptR 52 Hl ζ.2.2.1 ζ.2.2.2.1 ζ.2.2.2.2 (ζ.2.1) ∧ (PickK l0 ζ.2.1 turned ζ.1) ∧ (((ζ.2.1).length : Int) ≤ max most 0)) (fun ζ => l0.length - ζ.1) (0, [], ((0, .nothing), none, 0)) (prov_cons (rfl) (prov_cons (rfl) (prov_cons (rfl) (prov_cons (rfl) (prov_cons (rfl) (prov_cons (rfl) (prov_cons (rfl) prov_nil))))))) (by repeat (first | exact List.Sublist.refl _ | apply List.Sublist.cons_cons | apply List.Sublist.cons)) ⟨Nat.zero_le _, rfl, Acc.nil _ _ _ _, ⟨[], by simp, by simp⟩, by simp; omega⟩ ?_
  rintro ⟨k, x, ⟨po, ao, co⟩⟩ Hl0 _ hle0 ⟨hkk, rfl, hacco, hp, hm⟩
  replace hs0 := hs0.mono hle0
  try dsimp only at hkk hacco hp hm ⊢
  have hxl := pick_len hp
  refine XC.seq ?_
  refine XC.region ?_
  refine XO.lss rfl rfl rfl ?_
  refine XO.nil ?_
  refine XC.seq2 ?_
  refine XC.seq ?_
  refine XC.cond rfl (fun c0_1 => ?_) (fun c0_1 => ?_)
  · refine XC.skip ?_
    refine XC.seq2 ?_
    refine XC.seq ?_
    refine XC.block ?_
    refine XC.seq ?_
    refine XC.region ?_
    refine XO.move rfl rfl ?_
    refine XO.indexN rfl hs0 rfl Try.underlying42 ty_52 (by omega) rfl ?_
    rintro eb16 eo16 _ x16 hx16 rfl hp16
    refine XO.loadH rfl (by assumption) ty_52 rfl rfl rfl ?_
    refine XO.alloc ze_52 rfl (fun b10 => ?_)
    refine XO.assign rfl rfl ?_
    refine XO.storeO 0 rfl rfl rfl rfl ty_52 rfl rfl rfl rfl rfl ?_
    refine XO.nil ?_
    refine XC.seq2 ?_
    refine XC.seq ?_
    refine XC.region ?_
    refine XO.move rfl rfl ?_
    refine XO.lss rfl rfl rfl ?_
    refine XO.move rfl rfl ?_
    refine XO.guardC rfl rfl rfl rfl (fun g3 => ?_) (fun g3 => ?_)
    · have g3p := of_decide_eq_true g3
      refine XO.move rfl rfl ?_
      refine XO.guardT rfl rfl (g3) rfl ?_
      refine XO.move rfl rfl ?_
      refine XO.guardT rfl rfl (g3) rfl ?_
      refine XO.shr rfl rfl (by omega) rfl ?_
      refine XO.guardT rfl rfl (g3) rfl ?_
      refine XO.band rfl rfl rfl ?_
      refine XO.guardT rfl rfl (g3) rfl ?_
      refine XO.eql rfl rfl rfl ?_
      refine XO.pickT rfl (g3) rfl rfl ?_
      refine XO.move rfl rfl ?_
      refine XO.guardC rfl rfl rfl rfl (fun g4 => ?_) (fun g4 => ?_)
      · have g4p := of_decide_eq_true g4
        refine XO.move rfl rfl ?_
        refine XO.guardT rfl rfl (g4) rfl ?_
        refine XO.lenS (ts := #[]) rfl Try.underlying42 rfl ?_
        refine XO.guardT rfl rfl (g4) rfl ?_
        refine XO.move rfl rfl ?_
        refine XO.guardT rfl rfl (g4) rfl ?_
        refine XO.lss rfl rfl rfl ?_
        refine XO.pickT rfl (g4) rfl rfl ?_
        refine XO.nil ?_
        refine XC.seq2 ?_
        refine XC.cond rfl (fun c1_5 => ?_) (fun c1_5 => ?_)
        · refine XC.seq ?_
          refine XC.region ?_
          refine XO.move rfl rfl ?_
          refine XO.nil ?_
          refine XC.seq2 ?_
          refine XC.condB rfl (fun c2_6 => ?_) (fun c2_6 => ?_)
          · refine XC.region ?_
            refine XO.loadO 0 rfl rfl ty_52 rfl rfl rfl ?_
            refine XO.buildRow (ρ := ptR) (l := [⟨_, _⟩]) rfl Try.underlying42 ty_52 ze_52 rfl rfl rfl (RowsR.one1 rfl) rfl (fun p35 a35 c35 hacc35 => ?_)
            refine XO.move rfl rfl ?_
            refine XO.publishA 2 rfl hacco rfl (fun HQ7 hleQ7 hsQ7 => ?_)
            replace hs0 := hs0.mono hleQ7
            replace hp16 := hp16.mono hleQ7
            replace hacc35 := hacc35.mono hleQ7
            replace hle0 := hle0.trans hleQ7
            refine XO.appendA 0 rfl rfl hacc35 rfl rfl hsQ7 rfl Try.underlying42 ty_52 ze_52 rfl by_52 (by simp; omega) rfl (fun p37 a37 c37 hacc37 => ?_)
            refine XO.assign rfl rfl ?_
            refine XO.nil ?_
            refine blockN ?_
            refine XC.seq2 ?_
            refine XC.region ?_
            refine XO.add rfl rfl (wrap_i64 (by omega) (by omega)) rfl ?_
            refine XO.move rfl rfl ?_
            refine XO.nil ?_
            refine loop_next ((k + 1, [⟨x16.X, x16.Y⟩] ++ x, (p37, a37, c37))) (by show l0.length - (k + 1) < l0.length - k; omega) (prov_cons (by first | rfl) (prov_cons (rfl) (prov_cons (rfl) (prov_cons (rfl) (prov_cons (rfl) (prov_cons (rfl) (prov_cons (rfl) prov_nil))))))) (⟨by show k + 1 ≤ l0.length; omega, rfl, by first | (exact hacc37), by first | exact pick_n hx16 hp | exact pick_t hx16 hp (by assumption) | exact pick_f hx16 hp (by assumption), by simp; omega⟩) (by repeat (first | exact List.Sublist.refl _ | apply List.Sublist.cons_cons | apply List.Sublist.cons)) (hle0)
          · refine XC.region ?_
            refine XO.move rfl rfl ?_
            refine XO.loadO 0 rfl rfl ty_52 rfl rfl rfl ?_
            refine XO.buildSlice rfl Try.underlying42 ty_52 ze_52 rfl rfl rfl (fun b40 => ?_)
            refine XO.publish 0 rfl rfl rfl (fun HP40 oP40 hleP40 hbP40 hoP40 => ?_)
            have hsl40 := SlR.lit (ρ := ptR) (l := [⟨_, _⟩]) hbP40 hoP40 (RowsR.one1 rfl)
            replace hs0 := hs0.mono hleP40
            replace hacco := hacco.mono hleP40
            replace hp16 := hp16.mono hleP40
            replace hle0 := hle0.trans hleP40
            refine XO.appendA 1 rfl rfl hacco rfl rfl hsl40 rfl Try.underlying42 ty_52 ze_52 rfl by_52 (by simp; omega) rfl (fun p41 a41 c41 hacc41 => ?_)
            refine XO.assign rfl rfl ?_
            refine XO.nil ?_
            refine blockN ?_
            refine XC.seq2 ?_
            refine XC.region ?_
            refine XO.add rfl rfl (wrap_i64 (by omega) (by omega)) rfl ?_
            refine XO.move rfl rfl ?_
            refine XO.nil ?_
            refine loop_next ((k + 1, x ++ [⟨x16.X, x16.Y⟩], (p41, a41, c41))) (by show l0.length - (k + 1) < l0.length - k; omega) (prov_cons (by first | rfl) (prov_cons (rfl) (prov_cons (rfl) (prov_cons (rfl) (prov_cons (rfl) (prov_cons (rfl) (prov_cons (rfl) prov_nil))))))) (⟨by show k + 1 ≤ l0.length; omega, rfl, by first | (exact hacc41), by first | exact pick_n hx16 hp | exact pick_t hx16 hp (by assumption) | exact pick_f hx16 hp (by assumption), by simp; omega⟩) (by repeat (first | exact List.Sublist.refl _ | apply List.Sublist.cons_cons | apply List.Sublist.cons)) (hle0)
        · refine XC.skip ?_
          refine blockN ?_
          refine XC.seq2 ?_
          refine XC.region ?_
          refine XO.add rfl rfl (wrap_i64 (by omega) (by omega)) rfl ?_
          refine XO.move rfl rfl ?_
          refine XO.nil ?_
          refine loop_next ((k + 1, x, (po, ao, co))) (by show l0.length - (k + 1) < l0.length - k; omega) (prov_cons (by first | rfl) (prov_cons (rfl) (prov_cons (rfl) (prov_cons (rfl) (prov_cons (rfl) (prov_cons (rfl) (prov_cons (rfl) prov_nil))))))) (⟨by show k + 1 ≤ l0.length; omega, rfl, by first | (exact hacco), by first | exact pick_n hx16 hp | exact pick_t hx16 hp (by assumption) | exact pick_f hx16 hp (by assumption), by simp; omega⟩) (by repeat (first | exact List.Sublist.refl _ | apply List.Sublist.cons_cons | apply List.Sublist.cons)) (hle0)
      · have g4p := of_decide_eq_false g4
        refine XO.guardF rfl rfl (g4) rfl rfl ?_
        refine XO.guardF rfl rfl (g4) rfl rfl ?_
        refine XO.guardF rfl rfl (g4) rfl rfl ?_
        refine XO.pickF rfl (g4) rfl rfl ?_
        refine XO.nil ?_
        refine XC.seq2 ?_
        refine XC.condF rfl (rfl) ?_
        refine XC.skip ?_
        refine blockN ?_
        refine XC.seq2 ?_
        refine XC.region ?_
        refine XO.add rfl rfl (wrap_i64 (by omega) (by omega)) rfl ?_
        refine XO.move rfl rfl ?_
        refine XO.nil ?_
        refine loop_next ((k + 1, x, (po, ao, co))) (by show l0.length - (k + 1) < l0.length - k; omega) (prov_cons (by first | rfl) (prov_cons (rfl) (prov_cons (rfl) (prov_cons (rfl) (prov_cons (rfl) (prov_cons (rfl) (prov_cons (rfl) prov_nil))))))) (⟨by show k + 1 ≤ l0.length; omega, rfl, by first | (exact hacco), by first | exact pick_n hx16 hp | exact pick_t hx16 hp (by assumption) | exact pick_f hx16 hp (by assumption), by simp; omega⟩) (by repeat (first | exact List.Sublist.refl _ | apply List.Sublist.cons_cons | apply List.Sublist.cons)) (hle0)
    · have g3p := of_decide_eq_false g3
      refine XO.guardF rfl rfl (g3) rfl rfl ?_
      refine XO.guardF rfl rfl (g3) rfl rfl ?_
      refine XO.guardF rfl rfl (g3) rfl rfl ?_
      refine XO.guardF rfl rfl (g3) rfl rfl ?_
      refine XO.pickF rfl (g3) rfl rfl ?_
      refine XO.move rfl rfl ?_
      refine XO.guardF rfl rfl (rfl) rfl rfl ?_
      refine XO.guardF rfl rfl (rfl) rfl rfl ?_
      refine XO.guardF rfl rfl (rfl) rfl rfl ?_
      refine XO.guardF rfl rfl (rfl) rfl rfl ?_
      refine XO.pickF rfl (rfl) rfl rfl ?_
      refine XO.nil ?_
      refine XC.seq2 ?_
      refine XC.condF rfl (rfl) ?_
      refine XC.skip ?_
      refine blockN ?_
      refine XC.seq2 ?_
      refine XC.region ?_
      refine XO.add rfl rfl (wrap_i64 (by omega) (by omega)) rfl ?_
      refine XO.move rfl rfl ?_
      refine XO.nil ?_
      refine loop_next ((k + 1, x, (po, ao, co))) (by show l0.length - (k + 1) < l0.length - k; omega) (prov_cons (by first | rfl) (prov_cons (rfl) (prov_cons (rfl) (prov_cons (rfl) (prov_cons (rfl) (prov_cons (rfl) (prov_cons (rfl) prov_nil))))))) (⟨by show k + 1 ≤ l0.length; omega, rfl, by first | (exact hacco), by first | exact pick_n hx16 hp | exact pick_t hx16 hp (by assumption) | exact pick_f hx16 hp (by assumption), by simp; omega⟩) (by repeat (first | exact List.Sublist.refl _ | apply List.Sublist.cons_cons | apply List.Sublist.cons)) (hle0)
  · obtain rfl : k = l0.length := by omega
    refine XC.exit ?_
    refine seqX_exit ?_
    refine loopX_exit ?_
    refine blockHit rfl ?_
    refine XC.seq2 ?_
    refine XC.seq ?_
    refine XC.region ?_
    refine XO.move rfl rfl ?_
    refine XO.publishA 0 rfl hacco rfl (fun HQ10 hleQ10 hsQ10 => ?_)
    replace hs0 := hs0.mono hleQ10
    replace hle0 := hle0.trans hleQ10
    refine XO.assign rfl rfl ?_
    refine XO.nil ?_
    refine XC.seq2 ?_
    refine XC.ret ?_
    refine ⟨rfl, _, [], rfl, (by repeat (first | exact List.Sublist.refl _ | apply List.Sublist.cons)), RetR.mk ?_⟩
    exact ⟨_, _, _, rfl, (by assumption), hp, hm⟩

set_option maxRecDepth 100000 in
set_option maxHeartbeats 1600000 in
theorem other_fn (s t : Int) (a1 : Option Addr) (c1 : Nat) (more : List Int) (a3 : Option Addr) (c3 : Nat) (ps : List Int) (H : Hp) (hs1 : SlR (intR .i64) H a1 c1 more) (hs3 : SlR (intR .i64) H a3 c3 ps) (hl1 : more.length < 1073741823) (hl3 : ps.length ≤ 24) (hs : 0 ≤ s ∧ s < 1073741789) (ht : 0 ≤ t ∧ t < 1073741789) : FnC Try.prog 37 #[.int .i64 s, .slice a1 more.length c1, .int .i64 t, .slice a3 ps.length c3] H [] (RetR fun v H _ => ∃ a c, v = .slice a (othL s t more ps).length c ∧ SlR (intR .i64) H a c (othL s t more ps)) := by
  refine FnC.intro (args := [.int .i64 s, .slice a1 more.length c1, .int .i64 t, .slice a3 ps.length c3]) Try.func37 rfl rfl Try.ntmps37 rfl rfl rfl fun G rest => ?_
  refine XC.seq ?_
  refine XC.region ?_
  refine XO.assign rfl rfl ?_
  refine XO.nil ?_
  refine XC.seq2 ?_
  refine XC.seq ?_
  refine XC.region ?_
  refine XO.buildSlice rfl Try.underlying29 ty_3 ze_3 rfl rfl rfl (fun b19 => ?_)
  refine XO.publish 0 rfl rfl rfl (fun HP19 oP19 hleP19 hbP19 hoP19 => ?_)
  have hsl19 := SlR.lit (ρ := (intR .i64)) (l := [_]) hbP19 hoP19 (RowsR.one1 rfl)
  replace hs1 := hs1.mono hleP19
  replace hs3 := hs3.mono hleP19
  refine XO.assign rfl rfl ?_
  refine XO.nil ?_
  refine XC.seq2 ?_
  refine XC.seq ?_
  refine XC.seq ?_
  refine XC.region ?_
  refine XO.assign rfl rfl ?_
  refine XO.nil ?_
  refine XC.seq2 ?_
  refine XC.block ?_
  refine XC.keep [9, 10, 0, 1, 2, 3] rfl ?_
  refine XC.loop (base := [(0, _), (1, _), (2, _), (3, _)]) (fun ζ : Nat × (Option Addr) × (Nat) => [(9, .slice (ζ.2.1) (prodF ps (ζ.1)).length (ζ.2.2)), (10, .int .i64 (ζ.1 : Nat))]) (fun ζ Hl own => ζ.1 ≤ ps.length ∧ rest = own ∧ (SlR (intR .i64) Hl (ζ.2.1) (ζ.2.2) (prodF ps (ζ.1)))) (fun ζ => ps.length - ζ.1) (0, (some ⟨b19, 0, none⟩), 1) (prov_cons (rfl) (prov_cons (rfl) (prov_cons (rfl) (prov_cons (rfl) (prov_cons (rfl) (prov_cons (rfl) prov_nil)))))) (by repeat (first | exact List.Sublist.refl _ | apply List.Sublist.cons_cons | apply List.Sublist.cons)) ⟨Nat.zero_le _, rfl, hsl19⟩ ?_
  rintro ⟨i, a9, c9⟩ Hl0 _ hle0 ⟨hki, rfl, hs9⟩
  replace hs1 := hs1.mono hle0
  replace hs3 := hs3.mono hle0
  replace hsl19 := hsl19.mono hle0
  try dsimp only at hki hs9 ⊢
  have hpl := prodF_len ps i
  refine XC.seq ?_
  refine XC.seq ?_
  refine XC.region ?_
  refine XO.move rfl rfl ?_
  refine XO.move rfl rfl ?_
  refine XO.lenS (ts := #[]) rfl Try.underlying29 rfl ?_
  refine XO.lss rfl rfl rfl ?_
  refine XO.nil ?_
  refine XC.seq2 ?_
  refine XC.cond rfl (fun c0_1 => ?_) (fun c0_1 => ?_)
  · obtain ⟨y, hy⟩ : ∃ y, ps[i]? = some y := ⟨_, List.getElem?_eq_getElem (by omega)⟩
    refine XC.skip ?_
    refine XC.seq2 ?_
    refine XC.seq ?_
    refine XC.block ?_
    refine XC.seq ?_
    refine XC.region ?_
    refine XO.move rfl rfl ?_
    refine XO.lenS (ts := #[]) rfl Try.underlying29 rfl ?_
    refine XO.add rfl rfl (wrap_i64 (by omega) (by omega)) rfl ?_
    refine XO.makeRow (ρ := (intR .i64)) (n := ((prodF ps i).length + 1)) 0 rfl rfl Try.underlying29 ty_3 ze_3 rfl by_3 (by first | decide | omega) rfl rfl (fun p29 c29 hacc29 => ?_)
    refine XO.assign rfl rfl ?_
    refine XO.nil ?_
    refine XC.seq2 ?_
    refine XC.seq ?_
    refine XC.seq ?_
    refine XC.region ?_
    refine XO.assign rfl rfl ?_
    refine XO.nil ?_
    refine XC.seq2 ?_
    refine XC.block ?_
    refine XC.keep [12, 0, 1, 2, 3, 9, 10, 11] rfl ?_
    refine XC.loop (base := [(0, _), (1, _), (2, _), (3, _), (9, _), (10, _), (11, _)]) (fun ζ : Nat × (Nat × SObj) => [(12, .int .i64 (ζ.1 : Nat))]) (fun ζ Hl own => ζ.1 ≤ (prodF ps i).length ∧ ζ.2 :: rest = own ∧ Acc (intR .i64) 3 Hl ζ.2 (some ⟨p29.1, 0, none⟩) c29 (nxtF (prodF ps i) y (ζ.1))) (fun ζ => (prodF ps i).length - ζ.1) (0, p29) (prov_cons (rfl) (prov_cons (rfl) (prov_cons (rfl) (prov_cons (rfl) (prov_cons (rfl) (prov_cons (rfl) (prov_cons (rfl) (prov_cons (rfl) prov_nil)))))))) (by repeat (first | exact List.Sublist.refl _ | apply List.Sublist.cons_cons | apply List.Sublist.cons)) ⟨Nat.zero_le _, rfl, hacc29⟩ ?_
    rintro ⟨k, pn⟩ Hl1 _ hle1 ⟨hkk, rfl, haccn⟩
    replace hs1 := hs1.mono hle1
    replace hs3 := hs3.mono hle1
    replace hsl19 := hsl19.mono hle1
    replace hs9 := hs9.mono hle1
    replace hacc29 := hacc29.mono hle1
    replace hle0 := hle0.trans hle1
    try dsimp only at hkk haccn ⊢
    refine XC.seq ?_
    refine XC.seq ?_
    refine XC.region ?_
    refine XO.move rfl rfl ?_
    refine XO.move rfl rfl ?_
    refine XO.lenS (ts := #[]) rfl Try.underlying29 rfl ?_
    refine XO.lss rfl rfl rfl ?_
    refine XO.nil ?_
    refine XC.seq2 ?_
    refine XC.cond rfl (fun c1_2 => ?_) (fun c1_2 => ?_)
    · refine XC.skip ?_
      refine XC.seq2 ?_
      refine XC.seq ?_
      refine XC.block ?_
      refine XC.seq ?_
      refine XC.keep [0, 1, 2, 3, 9, 10, 11, 12] rfl ?_
      obtain ⟨bE1, oE1, rfl⟩ := hs9.addr (by omega)
      obtain ⟨_, x1, hx1, rfl, hp1⟩ := hs9.elem (k) (by omega)
      obtain ⟨bE2, oE2, rfl⟩ := hs3.addr (by omega)
      obtain ⟨_, x2, hx2, rfl, hp2⟩ := hs3.elem (i) (by omega)
      obtain rfl : y = x2 := Option.some.inj (hy.symm.trans hx2)
      apply XC.draw 17 [eqF _, eqF _, eqF _, eqF _, eqF _, eqF _, eqF _, eqF _, eqF _, eqF _, eqF _, eqF _, eqF _, eqF _, eqF _, eqF _, eqF _] follows (by kernel_rfl) (by kernel_rfl) ⟨eqF_mono _, eqF_mono _, eqF_mono _, eqF_mono _, eqF_mono _, eqF_mono _, eqF_mono _, eqF_mono _, eqF_mono _, eqF_mono _, eqF_mono _, eqF_mono _, eqF_mono _, eqF_mono _, eqF_mono _, eqF_mono _, eqF_mono _, trivial⟩ ?steps3 ?tail3
      case steps3 =>
        refine stepsK_cons rfl ?_ ?_
        · intro X
          refine withPreds_nil rfl ?_
          refine XO.move rfl rfl ?_
          refine XO.nil ?_
          exact stepQ_ok rfl (rfl)
        refine stepsK_cons rfl ?_ ?_
        · intro X
          refine withPreds_nil rfl ?_
          refine XO.move rfl rfl ?_
          refine XO.nil ?_
          exact stepQ_ok rfl (rfl)
        refine stepsK_cons rfl ?_ ?_
        · intro X
          refine withPreds_nil rfl ?_
          refine XO.move rfl rfl ?_
          refine XO.nil ?_
          exact stepQ_ok rfl (rfl)
        refine stepsK_cons rfl ?_ ?_
        · intro X
          refine withPreds_nil rfl ?_
          refine XO.move rfl rfl ?_
          refine XO.nil ?_
          exact stepQ_ok rfl (rfl)
        refine stepsK_cons rfl ?_ ?_
        · intro X
          refine withPreds_cons rfl rfl ?_
          rintro _ rfl
          refine withPreds_cons rfl rfl ?_
          rintro _ rfl
          refine withPreds_nil rfl ?_
          refine XO.indexE rfl rfl Try.underlying29 ty_3 (by omega) (by omega) rfl ?_
          refine XO.nil ?_
          exact stepQ_ok rfl (rfl)
        refine stepsK_cons rfl ?_ ?_
        · intro X
          refine withPreds_cons rfl rfl ?_
          rintro _ rfl
          refine withPreds_nil rfl ?_
          refine XO.loadA 0 rfl rfl haccn (getD_some (by rw [nxtF_len]; omega)) ty_3 rfl (fun cs5 v5 hR5 hv5 => ?_) (fun cs5 hR5 => ⟨_, by cases hR5; rfl⟩)
          cases hR5; cases hv5
          refine XO.nil ?_
          exact stepQ_ok rfl (rfl)
        refine stepsK_cons rfl ?_ ?_
        · intro X
          refine withPreds_nil rfl ?_
          refine XO.move rfl rfl ?_
          refine XO.nil ?_
          exact stepQ_ok rfl (rfl)
        refine stepsK_cons rfl ?_ ?_
        · intro X
          refine withPreds_nil rfl ?_
          refine XO.move rfl rfl ?_
          refine XO.nil ?_
          exact stepQ_ok rfl (rfl)
        refine stepsK_cons rfl ?_ ?_
        · intro X
          refine withPreds_cons rfl rfl ?_
          rintro _ rfl
          refine withPreds_cons rfl rfl ?_
          rintro _ rfl
          refine withPreds_nil rfl ?_
          refine XO.indexE rfl rfl Try.underlying29 ty_3 (by omega) (by omega) rfl ?_
          refine XO.nil ?_
          exact stepQ_ok rfl (rfl)
        refine stepsK_cons rfl ?_ ?_
        · intro X
          refine withPreds_cons rfl rfl ?_
          rintro _ rfl
          refine withPreds_nil rfl ?_
          refine XO.loadH rfl (by assumption) ty_3 rfl rfl rfl ?_
          refine XO.nil ?_
          exact stepQ_ok rfl (rfl)
        refine stepsK_cons rfl ?_ ?_
        · intro X
          refine withPreds_nil rfl ?_
          refine XO.move rfl rfl ?_
          refine XO.nil ?_
          exact stepQ_ok rfl (rfl)
        refine stepsK_cons rfl ?_ ?_
        · intro X
          refine withPreds_nil rfl ?_
          refine XO.move rfl rfl ?_
          refine XO.nil ?_
          exact stepQ_ok rfl (rfl)
        refine stepsK_cons rfl ?_ ?_
        · intro X
          refine withPreds_cons rfl rfl ?_
          rintro _ rfl
          refine withPreds_cons rfl rfl ?_
          rintro _ rfl
          refine withPreds_nil rfl ?_
          refine XO.indexE rfl rfl Try.underlying29 ty_3 (by omega) (by omega) rfl ?_
          refine XO.nil ?_
          exact stepQ_ok rfl (rfl)
        refine stepsK_cons rfl ?_ ?_
        · intro X
          refine withPreds_cons rfl rfl ?_
          rintro _ rfl
          refine withPreds_nil rfl ?_
          refine XO.loadH rfl (by assumption) ty_3 rfl rfl rfl ?_
          refine XO.nil ?_
          exact stepQ_ok rfl (rfl)
        refine stepsK_cons rfl ?_ ?_
        · intro X
          refine withPreds_cons rfl rfl ?_
          rintro _ rfl
          refine withPreds_cons rfl rfl ?_
          rintro _ rfl
          refine withPreds_nil rfl ?_
          refine XO.callV rfl (rmul_fn _ _ _) rfl ?_
          refine XO.nil ?_
          exact stepQ_ok rfl (rfl)
        refine stepsK_cons rfl ?_ ?_
        · intro X
          refine withPreds_cons rfl rfl ?_
          rintro _ rfl
          refine withPreds_nil rfl ?_
          refine XO.neg rfl (wrap_i64 (by omega) (by omega)) rfl ?_
          refine XO.nil ?_
          exact stepQ_ok rfl (rfl)
        refine stepsK_cons rfl ?_ ?_
        · intro X
          refine withPreds_cons rfl rfl ?_
          rintro _ rfl
          refine withPreds_cons rfl rfl ?_
          rintro _ rfl
          refine withPreds_nil rfl ?_
          refine XO.callV rfl (radd_fn _ _ _) rfl ?_
          refine XO.nil ?_
          exact stepQ_ok rfl (rfl)
        exact stepsD_end rfl
      case tail3 =>
        refine withPreds_cons rfl rfl ?_
        rintro _ rfl
        refine withPreds_cons rfl rfl ?_
        rintro _ rfl
        refine withPreds_cons rfl rfl ?_
        rintro _ rfl
        refine withPreds_cons rfl rfl ?_
        rintro _ rfl
        refine withPreds_cons rfl rfl ?_
        rintro _ rfl
        refine withPreds_cons rfl rfl ?_
        rintro _ rfl
        refine withPreds_cons rfl rfl ?_
        rintro _ rfl
        refine withPreds_cons rfl rfl ?_
        rintro _ rfl
        refine withPreds_cons rfl rfl ?_
        rintro _ rfl
        refine withPreds_cons rfl rfl ?_
        rintro _ rfl
        refine withPreds_cons rfl rfl ?_
        rintro _ rfl
        refine withPreds_cons rfl rfl ?_
        rintro _ rfl
        refine withPreds_cons rfl rfl ?_
        rintro _ rfl
        refine withPreds_cons rfl rfl ?_
        rintro _ rfl
        refine withPreds_cons rfl rfl ?_
        rintro _ rfl
        refine withPreds_cons rfl rfl ?_
        rintro _ rfl
        refine withPreds_cons rfl rfl ?_
        rintro _ rfl
        refine withPreds_nil rfl ?_
        refine XO.indexE rfl rfl Try.underlying29 ty_3 (by omega) (by omega) rfl ?_
        refine XO.storeA 0 rfl rfl rfl haccn (by rw [nxtF_len]; omega) rfl rfl ty_3 rfl (fun ps11 haccs11 => ?_)
        refine XO.nil ?_
        refine XC.seq2 ?_
        refine XC.keep [0, 1, 2, 3, 9, 10, 11, 12] rfl ?_
        apply XC.draw 13 [eqF _, eqF _, eqF _, eqF _, eqF _, eqF _, eqF _, eqF _, eqF _, eqF _, eqF _, eqF _, eqF _] follows (by kernel_rfl) (by kernel_rfl) ⟨eqF_mono _, eqF_mono _, eqF_mono _, eqF_mono _, eqF_mono _, eqF_mono _, eqF_mono _, eqF_mono _, eqF_mono _, eqF_mono _, eqF_mono _, eqF_mono _, eqF_mono _, trivial⟩ ?steps12 ?tail12
        case steps12 =>
          refine stepsK_cons rfl ?_ ?_
          · intro X
            refine withPreds_nil rfl ?_
            refine XO.move rfl rfl ?_
            refine XO.nil ?_
            exact stepQ_ok rfl (rfl)
          refine stepsK_cons rfl ?_ ?_
          · intro X
            refine withPreds_nil rfl ?_
            refine XO.move rfl rfl ?_
            refine XO.nil ?_
            exact stepQ_ok rfl (rfl)
          refine stepsK_cons rfl ?_ ?_
          · intro X
            refine withPreds_cons rfl rfl ?_
            rintro _ rfl
            refine withPreds_nil rfl ?_
            refine XO.add rfl rfl (wrap_i64 (by omega) (by omega)) rfl ?_
            refine XO.nil ?_
            exact stepQ_ok rfl (rfl)
          refine stepsK_cons rfl ?_ ?_
          · intro X
            refine withPreds_nil rfl ?_
            refine XO.move rfl rfl ?_
            refine XO.nil ?_
            exact stepQ_ok rfl (rfl)
          refine stepsK_cons rfl ?_ ?_
          · intro X
            refine withPreds_nil rfl ?_
            refine XO.move rfl rfl ?_
            refine XO.nil ?_
            exact stepQ_ok rfl (rfl)
          refine stepsK_cons rfl ?_ ?_
          · intro X
            refine withPreds_cons rfl rfl ?_
            rintro _ rfl
            refine withPreds_nil rfl ?_
            refine XO.add rfl rfl (wrap_i64 (by omega) (by omega)) rfl ?_
            refine XO.nil ?_
            exact stepQ_ok rfl (rfl)
          refine stepsK_cons rfl ?_ ?_
          · intro X
            refine withPreds_cons rfl rfl ?_
            rintro _ rfl
            refine withPreds_cons rfl rfl ?_
            rintro _ rfl
            refine withPreds_nil rfl ?_
            refine XO.indexE rfl rfl Try.underlying29 ty_3 (by omega) (by omega) rfl ?_
            refine XO.nil ?_
            exact stepQ_ok rfl (rfl)
          refine stepsK_cons rfl ?_ ?_
          · intro X
            refine withPreds_cons rfl rfl ?_
            rintro _ rfl
            refine withPreds_nil rfl ?_
            refine XO.loadA 0 rfl rfl haccs11 (getD_some (by rw [List.length_set, nxtF_len]; omega)) ty_3 rfl (fun cs14 v14 hR14 hv14 => ?_) (fun cs14 hR14 => ⟨_, by cases hR14; rfl⟩)
            cases hR14; cases hv14
            refine XO.nil ?_
            exact stepQ_ok rfl (rfl)
          refine stepsK_cons rfl ?_ ?_
          · intro X
            refine withPreds_nil rfl ?_
            refine XO.move rfl rfl ?_
            refine XO.nil ?_
            exact stepQ_ok rfl (rfl)
          refine stepsK_cons rfl ?_ ?_
          · intro X
            refine withPreds_nil rfl ?_
            refine XO.move rfl rfl ?_
            refine XO.nil ?_
            exact stepQ_ok rfl (rfl)
          refine stepsK_cons rfl ?_ ?_
          · intro X
            refine withPreds_cons rfl rfl ?_
            rintro _ rfl
            refine withPreds_cons rfl rfl ?_
            rintro _ rfl
            refine withPreds_nil rfl ?_
            refine XO.indexE rfl rfl Try.underlying29 ty_3 (by omega) (by omega) rfl ?_
            refine XO.nil ?_
            exact stepQ_ok rfl (rfl)
          refine stepsK_cons rfl ?_ ?_
          · intro X
            refine withPreds_cons rfl rfl ?_
            rintro _ rfl
            refine withPreds_nil rfl ?_
            refine XO.loadH rfl (by assumption) ty_3 rfl rfl rfl ?_
            refine XO.nil ?_
            exact stepQ_ok rfl (rfl)
          refine stepsK_cons rfl ?_ ?_
          · intro X
            refine withPreds_cons rfl rfl ?_
            rintro _ rfl
            refine withPreds_cons rfl rfl ?_
            rintro _ rfl
            refine withPreds_nil rfl ?_
            refine XO.callV rfl (radd_fn _ _ _) rfl ?_
            refine XO.nil ?_
            exact stepQ_ok rfl (rfl)
          exact stepsD_end rfl
        case tail12 =>
          refine withPreds_cons rfl rfl ?_
          rintro _ rfl
          refine withPreds_cons rfl rfl ?_
          rintro _ rfl
          refine withPreds_cons rfl rfl ?_
          rintro _ rfl
          refine withPreds_cons rfl rfl ?_
          rintro _ rfl
          refine withPreds_cons rfl rfl ?_
          rintro _ rfl
          refine withPreds_cons rfl rfl ?_
          rintro _ rfl
          refine withPreds_cons rfl rfl ?_
          rintro _ rfl
          refine withPreds_cons rfl rfl ?_
          rintro _ rfl
          refine withPreds_cons rfl rfl ?_
          rintro _ rfl
          refine withPreds_cons rfl rfl ?_
          rintro _ rfl
          refine withPreds_cons rfl rfl ?_
          rintro _ rfl
          refine withPreds_cons rfl rfl ?_
          rintro _ rfl
          refine withPreds_cons rfl rfl ?_
          rintro _ rfl
          refine withPreds_nil rfl ?_
          refine XO.indexE rfl rfl Try.underlying29 ty_3 (by omega) (by omega) rfl ?_
          refine XO.storeA 0 rfl rfl rfl haccs11 (by rw [List.length_set, nxtF_len]; omega) rfl rfl ty_3 rfl (fun ps18 haccs18 => ?_)
          refine XO.nil ?_
          refine blockN ?_
          refine XC.seq2 ?_
          refine XC.region ?_
          refine XO.move rfl rfl ?_
          refine XO.add rfl rfl (wrap_i64 (by omega) (by omega)) rfl ?_
          refine XO.assign rfl rfl ?_
          refine XO.nil ?_
          refine loop_next ((k + 1, ps18)) (by show (prodF ps i).length - (k + 1) < (prodF ps i).length - k; omega) (prov_cons (rfl) (prov_cons (rfl) (prov_cons (rfl) (prov_cons (rfl) (prov_cons (rfl) (prov_cons (rfl) (prov_cons (rfl) (prov_cons (rfl) prov_nil)))))))) (⟨by show k + 1 ≤ (prodF ps i).length; omega, rfl, by first | (exact haccs18) | (rw [nxtF_succ hx1]; exact haccs18)⟩) (by repeat (first | exact List.Sublist.refl _ | apply List.Sublist.cons_cons | apply List.Sublist.cons)) (hle1)
    · obtain rfl : k = (prodF ps i).length := by omega
      refine XC.exit ?_
      refine seqX_exit ?_
      refine loopX_exit ?_
      refine blockHit rfl ?_
      refine XC.seq2 ?_
      refine XC.region ?_
      refine XO.move rfl rfl ?_
      refine XO.publishA 0 rfl haccn rfl (fun HQ19 hleQ19 hsQ19 => ?_)
      replace hs1 := hs1.mono hleQ19
      replace hs3 := hs3.mono hleQ19
      replace hsl19 := hsl19.mono hleQ19
      replace hs9 := hs9.mono hleQ19
      replace hle0 := hle0.trans hleQ19
      replace hle1 := hle1.trans hleQ19
      refine XO.assign rfl rfl ?_
      refine XO.nil ?_
      refine blockN ?_
      refine XC.seq2 ?_
      refine XC.region ?_
      refine XO.move rfl rfl ?_
      refine XO.add rfl rfl (wrap_i64 (by omega) (by omega)) rfl ?_
      refine XO.assign rfl rfl ?_
      refine XO.nil ?_
      refine loop_next ((i + 1, (some ⟨p29.1, 0, none⟩), c29)) (by show ps.length - (i + 1) < ps.length - i; omega) (prov_cons (by simp only [prodF_len]; rfl) (prov_cons (rfl) (prov_cons (rfl) (prov_cons (rfl) (prov_cons (rfl) (prov_cons (rfl) prov_nil)))))) (⟨by show i + 1 ≤ ps.length; omega, rfl, by rw [prodF_succ hy]; assumption⟩) (by repeat (first | exact List.Sublist.refl _ | apply List.Sublist.cons_cons | apply List.Sublist.cons)) (hle0)
  · obtain rfl : i = ps.length := by omega
    refine XC.exit ?_
    refine seqX_exit ?_
    refine loopX_exit ?_
    refine blockHit rfl ?_
    refine XC.seq2 ?_
    refine XC.seq ?_
    refine XC.region ?_
    refine XO.move rfl rfl ?_
    refine XO.indexN (i := 0) rfl hs9 rfl Try.underlying29 ty_3 (by rw [prodF_len]; omega) rfl ?_
    rintro eb71 eo71 _ x71 hx71 rfl hp71
    refine XO.loadH rfl (by assumption) ty_3 rfl rfl rfl ?_
    refine XO.callV rfl (rinv_fn _ _) rfl ?_
    refine XO.move rfl rfl ?_
    refine XO.extract rfl rfl rfl ?_
    refine XO.extract rfl rfl rfl ?_
    refine XO.assign rfl rfl ?_
    refine XO.assign rfl rfl ?_
    refine XO.nil ?_
    refine XC.seq2 ?_
    refine XC.seq ?_
    refine XC.region ?_
    refine XO.move rfl rfl ?_
    refine XO.move rfl rfl ?_
    refine XO.sub rfl rfl (wrap_i64 (by omega) (by omega)) rfl ?_
    refine XO.move rfl rfl ?_
    refine XO.callV rfl (rmul_fn _ _ _) rfl ?_
    refine XO.assign rfl rfl ?_
    refine XO.nil ?_
    refine XC.seq2 ?_
    refine XC.seq ?_
    refine XC.region ?_
    refine XO.buildRow (ρ := (intR .i64)) (l := []) rfl Try.underlying29 ty_3 ze_3 rfl rfl rfl rfl rfl (fun p81 a81 c81 hacc81 => ?_)
    refine XO.assign rfl rfl ?_
    refine XO.nil ?_
    refine XC.seq2 ?_
    refine XC.seq ?_
    refine XC.seq ?_
    refine XC.region ?_
    refine XO.assign rfl rfl ?_
    refine XO.nil ?_
    refine XC.seq2 ?_
    refine XC.block ?_
    refine XC.keep [16, 17, 1, 9, 15] rfl ?_
    rw [show (t - s) * inv0 x71 % 1073741789 = othC s t ps by rw [othC, getD_of hx71]]
    refine XC.loop (base := [(1, _), (9, _), (15, _)]) (fun ζ : Nat × ((Nat × SObj) × Option Addr × Nat) => [(16, .slice ζ.2.2.1 ((othL s t more ps).take (ζ.1)).length ζ.2.2.2), (17, .int .i64 (ζ.1 : Nat))]) (fun ζ Hl own => ζ.1 ≤ more.length ∧ ζ.2.1 :: rest = own ∧ Acc (intR .i64) 3 Hl ζ.2.1 ζ.2.2.1 ζ.2.2.2 ((othL s t more ps).take (ζ.1))) (fun ζ => more.length - ζ.1) (0, (p81, a81, c81)) (prov_cons (rfl) (prov_cons (rfl) (prov_cons (rfl) (prov_cons (rfl) (prov_cons (rfl) prov_nil))))) (by repeat (first | exact List.Sublist.refl _ | apply List.Sublist.cons_cons | apply List.Sublist.cons)) ⟨Nat.zero_le _, rfl, hacc81⟩ ?_
    rintro ⟨k, ⟨po, ao, co⟩⟩ Hl2 _ hle2 ⟨hkk, rfl, hacco⟩
    replace hs1 := hs1.mono hle2
    replace hs3 := hs3.mono hle2
    replace hsl19 := hsl19.mono hle2
    replace hs9 := hs9.mono hle2
    replace hp71 := hp71.mono hle2
    replace hle0 := hle0.trans hle2
    try dsimp only at hkk hacco ⊢
    refine XC.seq ?_
    refine XC.seq ?_
    refine XC.region ?_
    refine XO.move rfl rfl ?_
    refine XO.move rfl rfl ?_
    refine XO.lenS (ts := #[]) rfl Try.underlying29 rfl ?_
    refine XO.lss rfl rfl rfl ?_
    refine XO.nil ?_
    refine XC.seq2 ?_
    refine XC.cond rfl (fun c2_23 => ?_) (fun c2_23 => ?_)
    · refine XC.skip ?_
      refine XC.seq2 ?_
      refine XC.seq ?_
      refine XC.block ?_
      refine XC.seq ?_
      refine XC.region ?_
      refine XO.move rfl rfl ?_
      refine XO.move rfl rfl ?_
      refine XO.indexN rfl hs1 rfl Try.underlying29 ty_3 (by omega) rfl ?_
      rintro eb90 eo90 _ x90 hx90 rfl hp90
      refine XO.loadH rfl (by assumption) ty_3 rfl rfl rfl ?_
      refine XO.callV rfl (rmod_fn _ _) rfl ?_
      refine XO.assign rfl rfl ?_
      refine XO.nil ?_
      refine XC.seq2 ?_
      refine XC.seq ?_
      refine XC.seq ?_
      refine XC.region ?_
      refine XO.move rfl rfl ?_
      refine XO.add rfl rfl (wrap_i64 (by omega) (by omega)) rfl ?_
      refine XO.move rfl rfl ?_
      refine XO.lenS (ts := #[]) rfl Try.underlying29 rfl ?_
      refine XO.lss rfl rfl rfl ?_
      refine XO.nil ?_
      refine XC.seq2 ?_
      refine XC.cond rfl (fun c3_26 => ?_) (fun c3_26 => ?_)
      · refine XC.region ?_
        refine XO.move rfl rfl ?_
        refine XO.move rfl rfl ?_
        refine XO.move rfl rfl ?_
        refine XO.move rfl rfl ?_
        refine XO.add rfl rfl (wrap_i64 (by omega) (by omega)) rfl ?_
        refine XO.indexN (i := k + 1) rfl hs9 rfl Try.underlying29 ty_3 (by omega) rfl ?_
        rintro eb103 eo103 _ x103 hx103 rfl hp103
        refine XO.loadH rfl (by assumption) ty_3 rfl rfl rfl ?_
        refine XO.callV rfl (rmul_fn _ _ _) rfl ?_
        refine XO.callV rfl (radd_fn _ _ _) rfl ?_
        refine XO.assign rfl rfl ?_
        refine XO.nil ?_
        refine XC.seq2 ?_
        refine XC.region ?_
        refine XO.move rfl rfl ?_
        refine XO.move rfl rfl ?_
        refine XO.buildSlice rfl Try.underlying29 ty_3 ze_3 rfl rfl rfl (fun b109 => ?_)
        refine XO.publish 0 rfl rfl rfl (fun HP109 oP109 hleP109 hbP109 hoP109 => ?_)
        have hsl109 := SlR.lit (ρ := (intR .i64)) (l := [_]) hbP109 hoP109 (RowsR.one1 rfl)
        replace hs1 := hs1.mono hleP109
        replace hs3 := hs3.mono hleP109
        replace hsl19 := hsl19.mono hleP109
        replace hs9 := hs9.mono hleP109
        replace hp71 := hp71.mono hleP109
        replace hacco := hacco.mono hleP109
        replace hp90 := hp90.mono hleP109
        replace hp103 := hp103.mono hleP109
        replace hle0 := hle0.trans hleP109
        replace hle2 := hle2.trans hleP109
        refine XO.appendA 0 rfl rfl hacco rfl rfl hsl109 rfl Try.underlying29 ty_3 ze_3 rfl by_3 (by simp only [List.length_take, List.length_singleton]; omega) rfl (fun p110 a110 c110 hacc110 => ?_)
        refine XO.assign rfl rfl ?_
        refine XO.nil ?_
        refine blockN ?_
        refine XC.seq2 ?_
        refine XC.region ?_
        refine XO.move rfl rfl ?_
        refine XO.add rfl rfl (wrap_i64 (by omega) (by omega)) rfl ?_
        refine XO.assign rfl rfl ?_
        refine XO.nil ?_
        refine loop_next ((k + 1, (p110, a110, c110))) (by show more.length - (k + 1) < more.length - k; omega) (prov_cons (by first | rfl | (rw [oth_t hx90 hx103]; rfl) | (rw [oth_f hx90 (by omega)]; rfl)) (prov_cons (rfl) (prov_cons (rfl) (prov_cons (rfl) (prov_cons (rfl) prov_nil))))) (⟨by show k + 1 ≤ more.length; omega, rfl, by first | (exact hacc110) | (rw [oth_t hx90 hx103]; exact hacc110) | (rw [oth_f hx90 (by omega)]; exact hacc110)⟩) (by repeat (first | exact List.Sublist.refl _ | apply List.Sublist.cons_cons | apply List.Sublist.cons)) (hle2)
      · refine XC.skip ?_
        refine XC.seq2 ?_
        refine XC.region ?_
        refine XO.move rfl rfl ?_
        refine XO.move rfl rfl ?_
        refine XO.buildSlice rfl Try.underlying29 ty_3 ze_3 rfl rfl rfl (fun b109 => ?_)
        refine XO.publish 0 rfl rfl rfl (fun HP109 oP109 hleP109 hbP109 hoP109 => ?_)
        have hsl109 := SlR.lit (ρ := (intR .i64)) (l := [_]) hbP109 hoP109 (RowsR.one1 rfl)
        replace hs1 := hs1.mono hleP109
        replace hs3 := hs3.mono hleP109
        replace hsl19 := hsl19.mono hleP109
        replace hs9 := hs9.mono hleP109
        replace hp71 := hp71.mono hleP109
        replace hacco := hacco.mono hleP109
        replace hp90 := hp90.mono hleP109
        replace hle0 := hle0.trans hleP109
        replace hle2 := hle2.trans hleP109
        refine XO.appendA 0 rfl rfl hacco rfl rfl hsl109 rfl Try.underlying29 ty_3 ze_3 rfl by_3 (by simp only [List.length_take, List.length_singleton]; omega) rfl (fun p110 a110 c110 hacc110 => ?_)
        refine XO.assign rfl rfl ?_
        refine XO.nil ?_
        refine blockN ?_
        refine XC.seq2 ?_
        refine XC.region ?_
        refine XO.move rfl rfl ?_
        refine XO.add rfl rfl (wrap_i64 (by omega) (by omega)) rfl ?_
        refine XO.assign rfl rfl ?_
        refine XO.nil ?_
        refine loop_next ((k + 1, (p110, a110, c110))) (by show more.length - (k + 1) < more.length - k; omega) (prov_cons (by first | rfl | (rw [oth_t hx90 hx103]; rfl) | (rw [oth_f hx90 (by omega)]; rfl)) (prov_cons (rfl) (prov_cons (rfl) (prov_cons (rfl) (prov_cons (rfl) prov_nil))))) (⟨by show k + 1 ≤ more.length; omega, rfl, by first | (exact hacc110) | (rw [oth_t hx90 hx103]; exact hacc110) | (rw [oth_f hx90 (by omega)]; exact hacc110)⟩) (by repeat (first | exact List.Sublist.refl _ | apply List.Sublist.cons_cons | apply List.Sublist.cons)) (hle2)
    · obtain rfl : k = more.length := by omega
      rw [List.take_of_length_le (by rw [othL, addM_len]; omega)] at hacco ⊢
      refine XC.exit ?_
      refine seqX_exit ?_
      refine loopX_exit ?_
      refine blockHit rfl ?_
      refine XC.seq2 ?_
      refine XC.seq ?_
      refine XC.region ?_
      refine XO.move rfl rfl ?_
      refine XO.publishA 0 rfl hacco rfl (fun HQ32 hleQ32 hsQ32 => ?_)
      replace hs1 := hs1.mono hleQ32
      replace hs3 := hs3.mono hleQ32
      replace hsl19 := hsl19.mono hleQ32
      replace hs9 := hs9.mono hleQ32
      replace hp71 := hp71.mono hleQ32
      replace hle0 := hle0.trans hleQ32
      replace hle2 := hle2.trans hleQ32
      refine XO.assign rfl rfl ?_
      refine XO.nil ?_
      refine XC.seq2 ?_
      refine XC.ret ?_
      refine ⟨rfl, _, [], rfl, (by repeat (first | exact List.Sublist.refl _ | apply List.Sublist.cons)), RetR.mk ?_⟩
      exact ⟨_, _, rfl, (by assumption)⟩

set_option maxRecDepth 100000 in
set_option maxHeartbeats 1600000 in
theorem sane33 (H : Hp) : FnC Try.prog 30 #[] H [] (RetR fun v _ _ => v = .bool true) := by
  refine FnC.intro (args := []) Try.func30 rfl rfl Try.ntmps30 rfl rfl rfl fun G rest => ?_
  refine XC.seq ?_
  refine XC.region ?_
  refine XO.assign rfl rfl ?_
  refine XO.nil ?_
  refine XC.seq2 ?_
  refine XC.seq ?_
  refine XC.region ?_
  refine XO.buildSlice rfl Try.underlying29 ty_3 ze_3 rfl rfl rfl (fun b18 => ?_)
  refine XO.publish 0 rfl rfl rfl (fun HP18 oP18 hleP18 hbP18 hoP18 => ?_)
  have hsl18 := SlR.lit (ρ := (intR .i64)) (l := [_]) hbP18 hoP18 (RowsR.one1 rfl)
  refine XO.callH rfl (deal_fn _ _ _ [_] _ _ hsl18) rfl ?_
  rintro _ HD19 hleD19 ⟨aD19, cD19, rfl, hsD19⟩
  replace hsl18 := hsl18.mono hleD19
  refine XO.move rfl rfl ?_
  refine XO.extract rfl rfl rfl ?_
  refine XO.extract rfl rfl rfl ?_
  refine XO.assign rfl rfl ?_
  refine XO.assign rfl rfl ?_
  refine XO.nil ?_
  refine XC.seq2 ?_
  refine XC.seq ?_
  refine XC.region ?_
  refine XO.callH rfl (deal_fn _ _ _ [] _ _ (SlR.nil0 _ _)) rfl ?_
  rintro _ HD23 hleD23 ⟨aD23, cD23, rfl, hsD23⟩
  replace hsl18 := hsl18.mono hleD23
  replace hsD19 := hsD19.mono hleD23
  refine XO.move rfl rfl ?_
  refine XO.extract rfl rfl rfl ?_
  refine XO.extract rfl rfl rfl ?_
  refine XO.assign rfl rfl ?_
  refine XO.assign rfl rfl ?_
  refine XO.nil ?_
  refine XC.seq2 ?_
  refine XC.seq ?_
  refine XC.region ?_
  refine XO.callH rfl (deal_fn _ _ _ [] _ _ (SlR.nil0 _ _)) rfl ?_
  rintro _ HD27 hleD27 ⟨aD27, cD27, rfl, hsD27⟩
  replace hsl18 := hsl18.mono hleD27
  replace hsD19 := hsD19.mono hleD27
  replace hsD23 := hsD23.mono hleD27
  refine XO.move rfl rfl ?_
  refine XO.extract rfl rfl rfl ?_
  refine XO.extract rfl rfl rfl ?_
  refine XO.assign rfl rfl ?_
  refine XO.assign rfl rfl ?_
  refine XO.nil ?_
  refine XC.seq2 ?_
  refine XC.seq ?_
  refine XC.region ?_
  refine XO.callH rfl (deal_fn _ _ _ [] _ _ (SlR.nil0 _ _)) rfl ?_
  rintro _ HD31 hleD31 ⟨aD31, cD31, rfl, hsD31⟩
  replace hsl18 := hsl18.mono hleD31
  replace hsD19 := hsD19.mono hleD31
  replace hsD23 := hsD23.mono hleD31
  replace hsD27 := hsD27.mono hleD31
  refine XO.move rfl rfl ?_
  refine XO.extract rfl rfl rfl ?_
  refine XO.extract rfl rfl rfl ?_
  refine XO.assign rfl rfl ?_
  refine XO.assign rfl rfl ?_
  refine XO.nil ?_
  refine XC.seq2 ?_
  refine XC.seq ?_
  refine XC.region ?_
  refine XO.buildSlice rfl Try.underlying29 ty_3 ze_3 rfl rfl rfl (fun b35 => ?_)
  refine XO.publish 0 rfl rfl rfl (fun HP35 oP35 hleP35 hbP35 hoP35 => ?_)
  have hsl35 := SlR.lit (ρ := (intR .i64)) (l := [_, _]) hbP35 hoP35 (RowsR.cons1 (cs := [_]) rfl (RowsR.one1 rfl))
  replace hsl18 := hsl18.mono hleP35
  replace hsD19 := hsD19.mono hleP35
  replace hsD23 := hsD23.mono hleP35
  replace hsD27 := hsD27.mono hleP35
  replace hsD31 := hsD31.mono hleP35
  refine XO.callH rfl (deal_fn _ _ _ [_, _] _ _ hsl35) rfl ?_
  rintro _ HD36 hleD36 ⟨aD36, cD36, rfl, hsD36⟩
  replace hsl18 := hsl18.mono hleD36
  replace hsD19 := hsD19.mono hleD36
  replace hsD23 := hsD23.mono hleD36
  replace hsD27 := hsD27.mono hleD36
  replace hsD31 := hsD31.mono hleD36
  replace hsl35 := hsl35.mono hleD36
  refine XO.move rfl rfl ?_
  refine XO.extract rfl rfl rfl ?_
  refine XO.extract rfl rfl rfl ?_
  refine XO.assign rfl rfl ?_
  refine XO.assign rfl rfl ?_
  refine XO.nil ?_
  refine XC.seq2 ?_
  refine XC.seq ?_
  refine XC.region ?_
  refine XO.build bk_52 bf_52 ze_52 rfl rfl rfl ?_
  refine XO.build bk_52 bf_52 ze_52 rfl rfl rfl ?_
  refine XO.buildSlice rfl Try.underlying42 ty_52 ze_52 rfl rfl rfl (fun b42 => ?_)
  refine XO.publish 0 rfl rfl rfl (fun HP42 oP42 hleP42 hbP42 hoP42 => ?_)
  have hsl42 := SlR.lit (ρ := ptR) (l := [⟨_, _⟩, ⟨_, _⟩]) hbP42 hoP42 (RowsR.cons1 (cs := [_, _]) rfl (RowsR.one1 rfl))
  replace hsl18 := hsl18.mono hleP42
  replace hsD19 := hsD19.mono hleP42
  replace hsD23 := hsD23.mono hleP42
  replace hsD27 := hsD27.mono hleP42
  replace hsD31 := hsD31.mono hleP42
  replace hsl35 := hsl35.mono hleP42
  replace hsD36 := hsD36.mono hleP42
  refine XO.callV rfl (recover_fn _ _ [⟨_, _⟩, ⟨_, _⟩] _ hsl42 (by decide)) rfl ?_
  refine XO.move rfl rfl ?_
  refine XO.extract rfl rfl rfl ?_
  refine XO.extract rfl rfl rfl ?_
  refine XO.assign rfl rfl ?_
  refine XO.assign rfl rfl ?_
  refine XO.nil ?_
  refine XC.seq2 ?_
  refine XC.seq ?_
  refine XC.region ?_
  refine XO.callV rfl (recover_fn _ _ [] _ (SlR.nil0 _ _) (by decide)) rfl ?_
  refine XO.move rfl rfl ?_
  refine XO.extract rfl rfl rfl ?_
  refine XO.extract rfl rfl rfl ?_
  refine XO.assign rfl rfl ?_
  refine XO.assign rfl rfl ?_
  refine XO.nil ?_
  refine XC.seq2 ?_
  refine XC.seq ?_
  refine XC.region ?_
  refine XO.build bk_52 bf_52 ze_52 rfl rfl rfl ?_
  refine XO.build bk_52 bf_52 ze_52 rfl rfl rfl ?_
  refine XO.buildSlice rfl Try.underlying42 ty_52 ze_52 rfl rfl rfl (fun b53 => ?_)
  refine XO.publish 0 rfl rfl rfl (fun HP53 oP53 hleP53 hbP53 hoP53 => ?_)
  have hsl53 := SlR.lit (ρ := ptR) (l := [⟨_, _⟩, ⟨_, _⟩]) hbP53 hoP53 (RowsR.cons1 (cs := [_, _]) rfl (RowsR.one1 rfl))
  replace hsl18 := hsl18.mono hleP53
  replace hsD19 := hsD19.mono hleP53
  replace hsD23 := hsD23.mono hleP53
  replace hsD27 := hsD27.mono hleP53
  replace hsD31 := hsD31.mono hleP53
  replace hsl35 := hsl35.mono hleP53
  replace hsD36 := hsD36.mono hleP53
  replace hsl42 := hsl42.mono hleP53
  refine XO.callV rfl (recover_fn _ _ [⟨_, _⟩, ⟨_, _⟩] _ hsl53 (by decide)) rfl ?_
  refine XO.move rfl rfl ?_
  refine XO.extract rfl rfl rfl ?_
  refine XO.extract rfl rfl rfl ?_
  refine XO.assign rfl rfl ?_
  refine XO.assign rfl rfl ?_
  refine XO.nil ?_
  refine XC.seq2 ?_
  refine XC.seq ?_
  refine XC.seq ?_
  refine XC.region ?_
  refine XO.move rfl rfl ?_
  refine XO.neq rfl rfl rfl ?_
  refine XO.move rfl rfl ?_
  refine XO.guardT rfl rfl (by decide +kernel) rfl ?_
  refine XO.move rfl rfl ?_
  refine XO.guardT rfl rfl (by decide +kernel) rfl ?_
  refine XO.neq rfl rfl rfl ?_
  refine XO.pickF rfl (by decide +kernel) rfl rfl ?_
  refine XO.move rfl rfl ?_
  refine XO.guardT rfl rfl (by decide +kernel) rfl ?_
  refine XO.move rfl rfl ?_
  refine XO.guardT rfl rfl (by decide +kernel) rfl ?_
  refine XO.neq rfl rfl rfl ?_
  refine XO.pickF rfl (by decide +kernel) rfl rfl ?_
  refine XO.move rfl rfl ?_
  refine XO.guardT rfl rfl (by decide +kernel) rfl ?_
  refine XO.move rfl rfl ?_
  refine XO.guardT rfl rfl (by decide +kernel) rfl ?_
  refine XO.neq rfl rfl rfl ?_
  refine XO.pickF rfl (by decide +kernel) rfl rfl ?_
  refine XO.move rfl rfl ?_
  refine XO.guardT rfl rfl (by decide +kernel) rfl ?_
  refine XO.move rfl rfl ?_
  refine XO.guardT rfl rfl (by decide +kernel) rfl ?_
  refine XO.neq rfl rfl rfl ?_
  refine XO.pickF rfl (by decide +kernel) rfl rfl ?_
  refine XO.move rfl rfl ?_
  refine XO.guardT rfl rfl (by decide +kernel) rfl ?_
  refine XO.move rfl rfl ?_
  refine XO.guardT rfl rfl (by decide +kernel) rfl ?_
  refine XO.neq rfl rfl rfl ?_
  refine XO.pickF rfl (by decide +kernel) rfl rfl ?_
  refine XO.move rfl rfl ?_
  refine XO.guardT rfl rfl (by decide +kernel) rfl ?_
  refine XO.move rfl rfl ?_
  refine XO.guardT rfl rfl (by decide +kernel) rfl ?_
  refine XO.neq rfl rfl rfl ?_
  refine XO.pickF rfl (by decide +kernel) rfl rfl ?_
  refine XO.move rfl rfl ?_
  refine XO.guardT rfl rfl (by decide +kernel) rfl ?_
  refine XO.move rfl rfl ?_
  refine XO.guardT rfl rfl (by decide +kernel) rfl ?_
  refine XO.neq rfl rfl rfl ?_
  refine XO.pickF rfl (by decide +kernel) rfl rfl ?_
  refine XO.nil ?_
  refine XC.seq2 ?_
  refine XC.condF rfl (by decide +kernel) ?_
  refine XC.skip ?_
  refine XC.seq2 ?_
  refine XC.seq ?_
  refine XC.region ?_
  refine XO.move rfl rfl ?_
  refine XO.build bk_52 bf_52 ze_52 rfl rfl rfl ?_
  refine XO.build bk_52 bf_52 ze_52 rfl rfl rfl ?_
  refine XO.build bk_52 bf_52 ze_52 rfl rfl rfl ?_
  refine XO.buildSlice rfl Try.underlying42 ty_52 ze_52 rfl rfl rfl (fun b91 => ?_)
  refine XO.publish 0 rfl rfl rfl (fun HP91 oP91 hleP91 hbP91 hoP91 => ?_)
  have hsl91 := SlR.lit (ρ := ptR) (l := [⟨_, _⟩, ⟨_, _⟩, ⟨_, _⟩]) hbP91 hoP91 (RowsR.cons1 (cs := [_, _]) rfl (RowsR.cons1 (cs := [_, _]) rfl (RowsR.one1 rfl)))
  replace hsl18 := hsl18.mono hleP91
  replace hsD19 := hsD19.mono hleP91
  replace hsD23 := hsD23.mono hleP91
  replace hsD27 := hsD27.mono hleP91
  replace hsD31 := hsD31.mono hleP91
  replace hsl35 := hsl35.mono hleP91
  replace hsD36 := hsD36.mono hleP91
  replace hsl42 := hsl42.mono hleP91
  replace hsl53 := hsl53.mono hleP91
  refine XO.callK rfl (same_fn _ _ _ _ _ [⟨_, _⟩, ⟨_, _⟩, ⟨_, _⟩] _ hsD19 hsl91 (by first | exact Nat.lt_of_le_of_lt (dealR_len _ _ _) (by decide) | (rw [‹dealR _ _ _ = _›, dealL_len]; omega) | decide +kernel)) rfl ?_
  rintro _ ⟨bS92, rfl, hS92⟩
  refine XO.move rfl rfl ?_
  refine XO.guardT rfl rfl (hS92.2 (by decide +kernel)) rfl ?_
  refine XO.move rfl rfl ?_
  refine XO.guardT rfl rfl (hS92.2 (by decide +kernel)) rfl ?_
  refine XO.build bk_52 bf_52 ze_52 rfl rfl rfl ?_
  refine XO.guardT rfl rfl (hS92.2 (by decide +kernel)) rfl ?_
  refine XO.buildSlice rfl Try.underlying42 ty_52 ze_52 rfl rfl rfl (fun b96 => ?_)
  refine XO.publish 0 rfl rfl rfl (fun HP96 oP96 hleP96 hbP96 hoP96 => ?_)
  have hsl96 := SlR.lit (ρ := ptR) (l := [⟨_, _⟩]) hbP96 hoP96 (RowsR.one1 rfl)
  replace hsl18 := hsl18.mono hleP96
  replace hsD19 := hsD19.mono hleP96
  replace hsD23 := hsD23.mono hleP96
  replace hsD27 := hsD27.mono hleP96
  replace hsD31 := hsD31.mono hleP96
  replace hsl35 := hsl35.mono hleP96
  replace hsD36 := hsD36.mono hleP96
  replace hsl42 := hsl42.mono hleP96
  replace hsl53 := hsl53.mono hleP96
  replace hsl91 := hsl91.mono hleP96
  refine XO.guardT rfl rfl (hS92.2 (by decide +kernel)) rfl ?_
  refine XO.callK rfl (same_fn _ _ _ _ _ [⟨_, _⟩] _ hsD23 hsl96 (by first | exact Nat.lt_of_le_of_lt (dealR_len _ _ _) (by decide) | (rw [‹dealR _ _ _ = _›, dealL_len]; omega) | decide +kernel)) rfl ?_
  rintro _ ⟨bS97, rfl, hS97⟩
  refine XO.pickT rfl (hS92.2 (by decide +kernel)) rfl rfl ?_
  refine XO.move rfl rfl ?_
  refine XO.guardT rfl rfl (hS97.2 (by decide +kernel)) rfl ?_
  refine XO.move rfl rfl ?_
  refine XO.guardT rfl rfl (hS97.2 (by decide +kernel)) rfl ?_
  refine XO.eql rfl rfl rfl ?_
  refine XO.pickT rfl (hS97.2 (by decide +kernel)) rfl rfl ?_
  refine XO.assign rfl rfl ?_
  refine XO.nil ?_
  refine XC.seq2 ?_
  refine XC.ret ?_
  refine ⟨rfl, _, [], rfl, (by repeat (first | exact List.Sublist.refl _ | apply List.Sublist.cons)), RetR.mk ?_⟩
  exact congrArg Value.bool (by decide +kernel)

end Go.Proofs
