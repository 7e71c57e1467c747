/- The walks of the functions of the graph: what each of them computes, at any input. -/
import Derived.Test.YtbfleiickdobnaaRcJ
import Derived.Test.YtbfleiickdobnaaRcH
set_option autoImplicit false
set_option linter.unusedVariables false
set_option linter.unusedSimpArgs false
namespace Go.Proofs
open Go.XL

theorem by_29 : Nat.ble (Try.prog.bytesOf 29) 4096 = true := by kernel_rfl
theorem by_4 : Nat.ble (Try.prog.bytesOf 4) 4096 = true := by kernel_rfl
theorem by_40 : Nat.ble (Try.prog.bytesOf 40) 4096 = true := by kernel_rfl
theorem ze_40 : zeroC Try.prog 40 = some [.slice none 0 0] := by kernel_rfl

theorem rlists_all (n many : Nat) (hn : n ≤ 16) (hm : many ≤ 4) :
  ∀ (k : Nat) (l : List Int) (f : Nat) (a : Option Addr) (c : Nat) (H : Hp), l.length + k = many → f ≤ 1000 → (∀ x, l[l.length - 1]? = some x → (f : Int) = x + 1) → (l = [] → f = 0) → SlR (intR .i64) H a c l →
  FnC Try.prog 43 #[.slice a l.length c, .int .i64 (n : Nat), .int .i64 (many : Nat)] H [] (RetR fun v H2 _ => ∃ a2 c2, v = .slice a2 (listsF n k l f).length c2 ∧ SlR ilR H2 a2 c2 (listsF n k l f)) := by
  intro k
  refine Nat.strongRecOn k ?_
  clear k
  intro k ih l f a c H hlk hf1 hlast hnil hs
  refine FnC.intro (args := [.slice a l.length c, .int .i64 (n : Nat), .int .i64 (many : Nat)]) Try.func43 rfl rfl Try.ntmps43 rfl rfl rfl fun G rest => ?_
  refine XC.seq ?_
  refine XC.region ?_
  refine XO.assign rfl rfl ?_
  refine XO.nil ?_
  refine XC.seq2 ?_
  refine XC.seq ?_
  refine XC.seq ?_
  refine XC.region ?_
  refine XO.move rfl rfl ?_
  refine XO.lenS (ts := #[]) rfl Try.underlying29 rfl ?_
  refine XO.move rfl rfl ?_
  refine XO.eql rfl rfl rfl ?_
  refine XO.nil ?_
  refine XC.seq2 ?_
  refine XC.cond rfl (fun c0_1 => ?_) (fun c0_1 => ?_)
  · obtain rfl : k = 0 := by omega
    refine XC.seq ?_
    refine XC.region ?_
    refine XO.move rfl rfl ?_
    refine XO.buildSlice rfl Try.underlying69 ty_29 ze_29 rfl rfl rfl (fun b15 => ?_)
    refine XO.publish 0 rfl rfl rfl (fun HP15 oP15 hleP15 hbP15 hoP15 => ?_)
    replace hs := hs.mono hleP15
    have hsl15 := SlR.lit (ρ := ilR) (l := [l]) hbP15 hoP15 (RowsR.one1 ⟨_, _, rfl, hs⟩)
    refine XO.assign rfl rfl ?_
    refine XO.nil ?_
    refine XC.seq2 ?_
    refine XC.ret ?_
    refine seqX_ret ?_
    refine ⟨rfl, _, [], rfl, (by repeat (first | exact List.Sublist.refl _ | apply List.Sublist.cons)), RetR.mk ?_⟩
    exact ⟨_, _, rfl, by assumption⟩
  · obtain ⟨k, rfl⟩ : ∃ q, k = q + 1 := ⟨k - 1, by omega⟩
    refine XC.skip ?_
    refine XC.seq2 ?_
    refine XC.seq ?_
    refine XC.region ?_
    refine XO.assign rfl rfl ?_
    refine XO.nil ?_
    refine XC.seq2 ?_
    refine XC.seq ?_
    refine XC.seq ?_
    refine XC.region ?_
    refine XO.move rfl rfl ?_
    refine XO.lenS (ts := #[]) rfl Try.underlying29 rfl ?_
    refine XO.gtr rfl rfl rfl ?_
    refine XO.nil ?_
    refine XC.seq2 ?_
    refine XC.cond rfl (fun c1_2 => ?_) (fun c1_2 => ?_)
    · refine XC.region ?_
      refine XO.move rfl rfl ?_
      refine XO.move rfl rfl ?_
      refine XO.lenS (ts := #[]) rfl Try.underlying29 rfl ?_
      refine XO.sub (c := ((l.length - 1 : Nat) : Int)) rfl rfl ((wrap_i64 (by omega) (by omega)).trans (by omega)) rfl ?_
      refine XO.indexN (i := l.length - 1) rfl hs rfl Try.underlying29 ty_3 (by omega) rfl ?_
      rintro eb23 eo23 _ x23 hx23 rfl hp23
      refine XO.loadH rfl (by assumption) ty_3 rfl rfl rfl ?_
      have hfx := hlast _ hx23
      refine XO.add (c := ((f : Nat) : Int)) rfl rfl ((wrap_i64 (by omega) (by omega)).trans (by omega)) rfl ?_
      refine XO.assign rfl rfl ?_
      refine XO.nil ?_
      refine XC.seq2 ?_
      refine XC.seq ?_
      refine XC.region ?_
      refine XO.buildRow (ρ := ilR) (l := []) rfl Try.underlying69 ty_29 ze_29 rfl rfl rfl rfl rfl (fun p26 a26 c26 hacc26 => ?_)
      refine XO.assign rfl rfl ?_
      refine XO.nil ?_
      refine XC.seq2 ?_
      refine XC.seq ?_
      refine XC.seq ?_
      refine XC.region ?_
      refine XO.move rfl rfl ?_
      refine XO.assign rfl rfl ?_
      refine XO.nil ?_
      refine XC.seq2 ?_
      refine XC.block ?_
      refine XC.keep [8, 9, 0, 1, 2] rfl ?_
      refine XC.loop (base := [(0, _), (1, _), (2, _)]) (fun ζ : Nat × ((Nat × SObj) × Option Addr × Nat) => [(8, .slice ζ.2.2.1 (listsU n k l f (ζ.1)).length ζ.2.2.2), (9, .int .i64 ((f + ζ.1 : Nat) : Int))]) (fun ζ Hl own => ζ.1 ≤ (n - f) ∧ ζ.2.1 :: rest = own ∧ Acc ilR 29 Hl ζ.2.1 ζ.2.2.1 ζ.2.2.2 (listsU n k l f (ζ.1))) (fun ζ => (n - f) - ζ.1) (0, (p26, a26, c26)) (prov_cons (rfl) (prov_cons (by first | rfl | (rw [hf0]; rfl)) (prov_cons (rfl) (prov_cons (rfl) (prov_cons (rfl) prov_nil))))) (by repeat (first | exact List.Sublist.refl _ | apply List.Sublist.cons_cons | apply List.Sublist.cons)) ⟨Nat.zero_le _, rfl, hacc26⟩ ?_
      rintro ⟨i, ⟨po, ao, co⟩⟩ Hl0 _ hle0 ⟨hki, rfl, hacco⟩
      replace hs := hs.mono hle0
      replace hp23 := hp23.mono hle0
      try dsimp only at hki hacco ⊢
      refine XC.seq ?_
      refine XC.seq ?_
      refine XC.region ?_
      refine XO.move rfl rfl ?_
      refine XO.move rfl rfl ?_
      refine XO.lss rfl rfl rfl ?_
      refine XO.nil ?_
      refine XC.seq2 ?_
      refine XC.cond rfl (fun c2_6 => ?_) (fun c2_6 => ?_)
      · refine XC.skip ?_
        refine XC.seq2 ?_
        refine XC.seq ?_
        refine XC.block ?_
        refine XC.region ?_
        have hsz := listsU_size2 (n := n) (k := k) hn (by omega) l f i (by omega)
        have hsz2 := listsF_size (n := n) (k := k) hn (by omega) (l ++ [((f + i : Nat) : Int)]) (f + i + 1)
        refine XO.move rfl rfl ?_
        refine XO.buildRow (ρ := (intR .i64)) (l := []) rfl Try.underlying29 ty_3 ze_3 rfl rfl rfl rfl rfl (fun p34 a34 c34 hacc34 => ?_)
        refine XO.move rfl rfl ?_
        refine XO.appendA 0 rfl rfl hacc34 rfl rfl hs rfl Try.underlying29 ty_3 ze_3 rfl by_3 (by simp; omega) rfl (fun p36 a36 c36 hacc36 => ?_)
        refine XO.move rfl rfl ?_
        refine XO.buildSlice rfl Try.underlying29 ty_3 ze_3 rfl rfl rfl (fun b38 => ?_)
        refine XO.publish 0 rfl rfl rfl (fun HP38 oP38 hleP38 hbP38 hoP38 => ?_)
        have hsl38 := SlR.lit (ρ := (intR .i64)) (l := [((f + i : Nat) : Int)]) hbP38 hoP38 (RowsR.one1 rfl)
        replace hs := hs.mono hleP38
        replace hp23 := hp23.mono hleP38
        replace hacco := hacco.mono hleP38
        replace hacc36 := hacc36.mono hleP38
        replace hle0 := hle0.trans hleP38
        refine XO.appendA 0 rfl rfl hacc36 rfl rfl hsl38 rfl Try.underlying29 ty_3 ze_3 rfl by_3 (by simp; omega) rfl (fun p39 a39 c39 hacc39 => ?_)
        refine XO.move rfl rfl ?_
        refine XO.move rfl rfl ?_
        refine XO.publishA 0 rfl hacc39 rfl (fun HQ10 hleQ10 hsQ10 => ?_)
        replace hs := hs.mono hleQ10
        replace hp23 := hp23.mono hleQ10
        replace hacco := hacco.mono hleQ10
        replace hsl38 := hsl38.mono hleQ10
        replace hle0 := hle0.trans hleQ10
        have hcall42 := ih k (by omega) (l ++ [((f + i : Nat) : Int)]) (f + i + 1) _ _ _ (by rw [List.length_append]; simp only [List.length_cons, List.length_nil]; omega) (by omega) (fun x hx => by rw [List.length_append] at hx; simp at hx; omega) (fun h => absurd h (by simp)) hsQ10
        refine XO.callH rfl hcall42 rfl ?_
        rintro _ HN42 hleN42 ⟨aN42, cN42, rfl, hN42⟩
        replace hs := hs.mono hleN42
        replace hp23 := hp23.mono hleN42
        replace hacco := hacco.mono hleN42
        replace hsl38 := hsl38.mono hleN42
        replace hsQ10 := hsQ10.mono hleN42
        replace hle0 := hle0.trans hleN42
        refine XO.appendA 0 rfl rfl hacco rfl rfl hN42 rfl Try.underlying69 ty_29 ze_29 rfl by_29 (by omega) rfl (fun p43 a43 c43 hacc43 => ?_)
        refine XO.assign rfl rfl ?_
        refine XO.nil ?_
        refine blockN ?_
        refine XC.seq2 ?_
        refine XC.region ?_
        refine XO.move rfl rfl ?_
        refine XO.add rfl rfl (wrap_i64 (by omega) (by omega)) rfl ?_
        refine XO.assign rfl rfl ?_
        refine XO.nil ?_
        refine loop_next ((i + 1, (p43, a43, c43))) (by show (n - f) - (i + 1) < (n - f) - i; omega) (prov_cons (by first | rfl | (rw [listsU_succ]; rfl)) (prov_cons (rfl) (prov_cons (rfl) (prov_cons (rfl) (prov_cons (rfl) prov_nil))))) (⟨by show i + 1 ≤ (n - f); omega, rfl, by first | (exact hacc43) | (rw [listsU_succ]; exact hacc43)⟩) (by repeat (first | exact List.Sublist.refl _ | apply List.Sublist.cons_cons | apply List.Sublist.cons)) (hle0)
      · obtain rfl : i = n - f := by omega
        rw [← listsF_succ] at hacco ⊢
        refine XC.exit ?_
        refine seqX_exit ?_
        refine loopX_exit ?_
        refine blockHit rfl ?_
        refine XC.seq2 ?_
        refine XC.seq ?_
        refine XC.region ?_
        refine XO.move rfl rfl ?_
        refine XO.publishA 0 rfl hacco rfl (fun HQ12 hleQ12 hsQ12 => ?_)
        replace hs := hs.mono hleQ12
        replace hp23 := hp23.mono hleQ12
        replace hle0 := hle0.trans hleQ12
        refine XO.assign rfl rfl ?_
        refine XO.nil ?_
        refine XC.seq2 ?_
        refine XC.ret ?_
        refine ⟨rfl, _, [], rfl, (by repeat (first | exact List.Sublist.refl _ | apply List.Sublist.cons)), RetR.mk ?_⟩
        exact ⟨_, _, rfl, by assumption⟩
    · have hf0 : f = 0 := hnil (List.length_eq_zero_iff.1 (by omega))
      refine XC.skip ?_
      refine XC.seq2 ?_
      refine XC.seq ?_
      refine XC.region ?_
      refine XO.buildRow (ρ := ilR) (l := []) rfl Try.underlying69 ty_29 ze_29 rfl rfl rfl rfl rfl (fun p26 a26 c26 hacc26 => ?_)
      refine XO.assign rfl rfl ?_
      refine XO.nil ?_
      refine XC.seq2 ?_
      refine XC.seq ?_
      refine XC.seq ?_
      refine XC.region ?_
      refine XO.move rfl rfl ?_
      refine XO.assign rfl rfl ?_
      refine XO.nil ?_
      refine XC.seq2 ?_
      refine XC.block ?_
      refine XC.keep [8, 9, 0, 1, 2] rfl ?_
      refine XC.loop (base := [(0, _), (1, _), (2, _)]) (fun ζ : Nat × ((Nat × SObj) × Option Addr × Nat) => [(8, .slice ζ.2.2.1 (listsU n k l f (ζ.1)).length ζ.2.2.2), (9, .int .i64 ((f + ζ.1 : Nat) : Int))]) (fun ζ Hl own => ζ.1 ≤ (n - f) ∧ ζ.2.1 :: rest = own ∧ Acc ilR 29 Hl ζ.2.1 ζ.2.2.1 ζ.2.2.2 (listsU n k l f (ζ.1))) (fun ζ => (n - f) - ζ.1) (0, (p26, a26, c26)) (prov_cons (rfl) (prov_cons (by first | rfl | (rw [hf0]; rfl)) (prov_cons (rfl) (prov_cons (rfl) (prov_cons (rfl) prov_nil))))) (by repeat (first | exact List.Sublist.refl _ | apply List.Sublist.cons_cons | apply List.Sublist.cons)) ⟨Nat.zero_le _, rfl, hacc26⟩ ?_
      rintro ⟨i, ⟨po, ao, co⟩⟩ Hl0 _ hle0 ⟨hki, rfl, hacco⟩
      replace hs := hs.mono hle0
      try dsimp only at hki hacco ⊢
      refine XC.seq ?_
      refine XC.seq ?_
      refine XC.region ?_
      refine XO.move rfl rfl ?_
      refine XO.move rfl rfl ?_
      refine XO.lss rfl rfl rfl ?_
      refine XO.nil ?_
      refine XC.seq2 ?_
      refine XC.cond rfl (fun c2_13 => ?_) (fun c2_13 => ?_)
      · refine XC.skip ?_
        refine XC.seq2 ?_
        refine XC.seq ?_
        refine XC.block ?_
        refine XC.region ?_
        have hsz := listsU_size2 (n := n) (k := k) hn (by omega) l f i (by omega)
        have hsz2 := listsF_size (n := n) (k := k) hn (by omega) (l ++ [((f + i : Nat) : Int)]) (f + i + 1)
        refine XO.move rfl rfl ?_
        refine XO.buildRow (ρ := (intR .i64)) (l := []) rfl Try.underlying29 ty_3 ze_3 rfl rfl rfl rfl rfl (fun p34 a34 c34 hacc34 => ?_)
        refine XO.move rfl rfl ?_
        refine XO.appendA 0 rfl rfl hacc34 rfl rfl hs rfl Try.underlying29 ty_3 ze_3 rfl by_3 (by simp; omega) rfl (fun p36 a36 c36 hacc36 => ?_)
        refine XO.move rfl rfl ?_
        refine XO.buildSlice rfl Try.underlying29 ty_3 ze_3 rfl rfl rfl (fun b38 => ?_)
        refine XO.publish 0 rfl rfl rfl (fun HP38 oP38 hleP38 hbP38 hoP38 => ?_)
        have hsl38 := SlR.lit (ρ := (intR .i64)) (l := [((f + i : Nat) : Int)]) hbP38 hoP38 (RowsR.one1 rfl)
        replace hs := hs.mono hleP38
        replace hacco := hacco.mono hleP38
        replace hacc36 := hacc36.mono hleP38
        replace hle0 := hle0.trans hleP38
        refine XO.appendA 0 rfl rfl hacc36 rfl rfl hsl38 rfl Try.underlying29 ty_3 ze_3 rfl by_3 (by simp; omega) rfl (fun p39 a39 c39 hacc39 => ?_)
        refine XO.move rfl rfl ?_
        refine XO.move rfl rfl ?_
        refine XO.publishA 0 rfl hacc39 rfl (fun HQ17 hleQ17 hsQ17 => ?_)
        replace hs := hs.mono hleQ17
        replace hacco := hacco.mono hleQ17
        replace hsl38 := hsl38.mono hleQ17
        replace hle0 := hle0.trans hleQ17
        have hcall42 := ih k (by omega) (l ++ [((f + i : Nat) : Int)]) (f + i + 1) _ _ _ (by rw [List.length_append]; simp only [List.length_cons, List.length_nil]; omega) (by omega) (fun x hx => by rw [List.length_append] at hx; simp at hx; omega) (fun h => absurd h (by simp)) hsQ17
        refine XO.callH rfl hcall42 rfl ?_
        rintro _ HN42 hleN42 ⟨aN42, cN42, rfl, hN42⟩
        replace hs := hs.mono hleN42
        replace hacco := hacco.mono hleN42
        replace hsl38 := hsl38.mono hleN42
        replace hsQ17 := hsQ17.mono hleN42
        replace hle0 := hle0.trans hleN42
        refine XO.appendA 0 rfl rfl hacco rfl rfl hN42 rfl Try.underlying69 ty_29 ze_29 rfl by_29 (by omega) rfl (fun p43 a43 c43 hacc43 => ?_)
        refine XO.assign rfl rfl ?_
        refine XO.nil ?_
        refine blockN ?_
        refine XC.seq2 ?_
        refine XC.region ?_
        refine XO.move rfl rfl ?_
        refine XO.add rfl rfl (wrap_i64 (by omega) (by omega)) rfl ?_
        refine XO.assign rfl rfl ?_
        refine XO.nil ?_
        refine loop_next ((i + 1, (p43, a43, c43))) (by show (n - f) - (i + 1) < (n - f) - i; omega) (prov_cons (by first | rfl | (rw [listsU_succ]; rfl)) (prov_cons (rfl) (prov_cons (rfl) (prov_cons (rfl) (prov_cons (rfl) prov_nil))))) (⟨by show i + 1 ≤ (n - f); omega, rfl, by first | (exact hacc43) | (rw [listsU_succ]; exact hacc43)⟩) (by repeat (first | exact List.Sublist.refl _ | apply List.Sublist.cons_cons | apply List.Sublist.cons)) (hle0)
      · obtain rfl : i = n - f := by omega
        rw [← listsF_succ] at hacco ⊢
        refine XC.exit ?_
        refine seqX_exit ?_
        refine loopX_exit ?_
        refine blockHit rfl ?_
        refine XC.seq2 ?_
        refine XC.seq ?_
        refine XC.region ?_
        refine XO.move rfl rfl ?_
        refine XO.publishA 0 rfl hacco rfl (fun HQ19 hleQ19 hsQ19 => ?_)
        replace hs := hs.mono hleQ19
        replace hle0 := hle0.trans hleQ19
        refine XO.assign rfl rfl ?_
        refine XO.nil ?_
        refine XC.seq2 ?_
        refine XC.ret ?_
        refine ⟨rfl, _, [], rfl, (by repeat (first | exact List.Sublist.refl _ | apply List.Sublist.cons)), RetR.mk ?_⟩
        exact ⟨_, _, rfl, by assumption⟩

theorem without_fn (a ao : Option Addr) (c co : Nat) (m : Tb) (out : List Int) (H : Hp) (hs : SlR tbR H a c m) (ht : SlR (intR .i64) H ao co out) (hl : m.length ≤ 64) (hw : ∀ r ∈ m, r.length ≤ 16) (ho : out.length < 9223372036854775808) : FnC Try.prog 27 #[.slice a m.length c, .slice ao out.length co] H [] (RetR (fun v H2 _ => ∃ a2 c2, v = .slice a2 (WoM m out).length c2 ∧ SlR tbR H2 a2 c2 (WoM m out))) := by
  refine FnC.intro (args := [.slice a m.length c, .slice ao out.length co]) Try.func27 rfl rfl Try.ntmps27 rfl rfl rfl fun G rest => ?_
  refine XC.seq ?_
  refine XC.region ?_
  refine XO.assign rfl rfl ?_
  refine XO.nil ?_
  refine XC.seq2 ?_
  refine XC.seq ?_
  refine XC.region ?_
  refine XO.buildRow (ρ := tbR) (l := []) rfl Try.underlying22 ty_40 ze_40 rfl rfl rfl rfl rfl (fun p9 a9 c9 hacc9 => ?_)
  refine XO.assign rfl rfl ?_
  refine XO.nil ?_
  refine XC.seq2 ?_
  refine XC.seq ?_
  refine XC.seq ?_
  refine XC.region ?_
  refine XO.assign rfl rfl ?_
  refine XO.nil ?_
  refine XC.seq2 ?_
  refine XC.block ?_
  refine XC.keep [5, 6, 0, 1] rfl ?_
  refine XC.loop (base := [(0, _), (1, _)]) (fun ζ : Nat × ((Nat × SObj) × Option Addr × Nat) => [(5, .slice ζ.2.2.1 (WoM (m.take (ζ.1)) out).length ζ.2.2.2), (6, .int .i64 (ζ.1 : Nat))]) (fun ζ Hl own => ζ.1 ≤ m.length ∧ ζ.2.1 :: rest = own ∧ Acc tbR 40 Hl ζ.2.1 ζ.2.2.1 ζ.2.2.2 (WoM (m.take (ζ.1)) out)) (fun ζ => m.length - ζ.1) (0, (p9, a9, c9)) (prov_cons (rfl) (prov_cons (rfl) (prov_cons (rfl) (prov_cons (rfl) prov_nil)))) (by repeat (first | exact List.Sublist.refl _ | apply List.Sublist.cons_cons | apply List.Sublist.cons)) ⟨Nat.zero_le _, rfl, hacc9⟩ ?_
  rintro ⟨i, ⟨po, ao, co⟩⟩ Hl0 _ hle0 ⟨hki, rfl, hacco⟩
  replace hs := hs.mono hle0
  replace ht := ht.mono hle0
  try dsimp only at hki hacco ⊢
  refine XC.seq ?_
  refine XC.seq ?_
  refine XC.region ?_
  refine XO.move rfl rfl ?_
  refine XO.move rfl rfl ?_
  refine XO.lenS (ts := #[]) rfl Try.underlying22 rfl ?_
  refine XO.lss rfl rfl rfl ?_
  refine XO.nil ?_
  refine XC.seq2 ?_
  refine XC.cond rfl (fun c0_1 => ?_) (fun c0_1 => ?_)
  · refine XC.skip ?_
    refine XC.seq2 ?_
    refine XC.seq ?_
    refine XC.block ?_
    refine XC.seq ?_
    refine XC.region ?_
    refine XO.buildRow (ρ := boolR) (l := []) rfl Try.underlying40 ty_4 ze_4 rfl rfl rfl rfl rfl (fun p16 a16 c16 hacc16 => ?_)
    refine XO.assign rfl rfl ?_
    refine XO.nil ?_
    refine XC.seq2 ?_
    refine XC.seq ?_
    refine XC.seq ?_
    refine XC.region ?_
    refine XO.assign rfl rfl ?_
    refine XO.nil ?_
    refine XC.seq2 ?_
    refine XC.block ?_
    refine XC.keep [7, 8, 0, 1, 5, 6] rfl ?_
    obtain ⟨row, hrow⟩ : ∃ row, m[i]? = some row := ⟨_, List.getElem?_eq_getElem (by omega)⟩
    have hrw := hw row (List.mem_of_getElem? hrow)
    refine XC.loop (base := [(0, _), (1, _), (5, _), (6, _)]) (fun ζ : Nat × ((Nat × SObj) × Option Addr × Nat) => [(7, .slice ζ.2.2.1 (wRowN out row (ζ.1)).length ζ.2.2.2), (8, .int .i64 (ζ.1 : Nat))]) (fun ζ Hl own => ζ.1 ≤ row.length ∧ ζ.2.1 :: po :: rest = own ∧ Acc boolR 4 Hl ζ.2.1 ζ.2.2.1 ζ.2.2.2 (wRowN out row (ζ.1))) (fun ζ => row.length - ζ.1) (0, (p16, a16, c16)) (prov_cons (rfl) (prov_cons (rfl) (prov_cons (rfl) (prov_cons (rfl) (prov_cons (rfl) (prov_cons (rfl) prov_nil)))))) (by repeat (first | exact List.Sublist.refl _ | apply List.Sublist.cons_cons | apply List.Sublist.cons)) ⟨Nat.zero_le _, rfl, hacc16⟩ ?_
    rintro ⟨j, ⟨pq, aq, cq⟩⟩ Hl1 _ hle1 ⟨hkj, rfl, haccq⟩
    replace hs := hs.mono hle1
    replace ht := ht.mono hle1
    replace hacco := hacco.mono hle1
    replace hle0 := hle0.trans hle1
    try dsimp only at hkj haccq ⊢
    refine XC.seq ?_
    refine XC.seq ?_
    refine XC.region ?_
    refine XO.move rfl rfl ?_
    refine XO.move rfl rfl ?_
    refine XO.move rfl rfl ?_
    refine XO.indexN rfl hs rfl Try.underlying22 ty_40 (by omega) rfl ?_
    rintro eb20 eo20 _ x20 hx20 ⟨ax20, cx20, rfl, hd20⟩ hp20
    obtain rfl := Option.some.inj (hrow.symm.trans hx20)
    refine XO.loadH rfl (by assumption) ty_40 rfl rfl rfl ?_
    refine XO.lenS (ts := #[]) rfl Try.underlying40 rfl ?_
    refine XO.lss rfl rfl rfl ?_
    refine XO.nil ?_
    refine XC.seq2 ?_
    refine XC.cond rfl (fun c1_3 => ?_) (fun c1_3 => ?_)
    · refine XC.skip ?_
      refine XC.seq2 ?_
      refine XC.seq ?_
      refine XC.block ?_
      refine XC.seq ?_
      refine XC.region ?_
      refine XO.move rfl rfl ?_
      refine XO.move rfl rfl ?_
      refine XO.callV rfl (has_fn _ _ out _ ht ho ((j : Nat) : Int)) rfl ?_
      refine XO.not rfl rfl ?_
      refine XO.nil ?_
      refine XC.seq2 ?_
      refine XC.cond rfl (fun c2_5 => ?_) (fun c2_5 => ?_)
      · refine XC.region ?_
        have hwl := wRowN_len (out := out) (row := row) (k := j)
        refine XO.move rfl rfl ?_
        refine XO.move rfl rfl ?_
        refine XO.move rfl rfl ?_
        refine XO.indexN rfl hs rfl Try.underlying22 ty_40 (by omega) rfl ?_
        rintro eb33 eo33 _ x33 hx33 ⟨ax33, cx33, rfl, hd33⟩ hp33
        obtain rfl := Option.some.inj (hrow.symm.trans hx33)
        refine XO.loadH rfl (by assumption) ty_40 rfl rfl rfl ?_
        refine XO.move rfl rfl ?_
        refine XO.indexN rfl (by assumption) rfl Try.underlying40 ty_4 (by omega) rfl ?_
        rintro eb36 eo36 _ x36 hx36 rfl hp36
        refine XO.loadH rfl (by assumption) ty_4 rfl rfl rfl ?_
        refine XO.buildSlice rfl Try.underlying40 ty_4 ze_4 rfl rfl rfl (fun b38 => ?_)
        refine XO.publish 0 rfl rfl rfl (fun HP38 oP38 hleP38 hbP38 hoP38 => ?_)
        have hsl38 := SlR.lit (ρ := boolR) (l := [x36]) hbP38 hoP38 (RowsR.one1 rfl)
        replace hs := hs.mono hleP38
        replace ht := ht.mono hleP38
        replace hacco := hacco.mono hleP38
        replace haccq := haccq.mono hleP38
        replace hp20 := hp20.mono hleP38
        replace hd20 := hd20.mono hleP38
        replace hp33 := hp33.mono hleP38
        replace hd33 := hd33.mono hleP38
        replace hp36 := hp36.mono hleP38
        replace hle0 := hle0.trans hleP38
        replace hle1 := hle1.trans hleP38
        refine XO.appendA 0 rfl rfl haccq rfl rfl hsl38 rfl Try.underlying40 ty_4 ze_4 rfl by_4 (by simp; omega) rfl (fun p39 a39 c39 hacc39 => ?_)
        refine XO.assign rfl rfl ?_
        refine XO.nil ?_
        refine blockN ?_
        refine XC.seq2 ?_
        refine XC.region ?_
        refine XO.move rfl rfl ?_
        refine XO.add rfl rfl (wrap_i64 (by omega) (by omega)) rfl ?_
        refine XO.assign rfl rfl ?_
        refine XO.nil ?_
        refine loop_next ((j + 1, (p39, a39, c39))) (by show row.length - (j + 1) < row.length - j; omega) (prov_cons (by first | rfl | (rw [wRowN_yes hx36 (by assumption)]; rfl) | (rw [wRowN_no (by assumption)]; rfl)) (prov_cons (rfl) (prov_cons (rfl) (prov_cons (rfl) (prov_cons (rfl) (prov_cons (rfl) prov_nil)))))) (⟨by show j + 1 ≤ row.length; omega, rfl, by first | (exact hacc39) | (rw [wRowN_yes hx36 (by assumption)]; exact hacc39) | (rw [wRowN_no (by assumption)]; exact hacc39)⟩) (by repeat (first | exact List.Sublist.refl _ | apply List.Sublist.cons_cons | apply List.Sublist.cons)) (hle1)
      · refine XC.skip ?_
        refine blockN ?_
        refine XC.seq2 ?_
        refine XC.region ?_
        refine XO.move rfl rfl ?_
        refine XO.add rfl rfl (wrap_i64 (by omega) (by omega)) rfl ?_
        refine XO.assign rfl rfl ?_
        refine XO.nil ?_
        refine loop_next ((j + 1, (pq, aq, cq))) (by show row.length - (j + 1) < row.length - j; omega) (prov_cons (by first | rfl | (rw [wRowN_yes hx36 (by assumption)]; rfl) | (rw [wRowN_no (by assumption)]; rfl)) (prov_cons (rfl) (prov_cons (rfl) (prov_cons (rfl) (prov_cons (rfl) (prov_cons (rfl) prov_nil)))))) (⟨by show j + 1 ≤ row.length; omega, rfl, by first | (exact haccq) | (rw [wRowN_yes hx36 (by assumption)]; exact haccq) | (rw [wRowN_no (by assumption)]; exact haccq)⟩) (by repeat (first | exact List.Sublist.refl _ | apply List.Sublist.cons_cons | apply List.Sublist.cons)) (hle1)
    · obtain rfl : j = row.length := by omega
      refine XC.exit ?_
      refine seqX_exit ?_
      refine loopX_exit ?_
      refine blockHit rfl ?_
      refine XC.seq2 ?_
      refine XC.region ?_
      have hwl := WoM_len (m.take i) out
      rw [List.length_take] at hwl
      refine XO.move rfl rfl ?_
      refine XO.move rfl rfl ?_
      refine XO.publishA 0 rfl haccq rfl (fun HQ9 hleQ9 hsQ9 => ?_)
      replace hs := hs.mono hleQ9
      replace ht := ht.mono hleQ9
      replace hacco := hacco.mono hleQ9
      replace hp20 := hp20.mono hleQ9
      replace hd20 := hd20.mono hleQ9
      replace hle0 := hle0.trans hleQ9
      replace hle1 := hle1.trans hleQ9
      refine XO.buildSlice rfl Try.underlying22 ty_40 ze_40 rfl rfl rfl (fun b42 => ?_)
      refine XO.publish 0 rfl rfl rfl (fun HP42 oP42 hleP42 hbP42 hoP42 => ?_)
      replace hs := hs.mono hleP42
      replace ht := ht.mono hleP42
      replace hacco := hacco.mono hleP42
      replace hp20 := hp20.mono hleP42
      replace hd20 := hd20.mono hleP42
      replace hsQ9 := hsQ9.mono hleP42
      replace hle0 := hle0.trans hleP42
      replace hle1 := hle1.trans hleP42
      have hsl42 := SlR.lit (ρ := tbR) (l := [wRowN out row row.length]) hbP42 hoP42 (RowsR.one1 ⟨_, _, rfl, by assumption⟩)
      refine XO.appendA 0 rfl rfl hacco rfl rfl hsl42 rfl Try.underlying22 ty_40 ze_40 rfl by_40 (by simp; omega) rfl (fun p43 a43 c43 hacc43 => ?_)
      refine XO.assign rfl rfl ?_
      refine XO.nil ?_
      refine blockN ?_
      refine XC.seq2 ?_
      refine XC.region ?_
      refine XO.move rfl rfl ?_
      refine XO.add rfl rfl (wrap_i64 (by omega) (by omega)) rfl ?_
      refine XO.assign rfl rfl ?_
      refine XO.nil ?_
      refine loop_next ((i + 1, (p43, a43, c43))) (by show m.length - (i + 1) < m.length - i; omega) (prov_cons (by first | rfl | (rw [WoM_snoc hrow]; rfl)) (prov_cons (rfl) (prov_cons (rfl) (prov_cons (rfl) prov_nil)))) (⟨by show i + 1 ≤ m.length; omega, rfl, by first | (exact hacc43) | (rw [WoM_snoc hrow]; exact hacc43)⟩) (by repeat (first | exact List.Sublist.refl _ | apply List.Sublist.cons_cons | apply List.Sublist.cons)) (hle0)
  · obtain rfl : i = m.length := by omega
    rw [List.take_length] at hacco ⊢
    refine XC.exit ?_
    refine seqX_exit ?_
    refine loopX_exit ?_
    refine blockHit rfl ?_
    refine XC.seq2 ?_
    refine XC.seq ?_
    refine XC.region ?_
    refine XO.move rfl rfl ?_
    refine XO.publishA 0 rfl hacco rfl (fun HQ11 hleQ11 hsQ11 => ?_)
    replace hs := hs.mono hleQ11
    replace ht := ht.mono hleQ11
    replace hle0 := hle0.trans hleQ11
    refine XO.assign rfl rfl ?_
    refine XO.nil ?_
    refine XC.seq2 ?_
    refine XC.ret ?_
    refine ⟨rfl, _, [], rfl, (by repeat (first | exact List.Sublist.refl _ | apply List.Sublist.cons)), RetR.mk ?_⟩
    exact ⟨_, _, rfl, by assumption⟩

theorem rresist_fn (a : Option Addr) (c : Nat) (m : Tb) (H : Hp) (hs : SlR tbR H a c m) (hl : m.length < 9223372036854775808) (t : Int) (ht : -9223372036854775808 ≤ t ∧ t ≤ 9223372036854775807) : FnC Try.prog 21 #[.slice a m.length c, .int .i64 t] H [] (RetR (fun v H2 _ => ResR m t H2 v)) := by
  refine FnC.intro (args := [.slice a m.length c, .int .i64 t]) Try.func21 rfl rfl Try.ntmps21 rfl rfl rfl fun G rest => ?_
  refine XC.seq ?_
  refine XC.region ?_
  refine XO.assign rfl rfl ?_
  refine XO.assign rfl rfl ?_
  refine XO.assign rfl rfl ?_
  refine XO.nil ?_
  refine XC.seq2 ?_
  refine XC.seq ?_
  refine XC.region ?_
  refine XO.move rfl rfl ?_
  refine XO.callV rfl (rcheck_fn _ _ m _ hs hl) rfl ?_
  refine XO.assign rfl rfl ?_
  refine XO.nil ?_
  refine XC.seq2 ?_
  refine XC.seq ?_
  refine XC.seq ?_
  refine XC.region ?_
  refine XO.move rfl rfl ?_
  refine XO.neq rfl rfl rfl ?_
  refine XO.nil ?_
  refine XC.seq2 ?_
  refine XC.cond rfl (fun c0_2 => ?_) (fun c0_2 => ?_)
  · refine XC.seq ?_
    refine XC.region ?_
    refine XO.move rfl rfl ?_
    refine XO.assign rfl rfl ?_
    refine XO.assign rfl rfl ?_
    refine XO.assign rfl rfl ?_
    refine XO.nil ?_
    refine XC.seq2 ?_
    refine XC.ret ?_
    refine seqX_ret ?_
    refine ⟨rfl, _, [], rfl, (by repeat (first | exact List.Sublist.refl _ | apply List.Sublist.cons)), RetR.mk ?_⟩
    exact ⟨fun _ => rfl, fun h => absurd h (by assumption), fun T hT h => absurd h (by assumption)⟩
  · have hck : chkG m = 0 := by omega
    have hok := chk_eq0.1 hck
    have hlm := hok.1
    have hwm := okG_wide hok
    refine XC.skip ?_
    refine XC.seq2 ?_
    refine XC.seq ?_
    refine XC.seq ?_
    refine XC.region ?_
    refine XO.move rfl rfl ?_
    refine XO.lss rfl rfl rfl ?_
    refine XO.move rfl rfl ?_
    refine XO.guardC rfl rfl rfl rfl (fun g3 => ?_) (fun g3 => ?_)
    · have g3p := of_decide_eq_false g3
      refine XO.move rfl rfl ?_
      refine XO.guardT rfl rfl (g3) rfl ?_
      refine XO.gtr rfl rfl rfl ?_
      refine XO.pickF rfl (g3) rfl rfl ?_
      refine XO.nil ?_
      refine XC.seq2 ?_
      refine XC.cond rfl (fun c1_4 => ?_) (fun c1_4 => ?_)
      · refine XC.seq ?_
        refine XC.region ?_
        refine XO.assign rfl rfl ?_
        refine XO.assign rfl rfl ?_
        refine XO.assign rfl rfl ?_
        refine XO.nil ?_
        refine XC.seq2 ?_
        refine XC.ret ?_
        refine seqX_ret ?_
        refine ⟨rfl, _, [], rfl, (by repeat (first | exact List.Sublist.refl _ | apply List.Sublist.cons)), RetR.mk ?_⟩
        exact ⟨fun h => absurd hck h, fun _ _ => rfl, fun T hT _ h3 => by omega⟩
      · obtain ⟨T, rfl⟩ : ∃ T : Nat, t = T := ⟨t.toNat, by omega⟩
        refine XC.skip ?_
        refine XC.seq2 ?_
        refine XC.seq ?_
        refine XC.seq ?_
        refine XC.region ?_
        refine XO.assign rfl rfl ?_
        refine XO.nil ?_
        refine XC.seq2 ?_
        refine XC.block ?_
        refine XC.keep [8, 0, 1] rfl ?_
        refine XC.loop (base := [(0, _), (1, _)]) (fun ζ : Nat => [(8, .int .i64 (ζ : Nat))]) (fun ζ Hl own => ζ ≤ (T + 1) ∧ rest = own ∧ (∀ o ∈ allL (wideM m) ζ, badB m o = false)) (fun ζ => (T + 1) - ζ) 0 (prov_cons (rfl) (prov_cons (rfl) (prov_cons (rfl) prov_nil))) (by repeat (first | exact List.Sublist.refl _ | apply List.Sublist.cons_cons | apply List.Sublist.cons)) ⟨Nat.zero_le _, rfl, by simp [allL]⟩ ?_
        rintro i Hl0 _ hle0 ⟨hki, rfl, hno⟩
        replace hs := hs.mono hle0
        try dsimp only at ⊢
        refine XC.seq ?_
        refine XC.seq ?_
        refine XC.region ?_
        refine XO.move rfl rfl ?_
        refine XO.move rfl rfl ?_
        refine XO.leq rfl rfl rfl ?_
        refine XO.nil ?_
        refine XC.seq2 ?_
        refine XC.cond rfl (fun c2_5 => ?_) (fun c2_5 => ?_)
        · refine XC.skip ?_
          refine XC.seq2 ?_
          refine XC.seq ?_
          refine XC.block ?_
          refine XC.seq ?_
          refine XC.region ?_
          refine XO.move rfl rfl ?_
          refine XO.callV rfl (judges_fn _ _ m _ hs hl) rfl ?_
          refine XO.move rfl rfl ?_
          have hcall30 := rlists_all (wideM m) i (by omega) (by omega) i [] 0 none 0 Hl0 (by simp) (by omega) (fun x hx => by cases hx) (fun _ => rfl) (SlR.nil0 _ _)
          refine XO.callH rfl hcall30 rfl ?_
          rintro _ HL hleL ⟨aL, cL, rfl, hL⟩
          replace hs := hs.mono hleL
          replace hle0 := hle0.trans hleL
          refine XO.assign rfl rfl ?_
          refine XO.nil ?_
          refine XC.seq2 ?_
          refine XC.seq ?_
          refine XC.region ?_
          refine XO.assign rfl rfl ?_
          refine XO.nil ?_
          refine XC.seq2 ?_
          refine XC.block ?_
          refine XC.keep [10, 0, 1, 8, 9] rfl ?_
          refine XC.loop (base := [(0, _), (1, _), (8, _), (9, _)]) (fun ζ : Nat => [(10, .int .i64 (ζ : Nat))]) (fun ζ Hl own => ζ ≤ (listsF (wideM m) i [] 0).length ∧ rest = own ∧ (∀ o ∈ (listsF (wideM m) i [] 0).take ζ, badB m o = false)) (fun ζ => (listsF (wideM m) i [] 0).length - ζ) 0 (prov_cons (rfl) (prov_cons (rfl) (prov_cons (rfl) (prov_cons (rfl) (prov_cons (rfl) prov_nil))))) (by repeat (first | exact List.Sublist.refl _ | apply List.Sublist.cons_cons | apply List.Sublist.cons)) ⟨Nat.zero_le _, rfl, by simp⟩ ?_
          rintro q Hl1 _ hle1 ⟨hkq, rfl, hno2⟩
          replace hs := hs.mono hle1
          replace hL := hL.mono hle1
          replace hle0 := hle0.trans hle1
          try dsimp only at ⊢
          refine XC.seq ?_
          refine XC.seq ?_
          refine XC.region ?_
          have hsz := listsF_size (n := wideM m) (k := i) hwm (by omega) [] 0
          refine XO.move rfl rfl ?_
          refine XO.move rfl rfl ?_
          refine XO.lenS (ts := #[]) rfl Try.underlying69 rfl ?_
          refine XO.lss rfl rfl rfl ?_
          refine XO.nil ?_
          refine XC.seq2 ?_
          refine XC.cond rfl (fun c3_8 => ?_) (fun c3_8 => ?_)
          · refine XC.skip ?_
            refine XC.seq2 ?_
            refine XC.seq ?_
            refine XC.block ?_
            refine XC.seq ?_
            refine XC.region ?_
            refine XO.move rfl rfl ?_
            refine XO.move rfl rfl ?_
            refine XO.move rfl rfl ?_
            refine XO.indexN rfl hL rfl Try.underlying69 ty_29 (by omega) rfl ?_
            rintro eb40 eo40 _ x40 hx40 ⟨ax40, cx40, rfl, hd40⟩ hp40
            refine XO.loadH rfl (by assumption) ty_29 rfl rfl rfl ?_
            have hx40m := List.mem_of_getElem? hx40
            have hx40l := listsF_len hx40m
            simp at hx40l
            have hOut := (mem_lists0.1 hx40m).2.out
            have hbw := bad_wo hok hOut
            have hcall42 := without_fn _ _ _ _ m x40 _ hs hd40 (by omega) (fun r hr => (hok.2 r hr).2) (by omega)
            refine XO.callH rfl hcall42 rfl ?_
            rintro _ HW hleW ⟨aW, cW, rfl, hW⟩
            replace hs := hs.mono hleW
            replace hL := hL.mono hleW
            replace hp40 := hp40.mono hleW
            replace hd40 := hd40.mono hleW
            replace hle0 := hle0.trans hleW
            replace hle1 := hle1.trans hleW
            have hlW := WoM_len m x40
            refine XO.callV rfl (conn_fn _ _ (WoM m x40) _ hW (by omega) (WoM_ok hok)) rfl ?_
            refine XO.not rfl rfl ?_
            refine XO.nil ?_
            refine XC.seq2 ?_
            refine XC.cond rfl (fun c4_12 => ?_) (fun c4_12 => ?_)
            · refine XC.seq ?_
              refine XC.region ?_
              refine XO.move rfl rfl ?_
              refine XO.move rfl rfl ?_
              refine XO.indexN rfl hL rfl Try.underlying69 ty_29 (by omega) rfl ?_
              rintro eb47 eo47 _ x47 hx47 ⟨ax47, cx47, rfl, hd47⟩ hp47
              obtain rfl := Option.some.inj (hx40.symm.trans hx47)
              refine XO.loadH rfl (by assumption) ty_29 rfl rfl rfl ?_
              refine XO.assign rfl rfl ?_
              refine XO.assign rfl rfl ?_
              refine XO.assign rfl rfl ?_
              refine XO.nil ?_
              refine XC.seq2 ?_
              refine XC.ret ?_
              refine blockR ?_
              refine seqX_ret ?_
              refine loopX_ret ?_
              refine blockR ?_
              refine blockR ?_
              refine seqX_ret ?_
              refine loopX_ret ?_
              refine blockR ?_
              refine seqX_ret ?_
              refine ⟨rfl, _, [], rfl, (by repeat (first | exact List.Sublist.refl _ | apply List.Sublist.cons)), RetR.mk ?_⟩
              exact ⟨fun h => absurd hck h, fun _ h => by omega, fun T2 hT _ _ => by
                obtain rfl : T2 = T := by omega
                have hfind : (allL (wideM m) (T2 + 1)).find? (badB m) = some x40 := by
                  obtain ⟨post2, e⟩ := allL_split (w := wideM m) (show i ≤ T2 by omega)
                  rw [e, ← List.take_append_drop q (listsF (wideM m) i [] 0), List.drop_eq_getElem_cons (by omega), (List.getElem?_eq_some_iff.1 hx40).2]
                  exact find_lists hno hno2 (by rw [hbw]; simp_all)
                exact ⟨fun o2 h2 => (by rw [hfind] at h2; cases h2; exact ⟨_, _, by assumption, rfl⟩), fun h2 => (by rw [hfind] at h2; cases h2)⟩⟩
            · refine XC.skip ?_
              refine blockN ?_
              refine XC.seq2 ?_
              refine XC.region ?_
              refine XO.move rfl rfl ?_
              refine XO.add rfl rfl (wrap_i64 (by omega) (by omega)) rfl ?_
              refine XO.assign rfl rfl ?_
              refine XO.nil ?_
              refine loop_next (q + 1) (by show (listsF (wideM m) i [] 0).length - (q + 1) < (listsF (wideM m) i [] 0).length - q; omega) (prov_cons (rfl) (prov_cons (rfl) (prov_cons (rfl) (prov_cons (rfl) (prov_cons (rfl) prov_nil))))) (⟨by show q + 1 ≤ (listsF (wideM m) i [] 0).length; omega, rfl, fun o ho => by rw [take_snoc hx40, List.mem_append] at ho; rcases ho with ho | ho; exact hno2 o ho; simp only [List.mem_singleton] at ho; subst ho; rw [hbw]; exact decide_eq_false (by simp_all)⟩) (by repeat (first | exact List.Sublist.refl _ | apply List.Sublist.cons_cons | apply List.Sublist.cons)) (hle1)
          · obtain rfl : q = (listsF (wideM m) i [] 0).length := by omega
            rw [List.take_length] at hno2
            refine XC.exit ?_
            refine seqX_exit ?_
            refine loopX_exit ?_
            refine blockHit rfl ?_
            refine blockN ?_
            refine XC.seq2 ?_
            refine XC.region ?_
            refine XO.move rfl rfl ?_
            refine XO.add rfl rfl (wrap_i64 (by omega) (by omega)) rfl ?_
            refine XO.assign rfl rfl ?_
            refine XO.nil ?_
            refine loop_next (i + 1) (by show (T + 1) - (i + 1) < (T + 1) - i; omega) (prov_cons (rfl) (prov_cons (rfl) (prov_cons (rfl) prov_nil))) (⟨by show i + 1 ≤ (T + 1); omega, rfl, fun o ho => (List.mem_append.1 ho).elim (hno o) (hno2 o)⟩) (by repeat (first | exact List.Sublist.refl _ | apply List.Sublist.cons_cons | apply List.Sublist.cons)) (hle0)
        · obtain rfl : i = T + 1 := by omega
          refine XC.exit ?_
          refine seqX_exit ?_
          refine loopX_exit ?_
          refine blockHit rfl ?_
          refine XC.seq2 ?_
          refine XC.seq ?_
          refine XC.region ?_
          refine XO.assign rfl rfl ?_
          refine XO.assign rfl rfl ?_
          refine XO.assign rfl rfl ?_
          refine XO.nil ?_
          refine XC.seq2 ?_
          refine XC.ret ?_
          refine ⟨rfl, _, [], rfl, (by repeat (first | exact List.Sublist.refl _ | apply List.Sublist.cons)), RetR.mk ?_⟩
          exact ⟨fun h => absurd hck h, fun _ h => by omega, fun T2 hT _ _ => by
            obtain rfl : T2 = T := by omega
            exact ⟨fun o2 h2 => (by have := List.find?_some h2; rw [hno o2 (List.mem_of_find?_eq_some h2)] at this; cases this), fun _ => rfl⟩⟩
    · have g3p := of_decide_eq_true g3
      refine XO.guardF rfl rfl (g3) rfl rfl ?_
      refine XO.pickT rfl (g3) rfl rfl ?_
      refine XO.nil ?_
      refine XC.seq2 ?_
      refine XC.condT rfl (rfl) ?_
      refine XC.seq ?_
      refine XC.region ?_
      refine XO.assign rfl rfl ?_
      refine XO.assign rfl rfl ?_
      refine XO.assign rfl rfl ?_
      refine XO.nil ?_
      refine XC.seq2 ?_
      refine XC.ret ?_
      refine seqX_ret ?_
      refine ⟨rfl, _, [], rfl, (by repeat (first | exact List.Sublist.refl _ | apply List.Sublist.cons)), RetR.mk ?_⟩
      exact ⟨fun h => absurd hck h, fun _ _ => rfl, fun T hT _ h3 => by omega⟩

end Go.Proofs
