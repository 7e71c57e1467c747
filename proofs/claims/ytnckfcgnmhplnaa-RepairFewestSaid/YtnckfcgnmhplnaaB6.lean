/- The walks of the functions of repairs: what each of them computes, at any input. -/
import Derived.Test.YtnckfcgnmhplnaaB5
set_option autoImplicit false
set_option linter.unusedVariables false
set_option linter.unusedSimpArgs false
namespace Go.Proofs
open Go.XL



set_option maxRecDepth 100000 in
set_option maxHeartbeats 1600000 in
theorem rlists_all (w : Wi) (ab : List Int) (e n : Nat) (r : List Bool) (hr : w.B[e]? = some r) (hrl : (r.length : Int) = w.J) (hn : w.S = (n : Nat)) (hn1 : n ≤ 1000) (hJ20 : w.J ≤ 20) (hal : ab.length < 9223372036854775808) (hBl : w.B.length < 9223372036854775808) :
 ∀ (k : Nat) (l : List Int) (f : Nat) (a aB aA : Option Addr) (c cB cA : Nat) (H : Hp), l.length + k = n → f ≤ w.J.toNat → (∀ x, l[l.length - 1]? = some x → (f : Int) = x + 1) → (l = [] → f = 0) → SlR tbR H aB cB w.B → SlR (intR .i64) H aA cA ab → SlR (intR .i64) H a c l →
 FnC Try.prog 60 #[.agg ⟨[.int .i64 w.J, .int .i64 w.S, .int .i64 w.N, .slice aB w.B.length cB]⟩, .slice aA ab.length cA, .int .i64 (e : Nat), .slice a l.length c] H [] (RetR fun v H2 _ => ∃ a2 c2, v = .slice a2 (preL l (comb (fun x => badR r x || decide (x ∈ ab)) k (rangeI f (w.J.toNat - f)))).length c2 ∧ SlR ilR H2 a2 c2 (preL l (comb (fun x => badR r x || decide (x ∈ ab)) k (rangeI f (w.J.toNat - f))))) := by
 intro k
 refine Nat.strongRecOn k ?_
 clear k
 intro k ih l f a aB aA c cB cA H hlk hf1 hlast hnil hB hA hs
 have he := (List.getElem?_eq_some_iff.1 hr).1
 refine FnC.intro (args := [.agg ⟨[.int .i64 w.J, .int .i64 w.S, .int .i64 w.N, .slice aB w.B.length cB]⟩, .slice aA ab.length cA, .int .i64 (e : Nat), .slice a l.length c]) Try.func60 rfl rfl Try.ntmps60 rfl rfl rfl fun G rest => ?_
 refine XC.seq ?_; refine XC.region ?_; refine XO.box rfl rfl rfl (fun b4 => ?_); refine XO.assign rfl rfl ?_; refine XO.nil ?_; refine XC.seq2 ?_; refine XC.seq ?_; refine XC.seq ?_; refine XC.region ?_; refine XO.move rfl rfl ?_; refine XO.lenS (ts := #[]) rfl Try.underlying26 rfl ?_; refine XO.fieldAddr rfl fa_24_1 rfl ?_; refine XO.loadO 0 rfl rfl ty_3 rfl rfl rfl ?_; refine XO.eql rfl rfl rfl ?_; refine XO.nil ?_; refine XC.seq2 ?_; refine XC.cond rfl (fun c0_1 => ?_) (fun c0_1 => ?_)
 ·obtain rfl : k = 0 := by omega
  refine XC.seq ?_; refine XC.region ?_; refine XO.move rfl rfl ?_; refine XO.buildSlice rfl Try.underlying25 ty_26 ze_26 rfl rfl rfl (fun b18 => ?_); refine XO.publish 0 rfl rfl rfl (fun HP18 oP18 hleP18 hbP18 hoP18 => ?_); replace hB := hB.mono hleP18; replace hA := hA.mono hleP18; replace hs := hs.mono hleP18
  have hsl18 := SlR.lit (ρ := ilR) (l := [l]) hbP18 hoP18 (RowsR.one1 ⟨_, _, rfl, hs⟩)
  refine XO.assign rfl rfl ?_; refine XO.nil ?_; refine XC.seq2 ?_; refine XC.ret ?_; refine seqX_ret ?_; refine ⟨rfl, _, [], rfl, (by repeat (first | exact List.Sublist.refl _ | apply List.Sublist.cons)), RetR.mk ?_⟩
  rw [preL_0]
  exact ⟨_, _, rfl, by assumption⟩
 ·obtain ⟨k, rfl⟩ : ∃ q, k = q + 1 := ⟨k - 1, by omega⟩
  refine XC.skip ?_; refine XC.seq2 ?_; refine XC.seq ?_; refine XC.region ?_; refine XO.assign rfl rfl ?_; refine XO.nil ?_; refine XC.seq2 ?_; refine XC.seq ?_; refine XC.seq ?_; refine XC.region ?_; refine XO.move rfl rfl ?_; refine XO.lenS (ts := #[]) rfl Try.underlying26 rfl ?_; refine XO.gtr rfl rfl rfl ?_; refine XO.nil ?_; refine XC.seq2 ?_; refine XC.cond rfl (fun c1_2 => ?_) (fun c1_2 => ?_)
  ·refine XC.region ?_; refine XO.move rfl rfl ?_; refine XO.move rfl rfl ?_; refine XO.lenS (ts := #[]) rfl Try.underlying26 rfl ?_; refine XO.sub (c := ((l.length - 1 : Nat) : Int)) rfl rfl ((wrap_i64 (by omega) (by omega)).trans (by omega)) rfl ?_; refine XO.indexN (i := l.length - 1) rfl hs rfl Try.underlying26 ty_3 (by omega) rfl ?_; rintro eb26 eo26 _ x26 hx26 rfl hp26; refine XO.loadH rfl (by assumption) ty_3 rfl rfl rfl ?_
   have hfx := hlast _ hx26
   refine XO.add (c := ((f : Nat) : Int)) rfl rfl ((wrap_i64 (by omega) (by omega)).trans (by omega)) rfl ?_; refine XO.assign rfl rfl ?_; refine XO.nil ?_; refine XC.seq2 ?_; refine XC.seq ?_; refine XC.region ?_; refine XO.buildRow (ρ := ilR) (l := ([] : Ls)) rfl Try.underlying25 ty_26 ze_26 rfl rfl rfl rfl rfl (fun p29 a29 c29 hacc29 => ?_); refine XO.assign rfl rfl ?_; refine XO.nil ?_; refine XC.seq2 ?_; refine XC.seq ?_; refine XC.seq ?_; refine XC.region ?_; refine XO.move rfl rfl ?_; refine XO.assign rfl rfl ?_; refine XO.nil ?_; refine XC.seq2 ?_; refine XC.block ?_; refine XC.keep [10, 11, 1, 2, 3, 4] rfl ?_; refine XC.loop (base := [(1, _), (2, _), (3, _), (4, _)]) (fun ζ : Nat × (Ls) × ((Nat × SObj) × Option Addr × Nat) => [(10, .slice ζ.2.2.2.1 (ζ.2.1).length ζ.2.2.2.2), (11, .int .i64 ((f + ζ.1 : Nat) : Int))]) (fun ζ Hl own => ζ.1 ≤ (w.J.toNat - f) ∧ ζ.2.2.1 :: (b4, .cells 24 [.int .i64 w.J, .int .i64 w.S, .int .i64 w.N, .slice aB w.B.length cB]) :: rest = own ∧ Acc ilR 26 Hl ζ.2.2.1 ζ.2.2.2.1 ζ.2.2.2.2 (ζ.2.1) ∧ (preL l (comb (fun x => badR r x || decide (x ∈ ab)) (k + 1) (rangeI f (w.J.toNat - f))) = ζ.2.1 ++ preL l (comb (fun x => badR r x || decide (x ∈ ab)) (k + 1) (rangeI (f + ζ.1) (w.J.toNat - f - ζ.1))))) (fun ζ => (w.J.toNat - f) - ζ.1) (0, [], (p29, a29, c29)) (prov_cons (rfl) (prov_cons (by first | rfl | (rw [hf0]; rfl)) (prov_cons (rfl) (prov_cons (rfl) (prov_cons (rfl) (prov_cons (rfl) prov_nil)))))) (by repeat (first | exact List.Sublist.refl _ | apply List.Sublist.cons_cons | apply List.Sublist.cons)) ⟨Nat.zero_le _, rfl, hacc29, rfl⟩ ?_; rintro ⟨i, U, ⟨po, ao, co⟩⟩ Hl0 _ hle0 ⟨hki, rfl, hacco, hU⟩; replace hB := hB.mono hle0; replace hA := hA.mono hle0; replace hs := hs.mono hle0; replace hp26 := hp26.mono hle0
   try dsimp only at hki hacco hU ⊢
   refine XC.seq ?_; refine XC.seq ?_; refine XC.region ?_; refine XO.move rfl rfl ?_; refine XO.fieldAddr rfl fa_24_0 rfl ?_; refine XO.loadO 1 rfl rfl ty_3 rfl rfl rfl ?_; refine XO.lss rfl rfl rfl ?_; refine XO.nil ?_; refine XC.seq2 ?_; refine XC.cond rfl (fun c2_6 => ?_) (fun c2_6 => ?_)
   ·refine XC.skip ?_; refine XC.seq2 ?_; refine XC.seq ?_; refine XC.block ?_; refine XC.seq ?_; refine XC.region ?_
    have hsplit := combU_split (bad := (fun x => badR r x || decide (x ∈ ab))) (k := k) (l := l) (f := f) (i := i) (N := w.J.toNat) (by omega)
    have hszA := E_size (bad := (fun x => badR r x || decide (x ∈ ab))) (n := k + 1) (l := l) (f := f) (m := w.J.toNat - f) (by omega)
    rw [hU, hsplit] at hszA
    simp only [List.length_append] at hszA
    obtain ⟨y40, hy40⟩ : ∃ b, r[f + i]? = some b := ⟨_, List.getElem?_eq_getElem (by omega)⟩
    refine XO.fieldAddr rfl fa_24_3 rfl ?_; refine XO.loadO 1 rfl rfl ty_22 rfl rfl rfl ?_; refine XO.move rfl rfl ?_; refine XO.indexN rfl hB rfl Try.underlying22 ty_68 (by omega) rfl ?_; rintro eb40 eo40 _ x40 hx40 ⟨ax40, cx40, rfl, hd40⟩ hp40; obtain rfl := Option.some.inj (hr.symm.trans hx40); refine XO.loadH rfl (by assumption) ty_68 rfl rfl rfl ?_; refine XO.move rfl rfl ?_; refine XO.indexN rfl (by assumption) rfl Try.underlying68 ty_4 (by omega) rfl ?_; rintro eb43 eo43 _ x43 hx43 rfl hp43; refine XO.loadH rfl (by assumption) ty_4 rfl rfl rfl ?_; refine XO.notB rfl rfl ?_; refine XO.move rfl rfl ?_; refine XO.guardC rfl rfl rfl rfl (fun g9 => ?_) (fun g9 => ?_)
    ·have g9p := g9
     obtain rfl := Option.some.inj (hy40.symm.trans hx43)
     have hb1 : badR r ((f + i : Nat) : Int) = false := by rw [badR_at hy40]; simpa using g9
     refine XO.move rfl rfl ?_; refine XO.guardT rfl rfl (g9) rfl ?_; refine XO.move rfl rfl ?_; refine XO.guardT rfl rfl (g9) rfl ?_; refine XO.callV rfl (has_fn _ _ ab _ hA hal ((f + i : Nat) : Int)) rfl ?_; refine XO.guardT rfl rfl (g9) rfl ?_; refine XO.not rfl rfl ?_; refine XO.pickT rfl (g9) rfl rfl ?_; refine XO.nil ?_; refine XC.seq2 ?_; refine XC.condB rfl (fun c3_11 => ?_) (fun c3_11 => ?_)
     ·have hb2 : (badR r ((f + i : Nat) : Int) || decide (((f + i : Nat) : Int) ∈ ab)) = false := by rw [hb1, Bool.false_or, decide_eq_false_iff_not]; exact of_decide_eq_true c3_11
      rw [hb2, if_neg (by decide)] at hsplit
      rw [hb2, if_neg (by decide)] at hszA
      by_cases hq0 : l = []
      ·skip
       refine XC.keep [1, 2, 3, 4, 10, 11] rfl ?_
       apply XC.drawG (fun _ => True) trivial 11 [eqF _, eqF _, eqF _, eqF _, slCap (intR .i64) [], eqF _, slCap (intR .i64) l, eqF _, slF (intR .i64) [((f + i : Nat) : Int)], slG (intR .i64) (l ++ [((f + i : Nat) : Int)]), slG ilR (preL (l ++ [((f + i : Nat) : Int)]) (comb (fun x => badR r x || decide (x ∈ ab)) k (rangeI (f + i + 1) (w.J.toNat - (f + i + 1)))))] follows (by kernel_rfl) (by kernel_rfl) ⟨eqF_mono _, eqF_mono _, eqF_mono _, eqF_mono _, slCap_mono _ _, eqF_mono _, slCap_mono _ _, eqF_mono _, slF_mono _ _, slG_mono _ _, slG_mono _ _, trivial⟩ ?steps12 ?tail12
       case steps12 =>
        refine stepsD_cons rfl ?_ ?_
        ·intro X HD hleD _
         replace hB := hB.mono hleD; replace hA := hA.mono hleD; replace hs := hs.mono hleD; replace hp26 := hp26.mono hleD; replace hacco := hacco.mono hleD; replace hp40 := hp40.mono hleD; replace hd40 := hd40.mono hleD; replace hp43 := hp43.mono hleD; replace hle0 := hle0.trans hleD; refine withPreds_nil rfl ?_; refine XO.move rfl rfl ?_; refine XO.nil ?_
         exact stepQ_ok trivial (rfl)
        refine stepsD_cons rfl ?_ ?_
        ·intro X HD hleD _
         replace hB := hB.mono hleD; replace hA := hA.mono hleD; replace hs := hs.mono hleD; replace hp26 := hp26.mono hleD; replace hacco := hacco.mono hleD; replace hp40 := hp40.mono hleD; replace hd40 := hd40.mono hleD; replace hp43 := hp43.mono hleD; replace hle0 := hle0.trans hleD; refine withPreds_nil rfl ?_; refine XO.loadO 1 rfl rfl ty_24 rfl rfl rfl ?_; refine XO.nil ?_
         exact stepQ_ok trivial (rfl)
        refine stepsD_cons rfl ?_ ?_
        ·intro X HD hleD _
         replace hB := hB.mono hleD; replace hA := hA.mono hleD; replace hs := hs.mono hleD; replace hp26 := hp26.mono hleD; replace hacco := hacco.mono hleD; replace hp40 := hp40.mono hleD; replace hd40 := hd40.mono hleD; replace hp43 := hp43.mono hleD; replace hle0 := hle0.trans hleD; refine withPreds_nil rfl ?_; refine XO.move rfl rfl ?_; refine XO.nil ?_
         exact stepQ_ok trivial (rfl)
        refine stepsD_cons rfl ?_ ?_
        ·intro X HD hleD _
         replace hB := hB.mono hleD; replace hA := hA.mono hleD; replace hs := hs.mono hleD; replace hp26 := hp26.mono hleD; replace hacco := hacco.mono hleD; replace hp40 := hp40.mono hleD; replace hd40 := hd40.mono hleD; replace hp43 := hp43.mono hleD; replace hle0 := hle0.trans hleD; refine withPreds_nil rfl ?_; refine XO.move rfl rfl ?_; refine XO.nil ?_
         exact stepQ_ok trivial (rfl)
        refine stepsD_cons rfl ?_ ?_
        ·intro X HD hleD _
         replace hB := hB.mono hleD; replace hA := hA.mono hleD; replace hs := hs.mono hleD; replace hp26 := hp26.mono hleD; replace hacco := hacco.mono hleD; replace hp40 := hp40.mono hleD; replace hd40 := hd40.mono hleD; replace hp43 := hp43.mono hleD; replace hle0 := hle0.trans hleD; refine withPreds_nil rfl ?_; refine XO.buildSlice rfl Try.underlying26 ty_3 ze_3 rfl rfl rfl (fun b56 => ?_); refine XO.publish 0 rfl rfl rfl (fun HP56 oP56 hleP56 hbP56 hoP56 => ?_)
         have hsl56 := SlR.lit (ρ := (intR .i64)) (l := ([] : List Int)) hbP56 hoP56 rfl
         replace hB := hB.mono hleP56; replace hA := hA.mono hleP56; replace hs := hs.mono hleP56; replace hp26 := hp26.mono hleP56; replace hacco := hacco.mono hleP56; replace hp40 := hp40.mono hleP56; replace hd40 := hd40.mono hleP56; replace hp43 := hp43.mono hleP56; replace hle0 := hle0.trans hleP56; refine XO.nil ?_
         exact stepQ_ok trivial (⟨_, _, rfl, hsl56, by simp⟩)
        refine stepsD_cons rfl ?_ ?_
        ·intro X HD hleD _
         replace hB := hB.mono hleD; replace hA := hA.mono hleD; replace hs := hs.mono hleD; replace hp26 := hp26.mono hleD; replace hacco := hacco.mono hleD; replace hp40 := hp40.mono hleD; replace hd40 := hd40.mono hleD; replace hp43 := hp43.mono hleD; replace hle0 := hle0.trans hleD; refine withPreds_nil rfl ?_; refine XO.move rfl rfl ?_; refine XO.nil ?_
         exact stepQ_ok trivial (rfl)
        refine stepsD_cons rfl ?_ ?_
        ·intro X HD hleD _
         replace hB := hB.mono hleD; replace hA := hA.mono hleD; replace hs := hs.mono hleD; replace hp26 := hp26.mono hleD; replace hacco := hacco.mono hleD; replace hp40 := hp40.mono hleD; replace hd40 := hd40.mono hleD; replace hp43 := hp43.mono hleD; replace hle0 := hle0.trans hleD; refine withPreds_cons rfl rfl ?_; rintro _ ⟨a56, c56, rfl, hsl56, hcap56⟩; refine withPreds_cons rfl rfl ?_; rintro _ rfl; refine withPreds_nil rfl ?_; refine XO.append0 rfl rfl (by rw [hq0]; rfl) hsl56.le Try.underlying26 ty_3 rfl ?_; refine XO.nil ?_
         exact stepQ_ok trivial (⟨_, _, by first | (rw [hq0]; done) | (rw [hq0]; rfl), by rw [hq0]; exact hsl56, by rw [hq0]; exact hcap56⟩)
        refine stepsD_cons rfl ?_ ?_
        ·intro X HD hleD _
         replace hB := hB.mono hleD; replace hA := hA.mono hleD; replace hs := hs.mono hleD; replace hp26 := hp26.mono hleD; replace hacco := hacco.mono hleD; replace hp40 := hp40.mono hleD; replace hd40 := hd40.mono hleD; replace hp43 := hp43.mono hleD; replace hle0 := hle0.trans hleD; refine withPreds_nil rfl ?_; refine XO.move rfl rfl ?_; refine XO.nil ?_
         exact stepQ_ok trivial (rfl)
        refine stepsD_cons rfl ?_ ?_
        ·intro X HD hleD _
         replace hB := hB.mono hleD; replace hA := hA.mono hleD; replace hs := hs.mono hleD; replace hp26 := hp26.mono hleD; replace hacco := hacco.mono hleD; replace hp40 := hp40.mono hleD; replace hd40 := hd40.mono hleD; replace hp43 := hp43.mono hleD; replace hle0 := hle0.trans hleD; refine withPreds_cons rfl rfl ?_; rintro _ rfl; refine withPreds_nil rfl ?_; refine XO.buildSlice rfl Try.underlying26 ty_3 ze_3 rfl rfl rfl (fun b60 => ?_); refine XO.publish 0 rfl rfl rfl (fun HP60 oP60 hleP60 hbP60 hoP60 => ?_)
         have hsl60 := SlR.lit (ρ := (intR .i64)) (l := [((f + i : Nat) : Int)]) hbP60 hoP60 (RowsR.one1 rfl)
         replace hB := hB.mono hleP60; replace hA := hA.mono hleP60; replace hs := hs.mono hleP60; replace hp26 := hp26.mono hleP60; replace hacco := hacco.mono hleP60; replace hp40 := hp40.mono hleP60; replace hd40 := hd40.mono hleP60; replace hp43 := hp43.mono hleP60; replace hle0 := hle0.trans hleP60; refine XO.nil ?_
         exact stepQ_ok trivial (⟨_, rfl, hsl60⟩)
        refine stepsD_cons rfl ?_ ?_
        ·intro X HD hleD _
         replace hB := hB.mono hleD; replace hA := hA.mono hleD; replace hs := hs.mono hleD; replace hp26 := hp26.mono hleD; replace hacco := hacco.mono hleD; replace hp40 := hp40.mono hleD; replace hd40 := hd40.mono hleD; replace hp43 := hp43.mono hleD; replace hle0 := hle0.trans hleD; refine withPreds_cons rfl rfl ?_; rintro _ ⟨a58, c58, rfl, hsl58, hcap58⟩; refine withPreds_cons rfl rfl ?_; rintro _ ⟨bs60, rfl, hsl60⟩; refine withPreds_nil rfl ?_; refine XO.appendP rfl hsl58 rfl rfl hsl60 rfl (by exact hcap58) Try.underlying26 ty_3 ze_3 rfl by_3 (by simp; omega) rfl (fun HA61 aA61 cA61 hleA61 hsA61 => ?_); replace hB := hB.mono hleA61; replace hA := hA.mono hleA61; replace hs := hs.mono hleA61; replace hp26 := hp26.mono hleA61; replace hacco := hacco.mono hleA61; replace hp40 := hp40.mono hleA61; replace hd40 := hd40.mono hleA61; replace hp43 := hp43.mono hleA61; replace hsl58 := hsl58.mono hleA61; replace hsl60 := hsl60.mono hleA61; replace hle0 := hle0.trans hleA61; refine XO.nil ?_
         exact stepQ_ok trivial (⟨_, _, rfl, hsA61⟩)
        refine stepsD_cons rfl ?_ ?_
        ·intro X HD hleD _
         replace hB := hB.mono hleD; replace hA := hA.mono hleD; replace hs := hs.mono hleD; replace hp26 := hp26.mono hleD; replace hacco := hacco.mono hleD; replace hp40 := hp40.mono hleD; replace hd40 := hd40.mono hleD; replace hp43 := hp43.mono hleD; replace hle0 := hle0.trans hleD; refine withPreds_cons rfl rfl ?_; rintro _ rfl; refine withPreds_cons rfl rfl ?_; rintro _ rfl; refine withPreds_cons rfl rfl ?_; rintro _ rfl; refine withPreds_cons rfl rfl ?_; rintro _ ⟨a61, c61, rfl, hsl61⟩; refine withPreds_nil rfl ?_
         have hcall62 := ih k (by omega) (l ++ [((f + i : Nat) : Int)]) (f + i + 1) _ _ _ _ _ _ _ (by simp; omega) (by omega) (fun x hx => by rw [List.length_append] at hx; simp at hx; omega) (fun h => absurd h (by simp)) hB hA hsl61
         refine XO.callH rfl hcall62 rfl ?_; rintro _ HN62 hleN62 ⟨aN62, cN62, rfl, hN62⟩; replace hB := hB.mono hleN62; replace hA := hA.mono hleN62; replace hs := hs.mono hleN62; replace hp26 := hp26.mono hleN62; replace hacco := hacco.mono hleN62; replace hp40 := hp40.mono hleN62; replace hd40 := hd40.mono hleN62; replace hp43 := hp43.mono hleN62; replace hsl61 := hsl61.mono hleN62; replace hle0 := hle0.trans hleN62; refine XO.nil ?_
         exact stepQ_ok trivial (⟨_, _, rfl, hN62⟩)
        exact stepsD_end rfl
       case tail12 =>
        intro HD hleD _
        replace hB := hB.mono hleD; replace hA := hA.mono hleD; replace hs := hs.mono hleD; replace hp26 := hp26.mono hleD; replace hacco := hacco.mono hleD; replace hp40 := hp40.mono hleD; replace hd40 := hd40.mono hleD; replace hp43 := hp43.mono hleD; replace hle0 := hle0.trans hleD; refine withPreds_cons rfl rfl ?_; rintro _ rfl; refine withPreds_cons rfl rfl ?_; rintro _ rfl; refine withPreds_cons rfl rfl ?_; rintro _ rfl; refine withPreds_cons rfl rfl ?_; rintro _ rfl; refine withPreds_cons rfl rfl ?_; rintro _ ⟨a56, c56, rfl, hsl56, hcap56⟩; refine withPreds_cons rfl rfl ?_; rintro _ rfl; refine withPreds_cons rfl rfl ?_; rintro _ ⟨a58, c58, rfl, hsl58, hcap58⟩; refine withPreds_cons rfl rfl ?_; rintro _ rfl; refine withPreds_cons rfl rfl ?_; rintro _ ⟨bs60, rfl, hsl60⟩; refine withPreds_cons rfl rfl ?_; rintro _ ⟨a61, c61, rfl, hsl61⟩; refine withPreds_cons rfl rfl ?_; rintro _ ⟨a62, c62, rfl, hsl62⟩; refine withPreds_nil rfl ?_; refine XO.appendA 0 rfl rfl hacco rfl rfl hsl62 rfl Try.underlying25 ty_26 ze_26 rfl by_26 (by omega) rfl (fun p63 a63 c63 hacc63 => ?_); refine XO.assign rfl rfl ?_; refine XO.nil ?_; refine blockN ?_; refine XC.seq2 ?_; refine XC.region ?_; refine XO.move rfl rfl ?_; refine XO.add rfl rfl (wrap_i64 (by omega) (by omega)) rfl ?_; refine XO.assign rfl rfl ?_; refine XO.nil ?_; refine loop_next ((i + 1, U ++ preL (l ++ [((f + i : Nat) : Int)]) (comb (fun x => badR r x || decide (x ∈ ab)) k (rangeI (f + i + 1) (w.J.toNat - (f + i + 1)))), (p63, a63, c63))) (by show (w.J.toNat - f) - (i + 1) < (w.J.toNat - f) - i; omega) (prov_cons (by first | rfl) (prov_cons (rfl) (prov_cons (rfl) (prov_cons (rfl) (prov_cons (rfl) (prov_cons (rfl) prov_nil)))))) (⟨by show i + 1 ≤ (w.J.toNat - f); omega, rfl, by first | (exact hacc63), by first | (rw [hU, hsplit, List.append_assoc]; done) | (rw [hU, hsplit, List.append_assoc]; rfl) | (rw [hU, hsplit]; done) | (rw [hU, hsplit]; rfl)⟩) (by repeat (first | exact List.Sublist.refl _ | apply List.Sublist.cons_cons | apply List.Sublist.cons)) (hle0)
      ·skip
       refine XC.keep [1, 2, 3, 4, 10, 11] rfl ?_
       apply XC.drawM (fun _ => True) trivial [6] (by decide) [(9, 6)] (ownF (intR .i64) 3 l) (fun _ _ p _ => p.2 = .nothing) (ownF_mono _ _ _) (fun _ _ _ _ _ _ h => h) 11 [eqF _, eqF _, eqF _, eqF _, slF (intR .i64) ([] : List Int), eqF _, anyF, eqF _, slF (intR .i64) [((f + i : Nat) : Int)], slG (intR .i64) (l ++ [((f + i : Nat) : Int)]), slG ilR (preL (l ++ [((f + i : Nat) : Int)]) (comb (fun x => badR r x || decide (x ∈ ab)) k (rangeI (f + i + 1) (w.J.toNat - (f + i + 1)))))] follows (by kernel_rfl) ⟨eqF_mono _, eqF_mono _, eqF_mono _, eqF_mono _, slF_mono _ _, eqF_mono _, anyF_mono, eqF_mono _, slF_mono _ _, slG_mono _ _, slG_mono _ _, trivial⟩ (by decide) (by kernel_rfl) ?steps17 ?tail17
       case steps17 =>
        refine stepsM_cons rfl rfl ?_ ?_
        ·intro X ext HD hleD _
         replace hB := hB.mono hleD; replace hA := hA.mono hleD; replace hs := hs.mono hleD; replace hp26 := hp26.mono hleD; replace hacco := hacco.mono hleD; replace hp40 := hp40.mono hleD; replace hd40 := hd40.mono hleD; replace hp43 := hp43.mono hleD; replace hle0 := hle0.trans hleD; refine withP_nil rfl ?_; refine XO.move rfl rfl ?_; refine XO.nil ?_; exact stepQN_ok rfl trivial (rfl)
        refine stepsM_cons rfl rfl ?_ ?_
        ·intro X ext HD hleD _
         replace hB := hB.mono hleD; replace hA := hA.mono hleD; replace hs := hs.mono hleD; replace hp26 := hp26.mono hleD; replace hacco := hacco.mono hleD; replace hp40 := hp40.mono hleD; replace hd40 := hd40.mono hleD; replace hp43 := hp43.mono hleD; replace hle0 := hle0.trans hleD; refine withP_nil rfl ?_; refine XO.loadO 1 rfl rfl ty_24 rfl rfl rfl ?_; refine XO.nil ?_; exact stepQN_ok rfl trivial (rfl)
        refine stepsM_cons rfl rfl ?_ ?_
        ·intro X ext HD hleD _
         replace hB := hB.mono hleD; replace hA := hA.mono hleD; replace hs := hs.mono hleD; replace hp26 := hp26.mono hleD; replace hacco := hacco.mono hleD; replace hp40 := hp40.mono hleD; replace hd40 := hd40.mono hleD; replace hp43 := hp43.mono hleD; replace hle0 := hle0.trans hleD; refine withP_nil rfl ?_; refine XO.move rfl rfl ?_; refine XO.nil ?_; exact stepQN_ok rfl trivial (rfl)
        refine stepsM_cons rfl rfl ?_ ?_
        ·intro X ext HD hleD _
         replace hB := hB.mono hleD; replace hA := hA.mono hleD; replace hs := hs.mono hleD; replace hp26 := hp26.mono hleD; replace hacco := hacco.mono hleD; replace hp40 := hp40.mono hleD; replace hd40 := hd40.mono hleD; replace hp43 := hp43.mono hleD; replace hle0 := hle0.trans hleD; refine withP_nil rfl ?_; refine XO.move rfl rfl ?_; refine XO.nil ?_; exact stepQN_ok rfl trivial (rfl)
        refine stepsM_cons rfl rfl ?_ ?_
        ·intro X ext HD hleD _
         replace hB := hB.mono hleD; replace hA := hA.mono hleD; replace hs := hs.mono hleD; replace hp26 := hp26.mono hleD; replace hacco := hacco.mono hleD; replace hp40 := hp40.mono hleD; replace hd40 := hd40.mono hleD; replace hp43 := hp43.mono hleD; replace hle0 := hle0.trans hleD; refine withP_nil rfl ?_; refine XO.buildSlice rfl Try.underlying26 ty_3 ze_3 rfl rfl rfl (fun b56 => ?_); refine XO.publish 0 rfl rfl rfl (fun HP56 oP56 hleP56 hbP56 hoP56 => ?_)
         have hsl56 := SlR.lit (ρ := (intR .i64)) (l := ([] : List Int)) hbP56 hoP56 rfl
         replace hB := hB.mono hleP56; replace hA := hA.mono hleP56; replace hs := hs.mono hleP56; replace hp26 := hp26.mono hleP56; replace hacco := hacco.mono hleP56; replace hp40 := hp40.mono hleP56; replace hd40 := hd40.mono hleP56; replace hp43 := hp43.mono hleP56; replace hle0 := hle0.trans hleP56; refine XO.nil ?_
         exact stepQN_ok rfl trivial (⟨_, rfl, hsl56⟩)
        refine stepsM_cons rfl rfl ?_ ?_
        ·intro X ext HD hleD _
         replace hB := hB.mono hleD; replace hA := hA.mono hleD; replace hs := hs.mono hleD; replace hp26 := hp26.mono hleD; replace hacco := hacco.mono hleD; replace hp40 := hp40.mono hleD; replace hd40 := hd40.mono hleD; replace hp43 := hp43.mono hleD; replace hle0 := hle0.trans hleD; refine withP_nil rfl ?_; refine XO.move rfl rfl ?_; refine XO.nil ?_; exact stepQN_ok rfl trivial (rfl)
        refine stepsM_cons rfl rfl ?_ ?_
        ·intro X ext HD hleD _
         replace hB := hB.mono hleD; replace hA := hA.mono hleD; replace hs := hs.mono hleD; replace hp26 := hp26.mono hleD; replace hacco := hacco.mono hleD; replace hp40 := hp40.mono hleD; replace hd40 := hd40.mono hleD; replace hp43 := hp43.mono hleD; replace hle0 := hle0.trans hleD; refine withP_cons rfl rfl ?_; rintro _ ⟨bs56, rfl, hsl56⟩; refine withP_cons rfl rfl ?_; rintro _ rfl; refine withP_nil rfl ?_; refine XO.appendN rfl hsl56 rfl rfl hs rfl (by have := List.length_pos_iff.2 hq0; simp; omega) Try.underlying26 ty_3 ze_3 rfl by_3 (by simp; omega) rfl (fun pe ae ce hacc => ?_); refine XO.nil ?_
         exact stepQN_new rfl trivial trivial (⟨_, _, rfl, hacc⟩)
        refine stepsM_cons rfl rfl ?_ ?_
        ·intro X ext HD hleD _
         replace hB := hB.mono hleD; replace hA := hA.mono hleD; replace hs := hs.mono hleD; replace hp26 := hp26.mono hleD; replace hacco := hacco.mono hleD; replace hp40 := hp40.mono hleD; replace hd40 := hd40.mono hleD; replace hp43 := hp43.mono hleD; replace hle0 := hle0.trans hleD; refine withP_nil rfl ?_; refine XO.move rfl rfl ?_; refine XO.nil ?_; exact stepQN_ok rfl trivial (rfl)
        refine stepsM_cons rfl rfl ?_ ?_
        ·intro X ext HD hleD _
         replace hB := hB.mono hleD; replace hA := hA.mono hleD; replace hs := hs.mono hleD; replace hp26 := hp26.mono hleD; replace hacco := hacco.mono hleD; replace hp40 := hp40.mono hleD; replace hd40 := hd40.mono hleD; replace hp43 := hp43.mono hleD; replace hle0 := hle0.trans hleD; refine withP_cons rfl rfl ?_; rintro _ rfl; refine withP_nil rfl ?_; refine XO.buildSlice rfl Try.underlying26 ty_3 ze_3 rfl rfl rfl (fun b60 => ?_); refine XO.publish 0 rfl rfl rfl (fun HP60 oP60 hleP60 hbP60 hoP60 => ?_)
         have hsl60 := SlR.lit (ρ := (intR .i64)) (l := [((f + i : Nat) : Int)]) hbP60 hoP60 (RowsR.one1 rfl)
         replace hB := hB.mono hleP60; replace hA := hA.mono hleP60; replace hs := hs.mono hleP60; replace hp26 := hp26.mono hleP60; replace hacco := hacco.mono hleP60; replace hp40 := hp40.mono hleP60; replace hd40 := hd40.mono hleP60; replace hp43 := hp43.mono hleP60; replace hle0 := hle0.trans hleP60; refine XO.nil ?_
         exact stepQN_ok rfl trivial (⟨_, rfl, hsl60⟩)
        refine stepsM_mod rfl rfl ?_ ?_
        ·intro X ext p HD hleD _
         replace hB := hB.mono hleD; replace hA := hA.mono hleD; replace hs := hs.mono hleD; replace hp26 := hp26.mono hleD; replace hacco := hacco.mono hleD; replace hp40 := hp40.mono hleD; replace hd40 := hd40.mono hleD; replace hp43 := hp43.mono hleD; replace hle0 := hle0.trans hleD; refine withP_cons rfl rfl ?_; rintro _ _; refine withP_cons rfl rfl ?_; rintro _ ⟨bs60, rfl, hsl60⟩; refine withP_nil rfl ?_
         intro hfo
         obtain ⟨ab, cb, rfl, haccb⟩ := hfo _ _ rfl rfl; refine XO.appendA 0 rfl rfl haccb rfl rfl hsl60 rfl Try.underlying26 ty_3 ze_3 rfl by_3 (by simp; omega) rfl (fun pc ac cc haccc => ?_); refine XO.publishA 0 rfl haccc rfl (fun HQ hleQ hsQ => ?_); refine XO.open0 (σ := []) (fun b0 => ?_); refine XO.nil ?_
         exact stepQM_ok trivial (⟨_, _, rfl, hsQ⟩) (fun u t h1 h2 => rfl)
        refine stepsM_cons rfl rfl ?_ ?_
        ·intro X ext HD hleD _
         replace hB := hB.mono hleD; replace hA := hA.mono hleD; replace hs := hs.mono hleD; replace hp26 := hp26.mono hleD; replace hacco := hacco.mono hleD; replace hp40 := hp40.mono hleD; replace hd40 := hd40.mono hleD; replace hp43 := hp43.mono hleD; replace hle0 := hle0.trans hleD; refine withP_cons rfl rfl ?_; rintro _ rfl; refine withP_cons rfl rfl ?_; rintro _ rfl; refine withP_cons rfl rfl ?_; rintro _ rfl; refine withP_cons rfl rfl ?_; rintro _ ⟨a61, c61, rfl, hsl61⟩; refine withP_nil rfl ?_
         have hcall62 := ih k (by omega) (l ++ [((f + i : Nat) : Int)]) (f + i + 1) _ _ _ _ _ _ _ (by simp; omega) (by omega) (fun x hx => by rw [List.length_append] at hx; simp at hx; omega) (fun h => absurd h (by simp)) hB hA hsl61
         refine XO.callH rfl hcall62 rfl ?_; rintro _ HN62 hleN62 ⟨aN62, cN62, rfl, hN62⟩; replace hB := hB.mono hleN62; replace hA := hA.mono hleN62; replace hs := hs.mono hleN62; replace hp26 := hp26.mono hleN62; replace hacco := hacco.mono hleN62; replace hp40 := hp40.mono hleN62; replace hd40 := hd40.mono hleN62; replace hp43 := hp43.mono hleN62; replace hsl61 := hsl61.mono hleN62; replace hle0 := hle0.trans hleN62; refine XO.nil ?_
         exact stepQN_ok rfl trivial (⟨_, _, rfl, hN62⟩)
        exact stepsM_end rfl
       case tail17 =>
        intro HD hleD _
        replace hB := hB.mono hleD; replace hA := hA.mono hleD; replace hs := hs.mono hleD; replace hp26 := hp26.mono hleD; replace hacco := hacco.mono hleD; replace hp40 := hp40.mono hleD; replace hd40 := hd40.mono hleD; replace hp43 := hp43.mono hleD; replace hle0 := hle0.trans hleD; refine withP_cons rfl rfl ?_; rintro _ rfl; refine withP_cons rfl rfl ?_; rintro _ rfl; refine withP_cons rfl rfl ?_; rintro _ rfl; refine withP_cons rfl rfl ?_; rintro _ rfl; refine withP_cons rfl rfl ?_; rintro _ ⟨bs56, rfl, hsl56⟩; refine withP_cons rfl rfl ?_; rintro _ rfl; refine withP_cons rfl rfl ?_; rintro _ _; refine withP_cons rfl rfl ?_; rintro _ rfl; refine withP_cons rfl rfl ?_; rintro _ ⟨bs60, rfl, hsl60⟩; refine withP_cons rfl rfl ?_; rintro _ ⟨a61, c61, rfl, hsl61⟩; refine withP_cons rfl rfl ?_; rintro _ ⟨a62, c62, rfl, hsl62⟩; refine withP_nil rfl ?_; refine withEnts_cons ?_
        intro pe hpe
        refine withEnts_nil ?_; refine XO.appendA 1 rfl rfl hacco rfl rfl hsl62 rfl Try.underlying25 ty_26 ze_26 rfl by_26 (by omega) rfl (fun p63 a63 c63 hacc63 => ?_); refine XO.assign rfl rfl ?_; refine XO.nil ?_; refine blockN ?_; refine XC.seq2 ?_; refine XC.region ?_; refine XO.move rfl rfl ?_; refine XO.add rfl rfl (wrap_i64 (by omega) (by omega)) rfl ?_; refine XO.assign rfl rfl ?_; refine XO.nil ?_; refine loop_next ((i + 1, U ++ preL (l ++ [((f + i : Nat) : Int)]) (comb (fun x => badR r x || decide (x ∈ ab)) k (rangeI (f + i + 1) (w.J.toNat - (f + i + 1)))), (p63, a63, c63))) (by show (w.J.toNat - f) - (i + 1) < (w.J.toNat - f) - i; omega) (prov_cons (by first | rfl) (prov_cons (rfl) (prov_cons (rfl) (prov_cons (rfl) (prov_cons (rfl) (prov_cons (rfl) prov_nil)))))) (⟨by show i + 1 ≤ (w.J.toNat - f); omega, rfl, by first | (exact hacc63), by first | (rw [hU, hsplit, List.append_assoc]; done) | (rw [hU, hsplit, List.append_assoc]; rfl) | (rw [hU, hsplit]; done) | (rw [hU, hsplit]; rfl)⟩) (by repeat (first | exact List.Sublist.refl _ | apply List.Sublist.cons_cons | apply List.Sublist.cons)) (hle0)
     ·have hb2 : (badR r ((f + i : Nat) : Int) || decide (((f + i : Nat) : Int) ∈ ab)) = true := by rw [hb1, Bool.false_or, decide_eq_true_iff]; exact Decidable.not_not.1 (of_decide_eq_false c3_11)
      rw [if_pos hb2, List.nil_append] at hsplit
      refine XC.skip ?_; refine blockN ?_; refine XC.seq2 ?_; refine XC.region ?_; refine XO.move rfl rfl ?_; refine XO.add rfl rfl (wrap_i64 (by omega) (by omega)) rfl ?_; refine XO.assign rfl rfl ?_; refine XO.nil ?_; refine loop_next ((i + 1, U, (po, ao, co))) (by show (w.J.toNat - f) - (i + 1) < (w.J.toNat - f) - i; omega) (prov_cons (by first | rfl) (prov_cons (rfl) (prov_cons (rfl) (prov_cons (rfl) (prov_cons (rfl) (prov_cons (rfl) prov_nil)))))) (⟨by show i + 1 ≤ (w.J.toNat - f); omega, rfl, by first | (exact hacco), by first | (rw [hU, hsplit, List.append_assoc]; done) | (rw [hU, hsplit, List.append_assoc]; rfl) | (rw [hU, hsplit]; done) | (rw [hU, hsplit]; rfl)⟩) (by repeat (first | exact List.Sublist.refl _ | apply List.Sublist.cons_cons | apply List.Sublist.cons)) (hle0)
    ·have g9p := g9
     obtain rfl := Option.some.inj (hy40.symm.trans hx43)
     have hb1 : badR r ((f + i : Nat) : Int) = true := by rw [badR_at hy40]; simpa using g9
     have hb2 : (badR r ((f + i : Nat) : Int) || decide (((f + i : Nat) : Int) ∈ ab)) = true := by rw [hb1]; rfl
     rw [if_pos hb2, List.nil_append] at hsplit
     refine XO.guardF rfl rfl (g9) rfl rfl ?_; refine XO.guardF rfl rfl (g9) rfl rfl ?_; refine XO.guardF rfl rfl (g9) rfl rfl ?_; refine XO.pickF rfl (g9) rfl rfl ?_; refine XO.nil ?_; refine XC.seq2 ?_; refine XC.condF rfl (rfl) ?_; refine XC.skip ?_; refine blockN ?_; refine XC.seq2 ?_; refine XC.region ?_; refine XO.move rfl rfl ?_; refine XO.add rfl rfl (wrap_i64 (by omega) (by omega)) rfl ?_; refine XO.assign rfl rfl ?_; refine XO.nil ?_; refine loop_next ((i + 1, U, (po, ao, co))) (by show (w.J.toNat - f) - (i + 1) < (w.J.toNat - f) - i; omega) (prov_cons (by first | rfl) (prov_cons (rfl) (prov_cons (rfl) (prov_cons (rfl) (prov_cons (rfl) (prov_cons (rfl) prov_nil)))))) (⟨by show i + 1 ≤ (w.J.toNat - f); omega, rfl, by first | (exact hacco), by first | (rw [hU, hsplit, List.append_assoc]; done) | (rw [hU, hsplit, List.append_assoc]; rfl) | (rw [hU, hsplit]; done) | (rw [hU, hsplit]; rfl)⟩) (by repeat (first | exact List.Sublist.refl _ | apply List.Sublist.cons_cons | apply List.Sublist.cons)) (hle0)
   ·obtain rfl : i = w.J.toNat - f := by omega
    rw [show w.J.toNat - f - (w.J.toNat - f) = 0 by omega, rangeI_nil, comb, preL_nil, List.append_nil] at hU
    refine XC.exit ?_; refine seqX_exit ?_; refine loopX_exit ?_; refine blockHit rfl ?_; refine XC.seq2 ?_; refine XC.seq ?_; refine XC.region ?_; refine XO.move rfl rfl ?_; refine XO.publishA 0 rfl hacco rfl (fun HQ21 hleQ21 hsQ21 => ?_); replace hB := hB.mono hleQ21; replace hA := hA.mono hleQ21; replace hs := hs.mono hleQ21; replace hp26 := hp26.mono hleQ21; replace hle0 := hle0.trans hleQ21; refine XO.assign rfl rfl ?_; refine XO.nil ?_; refine XC.seq2 ?_; refine XC.ret ?_; refine ⟨rfl, _, [], rfl, (by repeat (first | exact List.Sublist.refl _ | apply List.Sublist.cons)), RetR.mk ?_⟩
    rw [hU]
    exact ⟨_, _, rfl, by assumption⟩
  ·have hf0 : f = 0 := hnil (List.length_eq_zero_iff.1 (by omega))
   refine XC.skip ?_; refine XC.seq2 ?_; refine XC.seq ?_; refine XC.region ?_; refine XO.buildRow (ρ := ilR) (l := ([] : Ls)) rfl Try.underlying25 ty_26 ze_26 rfl rfl rfl rfl rfl (fun p29 a29 c29 hacc29 => ?_); refine XO.assign rfl rfl ?_; refine XO.nil ?_; refine XC.seq2 ?_; refine XC.seq ?_; refine XC.seq ?_; refine XC.region ?_; refine XO.move rfl rfl ?_; refine XO.assign rfl rfl ?_; refine XO.nil ?_; refine XC.seq2 ?_; refine XC.block ?_; refine XC.keep [10, 11, 1, 2, 3, 4] rfl ?_; refine XC.loop (base := [(1, _), (2, _), (3, _), (4, _)]) (fun ζ : Nat × (Ls) × ((Nat × SObj) × Option Addr × Nat) => [(10, .slice ζ.2.2.2.1 (ζ.2.1).length ζ.2.2.2.2), (11, .int .i64 ((f + ζ.1 : Nat) : Int))]) (fun ζ Hl own => ζ.1 ≤ (w.J.toNat - f) ∧ ζ.2.2.1 :: (b4, .cells 24 [.int .i64 w.J, .int .i64 w.S, .int .i64 w.N, .slice aB w.B.length cB]) :: rest = own ∧ Acc ilR 26 Hl ζ.2.2.1 ζ.2.2.2.1 ζ.2.2.2.2 (ζ.2.1) ∧ (preL l (comb (fun x => badR r x || decide (x ∈ ab)) (k + 1) (rangeI f (w.J.toNat - f))) = ζ.2.1 ++ preL l (comb (fun x => badR r x || decide (x ∈ ab)) (k + 1) (rangeI (f + ζ.1) (w.J.toNat - f - ζ.1))))) (fun ζ => (w.J.toNat - f) - ζ.1) (0, [], (p29, a29, c29)) (prov_cons (rfl) (prov_cons (by first | rfl | (rw [hf0]; rfl)) (prov_cons (rfl) (prov_cons (rfl) (prov_cons (rfl) (prov_cons (rfl) prov_nil)))))) (by repeat (first | exact List.Sublist.refl _ | apply List.Sublist.cons_cons | apply List.Sublist.cons)) ⟨Nat.zero_le _, rfl, hacc29, rfl⟩ ?_; rintro ⟨i, U, ⟨po, ao, co⟩⟩ Hl0 _ hle0 ⟨hki, rfl, hacco, hU⟩; replace hB := hB.mono hle0; replace hA := hA.mono hle0; replace hs := hs.mono hle0
   try dsimp only at hki hacco hU ⊢
   refine XC.seq ?_; refine XC.seq ?_; refine XC.region ?_; refine XO.move rfl rfl ?_; refine XO.fieldAddr rfl fa_24_0 rfl ?_; refine XO.loadO 1 rfl rfl ty_3 rfl rfl rfl ?_; refine XO.lss rfl rfl rfl ?_; refine XO.nil ?_; refine XC.seq2 ?_; refine XC.cond rfl (fun c2_22 => ?_) (fun c2_22 => ?_)
   ·refine XC.skip ?_; refine XC.seq2 ?_; refine XC.seq ?_; refine XC.block ?_; refine XC.seq ?_; refine XC.region ?_
    have hsplit := combU_split (bad := (fun x => badR r x || decide (x ∈ ab))) (k := k) (l := l) (f := f) (i := i) (N := w.J.toNat) (by omega)
    have hszA := E_size (bad := (fun x => badR r x || decide (x ∈ ab))) (n := k + 1) (l := l) (f := f) (m := w.J.toNat - f) (by omega)
    rw [hU, hsplit] at hszA
    simp only [List.length_append] at hszA
    obtain ⟨y40, hy40⟩ : ∃ b, r[f + i]? = some b := ⟨_, List.getElem?_eq_getElem (by omega)⟩
    refine XO.fieldAddr rfl fa_24_3 rfl ?_; refine XO.loadO 1 rfl rfl ty_22 rfl rfl rfl ?_; refine XO.move rfl rfl ?_; refine XO.indexN rfl hB rfl Try.underlying22 ty_68 (by omega) rfl ?_; rintro eb40 eo40 _ x40 hx40 ⟨ax40, cx40, rfl, hd40⟩ hp40; obtain rfl := Option.some.inj (hr.symm.trans hx40); refine XO.loadH rfl (by assumption) ty_68 rfl rfl rfl ?_; refine XO.move rfl rfl ?_; refine XO.indexN rfl (by assumption) rfl Try.underlying68 ty_4 (by omega) rfl ?_; rintro eb43 eo43 _ x43 hx43 rfl hp43; refine XO.loadH rfl (by assumption) ty_4 rfl rfl rfl ?_; refine XO.notB rfl rfl ?_; refine XO.move rfl rfl ?_; refine XO.guardC rfl rfl rfl rfl (fun g25 => ?_) (fun g25 => ?_)
    ·have g25p := g25
     obtain rfl := Option.some.inj (hy40.symm.trans hx43)
     have hb1 : badR r ((f + i : Nat) : Int) = false := by rw [badR_at hy40]; simpa using g25
     refine XO.move rfl rfl ?_; refine XO.guardT rfl rfl (g25) rfl ?_; refine XO.move rfl rfl ?_; refine XO.guardT rfl rfl (g25) rfl ?_; refine XO.callV rfl (has_fn _ _ ab _ hA hal ((f + i : Nat) : Int)) rfl ?_; refine XO.guardT rfl rfl (g25) rfl ?_; refine XO.not rfl rfl ?_; refine XO.pickT rfl (g25) rfl rfl ?_; refine XO.nil ?_; refine XC.seq2 ?_; refine XC.condB rfl (fun c3_27 => ?_) (fun c3_27 => ?_)
     ·have hb2 : (badR r ((f + i : Nat) : Int) || decide (((f + i : Nat) : Int) ∈ ab)) = false := by rw [hb1, Bool.false_or, decide_eq_false_iff_not]; exact of_decide_eq_true c3_27
      rw [hb2, if_neg (by decide)] at hsplit
      rw [hb2, if_neg (by decide)] at hszA
      by_cases hq0 : l = []
      ·skip
       refine XC.keep [1, 2, 3, 4, 10, 11] rfl ?_
       apply XC.drawG (fun _ => True) trivial 11 [eqF _, eqF _, eqF _, eqF _, slCap (intR .i64) [], eqF _, slCap (intR .i64) l, eqF _, slF (intR .i64) [((f + i : Nat) : Int)], slG (intR .i64) (l ++ [((f + i : Nat) : Int)]), slG ilR (preL (l ++ [((f + i : Nat) : Int)]) (comb (fun x => badR r x || decide (x ∈ ab)) k (rangeI (f + i + 1) (w.J.toNat - (f + i + 1)))))] follows (by kernel_rfl) (by kernel_rfl) ⟨eqF_mono _, eqF_mono _, eqF_mono _, eqF_mono _, slCap_mono _ _, eqF_mono _, slCap_mono _ _, eqF_mono _, slF_mono _ _, slG_mono _ _, slG_mono _ _, trivial⟩ ?steps28 ?tail28
       case steps28 =>
        refine stepsD_cons rfl ?_ ?_
        ·intro X HD hleD _
         replace hB := hB.mono hleD; replace hA := hA.mono hleD; replace hs := hs.mono hleD; replace hacco := hacco.mono hleD; replace hp40 := hp40.mono hleD; replace hd40 := hd40.mono hleD; replace hp43 := hp43.mono hleD; replace hle0 := hle0.trans hleD; refine withPreds_nil rfl ?_; refine XO.move rfl rfl ?_; refine XO.nil ?_
         exact stepQ_ok trivial (rfl)
        refine stepsD_cons rfl ?_ ?_
        ·intro X HD hleD _
         replace hB := hB.mono hleD; replace hA := hA.mono hleD; replace hs := hs.mono hleD; replace hacco := hacco.mono hleD; replace hp40 := hp40.mono hleD; replace hd40 := hd40.mono hleD; replace hp43 := hp43.mono hleD; replace hle0 := hle0.trans hleD; refine withPreds_nil rfl ?_; refine XO.loadO 1 rfl rfl ty_24 rfl rfl rfl ?_; refine XO.nil ?_
         exact stepQ_ok trivial (rfl)
        refine stepsD_cons rfl ?_ ?_
        ·intro X HD hleD _
         replace hB := hB.mono hleD; replace hA := hA.mono hleD; replace hs := hs.mono hleD; replace hacco := hacco.mono hleD; replace hp40 := hp40.mono hleD; replace hd40 := hd40.mono hleD; replace hp43 := hp43.mono hleD; replace hle0 := hle0.trans hleD; refine withPreds_nil rfl ?_; refine XO.move rfl rfl ?_; refine XO.nil ?_
         exact stepQ_ok trivial (rfl)
        refine stepsD_cons rfl ?_ ?_
        ·intro X HD hleD _
         replace hB := hB.mono hleD; replace hA := hA.mono hleD; replace hs := hs.mono hleD; replace hacco := hacco.mono hleD; replace hp40 := hp40.mono hleD; replace hd40 := hd40.mono hleD; replace hp43 := hp43.mono hleD; replace hle0 := hle0.trans hleD; refine withPreds_nil rfl ?_; refine XO.move rfl rfl ?_; refine XO.nil ?_
         exact stepQ_ok trivial (rfl)
        refine stepsD_cons rfl ?_ ?_
        ·intro X HD hleD _
         replace hB := hB.mono hleD; replace hA := hA.mono hleD; replace hs := hs.mono hleD; replace hacco := hacco.mono hleD; replace hp40 := hp40.mono hleD; replace hd40 := hd40.mono hleD; replace hp43 := hp43.mono hleD; replace hle0 := hle0.trans hleD; refine withPreds_nil rfl ?_; refine XO.buildSlice rfl Try.underlying26 ty_3 ze_3 rfl rfl rfl (fun b56 => ?_); refine XO.publish 0 rfl rfl rfl (fun HP56 oP56 hleP56 hbP56 hoP56 => ?_)
         have hsl56 := SlR.lit (ρ := (intR .i64)) (l := ([] : List Int)) hbP56 hoP56 rfl
         replace hB := hB.mono hleP56; replace hA := hA.mono hleP56; replace hs := hs.mono hleP56; replace hacco := hacco.mono hleP56; replace hp40 := hp40.mono hleP56; replace hd40 := hd40.mono hleP56; replace hp43 := hp43.mono hleP56; replace hle0 := hle0.trans hleP56; refine XO.nil ?_
         exact stepQ_ok trivial (⟨_, _, rfl, hsl56, by simp⟩)
        refine stepsD_cons rfl ?_ ?_
        ·intro X HD hleD _
         replace hB := hB.mono hleD; replace hA := hA.mono hleD; replace hs := hs.mono hleD; replace hacco := hacco.mono hleD; replace hp40 := hp40.mono hleD; replace hd40 := hd40.mono hleD; replace hp43 := hp43.mono hleD; replace hle0 := hle0.trans hleD; refine withPreds_nil rfl ?_; refine XO.move rfl rfl ?_; refine XO.nil ?_
         exact stepQ_ok trivial (rfl)
        refine stepsD_cons rfl ?_ ?_
        ·intro X HD hleD _
         replace hB := hB.mono hleD; replace hA := hA.mono hleD; replace hs := hs.mono hleD; replace hacco := hacco.mono hleD; replace hp40 := hp40.mono hleD; replace hd40 := hd40.mono hleD; replace hp43 := hp43.mono hleD; replace hle0 := hle0.trans hleD; refine withPreds_cons rfl rfl ?_; rintro _ ⟨a56, c56, rfl, hsl56, hcap56⟩; refine withPreds_cons rfl rfl ?_; rintro _ rfl; refine withPreds_nil rfl ?_; refine XO.append0 rfl rfl (by rw [hq0]; rfl) hsl56.le Try.underlying26 ty_3 rfl ?_; refine XO.nil ?_
         exact stepQ_ok trivial (⟨_, _, by first | (rw [hq0]; done) | (rw [hq0]; rfl), by rw [hq0]; exact hsl56, by rw [hq0]; exact hcap56⟩)
        refine stepsD_cons rfl ?_ ?_
        ·intro X HD hleD _
         replace hB := hB.mono hleD; replace hA := hA.mono hleD; replace hs := hs.mono hleD; replace hacco := hacco.mono hleD; replace hp40 := hp40.mono hleD; replace hd40 := hd40.mono hleD; replace hp43 := hp43.mono hleD; replace hle0 := hle0.trans hleD; refine withPreds_nil rfl ?_; refine XO.move rfl rfl ?_; refine XO.nil ?_
         exact stepQ_ok trivial (rfl)
        refine stepsD_cons rfl ?_ ?_
        ·intro X HD hleD _
         replace hB := hB.mono hleD; replace hA := hA.mono hleD; replace hs := hs.mono hleD; replace hacco := hacco.mono hleD; replace hp40 := hp40.mono hleD; replace hd40 := hd40.mono hleD; replace hp43 := hp43.mono hleD; replace hle0 := hle0.trans hleD; refine withPreds_cons rfl rfl ?_; rintro _ rfl; refine withPreds_nil rfl ?_; refine XO.buildSlice rfl Try.underlying26 ty_3 ze_3 rfl rfl rfl (fun b60 => ?_); refine XO.publish 0 rfl rfl rfl (fun HP60 oP60 hleP60 hbP60 hoP60 => ?_)
         have hsl60 := SlR.lit (ρ := (intR .i64)) (l := [((f + i : Nat) : Int)]) hbP60 hoP60 (RowsR.one1 rfl)
         replace hB := hB.mono hleP60; replace hA := hA.mono hleP60; replace hs := hs.mono hleP60; replace hacco := hacco.mono hleP60; replace hp40 := hp40.mono hleP60; replace hd40 := hd40.mono hleP60; replace hp43 := hp43.mono hleP60; replace hle0 := hle0.trans hleP60; refine XO.nil ?_
         exact stepQ_ok trivial (⟨_, rfl, hsl60⟩)
        refine stepsD_cons rfl ?_ ?_
        ·intro X HD hleD _
         replace hB := hB.mono hleD; replace hA := hA.mono hleD; replace hs := hs.mono hleD; replace hacco := hacco.mono hleD; replace hp40 := hp40.mono hleD; replace hd40 := hd40.mono hleD; replace hp43 := hp43.mono hleD; replace hle0 := hle0.trans hleD; refine withPreds_cons rfl rfl ?_; rintro _ ⟨a58, c58, rfl, hsl58, hcap58⟩; refine withPreds_cons rfl rfl ?_; rintro _ ⟨bs60, rfl, hsl60⟩; refine withPreds_nil rfl ?_; refine XO.appendP rfl hsl58 rfl rfl hsl60 rfl (by exact hcap58) Try.underlying26 ty_3 ze_3 rfl by_3 (by simp; omega) rfl (fun HA61 aA61 cA61 hleA61 hsA61 => ?_); replace hB := hB.mono hleA61; replace hA := hA.mono hleA61; replace hs := hs.mono hleA61; replace hacco := hacco.mono hleA61; replace hp40 := hp40.mono hleA61; replace hd40 := hd40.mono hleA61; replace hp43 := hp43.mono hleA61; replace hsl58 := hsl58.mono hleA61; replace hsl60 := hsl60.mono hleA61; replace hle0 := hle0.trans hleA61; refine XO.nil ?_
         exact stepQ_ok trivial (⟨_, _, rfl, hsA61⟩)
        refine stepsD_cons rfl ?_ ?_
        ·intro X HD hleD _
         replace hB := hB.mono hleD; replace hA := hA.mono hleD; replace hs := hs.mono hleD; replace hacco := hacco.mono hleD; replace hp40 := hp40.mono hleD; replace hd40 := hd40.mono hleD; replace hp43 := hp43.mono hleD; replace hle0 := hle0.trans hleD; refine withPreds_cons rfl rfl ?_; rintro _ rfl; refine withPreds_cons rfl rfl ?_; rintro _ rfl; refine withPreds_cons rfl rfl ?_; rintro _ rfl; refine withPreds_cons rfl rfl ?_; rintro _ ⟨a61, c61, rfl, hsl61⟩; refine withPreds_nil rfl ?_
         have hcall62 := ih k (by omega) (l ++ [((f + i : Nat) : Int)]) (f + i + 1) _ _ _ _ _ _ _ (by simp; omega) (by omega) (fun x hx => by rw [List.length_append] at hx; simp at hx; omega) (fun h => absurd h (by simp)) hB hA hsl61
         refine XO.callH rfl hcall62 rfl ?_; rintro _ HN62 hleN62 ⟨aN62, cN62, rfl, hN62⟩; replace hB := hB.mono hleN62; replace hA := hA.mono hleN62; replace hs := hs.mono hleN62; replace hacco := hacco.mono hleN62; replace hp40 := hp40.mono hleN62; replace hd40 := hd40.mono hleN62; replace hp43 := hp43.mono hleN62; replace hsl61 := hsl61.mono hleN62; replace hle0 := hle0.trans hleN62; refine XO.nil ?_
         exact stepQ_ok trivial (⟨_, _, rfl, hN62⟩)
        exact stepsD_end rfl
       case tail28 =>
        intro HD hleD _
        replace hB := hB.mono hleD; replace hA := hA.mono hleD; replace hs := hs.mono hleD; replace hacco := hacco.mono hleD; replace hp40 := hp40.mono hleD; replace hd40 := hd40.mono hleD; replace hp43 := hp43.mono hleD; replace hle0 := hle0.trans hleD; refine withPreds_cons rfl rfl ?_; rintro _ rfl; refine withPreds_cons rfl rfl ?_; rintro _ rfl; refine withPreds_cons rfl rfl ?_; rintro _ rfl; refine withPreds_cons rfl rfl ?_; rintro _ rfl; refine withPreds_cons rfl rfl ?_; rintro _ ⟨a56, c56, rfl, hsl56, hcap56⟩; refine withPreds_cons rfl rfl ?_; rintro _ rfl; refine withPreds_cons rfl rfl ?_; rintro _ ⟨a58, c58, rfl, hsl58, hcap58⟩; refine withPreds_cons rfl rfl ?_; rintro _ rfl; refine withPreds_cons rfl rfl ?_; rintro _ ⟨bs60, rfl, hsl60⟩; refine withPreds_cons rfl rfl ?_; rintro _ ⟨a61, c61, rfl, hsl61⟩; refine withPreds_cons rfl rfl ?_; rintro _ ⟨a62, c62, rfl, hsl62⟩; refine withPreds_nil rfl ?_; refine XO.appendA 0 rfl rfl hacco rfl rfl hsl62 rfl Try.underlying25 ty_26 ze_26 rfl by_26 (by omega) rfl (fun p63 a63 c63 hacc63 => ?_); refine XO.assign rfl rfl ?_; refine XO.nil ?_; refine blockN ?_; refine XC.seq2 ?_; refine XC.region ?_; refine XO.move rfl rfl ?_; refine XO.add rfl rfl (wrap_i64 (by omega) (by omega)) rfl ?_; refine XO.assign rfl rfl ?_; refine XO.nil ?_; refine loop_next ((i + 1, U ++ preL (l ++ [((f + i : Nat) : Int)]) (comb (fun x => badR r x || decide (x ∈ ab)) k (rangeI (f + i + 1) (w.J.toNat - (f + i + 1)))), (p63, a63, c63))) (by show (w.J.toNat - f) - (i + 1) < (w.J.toNat - f) - i; omega) (prov_cons (by first | rfl) (prov_cons (rfl) (prov_cons (rfl) (prov_cons (rfl) (prov_cons (rfl) (prov_cons (rfl) prov_nil)))))) (⟨by show i + 1 ≤ (w.J.toNat - f); omega, rfl, by first | (exact hacc63), by first | (rw [hU, hsplit, List.append_assoc]; done) | (rw [hU, hsplit, List.append_assoc]; rfl) | (rw [hU, hsplit]; done) | (rw [hU, hsplit]; rfl)⟩) (by repeat (first | exact List.Sublist.refl _ | apply List.Sublist.cons_cons | apply List.Sublist.cons)) (hle0)
      ·skip
       refine XC.keep [1, 2, 3, 4, 10, 11] rfl ?_
       apply XC.drawM (fun _ => True) trivial [6] (by decide) [(9, 6)] (ownF (intR .i64) 3 l) (fun _ _ p _ => p.2 = .nothing) (ownF_mono _ _ _) (fun _ _ _ _ _ _ h => h) 11 [eqF _, eqF _, eqF _, eqF _, slF (intR .i64) ([] : List Int), eqF _, anyF, eqF _, slF (intR .i64) [((f + i : Nat) : Int)], slG (intR .i64) (l ++ [((f + i : Nat) : Int)]), slG ilR (preL (l ++ [((f + i : Nat) : Int)]) (comb (fun x => badR r x || decide (x ∈ ab)) k (rangeI (f + i + 1) (w.J.toNat - (f + i + 1)))))] follows (by kernel_rfl) ⟨eqF_mono _, eqF_mono _, eqF_mono _, eqF_mono _, slF_mono _ _, eqF_mono _, anyF_mono, eqF_mono _, slF_mono _ _, slG_mono _ _, slG_mono _ _, trivial⟩ (by decide) (by kernel_rfl) ?steps33 ?tail33
       case steps33 =>
        refine stepsM_cons rfl rfl ?_ ?_
        ·intro X ext HD hleD _
         replace hB := hB.mono hleD; replace hA := hA.mono hleD; replace hs := hs.mono hleD; replace hacco := hacco.mono hleD; replace hp40 := hp40.mono hleD; replace hd40 := hd40.mono hleD; replace hp43 := hp43.mono hleD; replace hle0 := hle0.trans hleD; refine withP_nil rfl ?_; refine XO.move rfl rfl ?_; refine XO.nil ?_; exact stepQN_ok rfl trivial (rfl)
        refine stepsM_cons rfl rfl ?_ ?_
        ·intro X ext HD hleD _
         replace hB := hB.mono hleD; replace hA := hA.mono hleD; replace hs := hs.mono hleD; replace hacco := hacco.mono hleD; replace hp40 := hp40.mono hleD; replace hd40 := hd40.mono hleD; replace hp43 := hp43.mono hleD; replace hle0 := hle0.trans hleD; refine withP_nil rfl ?_; refine XO.loadO 1 rfl rfl ty_24 rfl rfl rfl ?_; refine XO.nil ?_; exact stepQN_ok rfl trivial (rfl)
        refine stepsM_cons rfl rfl ?_ ?_
        ·intro X ext HD hleD _
         replace hB := hB.mono hleD; replace hA := hA.mono hleD; replace hs := hs.mono hleD; replace hacco := hacco.mono hleD; replace hp40 := hp40.mono hleD; replace hd40 := hd40.mono hleD; replace hp43 := hp43.mono hleD; replace hle0 := hle0.trans hleD; refine withP_nil rfl ?_; refine XO.move rfl rfl ?_; refine XO.nil ?_; exact stepQN_ok rfl trivial (rfl)
        refine stepsM_cons rfl rfl ?_ ?_
        ·intro X ext HD hleD _
         replace hB := hB.mono hleD; replace hA := hA.mono hleD; replace hs := hs.mono hleD; replace hacco := hacco.mono hleD; replace hp40 := hp40.mono hleD; replace hd40 := hd40.mono hleD; replace hp43 := hp43.mono hleD; replace hle0 := hle0.trans hleD; refine withP_nil rfl ?_; refine XO.move rfl rfl ?_; refine XO.nil ?_; exact stepQN_ok rfl trivial (rfl)
        refine stepsM_cons rfl rfl ?_ ?_
        ·intro X ext HD hleD _
         replace hB := hB.mono hleD; replace hA := hA.mono hleD; replace hs := hs.mono hleD; replace hacco := hacco.mono hleD; replace hp40 := hp40.mono hleD; replace hd40 := hd40.mono hleD; replace hp43 := hp43.mono hleD; replace hle0 := hle0.trans hleD; refine withP_nil rfl ?_; refine XO.buildSlice rfl Try.underlying26 ty_3 ze_3 rfl rfl rfl (fun b56 => ?_); refine XO.publish 0 rfl rfl rfl (fun HP56 oP56 hleP56 hbP56 hoP56 => ?_)
         have hsl56 := SlR.lit (ρ := (intR .i64)) (l := ([] : List Int)) hbP56 hoP56 rfl
         replace hB := hB.mono hleP56; replace hA := hA.mono hleP56; replace hs := hs.mono hleP56; replace hacco := hacco.mono hleP56; replace hp40 := hp40.mono hleP56; replace hd40 := hd40.mono hleP56; replace hp43 := hp43.mono hleP56; replace hle0 := hle0.trans hleP56; refine XO.nil ?_
         exact stepQN_ok rfl trivial (⟨_, rfl, hsl56⟩)
        refine stepsM_cons rfl rfl ?_ ?_
        ·intro X ext HD hleD _
         replace hB := hB.mono hleD; replace hA := hA.mono hleD; replace hs := hs.mono hleD; replace hacco := hacco.mono hleD; replace hp40 := hp40.mono hleD; replace hd40 := hd40.mono hleD; replace hp43 := hp43.mono hleD; replace hle0 := hle0.trans hleD; refine withP_nil rfl ?_; refine XO.move rfl rfl ?_; refine XO.nil ?_; exact stepQN_ok rfl trivial (rfl)
        refine stepsM_cons rfl rfl ?_ ?_
        ·intro X ext HD hleD _
         replace hB := hB.mono hleD; replace hA := hA.mono hleD; replace hs := hs.mono hleD; replace hacco := hacco.mono hleD; replace hp40 := hp40.mono hleD; replace hd40 := hd40.mono hleD; replace hp43 := hp43.mono hleD; replace hle0 := hle0.trans hleD; refine withP_cons rfl rfl ?_; rintro _ ⟨bs56, rfl, hsl56⟩; refine withP_cons rfl rfl ?_; rintro _ rfl; refine withP_nil rfl ?_; refine XO.appendN rfl hsl56 rfl rfl hs rfl (by have := List.length_pos_iff.2 hq0; simp; omega) Try.underlying26 ty_3 ze_3 rfl by_3 (by simp; omega) rfl (fun pe ae ce hacc => ?_); refine XO.nil ?_
         exact stepQN_new rfl trivial trivial (⟨_, _, rfl, hacc⟩)
        refine stepsM_cons rfl rfl ?_ ?_
        ·intro X ext HD hleD _
         replace hB := hB.mono hleD; replace hA := hA.mono hleD; replace hs := hs.mono hleD; replace hacco := hacco.mono hleD; replace hp40 := hp40.mono hleD; replace hd40 := hd40.mono hleD; replace hp43 := hp43.mono hleD; replace hle0 := hle0.trans hleD; refine withP_nil rfl ?_; refine XO.move rfl rfl ?_; refine XO.nil ?_; exact stepQN_ok rfl trivial (rfl)
        refine stepsM_cons rfl rfl ?_ ?_
        ·intro X ext HD hleD _
         replace hB := hB.mono hleD; replace hA := hA.mono hleD; replace hs := hs.mono hleD; replace hacco := hacco.mono hleD; replace hp40 := hp40.mono hleD; replace hd40 := hd40.mono hleD; replace hp43 := hp43.mono hleD; replace hle0 := hle0.trans hleD; refine withP_cons rfl rfl ?_; rintro _ rfl; refine withP_nil rfl ?_; refine XO.buildSlice rfl Try.underlying26 ty_3 ze_3 rfl rfl rfl (fun b60 => ?_); refine XO.publish 0 rfl rfl rfl (fun HP60 oP60 hleP60 hbP60 hoP60 => ?_)
         have hsl60 := SlR.lit (ρ := (intR .i64)) (l := [((f + i : Nat) : Int)]) hbP60 hoP60 (RowsR.one1 rfl)
         replace hB := hB.mono hleP60; replace hA := hA.mono hleP60; replace hs := hs.mono hleP60; replace hacco := hacco.mono hleP60; replace hp40 := hp40.mono hleP60; replace hd40 := hd40.mono hleP60; replace hp43 := hp43.mono hleP60; replace hle0 := hle0.trans hleP60; refine XO.nil ?_
         exact stepQN_ok rfl trivial (⟨_, rfl, hsl60⟩)
        refine stepsM_mod rfl rfl ?_ ?_
        ·intro X ext p HD hleD _
         replace hB := hB.mono hleD; replace hA := hA.mono hleD; replace hs := hs.mono hleD; replace hacco := hacco.mono hleD; replace hp40 := hp40.mono hleD; replace hd40 := hd40.mono hleD; replace hp43 := hp43.mono hleD; replace hle0 := hle0.trans hleD; refine withP_cons rfl rfl ?_; rintro _ _; refine withP_cons rfl rfl ?_; rintro _ ⟨bs60, rfl, hsl60⟩; refine withP_nil rfl ?_
         intro hfo
         obtain ⟨ab, cb, rfl, haccb⟩ := hfo _ _ rfl rfl; refine XO.appendA 0 rfl rfl haccb rfl rfl hsl60 rfl Try.underlying26 ty_3 ze_3 rfl by_3 (by simp; omega) rfl (fun pc ac cc haccc => ?_); refine XO.publishA 0 rfl haccc rfl (fun HQ hleQ hsQ => ?_); refine XO.open0 (σ := []) (fun b0 => ?_); refine XO.nil ?_
         exact stepQM_ok trivial (⟨_, _, rfl, hsQ⟩) (fun u t h1 h2 => rfl)
        refine stepsM_cons rfl rfl ?_ ?_
        ·intro X ext HD hleD _
         replace hB := hB.mono hleD; replace hA := hA.mono hleD; replace hs := hs.mono hleD; replace hacco := hacco.mono hleD; replace hp40 := hp40.mono hleD; replace hd40 := hd40.mono hleD; replace hp43 := hp43.mono hleD; replace hle0 := hle0.trans hleD; refine withP_cons rfl rfl ?_; rintro _ rfl; refine withP_cons rfl rfl ?_; rintro _ rfl; refine withP_cons rfl rfl ?_; rintro _ rfl; refine withP_cons rfl rfl ?_; rintro _ ⟨a61, c61, rfl, hsl61⟩; refine withP_nil rfl ?_
         have hcall62 := ih k (by omega) (l ++ [((f + i : Nat) : Int)]) (f + i + 1) _ _ _ _ _ _ _ (by simp; omega) (by omega) (fun x hx => by rw [List.length_append] at hx; simp at hx; omega) (fun h => absurd h (by simp)) hB hA hsl61
         refine XO.callH rfl hcall62 rfl ?_; rintro _ HN62 hleN62 ⟨aN62, cN62, rfl, hN62⟩; replace hB := hB.mono hleN62; replace hA := hA.mono hleN62; replace hs := hs.mono hleN62; replace hacco := hacco.mono hleN62; replace hp40 := hp40.mono hleN62; replace hd40 := hd40.mono hleN62; replace hp43 := hp43.mono hleN62; replace hsl61 := hsl61.mono hleN62; replace hle0 := hle0.trans hleN62; refine XO.nil ?_
         exact stepQN_ok rfl trivial (⟨_, _, rfl, hN62⟩)
        exact stepsM_end rfl
       case tail33 =>
        intro HD hleD _
        replace hB := hB.mono hleD; replace hA := hA.mono hleD; replace hs := hs.mono hleD; replace hacco := hacco.mono hleD; replace hp40 := hp40.mono hleD; replace hd40 := hd40.mono hleD; replace hp43 := hp43.mono hleD; replace hle0 := hle0.trans hleD; refine withP_cons rfl rfl ?_; rintro _ rfl; refine withP_cons rfl rfl ?_; rintro _ rfl; refine withP_cons rfl rfl ?_; rintro _ rfl; refine withP_cons rfl rfl ?_; rintro _ rfl; refine withP_cons rfl rfl ?_; rintro _ ⟨bs56, rfl, hsl56⟩; refine withP_cons rfl rfl ?_; rintro _ rfl; refine withP_cons rfl rfl ?_; rintro _ _; refine withP_cons rfl rfl ?_; rintro _ rfl; refine withP_cons rfl rfl ?_; rintro _ ⟨bs60, rfl, hsl60⟩; refine withP_cons rfl rfl ?_; rintro _ ⟨a61, c61, rfl, hsl61⟩; refine withP_cons rfl rfl ?_; rintro _ ⟨a62, c62, rfl, hsl62⟩; refine withP_nil rfl ?_; refine withEnts_cons ?_
        intro pe hpe
        refine withEnts_nil ?_; refine XO.appendA 1 rfl rfl hacco rfl rfl hsl62 rfl Try.underlying25 ty_26 ze_26 rfl by_26 (by omega) rfl (fun p63 a63 c63 hacc63 => ?_); refine XO.assign rfl rfl ?_; refine XO.nil ?_; refine blockN ?_; refine XC.seq2 ?_; refine XC.region ?_; refine XO.move rfl rfl ?_; refine XO.add rfl rfl (wrap_i64 (by omega) (by omega)) rfl ?_; refine XO.assign rfl rfl ?_; refine XO.nil ?_; refine loop_next ((i + 1, U ++ preL (l ++ [((f + i : Nat) : Int)]) (comb (fun x => badR r x || decide (x ∈ ab)) k (rangeI (f + i + 1) (w.J.toNat - (f + i + 1)))), (p63, a63, c63))) (by show (w.J.toNat - f) - (i + 1) < (w.J.toNat - f) - i; omega) (prov_cons (by first | rfl) (prov_cons (rfl) (prov_cons (rfl) (prov_cons (rfl) (prov_cons (rfl) (prov_cons (rfl) prov_nil)))))) (⟨by show i + 1 ≤ (w.J.toNat - f); omega, rfl, by first | (exact hacc63), by first | (rw [hU, hsplit, List.append_assoc]; done) | (rw [hU, hsplit, List.append_assoc]; rfl) | (rw [hU, hsplit]; done) | (rw [hU, hsplit]; rfl)⟩) (by repeat (first | exact List.Sublist.refl _ | apply List.Sublist.cons_cons | apply List.Sublist.cons)) (hle0)
     ·have hb2 : (badR r ((f + i : Nat) : Int) || decide (((f + i : Nat) : Int) ∈ ab)) = true := by rw [hb1, Bool.false_or, decide_eq_true_iff]; exact Decidable.not_not.1 (of_decide_eq_false c3_27)
      rw [if_pos hb2, List.nil_append] at hsplit
      refine XC.skip ?_; refine blockN ?_; refine XC.seq2 ?_; refine XC.region ?_; refine XO.move rfl rfl ?_; refine XO.add rfl rfl (wrap_i64 (by omega) (by omega)) rfl ?_; refine XO.assign rfl rfl ?_; refine XO.nil ?_; refine loop_next ((i + 1, U, (po, ao, co))) (by show (w.J.toNat - f) - (i + 1) < (w.J.toNat - f) - i; omega) (prov_cons (by first | rfl) (prov_cons (rfl) (prov_cons (rfl) (prov_cons (rfl) (prov_cons (rfl) (prov_cons (rfl) prov_nil)))))) (⟨by show i + 1 ≤ (w.J.toNat - f); omega, rfl, by first | (exact hacco), by first | (rw [hU, hsplit, List.append_assoc]; done) | (rw [hU, hsplit, List.append_assoc]; rfl) | (rw [hU, hsplit]; done) | (rw [hU, hsplit]; rfl)⟩) (by repeat (first | exact List.Sublist.refl _ | apply List.Sublist.cons_cons | apply List.Sublist.cons)) (hle0)
    ·have g25p := g25
     obtain rfl := Option.some.inj (hy40.symm.trans hx43)
     have hb1 : badR r ((f + i : Nat) : Int) = true := by rw [badR_at hy40]; simpa using g25
     have hb2 : (badR r ((f + i : Nat) : Int) || decide (((f + i : Nat) : Int) ∈ ab)) = true := by rw [hb1]; rfl
     rw [if_pos hb2, List.nil_append] at hsplit
     refine XO.guardF rfl rfl (g25) rfl rfl ?_; refine XO.guardF rfl rfl (g25) rfl rfl ?_; refine XO.guardF rfl rfl (g25) rfl rfl ?_; refine XO.pickF rfl (g25) rfl rfl ?_; refine XO.nil ?_; refine XC.seq2 ?_; refine XC.condF rfl (rfl) ?_; refine XC.skip ?_; refine blockN ?_; refine XC.seq2 ?_; refine XC.region ?_; refine XO.move rfl rfl ?_; refine XO.add rfl rfl (wrap_i64 (by omega) (by omega)) rfl ?_; refine XO.assign rfl rfl ?_; refine XO.nil ?_; refine loop_next ((i + 1, U, (po, ao, co))) (by show (w.J.toNat - f) - (i + 1) < (w.J.toNat - f) - i; omega) (prov_cons (by first | rfl) (prov_cons (rfl) (prov_cons (rfl) (prov_cons (rfl) (prov_cons (rfl) (prov_cons (rfl) prov_nil)))))) (⟨by show i + 1 ≤ (w.J.toNat - f); omega, rfl, by first | (exact hacco), by first | (rw [hU, hsplit, List.append_assoc]; done) | (rw [hU, hsplit, List.append_assoc]; rfl) | (rw [hU, hsplit]; done) | (rw [hU, hsplit]; rfl)⟩) (by repeat (first | exact List.Sublist.refl _ | apply List.Sublist.cons_cons | apply List.Sublist.cons)) (hle0)
   ·obtain rfl : i = w.J.toNat - f := by omega
    rw [show w.J.toNat - f - (w.J.toNat - f) = 0 by omega, rangeI_nil, comb, preL_nil, List.append_nil] at hU
    refine XC.exit ?_; refine seqX_exit ?_; refine loopX_exit ?_; refine blockHit rfl ?_; refine XC.seq2 ?_; refine XC.seq ?_; refine XC.region ?_; refine XO.move rfl rfl ?_; refine XO.publishA 0 rfl hacco rfl (fun HQ37 hleQ37 hsQ37 => ?_); replace hB := hB.mono hleQ37; replace hA := hA.mono hleQ37; replace hs := hs.mono hleQ37; replace hle0 := hle0.trans hleQ37; refine XO.assign rfl rfl ?_; refine XO.nil ?_; refine XC.seq2 ?_; refine XC.ret ?_; refine ⟨rfl, _, [], rfl, (by repeat (first | exact List.Sublist.refl _ | apply List.Sublist.cons)), RetR.mk ?_⟩
    rw [hU]
    exact ⟨_, _, rfl, by assumption⟩

theorem rLists_fn (w : Wi) (ab : List Int) (e n : Nat) (r : List Bool) (hr : w.B[e]? = some r) (hrl : (r.length : Int) = w.J) (hn : w.S = (n : Nat)) (hn1 : n ≤ 1000) (hJ20 : w.J ≤ 20) (hal : ab.length < 9223372036854775808) (hBl : w.B.length < 9223372036854775808) (hJ0 : 0 ≤ w.J) (aB aA : Option Addr) (cB cA : Nat) (H : Hp) (hB : SlR tbR H aB cB w.B) (hA : SlR (intR .i64) H aA cA ab) : FnC Try.prog 47 #[.agg ⟨[.int .i64 w.J, .int .i64 w.S, .int .i64 w.N, .slice aB w.B.length cB]⟩, .slice aA ab.length cA, .int .i64 (e : Nat)] H [] (RetR (fun v H2 _ => ∃ a2 c2, v = .slice a2 (lstE w (prs w.J ab) e).length c2 ∧ SlR ilR H2 a2 c2 (lstE w (prs w.J ab) e))) := by
 refine FnC.intro (args := [.agg ⟨[.int .i64 w.J, .int .i64 w.S, .int .i64 w.N, .slice aB w.B.length cB]⟩, .slice aA ab.length cA, .int .i64 (e : Nat)]) Try.func47 rfl rfl Try.ntmps47 rfl rfl rfl fun G rest => ?_
 refine XC.seq ?_; refine XC.region ?_; refine XO.box rfl rfl rfl (fun b3 => ?_); refine XO.assign rfl rfl ?_; refine XO.nil ?_; refine XC.seq2 ?_; refine XC.seq ?_; refine XC.region ?_; refine XO.loadO 0 rfl rfl ty_24 rfl rfl rfl ?_; refine XO.move rfl rfl ?_; refine XO.move rfl rfl ?_
 have hcall := rlists_all w ab e n r hr hrl hn hn1 hJ20 hal hBl n [] 0 none _ _ 0 _ _ _ (by simp) (by omega) (fun x hx => by cases hx) (fun _ => rfl) hB hA (SlR.nil0 _ _)
 rw [preL_one, Nat.sub_zero, ← lst_ref hr hn] at hcall
 refine XO.callH rfl hcall rfl ?_; rintro _ HN10 hleN10 ⟨aN10, cN10, rfl, hN10⟩; replace hB := hB.mono hleN10; replace hA := hA.mono hleN10; refine XO.assign rfl rfl ?_; refine XO.nil ?_; refine XC.seq2 ?_; refine XC.ret ?_; refine ⟨rfl, _, [], rfl, (by repeat (first | exact List.Sublist.refl _ | apply List.Sublist.cons)), RetR.mk ?_⟩
 exact ⟨_, _, rfl, by assumption⟩

theorem rloadB_fn (w : Wi) (ab : List Int) (l : Ls) (aB aA a : Option Addr) (cB cA c : Nat) (H : Hp) (hB : SlR tbR H aB cB w.B) (hA : SlR (intR .i64) H aA cA ab) (hs : SlR ilR H a c l) (hw : ∀ x ∈ l, x.length ≤ 1000) (hl : l.length ≤ 1000) (hz : (w.B.length ≤ 4096 ∧ 0 ≤ w.S) ∧ (w.S ≤ 256 ∧ (0 ≤ w.J ∧ w.J ≤ 256))) (hp : ((prs w.J ab).length : Int) = w.J - ab.length) : FnC Try.prog 45 #[.agg ⟨[.int .i64 w.J, .int .i64 w.S, .int .i64 w.N, .slice aB w.B.length cB]⟩, .slice aA ab.length cA, .slice a l.length c] H [] (RetR (fun v _ _ => v = .bool (unbalB w (prs w.J ab) l))) := by
 have hpl := prs_len w.J ab
 refine FnC.intro (args := [.agg ⟨[.int .i64 w.J, .int .i64 w.S, .int .i64 w.N, .slice aB w.B.length cB]⟩, .slice aA ab.length cA, .slice a l.length c]) Try.func45 rfl rfl Try.ntmps45 rfl rfl rfl fun G rest => ?_
 refine XC.seq ?_; refine XC.region ?_; refine XO.box rfl rfl rfl (fun b3 => ?_); refine XO.assign rfl rfl ?_; refine XO.nil ?_; refine XC.seq2 ?_; refine XC.seq ?_; refine XC.region ?_; refine XO.fieldAddr rfl fa_24_3 rfl ?_; refine XO.loadO 0 rfl rfl ty_22 rfl rfl rfl ?_; refine XO.lenS (ts := #[]) rfl Try.underlying22 rfl ?_; refine XO.assign rfl rfl ?_; refine XO.nil ?_; refine XC.seq2 ?_; refine XC.seq ?_; refine XC.region ?_; refine XO.fieldAddr rfl fa_24_0 rfl ?_; refine XO.loadO 0 rfl rfl ty_3 rfl rfl rfl ?_; refine XO.move rfl rfl ?_; refine XO.lenS (ts := #[]) rfl Try.underlying26 rfl ?_; refine XO.sub rfl rfl (wrap_i64 (by omega) (by omega)) rfl ?_; refine XO.assign rfl rfl ?_; refine XO.nil ?_; refine XC.seq2 ?_; refine XC.seq ?_; refine XC.seq ?_; refine XC.region ?_; refine XO.assign rfl rfl ?_; refine XO.nil ?_; refine XC.seq2 ?_; refine XC.block ?_; refine XC.keep [9, 1, 2, 3, 7, 8] rfl ?_; refine XC.loop (base := [(1, _), (2, _), (3, _), (7, _), (8, _)]) (fun ζ : Nat => [(9, .int .i64 (ζ : Nat))]) (fun ζ Hl own => ζ ≤ w.J.toNat ∧ (b3, .cells 24 [.int .i64 w.J, .int .i64 w.S, .int .i64 w.N, .slice aB w.B.length cB]) :: rest = own ∧ (∀ y : Int, 0 ≤ y → y < (ζ : Nat) → y ∉ ab → ¬ offK w.B.length (prs w.J ab).length w.S l.length (loadL l y : Nat))) (fun ζ => w.J.toNat - ζ) 0 (prov_cons (rfl) (prov_cons (rfl) (prov_cons (rfl) (prov_cons (rfl) (prov_cons (rfl) (prov_cons (rfl) prov_nil)))))) (by repeat (first | exact List.Sublist.refl _ | apply List.Sublist.cons_cons | apply List.Sublist.cons)) ⟨Nat.zero_le _, rfl, fun y h0 h1 => absurd h1 (by omega)⟩ ?_; rintro k Hl0 _ hle0 ⟨hkk, rfl, hno⟩; replace hB := hB.mono hle0; replace hA := hA.mono hle0; replace hs := hs.mono hle0
 try dsimp only at ⊢
 refine XC.seq ?_; refine XC.seq ?_; refine XC.region ?_; refine XO.move rfl rfl ?_; refine XO.fieldAddr rfl fa_24_0 rfl ?_; refine XO.loadO 0 rfl rfl ty_3 rfl rfl rfl ?_; refine XO.lss rfl rfl rfl ?_; refine XO.nil ?_; refine XC.seq2 ?_; refine XC.cond rfl (fun c0_1 => ?_) (fun c0_1 => ?_)
 ·refine XC.skip ?_; refine XC.seq2 ?_; refine XC.seq ?_; refine XC.block ?_; refine XC.seq ?_; refine XC.seq ?_; refine XC.region ?_; refine XO.move rfl rfl ?_; refine XO.move rfl rfl ?_; refine XO.callV rfl (has_fn _ _ ab _ hA (by omega) (k : Nat)) rfl ?_; refine XO.nil ?_; refine XC.seq2 ?_; refine XC.cond rfl (fun c1_3 => ?_) (fun c1_3 => ?_)
  ·refine XC.exit ?_; refine seqX_exit ?_; refine blockHit rfl ?_; refine XC.seq2 ?_; refine XC.region ?_; refine XO.move rfl rfl ?_; refine XO.add rfl rfl (wrap_i64 (by omega) (by omega)) rfl ?_; refine XO.assign rfl rfl ?_; refine XO.nil ?_; refine loop_next (k + 1) (by show w.J.toNat - (k + 1) < w.J.toNat - k; omega) (prov_cons (rfl) (prov_cons (rfl) (prov_cons (rfl) (prov_cons (rfl) (prov_cons (rfl) (prov_cons (rfl) prov_nil)))))) (⟨by show k + 1 ≤ w.J.toNat; omega, rfl, fun y h0 h1 h2 h3 => by by_cases he : y = ((k : Nat) : Int) <;> first | (subst he; first | contradiction | exact absurd (hoff.1 h3) (by omega)) | exact hno y h0 (by omega) h2 h3⟩) (by repeat (first | exact List.Sublist.refl _ | apply List.Sublist.cons_cons | apply List.Sublist.cons)) (hle0)
  ·have hkm : ((k : Nat) : Int) ∈ prs w.J ab := mem_prs.2 ⟨⟨by omega, by omega⟩, by assumption⟩
   have hpos := List.length_pos_of_mem hkm
   have hm2 := mul_b (a := (w.B.length : Int)) (b := w.S) (m := 4096) (n := 256) (by omega) (by omega) (by omega) (by omega)
   have hll := load_le l (k : Nat)
   have hq1 := Int.ediv_nonneg (a := (w.B.length : Int) * w.S) (b := w.J - (ab.length : Int)) hm2.1 (by omega)
   have hq2 := Int.ediv_le_self (a := (w.B.length : Int) * w.S) (w.J - (ab.length : Int)) hm2.1
   have hoff : offK w.B.length (prs w.J ab).length w.S l.length (loadL l ((k : Nat) : Int) : Nat) ↔ ((w.B.length : Int) * w.S + (w.J - (ab.length : Int)) - 1) / (w.J - (ab.length : Int)) < ((loadL l ((k : Nat) : Int) : Nat) : Int) ∨ ((loadL l ((k : Nat) : Int) : Nat) : Int) < (w.B.length : Int) * w.S / (w.J - (ab.length : Int)) - ((w.B.length : Int) - (l.length : Int)) := by rw [hp]; exact offK_ref (by omega) (by omega)
   refine XC.skip ?_; refine XC.seq2 ?_; refine XC.seq ?_; refine XC.region ?_; refine XO.move rfl rfl ?_; refine XO.move rfl rfl ?_; refine XO.callV rfl (rload_fn _ _ l _ hs (by omega) (fun x hx => by have := hw x hx; omega) (k : Nat)) rfl ?_; refine XO.assign rfl rfl ?_; refine XO.nil ?_; refine XC.seq2 ?_; refine XC.seq ?_; refine XC.region ?_; refine XO.move rfl rfl ?_; refine XO.move rfl rfl ?_; refine XO.fieldAddr rfl fa_24_1 rfl ?_; refine XO.loadO 0 rfl rfl ty_3 rfl rfl rfl ?_; refine XO.mul rfl rfl (wrap_i64 (by omega) (by omega)) rfl ?_; refine XO.move rfl rfl ?_; refine XO.add rfl rfl (wrap_i64 (by omega) (by omega)) rfl ?_; refine XO.sub rfl rfl (wrap_i64 (by omega) (by omega)) rfl ?_; refine XO.move rfl rfl ?_; refine XO.quo rfl rfl (by omega) (quo_i64 (by omega) (by omega) (by omega)) rfl ?_; refine XO.gtr rfl rfl rfl ?_; refine XO.move rfl rfl ?_; refine XO.guardC rfl rfl rfl rfl (fun g5 => ?_) (fun g5 => ?_)
   ·have g5p := of_decide_eq_false g5
    refine XO.move rfl rfl ?_; refine XO.guardT rfl rfl (g5) rfl ?_; refine XO.move rfl rfl ?_; refine XO.guardT rfl rfl (g5) rfl ?_; refine XO.fieldAddr rfl fa_24_1 rfl ?_; refine XO.guardT rfl rfl (g5) rfl ?_; refine XO.loadO 0 rfl rfl ty_3 rfl rfl rfl ?_; refine XO.guardT rfl rfl (g5) rfl ?_; refine XO.mul rfl rfl (wrap_i64 (by omega) (by omega)) rfl ?_; refine XO.guardT rfl rfl (g5) rfl ?_; refine XO.move rfl rfl ?_; refine XO.guardT rfl rfl (g5) rfl ?_; refine XO.quo rfl rfl (by omega) (quo_i64 (by omega) (by omega) (by omega)) rfl ?_; refine XO.guardT rfl rfl (g5) rfl ?_; refine XO.move rfl rfl ?_; refine XO.guardT rfl rfl (g5) rfl ?_; refine XO.move rfl rfl ?_; refine XO.guardT rfl rfl (g5) rfl ?_; refine XO.lenS (ts := #[]) rfl Try.underlying25 rfl ?_; refine XO.guardT rfl rfl (g5) rfl ?_; refine XO.sub rfl rfl (wrap_i64 (by omega) (by omega)) rfl ?_; refine XO.guardT rfl rfl (g5) rfl ?_; refine XO.sub rfl rfl (wrap_i64 (by omega) (by omega)) rfl ?_; refine XO.guardT rfl rfl (g5) rfl ?_; refine XO.lss rfl rfl rfl ?_; refine XO.pickF rfl (g5) rfl rfl ?_; refine XO.nil ?_; refine XC.seq2 ?_; refine XC.cond rfl (fun c2_6 => ?_) (fun c2_6 => ?_)
    ·refine XC.seq ?_; refine XC.region ?_; refine XO.assign rfl rfl ?_; refine XO.nil ?_; refine XC.seq2 ?_; refine XC.ret ?_; refine blockR ?_; refine seqX_ret ?_; refine loopX_ret ?_; refine blockR ?_; refine seqX_ret ?_; refine ⟨rfl, _, [], rfl, (by repeat (first | exact List.Sublist.refl _ | apply List.Sublist.cons)), RetR.mk ?_⟩
     first | exact congrArg Value.bool (unbal_t hkm (hoff.2 (by omega))).symm | exact congrArg Value.bool (unbal_f (fun y hy => hno y (mem_prs.1 hy).1.1 (by have := (mem_prs.1 hy).1.2; omega) (mem_prs.1 hy).2)).symm
    ·refine XC.skip ?_; refine blockN ?_; refine XC.seq2 ?_; refine XC.region ?_; refine XO.move rfl rfl ?_; refine XO.add rfl rfl (wrap_i64 (by omega) (by omega)) rfl ?_; refine XO.assign rfl rfl ?_; refine XO.nil ?_; refine loop_next (k + 1) (by show w.J.toNat - (k + 1) < w.J.toNat - k; omega) (prov_cons (rfl) (prov_cons (rfl) (prov_cons (rfl) (prov_cons (rfl) (prov_cons (rfl) (prov_cons (rfl) prov_nil)))))) (⟨by show k + 1 ≤ w.J.toNat; omega, rfl, fun y h0 h1 h2 h3 => by by_cases he : y = ((k : Nat) : Int) <;> first | (subst he; first | contradiction | exact absurd (hoff.1 h3) (by omega)) | exact hno y h0 (by omega) h2 h3⟩) (by repeat (first | exact List.Sublist.refl _ | apply List.Sublist.cons_cons | apply List.Sublist.cons)) (hle0)
   ·have g5p := of_decide_eq_true g5
    refine XO.guardF rfl rfl (g5) rfl rfl ?_; refine XO.guardF rfl rfl (g5) rfl rfl ?_; refine XO.guardF rfl rfl (g5) rfl rfl ?_; refine XO.guardF rfl rfl (g5) rfl rfl ?_; refine XO.guardF rfl rfl (g5) rfl rfl ?_; refine XO.guardF rfl rfl (g5) rfl rfl ?_; refine XO.guardF rfl rfl (g5) rfl rfl ?_; refine XO.guardF rfl rfl (g5) rfl rfl ?_; refine XO.guardF rfl rfl (g5) rfl rfl ?_; refine XO.guardF rfl rfl (g5) rfl rfl ?_; refine XO.guardF rfl rfl (g5) rfl rfl ?_; refine XO.guardF rfl rfl (g5) rfl rfl ?_; refine XO.pickT rfl (g5) rfl rfl ?_; refine XO.nil ?_; refine XC.seq2 ?_; refine XC.condT rfl (rfl) ?_; refine XC.seq ?_; refine XC.region ?_; refine XO.assign rfl rfl ?_; refine XO.nil ?_; refine XC.seq2 ?_; refine XC.ret ?_; refine blockR ?_; refine seqX_ret ?_; refine loopX_ret ?_; refine blockR ?_; refine seqX_ret ?_; refine ⟨rfl, _, [], rfl, (by repeat (first | exact List.Sublist.refl _ | apply List.Sublist.cons)), RetR.mk ?_⟩
    first | exact congrArg Value.bool (unbal_t hkm (hoff.2 (by omega))).symm | exact congrArg Value.bool (unbal_f (fun y hy => hno y (mem_prs.1 hy).1.1 (by have := (mem_prs.1 hy).1.2; omega) (mem_prs.1 hy).2)).symm
 ·refine XC.exit ?_; refine seqX_exit ?_; refine loopX_exit ?_; refine blockHit rfl ?_; refine XC.seq2 ?_; refine XC.seq ?_; refine XC.region ?_; refine XO.assign rfl rfl ?_; refine XO.nil ?_; refine XC.seq2 ?_; refine XC.ret ?_; refine ⟨rfl, _, [], rfl, (by repeat (first | exact List.Sublist.refl _ | apply List.Sublist.cons)), RetR.mk ?_⟩
  first | exact congrArg Value.bool (unbal_t hkm (hoff.2 (by omega))).symm | exact congrArg Value.bool (unbal_f (fun y hy => hno y (mem_prs.1 hy).1.1 (by have := (mem_prs.1 hy).1.2; omega) (mem_prs.1 hy).2)).symm

theorem rpair_fn (w : Wi) (l : Ls) (aB a : Option Addr) (cB c : Nat) (H : Hp) (hB : SlR tbR H aB cB w.B) (hs : SlR ilR H a c l) (hw : ∀ x ∈ l, x.length ≤ 1000) (hl : l.length ≤ 1000) : FnC Try.prog 46 #[.agg ⟨[.int .i64 w.J, .int .i64 w.S, .int .i64 w.N, .slice aB w.B.length cB]⟩, .slice a l.length c] H [] (RetR (fun v _ _ => v = .bool (apartB w l))) := by
 refine FnC.intro (args := [.agg ⟨[.int .i64 w.J, .int .i64 w.S, .int .i64 w.N, .slice aB w.B.length cB]⟩, .slice a l.length c]) Try.func46 rfl rfl Try.ntmps46 rfl rfl rfl fun G rest => ?_
 refine XC.seq ?_; refine XC.region ?_; refine XO.box rfl rfl rfl (fun b2 => ?_); refine XO.assign rfl rfl ?_; refine XO.nil ?_; refine XC.seq2 ?_; refine XC.seq ?_; refine XC.seq ?_; refine XC.region ?_; refine XO.assign rfl rfl ?_; refine XO.nil ?_; refine XC.seq2 ?_; refine XC.block ?_; refine XC.keep [5, 1, 2] rfl ?_; refine XC.loop (base := [(1, _), (2, _)]) (fun ζ : Nat => [(5, .int .i64 (ζ : Nat))]) (fun ζ Hl own => ζ ≤ (l.length - 1) ∧ (b2, .cells 24 [.int .i64 w.J, .int .i64 w.S, .int .i64 w.N, .slice aB w.B.length cB]) :: rest = own ∧ (∀ y, l[l.length - 1]? = some y → ∀ x ∈ l.take ζ, ¬ ((cmn x y : Nat) : Int) < w.N)) (fun ζ => (l.length - 1) - ζ) 0 (prov_cons (rfl) (prov_cons (rfl) (prov_cons (rfl) prov_nil))) (by repeat (first | exact List.Sublist.refl _ | apply List.Sublist.cons_cons | apply List.Sublist.cons)) ⟨Nat.zero_le _, rfl, fun y _ => by simp⟩ ?_; rintro k Hl0 _ hle0 ⟨hkk, rfl, hno⟩; replace hB := hB.mono hle0; replace hs := hs.mono hle0
 try dsimp only at ⊢
 refine XC.seq ?_; refine XC.seq ?_; refine XC.region ?_; refine XO.move rfl rfl ?_; refine XO.add rfl rfl (wrap_i64 (by omega) (by omega)) rfl ?_; refine XO.move rfl rfl ?_; refine XO.lenS (ts := #[]) rfl Try.underlying25 rfl ?_; refine XO.lss rfl rfl rfl ?_; refine XO.nil ?_; refine XC.seq2 ?_; refine XC.cond rfl (fun c0_1 => ?_) (fun c0_1 => ?_)
 ·refine XC.skip ?_; refine XC.seq2 ?_; refine XC.seq ?_; refine XC.block ?_; refine XC.seq ?_; refine XC.keep [1, 2, 5] rfl ?_; obtain ⟨bEX, oEX, rfl⟩ := hs.addr (by omega); obtain ⟨_, xX, hxX, ⟨axX, cxX, rfl, hdX⟩, hpX⟩ := hs.elem (k) (by omega); obtain ⟨_, xL, hxL, ⟨axL, cxL, rfl, hdL⟩, hpL⟩ := hs.elem (l.length - 1) (by omega)
  apply XC.draw 13 [eqF _, eqF _, eqF _, eqF _, eqF _, eqF _, eqF _, eqF _, eqF _, eqF _, eqF _, eqF _, eqF _] follows (by kernel_rfl) (by kernel_rfl) ⟨eqF_mono _, eqF_mono _, eqF_mono _, eqF_mono _, eqF_mono _, eqF_mono _, eqF_mono _, eqF_mono _, eqF_mono _, eqF_mono _, eqF_mono _, eqF_mono _, eqF_mono _, trivial⟩ ?steps2 ?tail2
  case steps2 =>
   refine stepsK_cons rfl ?_ ?_
   ·intro X
    refine withPreds_nil rfl ?_; refine XO.move rfl rfl ?_; refine XO.nil ?_
    exact stepQ_ok rfl (rfl)
   refine stepsK_cons rfl ?_ ?_
   ·intro X
    refine withPreds_nil rfl ?_; refine XO.move rfl rfl ?_; refine XO.nil ?_
    exact stepQ_ok rfl (rfl)
   refine stepsK_cons rfl ?_ ?_
   ·intro X
    refine withPreds_cons rfl rfl ?_; rintro _ rfl; refine withPreds_cons rfl rfl ?_; rintro _ rfl; refine withPreds_nil rfl ?_; refine XO.indexE rfl rfl Try.underlying25 ty_26 (by omega) (by omega) rfl ?_; refine XO.nil ?_
    exact stepQ_ok rfl (rfl)
   refine stepsK_cons rfl ?_ ?_
   ·intro X
    refine withPreds_cons rfl rfl ?_; rintro _ rfl; refine withPreds_nil rfl ?_; refine XO.loadH rfl (by assumption) ty_26 rfl rfl rfl ?_; refine XO.nil ?_
    exact stepQ_ok rfl (rfl)
   refine stepsK_cons rfl ?_ ?_
   ·intro X
    refine withPreds_nil rfl ?_; refine XO.move rfl rfl ?_; refine XO.nil ?_
    exact stepQ_ok rfl (rfl)
   refine stepsK_cons rfl ?_ ?_
   ·intro X
    refine withPreds_nil rfl ?_; refine XO.move rfl rfl ?_; refine XO.nil ?_
    exact stepQ_ok rfl (rfl)
   refine stepsK_cons rfl ?_ ?_
   ·intro X
    refine withPreds_cons rfl rfl ?_; rintro _ rfl; refine withPreds_nil rfl ?_; refine XO.lenS (ts := #[]) rfl Try.underlying25 rfl ?_; refine XO.nil ?_
    exact stepQ_ok rfl (rfl)
   refine stepsK_cons rfl ?_ ?_
   ·intro X
    refine withPreds_cons rfl rfl ?_; rintro _ rfl; refine withPreds_nil rfl ?_; refine XO.sub (c := ((l.length - 1 : Nat) : Int)) rfl rfl ((wrap_i64 (by omega) (by omega)).trans (by omega)) rfl ?_; refine XO.nil ?_
    exact stepQ_ok rfl (rfl)
   refine stepsK_cons rfl ?_ ?_
   ·intro X
    refine withPreds_cons rfl rfl ?_; rintro _ rfl; refine withPreds_cons rfl rfl ?_; rintro _ rfl; refine withPreds_nil rfl ?_; refine XO.indexE rfl rfl Try.underlying25 ty_26 (by omega) (by omega) rfl ?_; refine XO.nil ?_
    exact stepQ_ok rfl (rfl)
   refine stepsK_cons rfl ?_ ?_
   ·intro X
    refine withPreds_cons rfl rfl ?_; rintro _ rfl; refine withPreds_nil rfl ?_; refine XO.loadH rfl (by assumption) ty_26 rfl rfl rfl ?_; refine XO.nil ?_
    exact stepQ_ok rfl (rfl)
   refine stepsK_cons rfl ?_ ?_
   ·intro X
    refine withPreds_cons rfl rfl ?_; rintro _ rfl; refine withPreds_cons rfl rfl ?_; rintro _ rfl; refine withPreds_nil rfl ?_; refine XO.callV rfl (rcommon_fn _ _ _ _ xX xL _ hdX hdL (by have := hw _ (List.mem_of_getElem? hxX); omega) (by have := hw _ (List.mem_of_getElem? hxL); omega)) rfl ?_; refine XO.nil ?_
    exact stepQ_ok rfl (rfl)
   refine stepsK_cons rfl ?_ ?_
   ·intro X
    refine withPreds_nil rfl ?_; refine XO.fieldAddr rfl fa_24_2 rfl ?_; refine XO.nil ?_
    exact stepQ_ok rfl (rfl)
   refine stepsK_cons rfl ?_ ?_
   ·intro X
    refine withPreds_cons rfl rfl ?_; rintro _ rfl; refine withPreds_nil rfl ?_; refine XO.loadO 0 rfl rfl ty_3 rfl rfl rfl ?_; refine XO.nil ?_
    exact stepQ_ok rfl (rfl)
   exact stepsD_end rfl
  case tail2 =>
   refine withPreds_cons rfl rfl ?_; rintro _ rfl; refine withPreds_cons rfl rfl ?_; rintro _ rfl; refine withPreds_cons rfl rfl ?_; rintro _ rfl; refine withPreds_cons rfl rfl ?_; rintro _ rfl; refine withPreds_cons rfl rfl ?_; rintro _ rfl; refine withPreds_cons rfl rfl ?_; rintro _ rfl; refine withPreds_cons rfl rfl ?_; rintro _ rfl; refine withPreds_cons rfl rfl ?_; rintro _ rfl; refine withPreds_cons rfl rfl ?_; rintro _ rfl; refine withPreds_cons rfl rfl ?_; rintro _ rfl; refine withPreds_cons rfl rfl ?_; rintro _ rfl; refine withPreds_cons rfl rfl ?_; rintro _ rfl; refine withPreds_cons rfl rfl ?_; rintro _ rfl; refine withPreds_nil rfl ?_; refine XO.lss rfl rfl rfl ?_; refine XO.nil ?_; refine XC.seq2 ?_; refine XC.cond rfl (fun c1_7 => ?_) (fun c1_7 => ?_)
   ·refine XC.seq ?_; refine XC.region ?_; refine XO.assign rfl rfl ?_; refine XO.nil ?_; refine XC.seq2 ?_; refine XC.ret ?_; refine blockR ?_; refine seqX_ret ?_; refine loopX_ret ?_; refine blockR ?_; refine seqX_ret ?_; refine ⟨rfl, _, [], rfl, (by repeat (first | exact List.Sublist.refl _ | apply List.Sublist.cons)), RetR.mk ?_⟩
    exact congrArg Value.bool (apart_t (by omega) hxL hxX (by assumption)).symm
   ·refine XC.skip ?_; refine blockN ?_; refine XC.seq2 ?_; refine XC.region ?_; refine XO.move rfl rfl ?_; refine XO.add rfl rfl (wrap_i64 (by omega) (by omega)) rfl ?_; refine XO.assign rfl rfl ?_; refine XO.nil ?_; refine loop_next (k + 1) (by show (l.length - 1) - (k + 1) < (l.length - 1) - k; omega) (prov_cons (rfl) (prov_cons (rfl) (prov_cons (rfl) prov_nil))) (⟨by show k + 1 ≤ (l.length - 1); omega, rfl, fun y hy => all_snoc (hno y hy) hxX (by rw [show y = xL from Option.some.inj (hy.symm.trans hxL)]; assumption)⟩) (by repeat (first | exact List.Sublist.refl _ | apply List.Sublist.cons_cons | apply List.Sublist.cons)) (hle0)
 ·obtain rfl : k = l.length - 1 := by omega
  refine XC.exit ?_; refine seqX_exit ?_; refine loopX_exit ?_; refine blockHit rfl ?_; refine XC.seq2 ?_; refine XC.seq ?_; refine XC.region ?_; refine XO.assign rfl rfl ?_; refine XO.nil ?_; refine XC.seq2 ?_; refine XC.ret ?_; refine ⟨rfl, _, [], rfl, (by repeat (first | exact List.Sublist.refl _ | apply List.Sublist.cons)), RetR.mk ?_⟩
  exact congrArg Value.bool (apart_all hno).symm

theorem rwhy_fn (w : Wi) (old : Ls) (ab : List Int) (l : Ls) (aB aO aA a : Option Addr) (cB cO cA c : Nat) (H : Hp) (hB : SlR tbR H aB cB w.B) (hO : SlR ilR H aO cO old) (hA : SlR (intR .i64) H aA cA ab) (hs : SlR ilR H a c l) (hlen : l.length ≤ old.length) (hwo : ∀ x ∈ old, x.length < 9223372036854775808) (hw : ∀ x ∈ l, x.length ≤ 1000) (hl : l.length ≤ 1000) (hz : (w.B.length ≤ 4096 ∧ 0 ≤ w.S) ∧ (w.S ≤ 256 ∧ (0 ≤ w.J ∧ w.J ≤ 256))) (hp : ((prs w.J ab).length : Int) = w.J - ab.length) (lim : Int) : FnC Try.prog 48 #[.agg ⟨[.int .i64 w.J, .int .i64 w.S, .int .i64 w.N, .slice aB w.B.length cB]⟩, .slice aO old.length cO, .slice aA ab.length cA, .int .i64 lim, .slice a l.length c] H [] (RetR (fun v _ _ => v = .int .i64 (whyW w old (prs w.J ab) l lim))) := by
 refine FnC.intro (args := [.agg ⟨[.int .i64 w.J, .int .i64 w.S, .int .i64 w.N, .slice aB w.B.length cB]⟩, .slice aO old.length cO, .slice aA ab.length cA, .int .i64 lim, .slice a l.length c]) Try.func48 rfl rfl Try.ntmps48 rfl rfl rfl fun G rest => ?_
 refine XC.seq ?_; refine XC.region ?_; refine XO.box rfl rfl rfl (fun b5 => ?_); refine XO.assign rfl rfl ?_; refine XO.nil ?_; refine XC.seq2 ?_; refine XC.seq ?_; refine XC.seq ?_; refine XC.region ?_; refine XO.move rfl rfl ?_; refine XO.move rfl rfl ?_; refine XO.callV rfl (rchanges_fn _ _ _ _ old l _ hO hs hlen hwo hw hl) rfl ?_; refine XO.move rfl rfl ?_; refine XO.geq rfl rfl rfl ?_; refine XO.nil ?_; refine XC.seq2 ?_; refine XC.cond rfl (fun c0_2 => ?_) (fun c0_2 => ?_)
 ·refine XC.seq ?_; refine XC.region ?_; refine XO.assign rfl rfl ?_; refine XO.nil ?_; refine XC.seq2 ?_; refine XC.ret ?_; refine seqX_ret ?_; refine ⟨rfl, _, [], rfl, (by repeat (first | exact List.Sublist.refl _ | apply List.Sublist.cons)), RetR.mk ?_⟩
  exact congrArg (Value.int .i64) (why_3 (by assumption)).symm
 ·refine XC.skip ?_; refine XC.seq2 ?_; refine XC.seq ?_; refine XC.seq ?_; refine XC.region ?_; refine XO.loadO 0 rfl rfl ty_24 rfl rfl rfl ?_; refine XO.move rfl rfl ?_; refine XO.move rfl rfl ?_; refine XO.callV rfl (rloadB_fn w ab l _ _ _ _ _ _ _ hB hA hs hw hl hz hp) rfl ?_; refine XO.nil ?_; refine XC.seq2 ?_; refine XC.condB rfl (fun c1_4 => ?_) (fun c1_4 => ?_)
  ·refine XC.seq ?_; refine XC.region ?_; refine XO.assign rfl rfl ?_; refine XO.nil ?_; refine XC.seq2 ?_; refine XC.ret ?_; refine seqX_ret ?_; refine ⟨rfl, _, [], rfl, (by repeat (first | exact List.Sublist.refl _ | apply List.Sublist.cons)), RetR.mk ?_⟩
   exact congrArg (Value.int .i64) (why_1 (by assumption) (by assumption)).symm
  ·refine XC.skip ?_; refine XC.seq2 ?_; refine XC.seq ?_; refine XC.seq ?_; refine XC.region ?_; refine XO.loadO 0 rfl rfl ty_24 rfl rfl rfl ?_; refine XO.move rfl rfl ?_; refine XO.callV rfl (rpair_fn w l _ _ _ _ _ hB hs hw hl) rfl ?_; refine XO.nil ?_; refine XC.seq2 ?_; refine XC.condB rfl (fun c2_6 => ?_) (fun c2_6 => ?_)
   ·refine XC.seq ?_; refine XC.region ?_; refine XO.assign rfl rfl ?_; refine XO.nil ?_; refine XC.seq2 ?_; refine XC.ret ?_; refine seqX_ret ?_; refine ⟨rfl, _, [], rfl, (by repeat (first | exact List.Sublist.refl _ | apply List.Sublist.cons)), RetR.mk ?_⟩
    exact congrArg (Value.int .i64) (why_2 (by assumption) (by assumption) (by assumption)).symm
   ·refine XC.skip ?_; refine XC.seq2 ?_; refine XC.seq ?_; refine XC.region ?_; refine XO.assign rfl rfl ?_; refine XO.nil ?_; refine XC.seq2 ?_; refine XC.ret ?_; refine ⟨rfl, _, [], rfl, (by repeat (first | exact List.Sublist.refl _ | apply List.Sublist.cons)), RetR.mk ?_⟩
    exact congrArg (Value.int .i64) (why_0 (by assumption) (by assumption) (by assumption)).symm

end Go.Proofs

/- Repairs: what the searches hand back. -/
set_option autoImplicit false
set_option linter.unusedVariables false
set_option linter.unusedSimpArgs false
namespace Go.Proofs
open Go.XL
/-- what is known of a job throughout -/
structure JobOk (w : Wi) (old : Ls) (pr : List Int) (n : Nat) : Prop where
 S : w.S = (n : Nat)
 n1 : n ≤ 256
 B : w.B.length ≤ 12
 O : old.length = w.B.length
 wo : ∀ x ∈ old, x.length ≤ 1000
 rows : ∀ r ∈ w.B, ∀ x ∈ pr, 0 ≤ x ∧ x < r.length
 prl : pr.length ≤ 8
theorem findSome_at {α β : Type} {f : α → Option β} {p : List α} {x : α} {q : List α} {o : β} (h : ∀ y ∈ p, f y = none) (hx : f x = some o) : (p ++ x :: q).findSome? f = some o := by
  induction p with
  | nil => simp [hx]
  | cons y r ih =>
    rw [List.cons_append, List.findSome?_cons, h y (by simp)]
    exact ih fun z hz => h z (by simp [hz])
theorem findSome_none {α β : Type} {f : α → Option β} {p : List α} (h : ∀ y ∈ p, f y = none) : p.findSome? f = none := List.findSome?_eq_none_iff.2 h
def FindU (o : Option Ls) (H : Hp) (v : Value) : Prop := ∃ a c, v = .tuple #[.slice a (o.getD []).length c, .bool o.isSome] ∧ SlR ilR H a c (o.getD [])
theorem FindU.no {o : Option Ls} {H : Hp} (h : o = none) : FindU o H (.tuple #[.slice none 0 0, .bool false]) := by subst h; exact ⟨none, 0, rfl, SlR.nil0 _ _⟩
theorem FindU.yes {o : Option Ls} {p : Ls} {H : Hp} {a : Option Addr} {c : Nat} (h : o = some p) (hs : SlR ilR H a c p) : FindU o H (.tuple #[.slice a p.length c, .bool true]) := by subst h; exact ⟨a, c, rfl, hs⟩
theorem getD_some {α : Type} {o : Option α} {d : α} (h : o.isSome = true) : o = some (o.getD d) := by cases o <;> simp_all
theorem isSome_no {α : Type} {o : Option α} (h : o.isSome = false) : o = none := by cases o <;> simp_all
theorem find_no {w : Wi} {old : Ls} {pr : List Int} {lim : Int} {d : Nat} {l : Ls} (h : whyW w old pr l lim ≠ 0) : findF w old pr lim d l = none := by cases d <;> rw [findF, if_neg h]
theorem find_0 {w : Wi} {old : Ls} {pr : List Int} {lim : Int} {l : Ls} (h : whyW w old pr l lim = 0) : findF w old pr lim 0 l = some l := by rw [findF, if_pos h]
theorem find_s {w : Wi} {old : Ls} {pr : List Int} {lim : Int} {d : Nat} {l : Ls} (h : whyW w old pr l lim = 0) : findF w old pr lim (d + 1) l = (lstE w pr l.length).findSome? fun x => findF w old pr lim d (l ++ [x]) := by rw [findF, if_pos h]
def DenU (o : Option Den) (H : Hp) (v : Value) : Prop := ∃ a c, v = .tuple #[.agg ⟨[.int .i64 (o.getD d0).E, .int .i64 (o.getD d0).Y, .slice a (o.getD d0).K.length c]⟩, .bool o.isSome] ∧ SlR denR H a c (o.getD d0).K
theorem DenU.no {o : Option Den} {H : Hp} (h : o = none) : DenU o H (.tuple #[.agg ⟨[.int .i64 0, .int .i64 0, .slice none 0 0]⟩, .bool false]) := by subst h; exact ⟨none, 0, rfl, SlR.nil0 _ _⟩
theorem DenU.yes {o : Option Den} {e y : Int} {ks : List Den} {H : Hp} {a : Option Addr} {c : Nat} (h : o = some (.mk e y ks)) (hs : SlR denR H a c ks) : DenU o H (.tuple #[.agg ⟨[.int .i64 e, .int .i64 y, .slice a ks.length c]⟩, .bool true]) := by subst h; exact ⟨a, c, rfl, hs⟩
theorem DenU.mono {o : Option Den} {H H' : Hp} {v : Value} (h : DenU o H v) (hle : Le H H') : DenU o H' v := let ⟨a, c, h1, h2⟩ := h; ⟨a, c, h1, h2.mono hle⟩
theorem den_leaf {w : Wi} {old : Ls} {pr : List Int} {lim : Int} {d : Nat} {l : Ls} (h : whyW w old pr l lim ≠ 0) : denF w old pr lim d l = some (.mk (-1) (whyW w old pr l lim) []) := by cases d <;> rw [denF, if_neg h]
theorem den_0 {w : Wi} {old : Ls} {pr : List Int} {lim : Int} {l : Ls} (h : whyW w old pr l lim = 0) : denF w old pr lim 0 l = none := by rw [denF, if_pos h]
theorem den_s {w : Wi} {old : Ls} {pr : List Int} {lim : Int} {d : Nat} {l : Ls} (h : whyW w old pr l lim = 0) : denF w old pr lim (d + 1) l = (allS (fun x => denF w old pr lim d (l ++ [x])) (lstE w pr l.length)).map fun k => .mk (l.length : Nat) 0 k := by rw [denF, if_pos h]
theorem eta_den (D : Den) : Den.mk D.E D.Y D.K = D := by cases D; rfl
theorem set_last {α : Type} {l : List α} {x y : α} : (l ++ [x]).set l.length y = l ++ [y] := by simp
end Go.Proofs

/- The walks of the functions of repairs: what each of them computes, at any input. -/
set_option autoImplicit false
set_option linter.unusedVariables false
set_option linter.unusedSimpArgs false
namespace Go.Proofs
open Go.XL

theorem ze_25 : zeroC Try.prog 25 = some [.slice none 0 0] := by kernel_rfl

theorem find_all (bj : Nat) (w : Wi) (old : Ls) (pr : List Int) (n : Nat) (hok : JobOk w old pr n) (lim : Int) :
 ∀ (d : Nat) (l : Ls) (a : Option Addr) (c : Nat) (H : Hp), l.length + d = w.B.length → (∀ x ∈ l, x.length ≤ 1000) → JobH H bj w old pr → SlR ilR H a c l →
 FnC Try.prog 28 #[.pointer (some ⟨bj, 0, none⟩), .slice a l.length c, .int .i64 lim] H [] (RetR fun v H2 _ => FindU (findF w old pr lim d l) H2 v) := by
 intro d
 refine Nat.strongRecOn d ?_
 clear d
 intro d ih l a c H hd hw hJ hs
 have hB12 := hok.B
 have hO0 := hok.O
 have hn := hok.S
 have hn1 := hok.n1
 have hprl := hok.prl
 have hwo : ∀ x ∈ old, x.length < 9223372036854775808 := fun x hx => by have := hok.wo x hx; omega
 have hz : (w.B.length ≤ 4096 ∧ pr.length ≤ 1000) ∧ (0 ≤ w.S ∧ w.S ≤ 256) := by omega
 have hJ9 := hJ
 obtain ⟨aB, cB, aO, cO, aP, cP, aA, nA, cA, hj, hB, hO, hP⟩ := hJ9
 refine FnC.introC (args := [.pointer (some ⟨bj, 0, none⟩), .slice a l.length c, .int .i64 lim]) Try.func28 rfl rfl Try.ntmps28 rfl rfl rfl fun G rest => ?_
 refine XC.seq ?_; refine XC.region ?_; refine XO.box rfl rfl rfl (fun b3 => ?_); refine XO.box rfl rfl rfl (fun b4 => ?_); refine XO.box rfl rfl rfl (fun b5 => ?_); refine XO.alloc ze_25 rfl (fun b6 => ?_); refine XO.alloc ze_4 rfl (fun b7 => ?_); refine XO.nil ?_; refine XC.seq2 ?_; refine XC.seq ?_; refine XC.seq ?_; refine XC.region ?_; refine XO.loadO 4 rfl rfl ty_52 rfl rfl rfl ?_; refine XO.loadO 3 rfl rfl ty_25 rfl rfl rfl ?_; refine XO.loadO 2 rfl rfl ty_3 rfl rfl rfl ?_; refine XO.callV rfl (why_fn bj w old pr _ _ l _ hJ hs (by omega) hwo hw (by omega) hz lim) rfl ?_; refine XO.neq rfl rfl rfl ?_; refine XO.nil ?_; refine XC.seq2 ?_; refine XC.cond rfl (fun c0_2 => ?_) (fun c0_2 => ?_)
 ·refine XC.seq ?_; refine XC.region ?_; refine XO.storeO 1 rfl rfl rfl rfl ty_25 rfl rfl rfl rfl rfl ?_; refine XO.storeO 0 rfl rfl rfl rfl ty_4 rfl rfl rfl rfl rfl ?_; refine XO.nil ?_; refine XC.seq2 ?_; refine XC.ret ?_; refine seqX_ret ?_; refine ⟨rfl, _, [], (resC_cell 1 rfl rfl ty_25 rfl rfl (resC_cell 0 rfl rfl ty_4 rfl rfl resC_nil)), (by repeat (first | exact List.Sublist.refl _ | apply List.Sublist.cons_cons | apply List.Sublist.cons)), RetR.mk ?_⟩
  exact FindU.no (find_no (by assumption))
 ·refine XC.skip ?_; refine XC.seq2 ?_; refine XC.seq ?_; refine XC.seq ?_; refine XC.keep [3, 4, 5, 6, 7] rfl ?_
  apply XC.draw 8 [eqF _, eqF _, eqF _, eqF _, eqF _, eqF _, eqF _, eqF _] follows (by kernel_rfl) (by kernel_rfl) ⟨eqF_mono _, eqF_mono _, eqF_mono _, eqF_mono _, eqF_mono _, eqF_mono _, eqF_mono _, eqF_mono _, trivial⟩ ?steps3 ?tail3
  case steps3 =>
   refine stepsK_cons rfl ?_ ?_
   ·intro X
    refine withPreds_nil rfl ?_; refine XO.loadO 3 rfl rfl ty_25 rfl rfl rfl ?_; refine XO.nil ?_
    exact stepQ_ok rfl (rfl)
   refine stepsK_cons rfl ?_ ?_
   ·intro X
    refine withPreds_cons rfl rfl ?_; rintro _ rfl; refine withPreds_nil rfl ?_; refine XO.lenS (ts := #[]) rfl Try.underlying25 rfl ?_; refine XO.nil ?_
    exact stepQ_ok rfl (rfl)
   refine stepsK_cons rfl ?_ ?_
   ·intro X
    refine withPreds_nil rfl ?_; refine XO.loadO 4 rfl rfl ty_52 rfl rfl rfl ?_; refine XO.nil ?_
    exact stepQ_ok rfl (rfl)
   refine stepsK_cons rfl ?_ ?_
   ·intro X
    refine withPreds_cons rfl rfl ?_; rintro _ rfl; refine withPreds_nil rfl ?_; refine XO.nilCheckP rfl rfl ?_; refine XO.nil ?_
    exact stepQ_ok rfl (rfl)
   refine stepsK_cons rfl ?_ ?_
   ·intro X
    refine withPreds_cons rfl rfl ?_; rintro _ rfl; refine withPreds_nil rfl ?_; refine XO.fieldAddr rfl fa_70_0 rfl ?_; refine XO.nil ?_
    exact stepQ_ok rfl (rfl)
   refine stepsK_cons rfl ?_ ?_
   ·intro X
    refine withPreds_cons rfl rfl ?_; rintro _ rfl; refine withPreds_nil rfl ?_; refine XO.fieldAddr rfl fa_24_3 rfl ?_; refine XO.nil ?_
    exact stepQ_ok rfl (rfl)
   refine stepsK_cons rfl ?_ ?_
   ·intro X
    refine withPreds_cons rfl rfl ?_; rintro _ rfl; refine withPreds_nil rfl ?_; refine XO.loadHF rfl (by assumption) ty_22 rfl rfl rfl ?_; refine XO.nil ?_
    exact stepQ_ok rfl (rfl)
   refine stepsK_cons rfl ?_ ?_
   ·intro X
    refine withPreds_cons rfl rfl ?_; rintro _ rfl; refine withPreds_nil rfl ?_; refine XO.lenS (ts := #[]) rfl Try.underlying22 rfl ?_; refine XO.nil ?_
    exact stepQ_ok rfl (rfl)
   exact stepsD_end rfl
  case tail3 =>
   refine withPreds_cons rfl rfl ?_; rintro _ rfl; refine withPreds_cons rfl rfl ?_; rintro _ rfl; refine withPreds_cons rfl rfl ?_; rintro _ rfl; refine withPreds_cons rfl rfl ?_; rintro _ rfl; refine withPreds_cons rfl rfl ?_; rintro _ rfl; refine withPreds_cons rfl rfl ?_; rintro _ rfl; refine withPreds_cons rfl rfl ?_; rintro _ rfl; refine withPreds_cons rfl rfl ?_; rintro _ rfl; refine withPreds_nil rfl ?_; refine XO.eql rfl rfl rfl ?_; refine XO.nil ?_; refine XC.seq2 ?_; refine XC.cond rfl (fun c1_4 => ?_) (fun c1_4 => ?_)
   ·obtain rfl : d = 0 := by omega
    refine XC.seq ?_; refine XC.region ?_; refine XO.loadO 3 rfl rfl ty_25 rfl rfl rfl ?_; refine XO.callH rfl (cloneL_fn _ _ l _ hs (by omega)) rfl ?_; rintro _ HC26 hleC26 ⟨a26, c26, rfl, hsC26⟩; replace hJ := hJ.mono hleC26; replace hs := hs.mono hleC26; replace hj := hj.mono hleC26; replace hB := hB.mono hleC26; replace hO := hO.mono hleC26; replace hP := hP.mono hleC26; refine XO.storeO 1 rfl rfl rfl rfl ty_25 rfl rfl rfl rfl rfl ?_; refine XO.storeO 0 rfl rfl rfl rfl ty_4 rfl rfl rfl rfl rfl ?_; refine XO.nil ?_; refine XC.seq2 ?_; refine XC.ret ?_; refine seqX_ret ?_; refine ⟨rfl, _, [], (resC_cell 1 rfl rfl ty_25 rfl rfl (resC_cell 0 rfl rfl ty_4 rfl rfl resC_nil)), (by repeat (first | exact List.Sublist.refl _ | apply List.Sublist.cons_cons | apply List.Sublist.cons)), RetR.mk ?_⟩
    exact FindU.yes (find_0 (by omega)) (by assumption)
   ·obtain ⟨d, rfl⟩ : ∃ q, d = q + 1 := ⟨d - 1, by omega⟩
    obtain ⟨r, hr⟩ : ∃ r, w.B[l.length]? = some r := ⟨_, List.getElem?_eq_getElem (by omega)⟩
    have hle0 := lstE_at (pr := pr) hr hn
    have hcapl := hs.le
    refine XC.skip ?_; refine XC.seq2 ?_; refine XC.seq ?_; refine XC.seq ?_; refine XC.region ?_; refine XO.loadO 4 rfl rfl ty_52 rfl rfl rfl ?_; refine XO.loadO 3 rfl rfl ty_25 rfl rfl rfl ?_; refine XO.lenS (ts := #[]) rfl Try.underlying25 rfl ?_; refine XO.callH rfl (lists_fn bj w old pr l.length n r hr hn (hok.rows r (List.mem_of_getElem? hr)) (by omega) (by omega) _ hJ) rfl ?_; rintro _ HL hleL ⟨bjc, be, rfl, hseq⟩; replace hJ := hJ.mono hleL; replace hs := hs.mono hleL; replace hj := hj.mono hleL; replace hB := hB.mono hleL; replace hO := hO.mono hleL; replace hP := hP.mono hleL; refine XO.nil ?_; refine XC.seq2 ?_; refine XC.block ?_; refine XC.keep [3, 4, 5, 6, 7, 30] rfl ?_; refine XC.rangeFuncF (lend := lendI) rfl (hseq) (fun _ _ => rfl) rfl rfl (fun pre Hl own => (b7, .cells 4 [.bool false]) :: (b6, .cells 25 [.slice none 0 0]) :: (b5, .cells 3 [.int .i64 lim]) :: (b4, .cells 25 [.slice a l.length c]) :: (b3, .cells 52 [.pointer (some ⟨bj, 0, none⟩)]) :: rest = own ∧ ∀ x ∈ pre, findF w old pr lim d (l ++ [x]) = none) (fun cd Hl own => cd = .ret ∧ ∃ o a2 c2, (b7, .cells 4 [.bool true]) :: (b6, .cells 25 [.slice a2 o.length c2]) :: (b5, .cells 3 [.int .i64 lim]) :: (b4, .cells 25 [.slice a l.length c]) :: (b3, .cells 52 [.pointer (some ⟨bj, 0, none⟩)]) :: rest = own ∧ SlR ilR Hl a2 c2 o ∧ (lstE w pr l.length).findSome? (fun x => findF w old pr lim d (l ++ [x])) = some o) (fun _ _ _ _ _ h => h) (⟨rfl, by simp⟩) (.inl rfl) ?_ ?_ ?_
    ·rintro G lp hd1 hd2 hrec pre x post hxs ⟨ax, cx⟩ Hl _ ownL hleL ⟨rfl, hno⟩ ⟨rfl, hx⟩
     have hxl : x.length ≤ 1000 := by have := comb_len (show x ∈ comb (badR r) n pr by rw [hxs]; simp); omega
     replace hJ := hJ.mono hleL; replace hs := hs.mono hleL; replace hj := hj.mono hleL; replace hB := hB.mono hleL; replace hO := hO.mono hleL; replace hP := hP.mono hleL; refine XC.region ?_; refine XO.assign rfl rfl ?_; refine XO.nil ?_; refine assignN ?_; refine XC.block ?_; refine XC.seq ?_; refine XC.keep [3, 4, 5, 6, 7, 8] rfl ?_
     apply XC.drawG (fun _ => True) trivial 16 [eqF _, eqF _, eqF _, eqF _, eqF _, eqF _, slCap ilR l, eqF _, slF ilR [x], slG ilR (l ++ [x]), eqF _, fun v H => FindU (findF w old pr lim d (l ++ [x])) H v, fun v H => FindU (findF w old pr lim d (l ++ [x])) H v, slG ilR ((findF w old pr lim d (l ++ [x])).getD []), eqF _, slG ilR ((findF w old pr lim d (l ++ [x])).getD [])] follows (by kernel_rfl) (by kernel_rfl) ⟨eqF_mono _, eqF_mono _, eqF_mono _, eqF_mono _, eqF_mono _, eqF_mono _, slCap_mono _ _, eqF_mono _, slF_mono _ _, slG_mono _ _, eqF_mono _, fun _ _ _ hle ⟨a, c, h1, h2⟩ => ⟨a, c, h1, h2.mono hle⟩, fun _ _ _ hle ⟨a, c, h1, h2⟩ => ⟨a, c, h1, h2.mono hle⟩, slG_mono _ _, eqF_mono _, slG_mono _ _, trivial⟩ ?steps7 ?tail7
     case steps7 =>
      refine stepsD_cons rfl ?_ ?_
      ·intro X HD hleD _
       replace hJ := hJ.mono hleD; replace hs := hs.mono hleD; replace hj := hj.mono hleD; replace hB := hB.mono hleD; replace hO := hO.mono hleD; replace hP := hP.mono hleD; replace hx := hx.mono hleD; refine withPreds_nil rfl ?_; refine XO.loadO 4 rfl rfl ty_52 rfl rfl rfl ?_; refine XO.nil ?_
       exact stepQ_ok trivial (rfl)
      refine stepsD_cons rfl ?_ ?_
      ·intro X HD hleD _
       replace hJ := hJ.mono hleD; replace hs := hs.mono hleD; replace hj := hj.mono hleD; replace hB := hB.mono hleD; replace hO := hO.mono hleD; replace hP := hP.mono hleD; replace hx := hx.mono hleD; refine withPreds_nil rfl ?_; refine XO.loadO 3 rfl rfl ty_25 rfl rfl rfl ?_; refine XO.nil ?_
       exact stepQ_ok trivial (rfl)
      refine stepsD_cons rfl ?_ ?_
      ·intro X HD hleD _
       replace hJ := hJ.mono hleD; replace hs := hs.mono hleD; replace hj := hj.mono hleD; replace hB := hB.mono hleD; replace hO := hO.mono hleD; replace hP := hP.mono hleD; replace hx := hx.mono hleD; refine withPreds_nil rfl ?_; refine XO.loadO 3 rfl rfl ty_25 rfl rfl rfl ?_; refine XO.nil ?_
       exact stepQ_ok trivial (rfl)
      refine stepsD_cons rfl ?_ ?_
      ·intro X HD hleD _
       replace hJ := hJ.mono hleD; replace hs := hs.mono hleD; replace hj := hj.mono hleD; replace hB := hB.mono hleD; replace hO := hO.mono hleD; replace hP := hP.mono hleD; replace hx := hx.mono hleD; refine withPreds_cons rfl rfl ?_; rintro _ rfl; refine withPreds_nil rfl ?_; refine XO.lenS (ts := #[]) rfl Try.underlying25 rfl ?_; refine XO.nil ?_
       exact stepQ_ok trivial (rfl)
      refine stepsD_cons rfl ?_ ?_
      ·intro X HD hleD _
       replace hJ := hJ.mono hleD; replace hs := hs.mono hleD; replace hj := hj.mono hleD; replace hB := hB.mono hleD; replace hO := hO.mono hleD; replace hP := hP.mono hleD; replace hx := hx.mono hleD; refine withPreds_nil rfl ?_; refine XO.loadO 3 rfl rfl ty_25 rfl rfl rfl ?_; refine XO.nil ?_
       exact stepQ_ok trivial (rfl)
      refine stepsD_cons rfl ?_ ?_
      ·intro X HD hleD _
       replace hJ := hJ.mono hleD; replace hs := hs.mono hleD; replace hj := hj.mono hleD; replace hB := hB.mono hleD; replace hO := hO.mono hleD; replace hP := hP.mono hleD; replace hx := hx.mono hleD; refine withPreds_cons rfl rfl ?_; rintro _ rfl; refine withPreds_nil rfl ?_; refine XO.lenS (ts := #[]) rfl Try.underlying25 rfl ?_; refine XO.nil ?_
       exact stepQ_ok trivial (rfl)
      refine stepsD_cons rfl ?_ ?_
      ·intro X HD hleD _
       replace hJ := hJ.mono hleD; replace hs := hs.mono hleD; replace hj := hj.mono hleD; replace hB := hB.mono hleD; replace hO := hO.mono hleD; replace hP := hP.mono hleD; replace hx := hx.mono hleD; refine withPreds_cons rfl rfl ?_; rintro _ rfl; refine withPreds_cons rfl rfl ?_; rintro _ rfl; refine withPreds_cons rfl rfl ?_; rintro _ rfl; refine withPreds_nil rfl ?_; refine XO.slice (lo' := 0) (hi' := (l.length : Int)) (m' := (l.length : Int)) rfl (by assumption) ev?_none (ev?_some rfl) (ev?_some rfl) (by simp) (by omega) (by omega) (by omega) (by omega) (by omega) Try.underlying25 ty_26 rfl (fun as39 ls39 hls39 hss39 => ?_)
       obtain rfl : ls39 = l := by first | (rw [hls39]; simp only [Int.toNat_natCast, Nat.add_sub_cancel_left]; done) | (rw [hls39]; simp; done) | (rw [hls39]; simp; rw [List.take_of_length_le (by simp)]; done) | (rw [hls39]; simp only [Int.toNat_natCast]; exact List.take_of_length_le (by rw [List.length_drop]; omega))
       refine XO.nil ?_
       exact stepQ_ok trivial (⟨_, _, rfl, hss39, by simp⟩)
      refine stepsD_cons rfl ?_ ?_
      ·intro X HD hleD _
       replace hJ := hJ.mono hleD; replace hs := hs.mono hleD; replace hj := hj.mono hleD; replace hB := hB.mono hleD; replace hO := hO.mono hleD; replace hP := hP.mono hleD; replace hx := hx.mono hleD; refine withPreds_nil rfl ?_; refine XO.move rfl rfl ?_; refine XO.nil ?_
       exact stepQ_ok trivial (rfl)
      refine stepsD_cons rfl ?_ ?_
      ·intro X HD hleD _
       replace hJ := hJ.mono hleD; replace hs := hs.mono hleD; replace hj := hj.mono hleD; replace hB := hB.mono hleD; replace hO := hO.mono hleD; replace hP := hP.mono hleD; replace hx := hx.mono hleD; refine withPreds_cons rfl rfl ?_; rintro _ rfl; refine withPreds_nil rfl ?_; refine XO.buildSlice rfl Try.underlying25 ty_26 ze_26 rfl rfl rfl (fun b41 => ?_); refine XO.publish 0 rfl rfl rfl (fun HP41 oP41 hleP41 hbP41 hoP41 => ?_); replace hJ := hJ.mono hleP41; replace hs := hs.mono hleP41; replace hj := hj.mono hleP41; replace hB := hB.mono hleP41; replace hO := hO.mono hleP41; replace hP := hP.mono hleP41; replace hx := hx.mono hleP41
       have hsl41 := SlR.lit (ρ := ilR) (l := [x]) hbP41 hoP41 (RowsR.one1 ⟨_, _, rfl, hx⟩)
       refine XO.nil ?_
       exact stepQ_ok trivial (⟨_, rfl, hsl41⟩)
      refine stepsD_cons rfl ?_ ?_
      ·intro X HD hleD _
       replace hJ := hJ.mono hleD; replace hs := hs.mono hleD; replace hj := hj.mono hleD; replace hB := hB.mono hleD; replace hO := hO.mono hleD; replace hP := hP.mono hleD; replace hx := hx.mono hleD; refine withPreds_cons rfl rfl ?_; rintro _ ⟨a39, c39, rfl, hsl39, hcap39⟩; refine withPreds_cons rfl rfl ?_; rintro _ ⟨bs41, rfl, hsl41⟩; refine withPreds_nil rfl ?_; refine XO.appendP rfl hsl39 rfl rfl hsl41 rfl (by exact hcap39) Try.underlying25 ty_26 ze_26 rfl by_26 (by simp; omega) rfl (fun HA42 aA42 cA42 hleA42 hsA42 => ?_); replace hJ := hJ.mono hleA42; replace hs := hs.mono hleA42; replace hj := hj.mono hleA42; replace hB := hB.mono hleA42; replace hO := hO.mono hleA42; replace hP := hP.mono hleA42; replace hx := hx.mono hleA42; replace hsl39 := hsl39.mono hleA42; replace hsl41 := hsl41.mono hleA42; refine XO.nil ?_
       exact stepQ_ok trivial (⟨_, _, rfl, hsA42⟩)
      refine stepsD_cons rfl ?_ ?_
      ·intro X HD hleD _
       replace hJ := hJ.mono hleD; replace hs := hs.mono hleD; replace hj := hj.mono hleD; replace hB := hB.mono hleD; replace hO := hO.mono hleD; replace hP := hP.mono hleD; replace hx := hx.mono hleD; refine withPreds_nil rfl ?_; refine XO.loadO 2 rfl rfl ty_3 rfl rfl rfl ?_; refine XO.nil ?_
       exact stepQ_ok trivial (rfl)
      refine stepsD_cons rfl ?_ ?_
      ·intro X HD hleD _
       replace hJ := hJ.mono hleD; replace hs := hs.mono hleD; replace hj := hj.mono hleD; replace hB := hB.mono hleD; replace hO := hO.mono hleD; replace hP := hP.mono hleD; replace hx := hx.mono hleD; refine withPreds_cons rfl rfl ?_; rintro _ rfl; refine withPreds_cons rfl rfl ?_; rintro _ ⟨a42, c42, rfl, hsl42⟩; refine withPreds_cons rfl rfl ?_; rintro _ rfl; refine withPreds_nil rfl ?_
       have hcall := ih d (by omega) (l ++ [x]) _ _ _ (by simp; omega) (fun z hz => (List.mem_append.1 hz).elim (hw z) (fun h => by simp only [List.mem_singleton] at h; subst h; exact hxl)) hJ hsl42
       refine XO.callH rfl hcall rfl ?_; rintro _ HF hleF ⟨aF, cF, rfl, hF⟩; replace hJ := hJ.mono hleF; replace hs := hs.mono hleF; replace hj := hj.mono hleF; replace hB := hB.mono hleF; replace hO := hO.mono hleF; replace hP := hP.mono hleF; replace hx := hx.mono hleF; replace hsl42 := hsl42.mono hleF; refine XO.nil ?_
       exact stepQ_ok trivial (⟨_, _, rfl, hF⟩)
      refine stepsD_cons rfl ?_ ?_
      ·intro X HD hleD _
       replace hJ := hJ.mono hleD; replace hs := hs.mono hleD; replace hj := hj.mono hleD; replace hB := hB.mono hleD; replace hO := hO.mono hleD; replace hP := hP.mono hleD; replace hx := hx.mono hleD; refine withPreds_cons rfl rfl ?_; rintro _ ⟨aF, cF, rfl, hF⟩; refine withPreds_nil rfl ?_; refine XO.move rfl rfl ?_; refine XO.nil ?_
       exact stepQ_ok trivial (⟨_, _, rfl, hF⟩)
      refine stepsD_cons rfl ?_ ?_
      ·intro X HD hleD _
       replace hJ := hJ.mono hleD; replace hs := hs.mono hleD; replace hj := hj.mono hleD; replace hB := hB.mono hleD; replace hO := hO.mono hleD; replace hP := hP.mono hleD; replace hx := hx.mono hleD; refine withPreds_cons rfl rfl ?_; rintro _ ⟨aG, cG, rfl, hG⟩; refine withPreds_nil rfl ?_; refine XO.extract rfl rfl rfl ?_; refine XO.nil ?_
       exact stepQ_ok trivial (⟨_, _, rfl, hG⟩)
      refine stepsD_cons rfl ?_ ?_
      ·intro X HD hleD _
       replace hJ := hJ.mono hleD; replace hs := hs.mono hleD; replace hj := hj.mono hleD; replace hB := hB.mono hleD; replace hO := hO.mono hleD; replace hP := hP.mono hleD; replace hx := hx.mono hleD; refine withPreds_cons rfl rfl ?_; rintro _ ⟨aG, cG, rfl, hG⟩; refine withPreds_nil rfl ?_; refine XO.extract rfl rfl rfl ?_; refine XO.nil ?_
       exact stepQ_ok trivial (rfl)
      refine stepsD_cons rfl ?_ ?_
      ·intro X HD hleD _
       replace hJ := hJ.mono hleD; replace hs := hs.mono hleD; replace hj := hj.mono hleD; replace hB := hB.mono hleD; replace hO := hO.mono hleD; replace hP := hP.mono hleD; replace hx := hx.mono hleD; refine withPreds_cons rfl rfl ?_; rintro _ ⟨a45, c45, rfl, hsl45⟩; refine withPreds_nil rfl ?_; refine XO.assign rfl rfl ?_; refine XO.nil ?_
       exact stepQ_ok trivial (⟨_, _, rfl, hsl45⟩)
      exact stepsD_end rfl
     case tail7 =>
      intro HD hleD _
      replace hJ := hJ.mono hleD; replace hs := hs.mono hleD; replace hj := hj.mono hleD; replace hB := hB.mono hleD; replace hO := hO.mono hleD; replace hP := hP.mono hleD; replace hx := hx.mono hleD; refine withPreds_cons rfl rfl ?_; rintro _ rfl; refine withPreds_cons rfl rfl ?_; rintro _ rfl; refine withPreds_cons rfl rfl ?_; rintro _ rfl; refine withPreds_cons rfl rfl ?_; rintro _ rfl; refine withPreds_cons rfl rfl ?_; rintro _ rfl; refine withPreds_cons rfl rfl ?_; rintro _ rfl; refine withPreds_cons rfl rfl ?_; rintro _ ⟨a39, c39, rfl, hsl39, hcap39⟩; refine withPreds_cons rfl rfl ?_; rintro _ rfl; refine withPreds_cons rfl rfl ?_; rintro _ ⟨bs41, rfl, hsl41⟩; refine withPreds_cons rfl rfl ?_; rintro _ ⟨a42, c42, rfl, hsl42⟩; refine withPreds_cons rfl rfl ?_; rintro _ rfl; refine withPreds_cons rfl rfl ?_; rintro _ ⟨aF, cF, rfl, hF⟩; refine withPreds_cons rfl rfl ?_; rintro _ ⟨aG, cG, rfl, hG⟩; refine withPreds_cons rfl rfl ?_; rintro _ ⟨a45, c45, rfl, hsl45⟩; refine withPreds_cons rfl rfl ?_; rintro _ rfl; refine withPreds_cons rfl rfl ?_; rintro _ ⟨a9, c9, rfl, hsl9⟩; refine withPreds_nil rfl ?_; refine XO.assign rfl rfl ?_; refine XO.nil ?_; refine XC.seq2 ?_; refine XC.seq ?_; refine XC.region ?_; refine XO.move rfl rfl ?_; refine XO.nil ?_; refine XC.seq2 ?_; refine XC.condB rfl (fun c2_10 => ?_) (fun c2_10 => ?_)
      ·refine XC.seq ?_; refine XC.region ?_; refine XO.move rfl rfl ?_; refine XO.storeO 1 rfl rfl rfl rfl ty_25 rfl rfl rfl rfl rfl ?_; refine XO.storeO 0 rfl rfl rfl rfl ty_4 rfl rfl rfl rfl rfl ?_; refine XO.nil ?_; refine XC.seq2 ?_; refine XC.ret ?_; refine blockR ?_; refine ⟨rfl, ((b7, .cells 4 [.bool true]) :: (b6, .cells 25 [.slice a9 ((findF w old pr lim d (l ++ [x])).getD []).length c9]) :: (b5, .cells 3 [.int .i64 lim]) :: (b4, .cells 25 [.slice a l.length c]) :: (b3, .cells 52 [.pointer (some ⟨bj, 0, none⟩)]) :: rest), (by repeat (first | exact List.Sublist.refl _ | apply List.Sublist.cons)), ?_⟩
       exact ⟨rfl, _, a9, c9, rfl, hsl9, by rw [hle0, hxs]; exact findSome_at hno (getD_some (by assumption))⟩
      ·refine XC.skip ?_; refine blockN ?_; refine ⟨rfl, ((b7, .cells 4 [.bool false]) :: (b6, .cells 25 [.slice none 0 0]) :: (b5, .cells 3 [.int .i64 lim]) :: (b4, .cells 25 [.slice a l.length c]) :: (b3, .cells 52 [.pointer (some ⟨bj, 0, none⟩)]) :: rest), (by repeat (first | exact List.Sublist.refl _ | apply List.Sublist.cons)), ?_⟩
       exact ⟨_, rfl, rfl, fun o ho => (List.mem_append.1 ho).elim (hno o) (fun h => by simp only [List.mem_singleton] at h; subst h; exact isSome_no (by assumption))⟩
    ·rintro Hl ownL hleL ⟨rfl, hno⟩; replace hJ := hJ.mono hleL; replace hs := hs.mono hleL; replace hj := hj.mono hleL; replace hB := hB.mono hleL; replace hO := hO.mono hleL; replace hP := hP.mono hleL; refine blockN ?_; refine XC.seq2 ?_; refine XC.seq ?_; refine XC.region ?_; refine XO.storeO 1 rfl rfl rfl rfl ty_25 rfl rfl rfl rfl rfl ?_; refine XO.storeO 0 rfl rfl rfl rfl ty_4 rfl rfl rfl rfl rfl ?_; refine XO.nil ?_; refine XC.seq2 ?_; refine XC.ret ?_; refine ⟨rfl, _, [], (resC_cell 1 rfl rfl ty_25 rfl rfl (resC_cell 0 rfl rfl ty_4 rfl rfl resC_nil)), (by repeat (first | exact List.Sublist.refl _ | apply List.Sublist.cons_cons | apply List.Sublist.cons)), RetR.mk ?_⟩
     exact FindU.no (by rw [find_s (by omega), hle0]; exact findSome_none hno)
    ·rintro _ Hl ownL hleL ⟨rfl, o, ao, co, rfl, hso, hfind⟩; replace hJ := hJ.mono hleL; replace hs := hs.mono hleL; replace hj := hj.mono hleL; replace hB := hB.mono hleL; replace hO := hO.mono hleL; replace hP := hP.mono hleL; refine XC.ret ?_; refine blockR ?_; refine seqX_ret ?_; refine ⟨rfl, _, [], (resC_cell 1 rfl rfl ty_25 rfl rfl (resC_cell 0 rfl rfl ty_4 rfl rfl resC_nil)), (by repeat (first | exact List.Sublist.refl _ | apply List.Sublist.cons_cons | apply List.Sublist.cons)), RetR.mk ?_⟩
     exact FindU.yes (by rw [find_s (by omega)]; exact hfind) hso

end Go.Proofs

/- The walks of the functions of repairs: what each of them computes, at any input. -/
set_option autoImplicit false
set_option linter.unusedVariables false
set_option linter.unusedSimpArgs false
namespace Go.Proofs
open Go.XL

theorem bf_34 : structF Try.prog 34 = some [(0, 1), (1, 1), (2, 1)] := by kernel_rfl
theorem bk_34 : structK Try.prog 34 = true := by kernel_rfl
theorem by_34 : Nat.ble (Try.prog.bytesOf 34) 4096 = true := by kernel_rfl
theorem fa_34_0 : fieldF Try.prog 34 0 = some 0 := by kernel_rfl
theorem fa_34_2 : fieldF Try.prog 34 2 = some 2 := by kernel_rfl
theorem ty_32 : tyF Try.prog 32 1 false = true := by kernel_rfl
theorem ty_34 : tyF Try.prog 34 3 true = true := by kernel_rfl
theorem ze_34 : zeroC Try.prog 34 = some [.int .i64 0, .int .i64 0, .slice none 0 0] := by kernel_rfl

set_option maxRecDepth 100000 in
set_option maxHeartbeats 1600000 in
theorem deny_all (bj : Nat) (w : Wi) (old : Ls) (pr : List Int) (n : Nat) (hok : JobOk w old pr n) (lim : Int) :
 ∀ (d : Nat) (l : Ls) (a : Option Addr) (c : Nat) (H : Hp), l.length + d = w.B.length → (∀ x ∈ l, x.length ≤ 1000) → JobH H bj w old pr → SlR ilR H a c l →
 FnC Try.prog 32 #[.pointer (some ⟨bj, 0, none⟩), .slice a l.length c, .int .i64 lim] H [] (RetR fun v H2 _ => DenU (denF w old pr lim d l) H2 v) := by
 intro d
 refine Nat.strongRecOn d ?_
 clear d
 intro d ih l a c H hd hw hJ hs
 have hB12 := hok.B
 have hO0 := hok.O
 have hn := hok.S
 have hn1 := hok.n1
 have hprl := hok.prl
 have hwo : ∀ x ∈ old, x.length < 9223372036854775808 := fun x hx => by have := hok.wo x hx; omega
 have hz : (w.B.length ≤ 4096 ∧ pr.length ≤ 1000) ∧ (0 ≤ w.S ∧ w.S ≤ 256) := by omega
 have hJ9 := hJ
 obtain ⟨aB, cB, aO, cO, aP, cP, aA, nA, cA, hj, hB, hO, hP⟩ := hJ9
 refine FnC.introC (args := [.pointer (some ⟨bj, 0, none⟩), .slice a l.length c, .int .i64 lim]) Try.func32 rfl rfl Try.ntmps32 rfl rfl rfl fun G rest => ?_
 refine XC.seq ?_; refine XC.region ?_; refine XO.box rfl rfl rfl (fun b3 => ?_); refine XO.box rfl rfl rfl (fun b4 => ?_); refine XO.box rfl rfl rfl (fun b5 => ?_); refine XO.alloc ze_34 rfl (fun b6 => ?_); refine XO.alloc ze_4 rfl (fun b7 => ?_); refine XO.nil ?_; refine XC.seq2 ?_; refine XC.seq ?_; refine XC.seq ?_; refine XC.region ?_; refine XO.loadO 4 rfl rfl ty_52 rfl rfl rfl ?_; refine XO.loadO 3 rfl rfl ty_25 rfl rfl rfl ?_; refine XO.loadO 2 rfl rfl ty_3 rfl rfl rfl ?_; refine XO.callV rfl (why_fn bj w old pr _ _ l _ hJ hs (by omega) hwo hw (by omega) hz lim) rfl ?_; refine XO.assign rfl rfl ?_; refine XO.nil ?_; refine XC.seq2 ?_; refine XC.seq ?_; refine XC.region ?_; refine XO.move rfl rfl ?_; refine XO.neq rfl rfl rfl ?_; refine XO.nil ?_; refine XC.seq2 ?_; refine XC.cond rfl (fun c0_2 => ?_) (fun c0_2 => ?_)
 ·refine XC.seq ?_; refine XC.region ?_; refine XO.move rfl rfl ?_; refine XO.build bk_34 bf_34 ze_34 rfl rfl rfl ?_; refine XO.storeO 1 rfl rfl rfl rfl ty_34 rfl rfl rfl rfl rfl ?_; refine XO.storeO 0 rfl rfl rfl rfl ty_4 rfl rfl rfl rfl rfl ?_; refine XO.nil ?_; refine XC.seq2 ?_; refine XC.ret ?_; refine seqX_ret ?_; refine ⟨rfl, _, [], (resC_cell 1 rfl rfl ty_34 rfl rfl (resC_cell 0 rfl rfl ty_4 rfl rfl resC_nil)), (by repeat (first | exact List.Sublist.refl _ | apply List.Sublist.cons_cons | apply List.Sublist.cons)), RetR.mk ?_⟩
  exact DenU.yes (den_leaf (by assumption)) (SlR.nil0 _ _)
 ·refine XC.skip ?_; refine XC.seq2 ?_; refine XC.seq ?_; refine XC.seq ?_; refine XC.keep [3, 4, 5, 6, 7] rfl ?_
  apply XC.draw 8 [eqF _, eqF _, eqF _, eqF _, eqF _, eqF _, eqF _, eqF _] follows (by kernel_rfl) (by kernel_rfl) ⟨eqF_mono _, eqF_mono _, eqF_mono _, eqF_mono _, eqF_mono _, eqF_mono _, eqF_mono _, eqF_mono _, trivial⟩ ?steps3 ?tail3
  case steps3 =>
   refine stepsK_cons rfl ?_ ?_
   ·intro X
    refine withPreds_nil rfl ?_; refine XO.loadO 3 rfl rfl ty_25 rfl rfl rfl ?_; refine XO.nil ?_
    exact stepQ_ok rfl (rfl)
   refine stepsK_cons rfl ?_ ?_
   ·intro X
    refine withPreds_cons rfl rfl ?_; rintro _ rfl; refine withPreds_nil rfl ?_; refine XO.lenS (ts := #[]) rfl Try.underlying25 rfl ?_; refine XO.nil ?_
    exact stepQ_ok rfl (rfl)
   refine stepsK_cons rfl ?_ ?_
   ·intro X
    refine withPreds_nil rfl ?_; refine XO.loadO 4 rfl rfl ty_52 rfl rfl rfl ?_; refine XO.nil ?_
    exact stepQ_ok rfl (rfl)
   refine stepsK_cons rfl ?_ ?_
   ·intro X
    refine withPreds_cons rfl rfl ?_; rintro _ rfl; refine withPreds_nil rfl ?_; refine XO.nilCheckP rfl rfl ?_; refine XO.nil ?_
    exact stepQ_ok rfl (rfl)
   refine stepsK_cons rfl ?_ ?_
   ·intro X
    refine withPreds_cons rfl rfl ?_; rintro _ rfl; refine withPreds_nil rfl ?_; refine XO.fieldAddr rfl fa_70_0 rfl ?_; refine XO.nil ?_
    exact stepQ_ok rfl (rfl)
   refine stepsK_cons rfl ?_ ?_
   ·intro X
    refine withPreds_cons rfl rfl ?_; rintro _ rfl; refine withPreds_nil rfl ?_; refine XO.fieldAddr rfl fa_24_3 rfl ?_; refine XO.nil ?_
    exact stepQ_ok rfl (rfl)
   refine stepsK_cons rfl ?_ ?_
   ·intro X
    refine withPreds_cons rfl rfl ?_; rintro _ rfl; refine withPreds_nil rfl ?_; refine XO.loadHF rfl (by assumption) ty_22 rfl rfl rfl ?_; refine XO.nil ?_
    exact stepQ_ok rfl (rfl)
   refine stepsK_cons rfl ?_ ?_
   ·intro X
    refine withPreds_cons rfl rfl ?_; rintro _ rfl; refine withPreds_nil rfl ?_; refine XO.lenS (ts := #[]) rfl Try.underlying22 rfl ?_; refine XO.nil ?_
    exact stepQ_ok rfl (rfl)
   exact stepsD_end rfl
  case tail3 =>
   refine withPreds_cons rfl rfl ?_; rintro _ rfl; refine withPreds_cons rfl rfl ?_; rintro _ rfl; refine withPreds_cons rfl rfl ?_; rintro _ rfl; refine withPreds_cons rfl rfl ?_; rintro _ rfl; refine withPreds_cons rfl rfl ?_; rintro _ rfl; refine withPreds_cons rfl rfl ?_; rintro _ rfl; refine withPreds_cons rfl rfl ?_; rintro _ rfl; refine withPreds_cons rfl rfl ?_; rintro _ rfl; refine withPreds_nil rfl ?_; refine XO.eql rfl rfl rfl ?_; refine XO.nil ?_; refine XC.seq2 ?_; refine XC.cond rfl (fun c1_4 => ?_) (fun c1_4 => ?_)
   ·obtain rfl : d = 0 := by omega
    refine XC.seq ?_; refine XC.region ?_; refine XO.loadO 1 rfl rfl ty_34 rfl rfl rfl ?_; refine XO.storeO 1 rfl rfl rfl rfl ty_34 rfl rfl rfl rfl rfl ?_; refine XO.storeO 0 rfl rfl rfl rfl ty_4 rfl rfl rfl rfl rfl ?_; refine XO.nil ?_; refine XC.seq2 ?_; refine XC.ret ?_; refine seqX_ret ?_; refine ⟨rfl, _, [], (resC_cell 1 rfl rfl ty_34 rfl rfl (resC_cell 0 rfl rfl ty_4 rfl rfl resC_nil)), (by repeat (first | exact List.Sublist.refl _ | apply List.Sublist.cons_cons | apply List.Sublist.cons)), RetR.mk ?_⟩
    exact DenU.no (den_0 (by omega))
   ·obtain ⟨d, rfl⟩ : ∃ q, d = q + 1 := ⟨d - 1, by omega⟩
    obtain ⟨r, hr⟩ : ∃ r, w.B[l.length]? = some r := ⟨_, List.getElem?_eq_getElem (by omega)⟩
    have hle0 := lstE_at (pr := pr) hr hn
    have hcapl := hs.le
    refine XC.skip ?_; refine XC.seq2 ?_; refine XC.seq ?_; refine XC.region ?_; refine XO.loadO 3 rfl rfl ty_25 rfl rfl rfl ?_; refine XO.lenS (ts := #[]) rfl Try.underlying25 rfl ?_; refine XO.fieldAddr rfl fa_34_0 rfl ?_; refine XO.storeO 1 rfl rfl rfl rfl ty_3 rfl rfl rfl rfl rfl ?_; refine XO.nil ?_; refine XC.seq2 ?_; refine XC.seq ?_; refine XC.seq ?_; refine XC.region ?_; refine XO.loadO 4 rfl rfl ty_52 rfl rfl rfl ?_; refine XO.loadO 3 rfl rfl ty_25 rfl rfl rfl ?_; refine XO.lenS (ts := #[]) rfl Try.underlying25 rfl ?_; refine XO.callH rfl (lists_fn bj w old pr l.length n r hr hn (hok.rows r (List.mem_of_getElem? hr)) (by omega) (by omega) _ hJ) rfl ?_; rintro _ HL hleL ⟨bjc, be, rfl, hseq⟩; replace hJ := hJ.mono hleL; replace hs := hs.mono hleL; replace hj := hj.mono hleL; replace hB := hB.mono hleL; replace hO := hO.mono hleL; replace hP := hP.mono hleL; refine XO.nil ?_; refine XC.seq2 ?_; refine XC.block ?_; refine XC.keep [3, 4, 5, 6, 7, 36] rfl ?_; refine XC.open0 0 ?_; refine XC.rangeFuncF (lend := lendI) rfl (hseq) (fun _ _ => rfl) rfl rfl (fun pre Hl own => ∃ (pk : Nat × SObj) (ak : Option Addr) (ck : Nat) (ks : List Den), pk :: (b7, .cells 4 [.bool false]) :: (b6, .cells 34 [.int .i64 (l.length : Nat), .int .i64 0, .slice ak ks.length ck]) :: (b5, .cells 3 [.int .i64 lim]) :: (b4, .cells 25 [.slice a l.length c]) :: (b3, .cells 52 [.pointer (some ⟨bj, 0, none⟩)]) :: rest = own ∧ XL.Acc denR 34 Hl pk ak ck ks ∧ allS (fun x => denF w old pr lim d (l ++ [x])) pre = some ks) (fun cd Hl own => cd = .ret ∧ (b7, .cells 4 [.bool false]) :: (b6, .cells 34 [.int .i64 0, .int .i64 0, .slice none 0 0]) :: (b5, .cells 3 [.int .i64 lim]) :: (b4, .cells 25 [.slice a l.length c]) :: (b3, .cells 52 [.pointer (some ⟨bj, 0, none⟩)]) :: rest = own ∧ allS (fun x => denF w old pr lim d (l ++ [x])) (lstE w pr l.length) = none) (fun _ _ _ _ hle ⟨pk, ak, ck, ks, h1, h2, h3⟩ => ⟨pk, ak, ck, ks, h1, h2.mono hle, h3⟩) (⟨(0, .nothing), none, 0, [], rfl, Acc.nil _ _ _ _, rfl⟩) (.inl rfl) ?_ ?_ ?_
    ·rintro G lp hd1 hd2 hrec pre x post hxs ⟨ax, cx⟩ Hl _ ownL hleL ⟨pk, ak, ck, ks, rfl, hacck, hks⟩ ⟨rfl, hx⟩
     have hxl : x.length ≤ 1000 := by have := comb_len (show x ∈ comb (badR r) n pr by rw [hxs]; simp); omega
     have hkl := allS_len hks
     have hpl2 : pre.length ≤ 256 := by
      have h1 := comb_size (bad := badR r) n pr
      have h2 : 2 ^ pr.length ≤ 2 ^ 8 := Nat.pow_le_pow_right (by decide) hprl
      rw [hxs, List.length_append] at h1
      omega
     replace hJ := hJ.mono hleL; replace hs := hs.mono hleL; replace hj := hj.mono hleL; replace hB := hB.mono hleL; replace hO := hO.mono hleL; replace hP := hP.mono hleL; refine XC.region ?_; refine XO.assign rfl rfl ?_; refine XO.nil ?_; refine assignN ?_; refine XC.block ?_; refine XC.seq ?_; refine XC.keep [3, 4, 5, 6, 7, 9] rfl ?_
     apply XC.drawM (fun _ => True) trivial [15] (by decide) [(16, 15)] (fun _ v p _ => v = .pointer (some ⟨p.1, 0, none⟩) ∧ p.2 = .cells 34 [.int .i64 0, .int .i64 0, .slice none 0 0]) (fun _ v p H => ∃ a c, v = .pointer (some ⟨p.1, 0, none⟩) ∧ p.2 = .cells 34 [.int .i64 ((denF w old pr lim d (l ++ [x])).getD d0).E, .int .i64 ((denF w old pr lim d (l ++ [x])).getD d0).Y, .slice a ((denF w old pr lim d (l ++ [x])).getD d0).K.length c] ∧ SlR denR H a c ((denF w old pr lim d (l ++ [x])).getD d0).K) (fun _ _ _ _ _ _ h => h) (fun _ _ _ _ _ hle ⟨a, c, h1, h2, h3⟩ => ⟨a, c, h1, h2, h3.mono hle⟩) 17 [eqF _, eqF _, eqF _, eqF _, eqF _, eqF _, slCap ilR l, eqF _, slF ilR [x], slG ilR (l ++ [x]), eqF _, fun v H => DenU (denF w old pr lim d (l ++ [x])) H v, fun v H => DenU (denF w old pr lim d (l ++ [x])) H v, fun v H => DV H v ((denF w old pr lim d (l ++ [x])).getD d0), eqF _, anyF, anyF] follows (by kernel_rfl) ⟨eqF_mono _, eqF_mono _, eqF_mono _, eqF_mono _, eqF_mono _, eqF_mono _, slCap_mono _ _, eqF_mono _, slF_mono _ _, slG_mono _ _, eqF_mono _, fun _ _ _ hle h => h.mono hle, fun _ _ _ hle h => h.mono hle, fun _ _ _ hle h => h.mono hle, eqF_mono _, anyF_mono, anyF_mono, trivial⟩ (by decide) (by kernel_rfl) ?steps6 ?tail6
     case steps6 =>
      refine stepsM_cons rfl rfl ?_ ?_
      ·intro X ext HD hleD _
       replace hJ := hJ.mono hleD; replace hs := hs.mono hleD; replace hj := hj.mono hleD; replace hB := hB.mono hleD; replace hO := hO.mono hleD; replace hP := hP.mono hleD; replace hx := hx.mono hleD; replace hacck := hacck.mono hleD; refine withP_nil rfl ?_; refine XO.loadO 5 rfl rfl ty_52 rfl rfl rfl ?_; refine XO.nil ?_; exact stepQN_ok rfl trivial (rfl)
      refine stepsM_cons rfl rfl ?_ ?_
      ·intro X ext HD hleD _
       replace hJ := hJ.mono hleD; replace hs := hs.mono hleD; replace hj := hj.mono hleD; replace hB := hB.mono hleD; replace hO := hO.mono hleD; replace hP := hP.mono hleD; replace hx := hx.mono hleD; replace hacck := hacck.mono hleD; refine withP_nil rfl ?_; refine XO.loadO 4 rfl rfl ty_25 rfl rfl rfl ?_; refine XO.nil ?_; exact stepQN_ok rfl trivial (rfl)
      refine stepsM_cons rfl rfl ?_ ?_
      ·intro X ext HD hleD _
       replace hJ := hJ.mono hleD; replace hs := hs.mono hleD; replace hj := hj.mono hleD; replace hB := hB.mono hleD; replace hO := hO.mono hleD; replace hP := hP.mono hleD; replace hx := hx.mono hleD; replace hacck := hacck.mono hleD; refine withP_nil rfl ?_; refine XO.loadO 4 rfl rfl ty_25 rfl rfl rfl ?_; refine XO.nil ?_; exact stepQN_ok rfl trivial (rfl)
      refine stepsM_cons rfl rfl ?_ ?_
      ·intro X ext HD hleD _
       replace hJ := hJ.mono hleD; replace hs := hs.mono hleD; replace hj := hj.mono hleD; replace hB := hB.mono hleD; replace hO := hO.mono hleD; replace hP := hP.mono hleD; replace hx := hx.mono hleD; replace hacck := hacck.mono hleD; refine withP_cons rfl rfl ?_; rintro _ rfl; refine withP_nil rfl ?_; refine XO.lenS (ts := #[]) rfl Try.underlying25 rfl ?_; refine XO.nil ?_; exact stepQN_ok rfl trivial (rfl)
      refine stepsM_cons rfl rfl ?_ ?_
      ·intro X ext HD hleD _
       replace hJ := hJ.mono hleD; replace hs := hs.mono hleD; replace hj := hj.mono hleD; replace hB := hB.mono hleD; replace hO := hO.mono hleD; replace hP := hP.mono hleD; replace hx := hx.mono hleD; replace hacck := hacck.mono hleD; refine withP_nil rfl ?_; refine XO.loadO 4 rfl rfl ty_25 rfl rfl rfl ?_; refine XO.nil ?_; exact stepQN_ok rfl trivial (rfl)
      refine stepsM_cons rfl rfl ?_ ?_
      ·intro X ext HD hleD _
       replace hJ := hJ.mono hleD; replace hs := hs.mono hleD; replace hj := hj.mono hleD; replace hB := hB.mono hleD; replace hO := hO.mono hleD; replace hP := hP.mono hleD; replace hx := hx.mono hleD; replace hacck := hacck.mono hleD; refine withP_cons rfl rfl ?_; rintro _ rfl; refine withP_nil rfl ?_; refine XO.lenS (ts := #[]) rfl Try.underlying25 rfl ?_; refine XO.nil ?_; exact stepQN_ok rfl trivial (rfl)
      refine stepsM_cons rfl rfl ?_ ?_
      ·intro X ext HD hleD _
       replace hJ := hJ.mono hleD; replace hs := hs.mono hleD; replace hj := hj.mono hleD; replace hB := hB.mono hleD; replace hO := hO.mono hleD; replace hP := hP.mono hleD; replace hx := hx.mono hleD; replace hacck := hacck.mono hleD; refine withP_cons rfl rfl ?_; rintro _ rfl; refine withP_cons rfl rfl ?_; rintro _ rfl; refine withP_cons rfl rfl ?_; rintro _ rfl; refine withP_nil rfl ?_; refine XO.slice (lo' := 0) (hi' := (l.length : Int)) (m' := (l.length : Int)) rfl (by assumption) ev?_none (ev?_some rfl) (ev?_some rfl) (by simp) (by omega) (by omega) (by omega) (by omega) (by omega) Try.underlying25 ty_26 rfl (fun as45 ls45 hls45 hss45 => ?_)
       obtain rfl : ls45 = l := by first | (rw [hls45]; simp only [Int.toNat_natCast, Nat.add_sub_cancel_left]; done) | (rw [hls45]; simp; done) | (rw [hls45]; simp; rw [List.take_of_length_le (by simp)]; done) | (rw [hls45]; simp only [Int.toNat_natCast]; exact List.take_of_length_le (by rw [List.length_drop]; omega))
       refine XO.nil ?_
       exact stepQN_ok rfl trivial (⟨_, _, rfl, hss45, by simp⟩)
      refine stepsM_cons rfl rfl ?_ ?_
      ·intro X ext HD hleD _
       replace hJ := hJ.mono hleD; replace hs := hs.mono hleD; replace hj := hj.mono hleD; replace hB := hB.mono hleD; replace hO := hO.mono hleD; replace hP := hP.mono hleD; replace hx := hx.mono hleD; replace hacck := hacck.mono hleD; refine withP_nil rfl ?_; refine XO.move rfl rfl ?_; refine XO.nil ?_; exact stepQN_ok rfl trivial (rfl)
      refine stepsM_cons rfl rfl ?_ ?_
      ·intro X ext HD hleD _
       replace hJ := hJ.mono hleD; replace hs := hs.mono hleD; replace hj := hj.mono hleD; replace hB := hB.mono hleD; replace hO := hO.mono hleD; replace hP := hP.mono hleD; replace hx := hx.mono hleD; replace hacck := hacck.mono hleD; refine withP_cons rfl rfl ?_; rintro _ rfl; refine withP_nil rfl ?_; refine XO.buildSlice rfl Try.underlying25 ty_26 ze_26 rfl rfl rfl (fun b47 => ?_); refine XO.publish 0 rfl rfl rfl (fun HP47 oP47 hleP47 hbP47 hoP47 => ?_); replace hJ := hJ.mono hleP47; replace hs := hs.mono hleP47; replace hj := hj.mono hleP47; replace hB := hB.mono hleP47; replace hO := hO.mono hleP47; replace hP := hP.mono hleP47; replace hx := hx.mono hleP47; replace hacck := hacck.mono hleP47
       have hsl47 := SlR.lit (ρ := ilR) (l := [x]) hbP47 hoP47 (RowsR.one1 ⟨_, _, rfl, hx⟩)
       refine XO.nil ?_
       exact stepQN_ok rfl trivial (⟨_, rfl, hsl47⟩)
      refine stepsM_cons rfl rfl ?_ ?_
      ·intro X ext HD hleD _
       replace hJ := hJ.mono hleD; replace hs := hs.mono hleD; replace hj := hj.mono hleD; replace hB := hB.mono hleD; replace hO := hO.mono hleD; replace hP := hP.mono hleD; replace hx := hx.mono hleD; replace hacck := hacck.mono hleD; refine withP_cons rfl rfl ?_; rintro _ ⟨a45, c45, rfl, hsl45, hcap45⟩; refine withP_cons rfl rfl ?_; rintro _ ⟨bs47, rfl, hsl47⟩; refine withP_nil rfl ?_; refine XO.appendP rfl hsl45 rfl rfl hsl47 rfl (by exact hcap45) Try.underlying25 ty_26 ze_26 rfl by_26 (by simp; omega) rfl (fun HA48 aA48 cA48 hleA48 hsA48 => ?_); replace hJ := hJ.mono hleA48; replace hs := hs.mono hleA48; replace hj := hj.mono hleA48; replace hB := hB.mono hleA48; replace hO := hO.mono hleA48; replace hP := hP.mono hleA48; replace hx := hx.mono hleA48; replace hacck := hacck.mono hleA48; replace hsl45 := hsl45.mono hleA48; replace hsl47 := hsl47.mono hleA48; refine XO.nil ?_
       exact stepQN_ok rfl trivial (⟨_, _, rfl, hsA48⟩)
      refine stepsM_cons rfl rfl ?_ ?_
      ·intro X ext HD hleD _
       replace hJ := hJ.mono hleD; replace hs := hs.mono hleD; replace hj := hj.mono hleD; replace hB := hB.mono hleD; replace hO := hO.mono hleD; replace hP := hP.mono hleD; replace hx := hx.mono hleD; replace hacck := hacck.mono hleD; refine withP_nil rfl ?_; refine XO.loadO 3 rfl rfl ty_3 rfl rfl rfl ?_; refine XO.nil ?_; exact stepQN_ok rfl trivial (rfl)
      refine stepsM_cons rfl rfl ?_ ?_
      ·intro X ext HD hleD _
       replace hJ := hJ.mono hleD; replace hs := hs.mono hleD; replace hj := hj.mono hleD; replace hB := hB.mono hleD; replace hO := hO.mono hleD; replace hP := hP.mono hleD; replace hx := hx.mono hleD; replace hacck := hacck.mono hleD; refine withP_cons rfl rfl ?_; rintro _ rfl; refine withP_cons rfl rfl ?_; rintro _ ⟨a48, c48, rfl, hsl48⟩; refine withP_cons rfl rfl ?_; rintro _ rfl; refine withP_nil rfl ?_
       have hcall := ih d (by omega) (l ++ [x]) _ _ _ (by simp; omega) (fun z hz => (List.mem_append.1 hz).elim (hw z) (fun h => by simp only [List.mem_singleton] at h; subst h; exact hxl)) hJ hsl48
       refine XO.callH rfl hcall rfl ?_; rintro _ HF hleF ⟨aF, cF, rfl, hF⟩; replace hJ := hJ.mono hleF; replace hs := hs.mono hleF; replace hj := hj.mono hleF; replace hB := hB.mono hleF; replace hO := hO.mono hleF; replace hP := hP.mono hleF; replace hx := hx.mono hleF; replace hacck := hacck.mono hleF; replace hsl48 := hsl48.mono hleF; refine XO.nil ?_
       exact stepQN_ok rfl trivial (⟨_, _, rfl, hF⟩)
      refine stepsM_cons rfl rfl ?_ ?_
      ·intro X ext HD hleD _
       replace hJ := hJ.mono hleD; replace hs := hs.mono hleD; replace hj := hj.mono hleD; replace hB := hB.mono hleD; replace hO := hO.mono hleD; replace hP := hP.mono hleD; replace hx := hx.mono hleD; replace hacck := hacck.mono hleD; refine withP_cons rfl rfl ?_; rintro _ ⟨aF, cF, rfl, hF⟩; refine withP_nil rfl ?_; refine XO.move rfl rfl ?_; refine XO.nil ?_
       exact stepQN_ok rfl trivial (⟨_, _, rfl, hF⟩)
      refine stepsM_cons rfl rfl ?_ ?_
      ·intro X ext HD hleD _
       replace hJ := hJ.mono hleD; replace hs := hs.mono hleD; replace hj := hj.mono hleD; replace hB := hB.mono hleD; replace hO := hO.mono hleD; replace hP := hP.mono hleD; replace hx := hx.mono hleD; replace hacck := hacck.mono hleD; refine withP_cons rfl rfl ?_; rintro _ ⟨aG, cG, rfl, hG⟩; refine withP_nil rfl ?_; refine XO.extract rfl rfl rfl ?_; refine XO.nil ?_
       exact stepQN_ok rfl trivial (⟨_, _, rfl, hG⟩)
      refine stepsM_cons rfl rfl ?_ ?_
      ·intro X ext HD hleD _
       replace hJ := hJ.mono hleD; replace hs := hs.mono hleD; replace hj := hj.mono hleD; replace hB := hB.mono hleD; replace hO := hO.mono hleD; replace hP := hP.mono hleD; replace hx := hx.mono hleD; replace hacck := hacck.mono hleD; refine withP_cons rfl rfl ?_; rintro _ ⟨aG, cG, rfl, hG⟩; refine withP_nil rfl ?_; refine XO.extract rfl rfl rfl ?_; refine XO.nil ?_; exact stepQN_ok rfl trivial (rfl)
      refine stepsM_cons rfl rfl ?_ ?_
      ·intro X ext HD hleD _
       replace hJ := hJ.mono hleD; replace hs := hs.mono hleD; replace hj := hj.mono hleD; replace hB := hB.mono hleD; replace hO := hO.mono hleD; replace hP := hP.mono hleD; replace hx := hx.mono hleD; replace hacck := hacck.mono hleD; refine withP_nil rfl ?_; refine XO.alloc ze_34 rfl (fun b10 => ?_); refine XO.nil ?_
       exact stepQN_new rfl trivial trivial (⟨rfl, rfl⟩)
      refine stepsM_mod rfl rfl ?_ ?_
      ·intro X ext p HD hleD _
       replace hJ := hJ.mono hleD; replace hs := hs.mono hleD; replace hj := hj.mono hleD; replace hB := hB.mono hleD; replace hO := hO.mono hleD; replace hP := hP.mono hleD; replace hx := hx.mono hleD; replace hacck := hacck.mono hleD; refine withP_cons rfl rfl ?_; rintro _ _; refine withP_cons rfl rfl ?_; rintro _ ⟨aD, cD, rfl, hD⟩; refine withP_nil rfl ?_
       intro hfo
       obtain ⟨be15, se15⟩ := p; obtain ⟨rfl, hse15⟩ := hfo _ _ rfl rfl
       simp only at hse15
       subst hse15
       refine XO.storeO 0 rfl rfl rfl rfl ty_34 rfl rfl rfl rfl rfl ?_; refine XO.nil ?_
       exact stepQM_ok trivial (trivial) (fun u t h1 h2 => by cases (show some _ = some t from h1); cases (show some (Value.pointer _) = some u from h2); exact ⟨_, _, rfl, rfl, hD⟩)
      exact stepsM_end rfl
     case tail6 =>
      intro HD hleD _
      replace hJ := hJ.mono hleD; replace hs := hs.mono hleD; replace hj := hj.mono hleD; replace hB := hB.mono hleD; replace hO := hO.mono hleD; replace hP := hP.mono hleD; replace hx := hx.mono hleD; replace hacck := hacck.mono hleD; refine withP_cons rfl rfl ?_; rintro _ rfl; refine withP_cons rfl rfl ?_; rintro _ rfl; refine withP_cons rfl rfl ?_; rintro _ rfl; refine withP_cons rfl rfl ?_; rintro _ rfl; refine withP_cons rfl rfl ?_; rintro _ rfl; refine withP_cons rfl rfl ?_; rintro _ rfl; refine withP_cons rfl rfl ?_; rintro _ ⟨a45, c45, rfl, hsl45, hcap45⟩; refine withP_cons rfl rfl ?_; rintro _ rfl; refine withP_cons rfl rfl ?_; rintro _ ⟨bs47, rfl, hsl47⟩; refine withP_cons rfl rfl ?_; rintro _ ⟨a48, c48, rfl, hsl48⟩; refine withP_cons rfl rfl ?_; rintro _ rfl; refine withP_cons rfl rfl ?_; rintro _ ⟨aF, cF, rfl, hF⟩; refine withP_cons rfl rfl ?_; rintro _ ⟨aG, cG, rfl, hG⟩; refine withP_cons rfl rfl ?_; rintro _ ⟨aD, cD, rfl, hD⟩; refine withP_cons rfl rfl ?_; rintro _ rfl; refine withP_cons rfl rfl ?_; rintro _ _; refine withP_skip rfl rfl ?_; refine withP_nil rfl ?_; refine withEnts_cons ?_
      intro pk_ hpk_
      obtain ⟨am15, cm15, rfl, hpk2, hm15⟩ := hpk_ _ ⟨_, rfl, rfl⟩; obtain ⟨be15, se15⟩ := pk_
      simp only at hpk2
      subst hpk2
      refine withEnts_nil ?_; refine XO.assign rfl rfl ?_; refine XO.nil ?_; refine XC.seq2 ?_; refine XC.seq ?_; refine XC.seq ?_; refine XC.region ?_; refine XO.move rfl rfl ?_; refine XO.notB rfl rfl ?_; refine XO.nil ?_; refine XC.seq2 ?_; refine XC.condB rfl (fun c2_9 => ?_) (fun c2_9 => ?_)
      ·refine XC.seq ?_; refine XC.region ?_; refine XO.build bk_34 bf_34 ze_34 rfl rfl rfl ?_; refine XO.storeO 3 rfl rfl rfl rfl ty_34 rfl rfl rfl rfl rfl ?_; refine XO.storeO 2 rfl rfl rfl rfl ty_4 rfl rfl rfl rfl rfl ?_; refine XO.nil ?_; refine XC.seq2 ?_; refine XC.ret ?_; refine seqX_ret ?_; refine blockR ?_; refine ⟨rfl, ((b7, .cells 4 [.bool false]) :: (b6, .cells 34 [.int .i64 0, .int .i64 0, .slice none 0 0]) :: (b5, .cells 3 [.int .i64 lim]) :: (b4, .cells 25 [.slice a l.length c]) :: (b3, .cells 52 [.pointer (some ⟨bj, 0, none⟩)]) :: rest), (by repeat (first | exact List.Sublist.refl _ | apply List.Sublist.cons)), ?_⟩
       exact ⟨rfl, rfl, by rw [hle0, hxs]; exact allS_none (x := x) (by simp) (isSome_no (by simp_all))⟩
      ·refine XC.skip ?_; refine XC.seq2 ?_; refine XC.keep [6, 10] rfl ?_
       apply XC.drawA (fun _ => True) trivial [] (by decide) (fun _ _ _ _ => True) (fun _ _ _ _ _ _ h => h) 5 [eqF _, eqF _, eqF _, eqF _, slF denR [.mk 0 0 []]] follows (by kernel_rfl) ⟨eqF_mono _, eqF_mono _, eqF_mono _, eqF_mono _, slF_mono _ _, trivial⟩ (by decide) ?steps10 ?tail10
       case steps10 =>
        refine stepsH_cons rfl ?_ ?_
        ·intro X ext HD hleD _
         replace hJ := hJ.mono hleD; replace hs := hs.mono hleD; replace hj := hj.mono hleD; replace hB := hB.mono hleD; replace hO := hO.mono hleD; replace hP := hP.mono hleD; replace hx := hx.mono hleD; replace hacck := hacck.mono hleD; replace hsl45 := hsl45.mono hleD; replace hsl47 := hsl47.mono hleD; replace hsl48 := hsl48.mono hleD; replace hm15 := hm15.mono hleD; refine withP_nil rfl ?_; refine XO.fieldAddr rfl fa_34_2 rfl ?_; refine XO.nil ?_; exact stepQN_ok rfl trivial (rfl)
        refine stepsH_cons rfl ?_ ?_
        ·intro X ext HD hleD _
         replace hJ := hJ.mono hleD; replace hs := hs.mono hleD; replace hj := hj.mono hleD; replace hB := hB.mono hleD; replace hO := hO.mono hleD; replace hP := hP.mono hleD; replace hx := hx.mono hleD; replace hacck := hacck.mono hleD; replace hsl45 := hsl45.mono hleD; replace hsl47 := hsl47.mono hleD; replace hsl48 := hsl48.mono hleD; replace hm15 := hm15.mono hleD; refine withP_cons rfl rfl ?_; rintro _ rfl; refine withP_nil rfl ?_; refine XO.loadO 3 rfl rfl ty_32 rfl rfl rfl ?_; refine XO.nil ?_; exact stepQN_ok rfl trivial (rfl)
        refine stepsH_cons rfl ?_ ?_
        ·intro X ext HD hleD _
         replace hJ := hJ.mono hleD; replace hs := hs.mono hleD; replace hj := hj.mono hleD; replace hB := hB.mono hleD; replace hO := hO.mono hleD; replace hP := hP.mono hleD; replace hx := hx.mono hleD; replace hacck := hacck.mono hleD; replace hsl45 := hsl45.mono hleD; replace hsl47 := hsl47.mono hleD; replace hsl48 := hsl48.mono hleD; replace hm15 := hm15.mono hleD; refine withP_nil rfl ?_; refine XO.loadO 0 rfl rfl ty_34 rfl rfl rfl ?_; refine XO.nil ?_; exact stepQN_ok rfl trivial (rfl)
        refine stepsH_cons rfl ?_ ?_
        ·intro X ext HD hleD _
         replace hJ := hJ.mono hleD; replace hs := hs.mono hleD; replace hj := hj.mono hleD; replace hB := hB.mono hleD; replace hO := hO.mono hleD; replace hP := hP.mono hleD; replace hx := hx.mono hleD; replace hacck := hacck.mono hleD; replace hsl45 := hsl45.mono hleD; replace hsl47 := hsl47.mono hleD; replace hsl48 := hsl48.mono hleD; replace hm15 := hm15.mono hleD; refine withP_cons rfl rfl ?_; rintro _ rfl; refine withP_nil rfl ?_; refine XO.lenS (ts := #[]) rfl Try.underlying32 rfl ?_; refine XO.nil ?_; exact stepQN_ok rfl trivial (rfl)
        refine stepsH_cons rfl ?_ ?_
        ·intro X ext HD hleD _
         replace hJ := hJ.mono hleD; replace hs := hs.mono hleD; replace hj := hj.mono hleD; replace hB := hB.mono hleD; replace hO := hO.mono hleD; replace hP := hP.mono hleD; replace hx := hx.mono hleD; replace hacck := hacck.mono hleD; replace hsl45 := hsl45.mono hleD; replace hsl47 := hsl47.mono hleD; replace hsl48 := hsl48.mono hleD; replace hm15 := hm15.mono hleD; refine withP_nil rfl ?_; refine XO.buildSlice rfl Try.underlying32 ty_34 ze_34 rfl rfl rfl (fun b60 => ?_); refine XO.publish 0 rfl rfl rfl (fun HP60 oP60 hleP60 hbP60 hoP60 => ?_); replace hJ := hJ.mono hleP60; replace hs := hs.mono hleP60; replace hj := hj.mono hleP60; replace hB := hB.mono hleP60; replace hO := hO.mono hleP60; replace hP := hP.mono hleP60; replace hx := hx.mono hleP60; replace hacck := hacck.mono hleP60; replace hsl45 := hsl45.mono hleP60; replace hsl47 := hsl47.mono hleP60; replace hsl48 := hsl48.mono hleP60; replace hm15 := hm15.mono hleP60
         have hsl60 := SlR.lit (ρ := denR) (l := [.mk 0 0 []]) hbP60 hoP60 (RowsR.one1 (denR_iff.2 ⟨none, 0, rfl, SlR.nil0 _ _⟩))
         refine XO.nil ?_
         exact stepQN_ok rfl trivial (⟨_, rfl, hsl60⟩)
        exact stepsH_end rfl
       case tail10 =>
        intro HD hleD _
        replace hJ := hJ.mono hleD; replace hs := hs.mono hleD; replace hj := hj.mono hleD; replace hB := hB.mono hleD; replace hO := hO.mono hleD; replace hP := hP.mono hleD; replace hx := hx.mono hleD; replace hacck := hacck.mono hleD; replace hsl45 := hsl45.mono hleD; replace hsl47 := hsl47.mono hleD; replace hsl48 := hsl48.mono hleD; replace hm15 := hm15.mono hleD; refine withP_cons rfl rfl ?_; rintro _ rfl; refine withP_cons rfl rfl ?_; rintro _ rfl; refine withP_cons rfl rfl ?_; rintro _ rfl; refine withP_cons rfl rfl ?_; rintro _ rfl; refine withP_cons rfl rfl ?_; rintro _ ⟨bs60, rfl, hsl60⟩; refine withP_nil rfl ?_; refine withEnts_nil ?_; refine XAny.one (i := 5) (by kernel_rfl) (by kernel_rfl) rfl ?_; refine XO.appendA 1 rfl rfl hacck rfl rfl hsl60 rfl Try.underlying32 ty_34 ze_34 rfl by_34 (by simp; omega) rfl (fun p61 a61 c61 hacc61 => ?_); refine XO.nil ?_; refine anyN ?_; refine XAny.two (i := 6) (k := 8) (by kernel_rfl) (by kernel_rfl) rfl rfl ?_ ?_
        ·skip
         have haddr61 := hacc61.addr (by simp)
         subst haddr61
         refine XO.indexE rfl rfl Try.underlying32 ty_34 (by omega) (by simp; omega) rfl ?_; refine XO.nil ?_; refine anyN ?_; refine XAny.two (i := 7) (k := 8) (by kernel_rfl) (by kernel_rfl) rfl rfl ?_ ?_
         ·skip
          refine XO.storeA 1 rfl rfl rfl hacc61 (by simp) rfl (denR_iff.2 ⟨_, _, rfl, hm15⟩) ty_34 rfl (fun pS haccS => ?_)
          rw [Int.toNat_natCast, set_last] at haccS
          refine XO.nil ?_; refine anyN ?_; refine XAny.one (i := 8) (by kernel_rfl) (by kernel_rfl) rfl ?_; refine XO.fieldAddr rfl fa_34_2 rfl ?_; refine XO.nil ?_; refine anyN ?_; refine XAny.one (i := 9) (by kernel_rfl) (by kernel_rfl) rfl ?_; refine XO.storeO 3 rfl rfl rfl rfl ty_32 rfl rfl rfl rfl rfl ?_; refine XO.nil ?_; refine anyN ?_; refine XAny.done (by kernel_rfl) ?_; refine blockN ?_; refine ⟨rfl, (pS :: (b7, .cells 4 [.bool false]) :: (b6, .cells 34 [.int .i64 (l.length : Nat), .int .i64 0, .slice (some ⟨p61.1, 0, none⟩) (ks ++ [Den.mk 0 0 []]).length c61]) :: (b5, .cells 3 [.int .i64 lim]) :: (b4, .cells 25 [.slice a l.length c]) :: (b3, .cells 52 [.pointer (some ⟨bj, 0, none⟩)]) :: rest), (by repeat (first | exact List.Sublist.refl _ | apply List.Sublist.cons)), ?_⟩
          exact ⟨_, rfl, pS, _, _, _, by rw [show (ks ++ [Den.mk ((denF w old pr lim d (l ++ [x])).getD d0).E ((denF w old pr lim d (l ++ [x])).getD d0).Y ((denF w old pr lim d (l ++ [x])).getD d0).K]).length = (ks ++ [Den.mk 0 0 []]).length by simp], haccS, by rw [eta_den]; exact allS_snoc hks (getD_some (by simp_all))⟩
         ·skip
          refine XO.fieldAddr rfl fa_34_2 rfl ?_; refine XO.nil ?_; refine anyN ?_; refine XAny.two (i := 7) (k := 9) (by kernel_rfl) (by kernel_rfl) rfl rfl ?_ ?_
          ·skip
           refine XO.storeA 1 rfl rfl rfl hacc61 (by simp) rfl (denR_iff.2 ⟨_, _, rfl, hm15⟩) ty_34 rfl (fun pS haccS => ?_)
           rw [Int.toNat_natCast, set_last] at haccS
           refine XO.nil ?_; refine anyN ?_; refine XAny.one (i := 9) (by kernel_rfl) (by kernel_rfl) rfl ?_; refine XO.storeO 3 rfl rfl rfl rfl ty_32 rfl rfl rfl rfl rfl ?_; refine XO.nil ?_; refine anyN ?_; refine XAny.done (by kernel_rfl) ?_; refine blockN ?_; refine ⟨rfl, (pS :: (b7, .cells 4 [.bool false]) :: (b6, .cells 34 [.int .i64 (l.length : Nat), .int .i64 0, .slice (some ⟨p61.1, 0, none⟩) (ks ++ [Den.mk 0 0 []]).length c61]) :: (b5, .cells 3 [.int .i64 lim]) :: (b4, .cells 25 [.slice a l.length c]) :: (b3, .cells 52 [.pointer (some ⟨bj, 0, none⟩)]) :: rest), (by repeat (first | exact List.Sublist.refl _ | apply List.Sublist.cons)), ?_⟩
           exact ⟨_, rfl, pS, _, _, _, by rw [show (ks ++ [Den.mk ((denF w old pr lim d (l ++ [x])).getD d0).E ((denF w old pr lim d (l ++ [x])).getD d0).Y ((denF w old pr lim d (l ++ [x])).getD d0).K]).length = (ks ++ [Den.mk 0 0 []]).length by simp], haccS, by rw [eta_den]; exact allS_snoc hks (getD_some (by simp_all))⟩
          ·skip
           refine XO.storeO 3 rfl rfl rfl rfl ty_32 rfl rfl rfl rfl rfl ?_; refine XO.nil ?_; refine anyN ?_; refine XAny.one (i := 7) (by kernel_rfl) (by kernel_rfl) rfl ?_; refine XO.storeA 1 rfl rfl rfl hacc61 (by simp) rfl (denR_iff.2 ⟨_, _, rfl, hm15⟩) ty_34 rfl (fun pS haccS => ?_)
           rw [Int.toNat_natCast, set_last] at haccS
           refine XO.nil ?_; refine anyN ?_; refine XAny.done (by kernel_rfl) ?_; refine blockN ?_; refine ⟨rfl, (pS :: (b7, .cells 4 [.bool false]) :: (b6, .cells 34 [.int .i64 (l.length : Nat), .int .i64 0, .slice (some ⟨p61.1, 0, none⟩) (ks ++ [Den.mk 0 0 []]).length c61]) :: (b5, .cells 3 [.int .i64 lim]) :: (b4, .cells 25 [.slice a l.length c]) :: (b3, .cells 52 [.pointer (some ⟨bj, 0, none⟩)]) :: rest), (by repeat (first | exact List.Sublist.refl _ | apply List.Sublist.cons)), ?_⟩
           exact ⟨_, rfl, pS, _, _, _, by rw [show (ks ++ [Den.mk ((denF w old pr lim d (l ++ [x])).getD d0).E ((denF w old pr lim d (l ++ [x])).getD d0).Y ((denF w old pr lim d (l ++ [x])).getD d0).K]).length = (ks ++ [Den.mk 0 0 []]).length by simp], haccS, by rw [eta_den]; exact allS_snoc hks (getD_some (by simp_all))⟩
        ·skip
         refine XO.fieldAddr rfl fa_34_2 rfl ?_; refine XO.nil ?_; refine anyN ?_; refine XAny.two (i := 6) (k := 9) (by kernel_rfl) (by kernel_rfl) rfl rfl ?_ ?_
         ·skip
          have haddr61 := hacc61.addr (by simp)
          subst haddr61
          refine XO.indexE rfl rfl Try.underlying32 ty_34 (by omega) (by simp; omega) rfl ?_; refine XO.nil ?_; refine anyN ?_; refine XAny.two (i := 7) (k := 9) (by kernel_rfl) (by kernel_rfl) rfl rfl ?_ ?_
          ·skip
           refine XO.storeA 1 rfl rfl rfl hacc61 (by simp) rfl (denR_iff.2 ⟨_, _, rfl, hm15⟩) ty_34 rfl (fun pS haccS => ?_)
           rw [Int.toNat_natCast, set_last] at haccS
           refine XO.nil ?_; refine anyN ?_; refine XAny.one (i := 9) (by kernel_rfl) (by kernel_rfl) rfl ?_; refine XO.storeO 3 rfl rfl rfl rfl ty_32 rfl rfl rfl rfl rfl ?_; refine XO.nil ?_; refine anyN ?_; refine XAny.done (by kernel_rfl) ?_; refine blockN ?_; refine ⟨rfl, (pS :: (b7, .cells 4 [.bool false]) :: (b6, .cells 34 [.int .i64 (l.length : Nat), .int .i64 0, .slice (some ⟨p61.1, 0, none⟩) (ks ++ [Den.mk 0 0 []]).length c61]) :: (b5, .cells 3 [.int .i64 lim]) :: (b4, .cells 25 [.slice a l.length c]) :: (b3, .cells 52 [.pointer (some ⟨bj, 0, none⟩)]) :: rest), (by repeat (first | exact List.Sublist.refl _ | apply List.Sublist.cons)), ?_⟩
           exact ⟨_, rfl, pS, _, _, _, by rw [show (ks ++ [Den.mk ((denF w old pr lim d (l ++ [x])).getD d0).E ((denF w old pr lim d (l ++ [x])).getD d0).Y ((denF w old pr lim d (l ++ [x])).getD d0).K]).length = (ks ++ [Den.mk 0 0 []]).length by simp], haccS, by rw [eta_den]; exact allS_snoc hks (getD_some (by simp_all))⟩
          ·skip
           refine XO.storeO 3 rfl rfl rfl rfl ty_32 rfl rfl rfl rfl rfl ?_; refine XO.nil ?_; refine anyN ?_; refine XAny.one (i := 7) (by kernel_rfl) (by kernel_rfl) rfl ?_; refine XO.storeA 1 rfl rfl rfl hacc61 (by simp) rfl (denR_iff.2 ⟨_, _, rfl, hm15⟩) ty_34 rfl (fun pS haccS => ?_)
           rw [Int.toNat_natCast, set_last] at haccS
           refine XO.nil ?_; refine anyN ?_; refine XAny.done (by kernel_rfl) ?_; refine blockN ?_; refine ⟨rfl, (pS :: (b7, .cells 4 [.bool false]) :: (b6, .cells 34 [.int .i64 (l.length : Nat), .int .i64 0, .slice (some ⟨p61.1, 0, none⟩) (ks ++ [Den.mk 0 0 []]).length c61]) :: (b5, .cells 3 [.int .i64 lim]) :: (b4, .cells 25 [.slice a l.length c]) :: (b3, .cells 52 [.pointer (some ⟨bj, 0, none⟩)]) :: rest), (by repeat (first | exact List.Sublist.refl _ | apply List.Sublist.cons)), ?_⟩
           exact ⟨_, rfl, pS, _, _, _, by rw [show (ks ++ [Den.mk ((denF w old pr lim d (l ++ [x])).getD d0).E ((denF w old pr lim d (l ++ [x])).getD d0).Y ((denF w old pr lim d (l ++ [x])).getD d0).K]).length = (ks ++ [Den.mk 0 0 []]).length by simp], haccS, by rw [eta_den]; exact allS_snoc hks (getD_some (by simp_all))⟩
         ·skip
          refine XO.storeO 3 rfl rfl rfl rfl ty_32 rfl rfl rfl rfl rfl ?_; refine XO.nil ?_; refine anyN ?_; refine XAny.one (i := 6) (by kernel_rfl) (by kernel_rfl) rfl ?_
          have haddr61 := hacc61.addr (by simp)
          subst haddr61
          refine XO.indexE rfl rfl Try.underlying32 ty_34 (by omega) (by simp; omega) rfl ?_; refine XO.nil ?_; refine anyN ?_; refine XAny.one (i := 7) (by kernel_rfl) (by kernel_rfl) rfl ?_; refine XO.storeA 1 rfl rfl rfl hacc61 (by simp) rfl (denR_iff.2 ⟨_, _, rfl, hm15⟩) ty_34 rfl (fun pS haccS => ?_)
          rw [Int.toNat_natCast, set_last] at haccS
          refine XO.nil ?_; refine anyN ?_; refine XAny.done (by kernel_rfl) ?_; refine blockN ?_; refine ⟨rfl, (pS :: (b7, .cells 4 [.bool false]) :: (b6, .cells 34 [.int .i64 (l.length : Nat), .int .i64 0, .slice (some ⟨p61.1, 0, none⟩) (ks ++ [Den.mk 0 0 []]).length c61]) :: (b5, .cells 3 [.int .i64 lim]) :: (b4, .cells 25 [.slice a l.length c]) :: (b3, .cells 52 [.pointer (some ⟨bj, 0, none⟩)]) :: rest), (by repeat (first | exact List.Sublist.refl _ | apply List.Sublist.cons)), ?_⟩
          exact ⟨_, rfl, pS, _, _, _, by rw [show (ks ++ [Den.mk ((denF w old pr lim d (l ++ [x])).getD d0).E ((denF w old pr lim d (l ++ [x])).getD d0).Y ((denF w old pr lim d (l ++ [x])).getD d0).K]).length = (ks ++ [Den.mk 0 0 []]).length by simp], haccS, by rw [eta_den]; exact allS_snoc hks (getD_some (by simp_all))⟩
    ·rintro Hl ownL hleL ⟨pk, ak, ck, ks, rfl, hacck, hks⟩; replace hJ := hJ.mono hleL; replace hs := hs.mono hleL; replace hj := hj.mono hleL; replace hB := hB.mono hleL; replace hO := hO.mono hleL; replace hP := hP.mono hleL; refine blockN ?_; refine XC.seq2 ?_; refine XC.seq ?_; refine XC.region ?_; refine XO.publishA 0 rfl hacck rfl (fun HQ hleQ hsQ => ?_); replace hJ := hJ.mono hleQ; replace hs := hs.mono hleQ; replace hj := hj.mono hleQ; replace hB := hB.mono hleQ; replace hO := hO.mono hleQ; replace hP := hP.mono hleQ; refine XO.loadO 1 rfl rfl ty_34 rfl rfl rfl ?_; refine XO.storeO 1 rfl rfl rfl rfl ty_34 rfl rfl rfl rfl rfl ?_; refine XO.storeO 0 rfl rfl rfl rfl ty_4 rfl rfl rfl rfl rfl ?_; refine XO.nil ?_; refine XC.seq2 ?_; refine XC.ret ?_; refine ⟨rfl, _, [], (resC_cell 1 rfl rfl ty_34 rfl rfl (resC_cell 0 rfl rfl ty_4 rfl rfl resC_nil)), (by repeat (first | exact List.Sublist.refl _ | apply List.Sublist.cons_cons | apply List.Sublist.cons)), RetR.mk ?_⟩
     exact DenU.yes (by rw [den_s (by omega), hle0, hks]; rfl) (by assumption)
    ·rintro _ Hl ownL hleL ⟨rfl, rfl, hnone⟩; replace hJ := hJ.mono hleL; replace hs := hs.mono hleL; replace hj := hj.mono hleL; replace hB := hB.mono hleL; replace hO := hO.mono hleL; replace hP := hP.mono hleL; refine XC.ret ?_; refine blockR ?_; refine seqX_ret ?_; refine ⟨rfl, _, [], (resC_cell 1 rfl rfl ty_34 rfl rfl (resC_cell 0 rfl rfl ty_4 rfl rfl resC_nil)), (by repeat (first | exact List.Sublist.refl _ | apply List.Sublist.cons_cons | apply List.Sublist.cons)), RetR.mk ?_⟩
     exact DenU.no (by rw [den_s (by omega), hnone]; rfl)

end Go.Proofs

/- Repairs: what refutes, in plain Lean. -/
set_option autoImplicit false
set_option linter.unusedVariables false
set_option linter.unusedSimpArgs false
namespace Go.Proofs
open Go.XL
theorem leaf_iff {w : Wi} {old : Ls} {pr : List Int} {lim : Int} {l : Ls} {e y : Int} {ks : List Den} {bj : Nat} : leafB w old pr lim l (.mk e y ks) = true ↔ ks.length = 0 ∧ ∃ x ∈ rsL bj, x.1 = y ∧ isY w old pr l lim x.1 = true := by
 unfold leafB
 simp only [Den.K, Den.Y, Bool.and_eq_true, List.isEmpty_iff, List.length_eq_zero_iff, Bool.or_eq_true, decide_eq_true_eq]
 constructor
 ·rintro ⟨h1, h2, h3⟩; refine ⟨h1, ?_⟩
  rcases h2 with (h | h) | h <;> obtain rfl := of_decide_eq_true h
  ·exact ⟨(3, 62, bj), by simp [rsL], rfl, h3⟩
  ·exact ⟨(1, 63, bj), by simp [rsL], rfl, h3⟩
  ·exact ⟨(2, 64, bj), by simp [rsL], rfl, h3⟩
 ·rintro ⟨h1, x, hx, rfl, h3⟩; refine ⟨h1, ?_, h3⟩
  simp only [rsL, List.mem_cons, List.not_mem_nil, or_false] at hx
  rcases hx with rfl | rfl | rfl <;> simp
theorem leaf_no {w : Wi} {old : Ls} {pr : List Int} {lim : Int} {l : Ls} {e y : Int} {ks : List Den} (h : ks.length ≠ 0) : leafB w old pr lim l (.mk e y ks) = false := by
 cases hz : leafB w old pr lim l (.mk e y ks) with
 | false => rfl
 | true => exact absurd ((leaf_iff (bj := 0)).1 hz).1 h
theorem zip_snoc {α β : Type} {f : α → β → Bool} : ∀ {p : List α} {ks : List β} {x : α} {y : β}, ks[p.length]? = some y → zipB f (p ++ [x]) (ks.take (p.length + 1)) = (zipB f p (ks.take p.length) && f x y)
  | [], [], x, y, h => by simp at h
  | [], k :: ks, x, y, h => by simp at h; subst h; simp [zipB]
  | z :: p, [], x, y, h => by simp at h
  | z :: p, k :: ks, x, y, h => by
    have := zip_snoc (f := f) (p := p) (ks := ks) (x := x) (y := y) (by simpa using h)
    simp only [List.cons_append, List.length_cons, List.take_succ_cons, zipB, this, Bool.and_assoc]
theorem zip_len {α β : Type} {f : α → β → Bool} : ∀ {p : List α} {ks : List β}, zipB f p ks = true → p.length = ks.length
  | [], [], _ => rfl
  | [], _ :: _, h => by cases h
  | _ :: _, [], h => by cases h
  | x :: p, y :: ks, h => by
    rw [zipB, Bool.and_eq_true] at h
    simp [zip_len h.2]
theorem zip_full {α β : Type} {f : α → β → Bool} {p : List α} {ks : List β} (h : zipB f p (ks.take p.length) = true) : zipB f p ks = decide (p.length = ks.length) := by
 by_cases hl : p.length = ks.length
 ·rw [hl, List.take_length] at h; rw [h, decide_eq_true hl]
 ·rw [decide_eq_false hl]
  cases hz : zipB f p ks with
  | false => rfl
  | true => exact absurd (zip_len hz) hl
theorem zip_at {α β : Type} {f : α → β → Bool} : ∀ {p q : List α} {x : α} {ks : List β} {y : β}, zipB f (p ++ x :: q) ks = true → ks[p.length]? = some y → f x y = true
  | [], q, x, [], y, h, hy => by simp at hy
  | [], q, x, k :: ks, y, h, hy => by
    simp at hy; subst hy
    rw [List.nil_append, zipB, Bool.and_eq_true] at h; exact h.1
  | z :: p, q, x, [], y, h, hy => by simp at hy
  | z :: p, q, x, k :: ks, y, h, hy => by
    rw [List.cons_append, zipB, Bool.and_eq_true] at h
    exact zip_at h.2 (by simpa using hy)
theorem zip_short {α β : Type} {f : α → β → Bool} {p q : List α} {x : α} {ks : List β} (h : ks.length ≤ p.length) : zipB f (p ++ x :: q) ks = false := by
 cases hz : zipB f (p ++ x :: q) ks with
 | false => rfl
 | true => have := zip_len hz; simp at this; omega
theorem zip_no {α β : Type} {f : α → β → Bool} {p q : List α} {x : α} {ks : List β} {y : β} (hy : ks[p.length]? = some y) (h : f x y = false) : zipB f (p ++ x :: q) ks = false := by
 cases hz : zipB f (p ++ x :: q) ks with
 | false => rfl
 | true => rw [zip_at hz hy] at h; cases h
section
variable {w : Wi} {old : Ls} {pr : List Int} {lim : Int} {d : Nat} {l : Ls} {e y : Int} {ks : List Den}
theorem ref_leaf (h : e = -1) : refF w old pr lim d l (.mk e y ks) = leafB w old pr lim l (.mk e y ks) := by cases d <;> exact if_pos h
theorem ref_bad (h : e ≠ -1) (h2 : ¬ (e = (l.length : Nat) ∧ y = 0)) : refF w old pr lim d l (.mk e y ks) = false := by
 cases d with
 | zero => exact if_neg h
 | succ d => exact (if_neg h).trans (by show (decide (e = (l.length : Nat) ∧ y = 0) && _) = false; rw [decide_eq_false h2, Bool.false_and])
theorem ref_0 (h : e ≠ -1) : refF w old pr lim 0 l (.mk e y ks) = false := if_neg h
theorem ref_s (h : e ≠ -1) (h2 : e = (l.length : Nat) ∧ y = 0) : refF w old pr lim (d + 1) l (.mk e y ks) = zipB (fun x D' => refF w old pr lim d (l ++ [x]) D') (lstE w pr l.length) ks :=
 (if_neg h).trans (by show (decide (e = (l.length : Nat) ∧ y = 0) && _) = _; rw [decide_eq_true h2, Bool.true_and]; rfl)
end
end Go.Proofs
