/- The walks of the functions of repairs: what each of them computes, at any input. -/
import Derived.Test.YtnckfcgnmhplnaaB7
set_option autoImplicit false
set_option linter.unusedVariables false
set_option linter.unusedSimpArgs false
namespace Go.Proofs
open Go.XL



set_option maxRecDepth 100000 in
set_option maxHeartbeats 1600000 in
theorem rdeny_all (lim : Int) (w : Wi) (old : Ls) (ab : List Int) (n : Nat) (hok : RefOk w old ab n) :
 ∀ (d : Nat) (l : Ls) (aB aO aA a : Option Addr) (cB cO cA c : Nat) (H : Hp), l.length + d = w.B.length → (∀ x ∈ l, x.length ≤ 1000) → SlR tbR H aB cB w.B → SlR ilR H aO cO old → SlR (intR .i64) H aA cA ab → SlR ilR H a c l →
 FnC Try.prog 33 #[.agg ⟨[.int .i64 w.J, .int .i64 w.S, .int .i64 w.N, .slice aB w.B.length cB]⟩, .slice aO old.length cO, .slice aA ab.length cA, .int .i64 lim, .slice a l.length c] H [] (RetR fun v H2 _ => DenU (denF w old (prs w.J ab) lim d l) H2 v) := by
 intro d
 refine Nat.strongRecOn d ?_
 clear d
 intro d ih l aB aO aA a cB cO cA c H hd hw hB hO hA hs
 have hB12 := hok.B
 have hO0 := hok.O
 have hn := hok.S
 have hn1 := hok.n1
 have hJ8 := hok.J
 have ha1 := hok.a
 have hp := hok.p
 have hprl := prs_len w.J ab
 have hwo : ∀ x ∈ old, x.length < 9223372036854775808 := fun x hx => by have := hok.wo x hx; omega
 have hz : (w.B.length ≤ 4096 ∧ 0 ≤ w.S) ∧ (w.S ≤ 256 ∧ (0 ≤ w.J ∧ w.J ≤ 256)) := by omega
 refine FnC.introC (args := [.agg ⟨[.int .i64 w.J, .int .i64 w.S, .int .i64 w.N, .slice aB w.B.length cB]⟩, .slice aO old.length cO, .slice aA ab.length cA, .int .i64 lim, .slice a l.length c]) Try.func33 rfl rfl Try.ntmps33 rfl rfl rfl fun G rest => ?_
 refine XC.seq ?_; refine XC.region ?_; refine XO.box rfl rfl rfl (fun b5 => ?_); refine XO.alloc ze_34 rfl (fun b10 => ?_); refine XO.assign rfl rfl ?_; refine XO.nil ?_; refine XC.seq2 ?_; refine XC.seq ?_; refine XC.region ?_; refine XO.loadO 1 rfl rfl ty_24 rfl rfl rfl ?_; refine XO.move rfl rfl ?_; refine XO.move rfl rfl ?_; refine XO.move rfl rfl ?_; refine XO.move rfl rfl ?_; refine XO.callV rfl (rwhy_fn w old ab l _ _ _ _ _ _ _ _ _ hB hO hA hs (by omega) hwo hw (by omega) hz hp lim) rfl ?_; refine XO.assign rfl rfl ?_; refine XO.nil ?_; refine XC.seq2 ?_; refine XC.seq ?_; refine XC.seq ?_; refine XC.region ?_; refine XO.move rfl rfl ?_; refine XO.neq rfl rfl rfl ?_; refine XO.nil ?_; refine XC.seq2 ?_; refine XC.cond rfl (fun c0_2 => ?_) (fun c0_2 => ?_)
 ·refine XC.seq ?_; refine XC.region ?_; refine XO.move rfl rfl ?_; refine XO.build bk_34 bf_34 ze_34 rfl rfl rfl ?_; refine XO.storeO 0 rfl rfl rfl rfl ty_34 rfl rfl rfl rfl rfl ?_; refine XO.assign rfl rfl ?_; refine XO.nil ?_; refine XC.seq2 ?_; refine XC.ret ?_; refine seqX_ret ?_; refine ⟨rfl, _, [], (resC_cell 0 rfl rfl ty_34 rfl rfl (resC_tmp rfl resC_nil)), (by repeat (first | exact List.Sublist.refl _ | apply List.Sublist.cons_cons | apply List.Sublist.cons)), RetR.mk ?_⟩
  exact DenU.yes (den_leaf (by assumption)) (SlR.nil0 _ _)
 ·refine XC.skip ?_; refine XC.seq2 ?_; refine XC.seq ?_; refine XC.seq ?_; refine XC.region ?_; refine XO.move rfl rfl ?_; refine XO.lenS (ts := #[]) rfl Try.underlying25 rfl ?_; refine XO.fieldAddr rfl fa_24_3 rfl ?_; refine XO.loadO 1 rfl rfl ty_22 rfl rfl rfl ?_; refine XO.lenS (ts := #[]) rfl Try.underlying22 rfl ?_; refine XO.eql rfl rfl rfl ?_; refine XO.nil ?_; refine XC.seq2 ?_; refine XC.cond rfl (fun c1_3 => ?_) (fun c1_3 => ?_)
  ·obtain rfl : d = 0 := by omega
   refine XC.seq ?_; refine XC.region ?_; refine XO.build bk_34 bf_34 ze_34 rfl rfl rfl ?_; refine XO.storeO 0 rfl rfl rfl rfl ty_34 rfl rfl rfl rfl rfl ?_; refine XO.assign rfl rfl ?_; refine XO.nil ?_; refine XC.seq2 ?_; refine XC.ret ?_; refine seqX_ret ?_; refine ⟨rfl, _, [], (resC_cell 0 rfl rfl ty_34 rfl rfl (resC_tmp rfl resC_nil)), (by repeat (first | exact List.Sublist.refl _ | apply List.Sublist.cons_cons | apply List.Sublist.cons)), RetR.mk ?_⟩
   exact DenU.no (den_0 (by omega))
  ·obtain ⟨d, rfl⟩ : ∃ q, d = q + 1 := ⟨d - 1, by omega⟩
   obtain ⟨r, hr⟩ : ∃ r, w.B[l.length]? = some r := ⟨_, List.getElem?_eq_getElem (by omega)⟩
   have hrl := hok.rows r (List.mem_of_getElem? hr)
   have hsz := lst_size (w := w) (pr := prs w.J ab) (e := l.length) (by omega)
   refine XC.skip ?_; refine XC.seq2 ?_; refine XC.seq ?_; refine XC.region ?_; refine XO.move rfl rfl ?_; refine XO.lenS (ts := #[]) rfl Try.underlying25 rfl ?_; refine XO.build bk_34 bf_34 ze_34 rfl rfl rfl ?_; refine XO.alloc ze_34 rfl (fun b13 => ?_); refine XO.storeO 0 rfl rfl rfl rfl ty_34 rfl rfl rfl rfl rfl ?_; refine XO.nil ?_; refine XC.seq2 ?_; refine XC.seq ?_; refine XC.region ?_; refine XO.loadO 2 rfl rfl ty_24 rfl rfl rfl ?_; refine XO.move rfl rfl ?_; refine XO.move rfl rfl ?_; refine XO.lenS (ts := #[]) rfl Try.underlying25 rfl ?_; refine XO.callH rfl (rLists_fn w ab l.length n r hr hrl hn (by omega) (by omega) (by omega) (by omega) (by omega) _ _ _ _ _ hB hA) rfl ?_; rintro _ HM hleM ⟨aM, cM, rfl, hm⟩; replace hB := hB.mono hleM; replace hO := hO.mono hleM; replace hA := hA.mono hleM; replace hs := hs.mono hleM; refine XO.assign rfl rfl ?_; refine XO.nil ?_; refine XC.seq2 ?_; refine XC.seq ?_; refine XC.seq ?_; refine XC.region ?_; refine XO.assign rfl rfl ?_; refine XO.open0 (σ := []) (fun b0 => ?_); refine XO.nil ?_; refine XC.seq2 ?_; refine XC.block ?_; refine XC.keep [15, 1, 2, 3, 4, 5, 10, 13, 14] rfl ?_; refine XC.loop (base := [(1, _), (2, _), (3, _), (4, _), (5, _), (10, _), (13, _), (14, _)]) (fun ζ : Nat × (Nat × SObj) × (Option Addr) × (Nat) × (List Den) => [(15, .int .i64 (ζ.1 : Nat))]) (fun ζ Hl own => ζ.1 ≤ (lstE w (prs w.J ab) l.length).length ∧ ζ.2.1 :: (b13, .cells 34 [.int .i64 (l.length : Nat), .int .i64 0, .slice ζ.2.2.1 ζ.2.2.2.2.length ζ.2.2.2.1]) :: (b10, .cells 34 [.int .i64 0, .int .i64 0, .slice none 0 0]) :: (b5, .cells 24 [.int .i64 w.J, .int .i64 w.S, .int .i64 w.N, .slice aB w.B.length cB]) :: rest = own ∧ (XL.Acc denR 34 Hl ζ.2.1 ζ.2.2.1 ζ.2.2.2.1 ζ.2.2.2.2) ∧ (allS (fun x => denF w old (prs w.J ab) lim d (l ++ [x])) ((lstE w (prs w.J ab) l.length).take (ζ.1)) = some ζ.2.2.2.2)) (fun ζ => (lstE w (prs w.J ab) l.length).length - ζ.1) (0, (b0, .nothing), none, 0, []) (prov_cons (rfl) (prov_cons (rfl) (prov_cons (rfl) (prov_cons (rfl) (prov_cons (rfl) (prov_cons (rfl) (prov_cons (rfl) (prov_cons (rfl) (prov_cons (rfl) prov_nil))))))))) (by repeat (first | exact List.Sublist.refl _ | apply List.Sublist.cons_cons | apply List.Sublist.cons)) ⟨Nat.zero_le _, rfl, Acc.nil _ _ _ _, rfl⟩ ?_; rintro ⟨k, pk, ak, ck, ks⟩ Hl0 _ hle0 ⟨hkk, rfl, hacck, hks⟩; replace hB := hB.mono hle0; replace hO := hO.mono hle0; replace hA := hA.mono hle0; replace hs := hs.mono hle0; replace hm := hm.mono hle0
   try dsimp only at hkk hacck hks ⊢
   refine XC.seq ?_; refine XC.seq ?_; refine XC.region ?_; refine XO.move rfl rfl ?_; refine XO.move rfl rfl ?_; refine XO.lenS (ts := #[]) rfl Try.underlying25 rfl ?_; refine XO.lss rfl rfl rfl ?_; refine XO.nil ?_; refine XC.seq2 ?_; refine XC.cond rfl (fun c2_5 => ?_) (fun c2_5 => ?_)
   ·refine XC.skip ?_; refine XC.seq2 ?_; refine XC.seq ?_; refine XC.block ?_; refine XC.seq ?_
    by_cases hq0 : l = []
    ·skip
     refine XC.keep [1, 2, 3, 4, 5, 10, 13, 14, 15] rfl ?_; obtain ⟨bEM, oEM, rfl⟩ := hm.addr (by omega); obtain ⟨_, xM, hxM, ⟨axM, cxM, rfl, hdM⟩, hpM⟩ := hm.elem (k) (by omega)
     have hxl : xM.length ≤ 1000 := by have := lst_rows hn (List.mem_of_getElem? hxM); omega
     apply XC.drawM (fun _ => True) trivial [17] (by decide) [(18, 17)] (fun _ v p _ => v = .pointer (some ⟨p.1, 0, none⟩) ∧ p.2 = .cells 34 [.int .i64 0, .int .i64 0, .slice none 0 0]) (fun _ v p H => ∃ a c, v = .pointer (some ⟨p.1, 0, none⟩) ∧ p.2 = .cells 34 [.int .i64 ((denF w old (prs w.J ab) lim d (l ++ [xM])).getD d0).E, .int .i64 ((denF w old (prs w.J ab) lim d (l ++ [xM])).getD d0).Y, .slice a ((denF w old (prs w.J ab) lim d (l ++ [xM])).getD d0).K.length c] ∧ SlR denR H a c ((denF w old (prs w.J ab) lim d (l ++ [xM])).getD d0).K) (fun _ _ _ _ _ _ h => h) (fun _ _ _ _ _ hle ⟨a, c, h1, h2, h3⟩ => ⟨a, c, h1, h2, h3.mono hle⟩) 19 [eqF _, eqF _, eqF _, eqF _, slCap ilR [], eqF _, slCap ilR l, eqF _, eqF _, eqF _, eqF _, slF ilR [xM], slG ilR (l ++ [xM]), fun v H => DenU (denF w old (prs w.J ab) lim d (l ++ [xM])) H v, fun v H => DenU (denF w old (prs w.J ab) lim d (l ++ [xM])) H v, fun v H => DV H v ((denF w old (prs w.J ab) lim d (l ++ [xM])).getD d0), eqF _, anyF, anyF] follows (by kernel_rfl) ⟨eqF_mono _, eqF_mono _, eqF_mono _, eqF_mono _, slCap_mono _ _, eqF_mono _, slCap_mono _ _, eqF_mono _, eqF_mono _, eqF_mono _, eqF_mono _, slF_mono _ _, slG_mono _ _, fun _ _ _ hle h => h.mono hle, fun _ _ _ hle h => h.mono hle, fun _ _ _ hle h => h.mono hle, eqF_mono _, anyF_mono, anyF_mono, trivial⟩ (by decide) (by kernel_rfl) ?steps6 ?tail6
     case steps6 =>
      refine stepsM_cons rfl rfl ?_ ?_
      ·intro X ext HD hleD _
       replace hB := hB.mono hleD; replace hO := hO.mono hleD; replace hA := hA.mono hleD; replace hs := hs.mono hleD; replace hm := hm.mono hleD; replace hacck := hacck.mono hleD; replace hpM := hpM.mono hleD; replace hdM := hdM.mono hleD; replace hle0 := hle0.trans hleD; refine withP_nil rfl ?_; refine XO.loadO 3 rfl rfl ty_24 rfl rfl rfl ?_; refine XO.nil ?_; exact stepQN_ok rfl trivial (rfl)
      refine stepsM_cons rfl rfl ?_ ?_
      ·intro X ext HD hleD _
       replace hB := hB.mono hleD; replace hO := hO.mono hleD; replace hA := hA.mono hleD; replace hs := hs.mono hleD; replace hm := hm.mono hleD; replace hacck := hacck.mono hleD; replace hpM := hpM.mono hleD; replace hdM := hdM.mono hleD; replace hle0 := hle0.trans hleD; refine withP_nil rfl ?_; refine XO.move rfl rfl ?_; refine XO.nil ?_; exact stepQN_ok rfl trivial (rfl)
      refine stepsM_cons rfl rfl ?_ ?_
      ·intro X ext HD hleD _
       replace hB := hB.mono hleD; replace hO := hO.mono hleD; replace hA := hA.mono hleD; replace hs := hs.mono hleD; replace hm := hm.mono hleD; replace hacck := hacck.mono hleD; replace hpM := hpM.mono hleD; replace hdM := hdM.mono hleD; replace hle0 := hle0.trans hleD; refine withP_nil rfl ?_; refine XO.move rfl rfl ?_; refine XO.nil ?_; exact stepQN_ok rfl trivial (rfl)
      refine stepsM_cons rfl rfl ?_ ?_
      ·intro X ext HD hleD _
       replace hB := hB.mono hleD; replace hO := hO.mono hleD; replace hA := hA.mono hleD; replace hs := hs.mono hleD; replace hm := hm.mono hleD; replace hacck := hacck.mono hleD; replace hpM := hpM.mono hleD; replace hdM := hdM.mono hleD; replace hle0 := hle0.trans hleD; refine withP_nil rfl ?_; refine XO.move rfl rfl ?_; refine XO.nil ?_; exact stepQN_ok rfl trivial (rfl)
      refine stepsM_cons rfl rfl ?_ ?_
      ·intro X ext HD hleD _
       replace hB := hB.mono hleD; replace hO := hO.mono hleD; replace hA := hA.mono hleD; replace hs := hs.mono hleD; replace hm := hm.mono hleD; replace hacck := hacck.mono hleD; replace hpM := hpM.mono hleD; replace hdM := hdM.mono hleD; replace hle0 := hle0.trans hleD; refine withP_nil rfl ?_; refine XO.buildSlice rfl Try.underlying25 ty_26 ze_26 rfl rfl rfl (fun b54 => ?_); refine XO.publish 0 rfl rfl rfl (fun HP54 oP54 hleP54 hbP54 hoP54 => ?_)
       have hsl54 := SlR.lit (ρ := ilR) (l := ([] : Ls)) hbP54 hoP54 rfl
       replace hB := hB.mono hleP54; replace hO := hO.mono hleP54; replace hA := hA.mono hleP54; replace hs := hs.mono hleP54; replace hm := hm.mono hleP54; replace hacck := hacck.mono hleP54; replace hpM := hpM.mono hleP54; replace hdM := hdM.mono hleP54; replace hle0 := hle0.trans hleP54; refine XO.nil ?_
       exact stepQN_ok rfl trivial (⟨_, _, rfl, hsl54, by simp⟩)
      refine stepsM_cons rfl rfl ?_ ?_
      ·intro X ext HD hleD _
       replace hB := hB.mono hleD; replace hO := hO.mono hleD; replace hA := hA.mono hleD; replace hs := hs.mono hleD; replace hm := hm.mono hleD; replace hacck := hacck.mono hleD; replace hpM := hpM.mono hleD; replace hdM := hdM.mono hleD; replace hle0 := hle0.trans hleD; refine withP_nil rfl ?_; refine XO.move rfl rfl ?_; refine XO.nil ?_; exact stepQN_ok rfl trivial (rfl)
      refine stepsM_cons rfl rfl ?_ ?_
      ·intro X ext HD hleD _
       replace hB := hB.mono hleD; replace hO := hO.mono hleD; replace hA := hA.mono hleD; replace hs := hs.mono hleD; replace hm := hm.mono hleD; replace hacck := hacck.mono hleD; replace hpM := hpM.mono hleD; replace hdM := hdM.mono hleD; replace hle0 := hle0.trans hleD; refine withP_cons rfl rfl ?_; rintro _ ⟨a54, c54, rfl, hsl54, hcap54⟩; refine withP_cons rfl rfl ?_; rintro _ rfl; refine withP_nil rfl ?_; refine XO.append0 rfl rfl (by rw [hq0]; rfl) hsl54.le Try.underlying25 ty_26 rfl ?_; refine XO.nil ?_
       exact stepQN_ok rfl trivial (⟨_, _, by first | (rw [hq0]; done) | (rw [hq0]; rfl), by rw [hq0]; exact hsl54, by rw [hq0]; exact hcap54⟩)
      refine stepsM_cons rfl rfl ?_ ?_
      ·intro X ext HD hleD _
       replace hB := hB.mono hleD; replace hO := hO.mono hleD; replace hA := hA.mono hleD; replace hs := hs.mono hleD; replace hm := hm.mono hleD; replace hacck := hacck.mono hleD; replace hpM := hpM.mono hleD; replace hdM := hdM.mono hleD; replace hle0 := hle0.trans hleD; refine withP_nil rfl ?_; refine XO.move rfl rfl ?_; refine XO.nil ?_; exact stepQN_ok rfl trivial (rfl)
      refine stepsM_cons rfl rfl ?_ ?_
      ·intro X ext HD hleD _
       replace hB := hB.mono hleD; replace hO := hO.mono hleD; replace hA := hA.mono hleD; replace hs := hs.mono hleD; replace hm := hm.mono hleD; replace hacck := hacck.mono hleD; replace hpM := hpM.mono hleD; replace hdM := hdM.mono hleD; replace hle0 := hle0.trans hleD; refine withP_nil rfl ?_; refine XO.move rfl rfl ?_; refine XO.nil ?_; exact stepQN_ok rfl trivial (rfl)
      refine stepsM_cons rfl rfl ?_ ?_
      ·intro X ext HD hleD _
       replace hB := hB.mono hleD; replace hO := hO.mono hleD; replace hA := hA.mono hleD; replace hs := hs.mono hleD; replace hm := hm.mono hleD; replace hacck := hacck.mono hleD; replace hpM := hpM.mono hleD; replace hdM := hdM.mono hleD; replace hle0 := hle0.trans hleD; refine withP_cons rfl rfl ?_; rintro _ rfl; refine withP_cons rfl rfl ?_; rintro _ rfl; refine withP_nil rfl ?_; refine XO.indexE rfl rfl Try.underlying25 ty_26 (by omega) (by omega) rfl ?_; refine XO.nil ?_; exact stepQN_ok rfl trivial (rfl)
      refine stepsM_cons rfl rfl ?_ ?_
      ·intro X ext HD hleD _
       replace hB := hB.mono hleD; replace hO := hO.mono hleD; replace hA := hA.mono hleD; replace hs := hs.mono hleD; replace hm := hm.mono hleD; replace hacck := hacck.mono hleD; replace hpM := hpM.mono hleD; replace hdM := hdM.mono hleD; replace hle0 := hle0.trans hleD; refine withP_cons rfl rfl ?_; rintro _ rfl; refine withP_nil rfl ?_; refine XO.loadH rfl (by assumption) ty_26 rfl rfl rfl ?_; refine XO.nil ?_; exact stepQN_ok rfl trivial (rfl)
      refine stepsM_cons rfl rfl ?_ ?_
      ·intro X ext HD hleD _
       replace hB := hB.mono hleD; replace hO := hO.mono hleD; replace hA := hA.mono hleD; replace hs := hs.mono hleD; replace hm := hm.mono hleD; replace hacck := hacck.mono hleD; replace hpM := hpM.mono hleD; replace hdM := hdM.mono hleD; replace hle0 := hle0.trans hleD; refine withP_cons rfl rfl ?_; rintro _ rfl; refine withP_nil rfl ?_; refine XO.buildSlice rfl Try.underlying25 ty_26 ze_26 rfl rfl rfl (fun b61 => ?_); refine XO.publish 0 rfl rfl rfl (fun HP61 oP61 hleP61 hbP61 hoP61 => ?_); replace hB := hB.mono hleP61; replace hO := hO.mono hleP61; replace hA := hA.mono hleP61; replace hs := hs.mono hleP61; replace hm := hm.mono hleP61; replace hacck := hacck.mono hleP61; replace hpM := hpM.mono hleP61; replace hdM := hdM.mono hleP61; replace hle0 := hle0.trans hleP61
       have hsl61 := SlR.lit (ρ := ilR) (l := [xM]) hbP61 hoP61 (RowsR.one1 ⟨_, _, rfl, hdM⟩)
       refine XO.nil ?_
       exact stepQN_ok rfl trivial (⟨_, rfl, hsl61⟩)
      refine stepsM_cons rfl rfl ?_ ?_
      ·intro X ext HD hleD _
       replace hB := hB.mono hleD; replace hO := hO.mono hleD; replace hA := hA.mono hleD; replace hs := hs.mono hleD; replace hm := hm.mono hleD; replace hacck := hacck.mono hleD; replace hpM := hpM.mono hleD; replace hdM := hdM.mono hleD; replace hle0 := hle0.trans hleD; refine withP_cons rfl rfl ?_; rintro _ ⟨a56, c56, rfl, hsl56, hcap56⟩; refine withP_cons rfl rfl ?_; rintro _ ⟨bs61, rfl, hsl61⟩; refine withP_nil rfl ?_; refine XO.appendP rfl hsl56 rfl rfl hsl61 rfl (by exact hcap56) Try.underlying25 ty_26 ze_26 rfl by_26 (by simp; omega) rfl (fun HA62 aA62 cA62 hleA62 hsA62 => ?_); replace hB := hB.mono hleA62; replace hO := hO.mono hleA62; replace hA := hA.mono hleA62; replace hs := hs.mono hleA62; replace hm := hm.mono hleA62; replace hacck := hacck.mono hleA62; replace hpM := hpM.mono hleA62; replace hdM := hdM.mono hleA62; replace hsl56 := hsl56.mono hleA62; replace hsl61 := hsl61.mono hleA62; replace hle0 := hle0.trans hleA62; refine XO.nil ?_
       exact stepQN_ok rfl trivial (⟨_, _, rfl, hsA62⟩)
      refine stepsM_cons rfl rfl ?_ ?_
      ·intro X ext HD hleD _
       replace hB := hB.mono hleD; replace hO := hO.mono hleD; replace hA := hA.mono hleD; replace hs := hs.mono hleD; replace hm := hm.mono hleD; replace hacck := hacck.mono hleD; replace hpM := hpM.mono hleD; replace hdM := hdM.mono hleD; replace hle0 := hle0.trans hleD; refine withP_cons rfl rfl ?_; rintro _ rfl; refine withP_cons rfl rfl ?_; rintro _ rfl; refine withP_cons rfl rfl ?_; rintro _ rfl; refine withP_cons rfl rfl ?_; rintro _ rfl; refine withP_cons rfl rfl ?_; rintro _ ⟨a62, c62, rfl, hsl62⟩; refine withP_nil rfl ?_
       have hcall := ih d (by omega) (l ++ [xM]) _ _ _ _ _ _ _ _ _ (by simp; omega) (fun z hz => (List.mem_append.1 hz).elim (hw z) (fun h => by simp only [List.mem_singleton] at h; subst h; exact hxl)) hB hO hA hsl62
       refine XO.callH rfl hcall rfl ?_; rintro _ HF hleF ⟨aF, cF, rfl, hF⟩; replace hB := hB.mono hleF; replace hO := hO.mono hleF; replace hA := hA.mono hleF; replace hs := hs.mono hleF; replace hm := hm.mono hleF; replace hacck := hacck.mono hleF; replace hpM := hpM.mono hleF; replace hdM := hdM.mono hleF; replace hsl62 := hsl62.mono hleF; replace hle0 := hle0.trans hleF; refine XO.nil ?_
       exact stepQN_ok rfl trivial (⟨_, _, rfl, hF⟩)
      refine stepsM_cons rfl rfl ?_ ?_
      ·intro X ext HD hleD _
       replace hB := hB.mono hleD; replace hO := hO.mono hleD; replace hA := hA.mono hleD; replace hs := hs.mono hleD; replace hm := hm.mono hleD; replace hacck := hacck.mono hleD; replace hpM := hpM.mono hleD; replace hdM := hdM.mono hleD; replace hle0 := hle0.trans hleD; refine withP_cons rfl rfl ?_; rintro _ ⟨aF, cF, rfl, hF⟩; refine withP_nil rfl ?_; refine XO.move rfl rfl ?_; refine XO.nil ?_
       exact stepQN_ok rfl trivial (⟨_, _, rfl, hF⟩)
      refine stepsM_cons rfl rfl ?_ ?_
      ·intro X ext HD hleD _
       replace hB := hB.mono hleD; replace hO := hO.mono hleD; replace hA := hA.mono hleD; replace hs := hs.mono hleD; replace hm := hm.mono hleD; replace hacck := hacck.mono hleD; replace hpM := hpM.mono hleD; replace hdM := hdM.mono hleD; replace hle0 := hle0.trans hleD; refine withP_cons rfl rfl ?_; rintro _ ⟨aG, cG, rfl, hG⟩; refine withP_nil rfl ?_; refine XO.extract rfl rfl rfl ?_; refine XO.nil ?_
       exact stepQN_ok rfl trivial (⟨_, _, rfl, hG⟩)
      refine stepsM_cons rfl rfl ?_ ?_
      ·intro X ext HD hleD _
       replace hB := hB.mono hleD; replace hO := hO.mono hleD; replace hA := hA.mono hleD; replace hs := hs.mono hleD; replace hm := hm.mono hleD; replace hacck := hacck.mono hleD; replace hpM := hpM.mono hleD; replace hdM := hdM.mono hleD; replace hle0 := hle0.trans hleD; refine withP_cons rfl rfl ?_; rintro _ ⟨aG, cG, rfl, hG⟩; refine withP_nil rfl ?_; refine XO.extract rfl rfl rfl ?_; refine XO.nil ?_; exact stepQN_ok rfl trivial (rfl)
      refine stepsM_cons rfl rfl ?_ ?_
      ·intro X ext HD hleD _
       replace hB := hB.mono hleD; replace hO := hO.mono hleD; replace hA := hA.mono hleD; replace hs := hs.mono hleD; replace hm := hm.mono hleD; replace hacck := hacck.mono hleD; replace hpM := hpM.mono hleD; replace hdM := hdM.mono hleD; replace hle0 := hle0.trans hleD; refine withP_nil rfl ?_; refine XO.alloc ze_34 rfl (fun b16 => ?_); refine XO.nil ?_
       exact stepQN_new rfl trivial trivial (⟨rfl, rfl⟩)
      refine stepsM_mod rfl rfl ?_ ?_
      ·intro X ext p HD hleD _
       replace hB := hB.mono hleD; replace hO := hO.mono hleD; replace hA := hA.mono hleD; replace hs := hs.mono hleD; replace hm := hm.mono hleD; replace hacck := hacck.mono hleD; replace hpM := hpM.mono hleD; replace hdM := hdM.mono hleD; replace hle0 := hle0.trans hleD; refine withP_cons rfl rfl ?_; rintro _ _; refine withP_cons rfl rfl ?_; rintro _ ⟨aD, cD, rfl, hD⟩; refine withP_nil rfl ?_
       intro hfo
       obtain ⟨be17, se17⟩ := p; obtain ⟨rfl, hse17⟩ := hfo _ _ rfl rfl
       simp only at hse17
       subst hse17
       refine XO.storeO 0 rfl rfl rfl rfl ty_34 rfl rfl rfl rfl rfl ?_; refine XO.nil ?_
       exact stepQM_ok trivial (trivial) (fun u t h1 h2 => by cases (show some _ = some t from h1); cases (show some (Value.pointer _) = some u from h2); exact ⟨_, _, rfl, rfl, hD⟩)
      exact stepsM_end rfl
     case tail6 =>
      intro HD hleD _
      replace hB := hB.mono hleD; replace hO := hO.mono hleD; replace hA := hA.mono hleD; replace hs := hs.mono hleD; replace hm := hm.mono hleD; replace hacck := hacck.mono hleD; replace hpM := hpM.mono hleD; replace hdM := hdM.mono hleD; replace hle0 := hle0.trans hleD; refine withP_cons rfl rfl ?_; rintro _ rfl; refine withP_cons rfl rfl ?_; rintro _ rfl; refine withP_cons rfl rfl ?_; rintro _ rfl; refine withP_cons rfl rfl ?_; rintro _ rfl; refine withP_cons rfl rfl ?_; rintro _ ⟨a54, c54, rfl, hsl54, hcap54⟩; refine withP_cons rfl rfl ?_; rintro _ rfl; refine withP_cons rfl rfl ?_; rintro _ ⟨a56, c56, rfl, hsl56, hcap56⟩; refine withP_cons rfl rfl ?_; rintro _ rfl; refine withP_cons rfl rfl ?_; rintro _ rfl; refine withP_cons rfl rfl ?_; rintro _ rfl; refine withP_cons rfl rfl ?_; rintro _ rfl; refine withP_cons rfl rfl ?_; rintro _ ⟨bs61, rfl, hsl61⟩; refine withP_cons rfl rfl ?_; rintro _ ⟨a62, c62, rfl, hsl62⟩; refine withP_cons rfl rfl ?_; rintro _ ⟨aF, cF, rfl, hF⟩; refine withP_cons rfl rfl ?_; rintro _ ⟨aG, cG, rfl, hG⟩; refine withP_cons rfl rfl ?_; rintro _ ⟨aD, cD, rfl, hD⟩; refine withP_cons rfl rfl ?_; rintro _ rfl; refine withP_cons rfl rfl ?_; rintro _ _; refine withP_skip rfl rfl ?_; refine withP_nil rfl ?_; refine withEnts_cons ?_
      intro pk_ hpk_
      obtain ⟨am17, cm17, rfl, hpk2, hm17⟩ := hpk_ _ ⟨_, rfl, rfl⟩; obtain ⟨be17, se17⟩ := pk_
      simp only at hpk2
      subst hpk2
      refine withEnts_nil ?_; refine XO.assign rfl rfl ?_; refine XO.nil ?_; refine XC.seq2 ?_; refine XC.seq ?_; refine XC.seq ?_; refine XC.region ?_; refine XO.move rfl rfl ?_; refine XO.notB rfl rfl ?_; refine XO.nil ?_; refine XC.seq2 ?_; refine XC.condB rfl (fun c3_11 => ?_) (fun c3_11 => ?_)
      ·have hbn := isSome_no (o := (denF w old (prs w.J ab) lim d (l ++ [xM]))) (by simpa using c3_11)
       refine XC.seq ?_; refine XC.region ?_; refine XO.build bk_34 bf_34 ze_34 rfl rfl rfl ?_; refine XO.storeO 3 rfl rfl rfl rfl ty_34 rfl rfl rfl rfl rfl ?_; refine XO.assign rfl rfl ?_; refine XO.nil ?_; refine XC.seq2 ?_; refine XC.ret ?_; refine seqX_ret ?_; refine blockR ?_; refine seqX_ret ?_; refine loopX_ret ?_; refine blockR ?_; refine seqX_ret ?_; refine ⟨rfl, _, [], (resC_cell 3 rfl rfl ty_34 rfl rfl (resC_tmp rfl resC_nil)), (by repeat (first | exact List.Sublist.refl _ | apply List.Sublist.cons_cons | apply List.Sublist.cons)), RetR.mk ?_⟩
       exact DenU.no (by rw [den_s (by omega), allS_none (List.mem_of_getElem? hxM) hbn]; rfl)
      ·have hbs := getD_some (d := d0) (o := (denF w old (prs w.J ab) lim d (l ++ [xM]))) (by simpa using c3_11)
       have hkl := allS_len hks
       rw [List.length_take] at hkl
       refine XC.skip ?_; refine XC.seq2 ?_; refine XC.region ?_; refine XO.fieldAddr rfl fa_34_2 rfl ?_; refine XO.loadO 2 rfl rfl ty_32 rfl rfl rfl ?_; refine XO.loadO 0 rfl rfl ty_34 rfl rfl rfl ?_; refine XO.buildSlice rfl Try.underlying32 ty_34 ze_34 rfl rfl rfl (fun b72 => ?_); refine XO.publish 0 rfl rfl rfl (fun HP72 oP72 hleP72 hbP72 hoP72 => ?_); replace hB := hB.mono hleP72; replace hO := hO.mono hleP72; replace hA := hA.mono hleP72; replace hs := hs.mono hleP72; replace hm := hm.mono hleP72; replace hacck := hacck.mono hleP72; replace hpM := hpM.mono hleP72; replace hdM := hdM.mono hleP72; replace hsl54 := hsl54.mono hleP72; replace hsl56 := hsl56.mono hleP72; replace hsl61 := hsl61.mono hleP72; replace hsl62 := hsl62.mono hleP72; replace hm17 := hm17.mono hleP72; replace hle0 := hle0.trans hleP72
       have hsl72 := SlR.lit (ρ := denR) (l := [(Den.mk ((denF w old (prs w.J ab) lim d (l ++ [xM])).getD d0).E ((denF w old (prs w.J ab) lim d (l ++ [xM])).getD d0).Y ((denF w old (prs w.J ab) lim d (l ++ [xM])).getD d0).K)]) hbP72 hoP72 (RowsR.one1 (denR_iff.2 ⟨_, _, rfl, hm17⟩))
       refine XO.appendA 1 rfl rfl hacck rfl rfl hsl72 rfl Try.underlying32 ty_34 ze_34 rfl by_34 (by simp; omega) rfl (fun p73 a73 c73 hacc73 => ?_); refine XO.fieldAddr rfl fa_34_2 rfl ?_; refine XO.storeO 2 rfl rfl rfl rfl ty_32 rfl rfl rfl rfl rfl ?_; refine XO.nil ?_; refine blockN ?_; refine XC.seq2 ?_; refine XC.region ?_; refine XO.move rfl rfl ?_; refine XO.add rfl rfl (wrap_i64 (by omega) (by omega)) rfl ?_; refine XO.assign rfl rfl ?_; refine XO.nil ?_; refine loop_next ((k + 1, p73, a73, c73, ks ++ [(Den.mk ((denF w old (prs w.J ab) lim d (l ++ [xM])).getD d0).E ((denF w old (prs w.J ab) lim d (l ++ [xM])).getD d0).Y ((denF w old (prs w.J ab) lim d (l ++ [xM])).getD d0).K)])) (by show (lstE w (prs w.J ab) l.length).length - (k + 1) < (lstE w (prs w.J ab) l.length).length - k; omega) (prov_cons (rfl) (prov_cons (rfl) (prov_cons (rfl) (prov_cons (rfl) (prov_cons (rfl) (prov_cons (rfl) (prov_cons (rfl) (prov_cons (rfl) (prov_cons (rfl) prov_nil))))))))) (⟨by show k + 1 ≤ (lstE w (prs w.J ab) l.length).length; omega, rfl, hacc73, by rw [take_snoc hxM, eta_den]; exact allS_snoc hks hbs⟩) (by repeat (first | exact List.Sublist.refl _ | apply List.Sublist.cons_cons | apply List.Sublist.cons)) (hle0)
    ·skip
     refine XC.keep [1, 2, 3, 4, 5, 10, 13, 14, 15] rfl ?_; obtain ⟨bEM, oEM, rfl⟩ := hm.addr (by omega); obtain ⟨_, xM, hxM, ⟨axM, cxM, rfl, hdM⟩, hpM⟩ := hm.elem (k) (by omega)
     have hxl : xM.length ≤ 1000 := by have := lst_rows hn (List.mem_of_getElem? hxM); omega
     apply XC.drawM (fun _ => True) trivial [6, 17] (by decide) [(12, 6), (18, 17)] (fun j v p H => (j = 6 → ownF ilR 26 l j v p H) ∧ (j = 17 → v = .pointer (some ⟨p.1, 0, none⟩) ∧ p.2 = .cells 34 [.int .i64 0, .int .i64 0, .slice none 0 0])) (fun j v p H => (j = 12 → p.2 = .nothing) ∧ (j = 18 → ∃ a c, v = .pointer (some ⟨p.1, 0, none⟩) ∧ p.2 = .cells 34 [.int .i64 ((denF w old (prs w.J ab) lim d (l ++ [xM])).getD d0).E, .int .i64 ((denF w old (prs w.J ab) lim d (l ++ [xM])).getD d0).Y, .slice a ((denF w old (prs w.J ab) lim d (l ++ [xM])).getD d0).K.length c] ∧ SlR denR H a c ((denF w old (prs w.J ab) lim d (l ++ [xM])).getD d0).K)) (fun _ _ _ _ _ hle h => ⟨fun e => ownF_mono _ _ _ _ _ _ _ _ hle (h.1 e), h.2⟩) (fun _ _ _ _ _ hle h => ⟨h.1, fun e => let ⟨a, c, h1, h2, h3⟩ := h.2 e; ⟨a, c, h1, h2, h3.mono hle⟩⟩) 19 [eqF _, eqF _, eqF _, eqF _, slF ilR ([] : Ls), eqF _, anyF, eqF _, eqF _, eqF _, eqF _, slF ilR [xM], slG ilR (l ++ [xM]), fun v H => DenU (denF w old (prs w.J ab) lim d (l ++ [xM])) H v, fun v H => DenU (denF w old (prs w.J ab) lim d (l ++ [xM])) H v, fun v H => DV H v ((denF w old (prs w.J ab) lim d (l ++ [xM])).getD d0), eqF _, anyF, anyF] follows (by kernel_rfl) ⟨eqF_mono _, eqF_mono _, eqF_mono _, eqF_mono _, slF_mono _ _, eqF_mono _, anyF_mono, eqF_mono _, eqF_mono _, eqF_mono _, eqF_mono _, slF_mono _ _, slG_mono _ _, fun _ _ _ hle h => h.mono hle, fun _ _ _ hle h => h.mono hle, fun _ _ _ hle h => h.mono hle, eqF_mono _, anyF_mono, anyF_mono, trivial⟩ (by decide) (by kernel_rfl) ?steps13 ?tail13
     case steps13 =>
      refine stepsM_cons rfl rfl ?_ ?_
      ·intro X ext HD hleD _
       replace hB := hB.mono hleD; replace hO := hO.mono hleD; replace hA := hA.mono hleD; replace hs := hs.mono hleD; replace hm := hm.mono hleD; replace hacck := hacck.mono hleD; replace hpM := hpM.mono hleD; replace hdM := hdM.mono hleD; replace hle0 := hle0.trans hleD; refine withP_nil rfl ?_; refine XO.loadO 3 rfl rfl ty_24 rfl rfl rfl ?_; refine XO.nil ?_; exact stepQN_ok rfl trivial (rfl)
      refine stepsM_cons rfl rfl ?_ ?_
      ·intro X ext HD hleD _
       replace hB := hB.mono hleD; replace hO := hO.mono hleD; replace hA := hA.mono hleD; replace hs := hs.mono hleD; replace hm := hm.mono hleD; replace hacck := hacck.mono hleD; replace hpM := hpM.mono hleD; replace hdM := hdM.mono hleD; replace hle0 := hle0.trans hleD; refine withP_nil rfl ?_; refine XO.move rfl rfl ?_; refine XO.nil ?_; exact stepQN_ok rfl trivial (rfl)
      refine stepsM_cons rfl rfl ?_ ?_
      ·intro X ext HD hleD _
       replace hB := hB.mono hleD; replace hO := hO.mono hleD; replace hA := hA.mono hleD; replace hs := hs.mono hleD; replace hm := hm.mono hleD; replace hacck := hacck.mono hleD; replace hpM := hpM.mono hleD; replace hdM := hdM.mono hleD; replace hle0 := hle0.trans hleD; refine withP_nil rfl ?_; refine XO.move rfl rfl ?_; refine XO.nil ?_; exact stepQN_ok rfl trivial (rfl)
      refine stepsM_cons rfl rfl ?_ ?_
      ·intro X ext HD hleD _
       replace hB := hB.mono hleD; replace hO := hO.mono hleD; replace hA := hA.mono hleD; replace hs := hs.mono hleD; replace hm := hm.mono hleD; replace hacck := hacck.mono hleD; replace hpM := hpM.mono hleD; replace hdM := hdM.mono hleD; replace hle0 := hle0.trans hleD; refine withP_nil rfl ?_; refine XO.move rfl rfl ?_; refine XO.nil ?_; exact stepQN_ok rfl trivial (rfl)
      refine stepsM_cons rfl rfl ?_ ?_
      ·intro X ext HD hleD _
       replace hB := hB.mono hleD; replace hO := hO.mono hleD; replace hA := hA.mono hleD; replace hs := hs.mono hleD; replace hm := hm.mono hleD; replace hacck := hacck.mono hleD; replace hpM := hpM.mono hleD; replace hdM := hdM.mono hleD; replace hle0 := hle0.trans hleD; refine withP_nil rfl ?_; refine XO.buildSlice rfl Try.underlying25 ty_26 ze_26 rfl rfl rfl (fun b54 => ?_); refine XO.publish 0 rfl rfl rfl (fun HP54 oP54 hleP54 hbP54 hoP54 => ?_)
       have hsl54 := SlR.lit (ρ := ilR) (l := ([] : Ls)) hbP54 hoP54 rfl
       replace hB := hB.mono hleP54; replace hO := hO.mono hleP54; replace hA := hA.mono hleP54; replace hs := hs.mono hleP54; replace hm := hm.mono hleP54; replace hacck := hacck.mono hleP54; replace hpM := hpM.mono hleP54; replace hdM := hdM.mono hleP54; replace hle0 := hle0.trans hleP54; refine XO.nil ?_
       exact stepQN_ok rfl trivial (⟨_, rfl, hsl54⟩)
      refine stepsM_cons rfl rfl ?_ ?_
      ·intro X ext HD hleD _
       replace hB := hB.mono hleD; replace hO := hO.mono hleD; replace hA := hA.mono hleD; replace hs := hs.mono hleD; replace hm := hm.mono hleD; replace hacck := hacck.mono hleD; replace hpM := hpM.mono hleD; replace hdM := hdM.mono hleD; replace hle0 := hle0.trans hleD; refine withP_nil rfl ?_; refine XO.move rfl rfl ?_; refine XO.nil ?_; exact stepQN_ok rfl trivial (rfl)
      refine stepsM_cons rfl rfl ?_ ?_
      ·intro X ext HD hleD _
       replace hB := hB.mono hleD; replace hO := hO.mono hleD; replace hA := hA.mono hleD; replace hs := hs.mono hleD; replace hm := hm.mono hleD; replace hacck := hacck.mono hleD; replace hpM := hpM.mono hleD; replace hdM := hdM.mono hleD; replace hle0 := hle0.trans hleD; refine withP_cons rfl rfl ?_; rintro _ ⟨bs54, rfl, hsl54⟩; refine withP_cons rfl rfl ?_; rintro _ rfl; refine withP_nil rfl ?_; refine XO.appendN rfl hsl54 rfl rfl hs rfl (by have := List.length_pos_iff.2 hq0; simp; omega) Try.underlying25 ty_26 ze_26 rfl by_26 (by simp; omega) rfl (fun pe ae ce hacc => ?_); refine XO.nil ?_
       exact stepQN_new rfl trivial trivial (⟨fun _ => ⟨_, _, rfl, hacc⟩, fun h => absurd h (by decide)⟩)
      refine stepsM_cons rfl rfl ?_ ?_
      ·intro X ext HD hleD _
       replace hB := hB.mono hleD; replace hO := hO.mono hleD; replace hA := hA.mono hleD; replace hs := hs.mono hleD; replace hm := hm.mono hleD; replace hacck := hacck.mono hleD; replace hpM := hpM.mono hleD; replace hdM := hdM.mono hleD; replace hle0 := hle0.trans hleD; refine withP_nil rfl ?_; refine XO.move rfl rfl ?_; refine XO.nil ?_; exact stepQN_ok rfl trivial (rfl)
      refine stepsM_cons rfl rfl ?_ ?_
      ·intro X ext HD hleD _
       replace hB := hB.mono hleD; replace hO := hO.mono hleD; replace hA := hA.mono hleD; replace hs := hs.mono hleD; replace hm := hm.mono hleD; replace hacck := hacck.mono hleD; replace hpM := hpM.mono hleD; replace hdM := hdM.mono hleD; replace hle0 := hle0.trans hleD; refine withP_nil rfl ?_; refine XO.move rfl rfl ?_; refine XO.nil ?_; exact stepQN_ok rfl trivial (rfl)
      refine stepsM_cons rfl rfl ?_ ?_
      ·intro X ext HD hleD _
       replace hB := hB.mono hleD; replace hO := hO.mono hleD; replace hA := hA.mono hleD; replace hs := hs.mono hleD; replace hm := hm.mono hleD; replace hacck := hacck.mono hleD; replace hpM := hpM.mono hleD; replace hdM := hdM.mono hleD; replace hle0 := hle0.trans hleD; refine withP_cons rfl rfl ?_; rintro _ rfl; refine withP_cons rfl rfl ?_; rintro _ rfl; refine withP_nil rfl ?_; refine XO.indexE rfl rfl Try.underlying25 ty_26 (by omega) (by omega) rfl ?_; refine XO.nil ?_; exact stepQN_ok rfl trivial (rfl)
      refine stepsM_cons rfl rfl ?_ ?_
      ·intro X ext HD hleD _
       replace hB := hB.mono hleD; replace hO := hO.mono hleD; replace hA := hA.mono hleD; replace hs := hs.mono hleD; replace hm := hm.mono hleD; replace hacck := hacck.mono hleD; replace hpM := hpM.mono hleD; replace hdM := hdM.mono hleD; replace hle0 := hle0.trans hleD; refine withP_cons rfl rfl ?_; rintro _ rfl; refine withP_nil rfl ?_; refine XO.loadH rfl (by assumption) ty_26 rfl rfl rfl ?_; refine XO.nil ?_; exact stepQN_ok rfl trivial (rfl)
      refine stepsM_cons rfl rfl ?_ ?_
      ·intro X ext HD hleD _
       replace hB := hB.mono hleD; replace hO := hO.mono hleD; replace hA := hA.mono hleD; replace hs := hs.mono hleD; replace hm := hm.mono hleD; replace hacck := hacck.mono hleD; replace hpM := hpM.mono hleD; replace hdM := hdM.mono hleD; replace hle0 := hle0.trans hleD; refine withP_cons rfl rfl ?_; rintro _ rfl; refine withP_nil rfl ?_; refine XO.buildSlice rfl Try.underlying25 ty_26 ze_26 rfl rfl rfl (fun b61 => ?_); refine XO.publish 0 rfl rfl rfl (fun HP61 oP61 hleP61 hbP61 hoP61 => ?_); replace hB := hB.mono hleP61; replace hO := hO.mono hleP61; replace hA := hA.mono hleP61; replace hs := hs.mono hleP61; replace hm := hm.mono hleP61; replace hacck := hacck.mono hleP61; replace hpM := hpM.mono hleP61; replace hdM := hdM.mono hleP61; replace hle0 := hle0.trans hleP61
       have hsl61 := SlR.lit (ρ := ilR) (l := [xM]) hbP61 hoP61 (RowsR.one1 ⟨_, _, rfl, hdM⟩)
       refine XO.nil ?_
       exact stepQN_ok rfl trivial (⟨_, rfl, hsl61⟩)
      refine stepsM_mod rfl rfl ?_ ?_
      ·intro X ext p HD hleD _
       replace hB := hB.mono hleD; replace hO := hO.mono hleD; replace hA := hA.mono hleD; replace hs := hs.mono hleD; replace hm := hm.mono hleD; replace hacck := hacck.mono hleD; replace hpM := hpM.mono hleD; replace hdM := hdM.mono hleD; replace hle0 := hle0.trans hleD; refine withP_cons rfl rfl ?_; rintro _ _; refine withP_cons rfl rfl ?_; rintro _ ⟨bs61, rfl, hsl61⟩; refine withP_nil rfl ?_
       intro hfo
       obtain ⟨ab_, cb_, rfl, haccb⟩ := (hfo _ _ rfl rfl).1 rfl; refine XO.appendA 0 rfl rfl haccb rfl rfl hsl61 rfl Try.underlying25 ty_26 ze_26 rfl by_26 (by simp; omega) rfl (fun pc ac cc haccc => ?_); refine XO.publishA 0 rfl haccc rfl (fun HQ hleQ hsQ => ?_); refine XO.open0 (σ := []) (fun b0 => ?_); refine XO.nil ?_
       exact stepQM_ok trivial (⟨_, _, rfl, hsQ⟩) (fun u t h1 h2 => ⟨fun _ => rfl, fun h => absurd h (by decide)⟩)
      refine stepsM_cons rfl rfl ?_ ?_
      ·intro X ext HD hleD _
       replace hB := hB.mono hleD; replace hO := hO.mono hleD; replace hA := hA.mono hleD; replace hs := hs.mono hleD; replace hm := hm.mono hleD; replace hacck := hacck.mono hleD; replace hpM := hpM.mono hleD; replace hdM := hdM.mono hleD; replace hle0 := hle0.trans hleD; refine withP_cons rfl rfl ?_; rintro _ rfl; refine withP_cons rfl rfl ?_; rintro _ rfl; refine withP_cons rfl rfl ?_; rintro _ rfl; refine withP_cons rfl rfl ?_; rintro _ rfl; refine withP_cons rfl rfl ?_; rintro _ ⟨a62, c62, rfl, hsl62⟩; refine withP_nil rfl ?_
       have hcall := ih d (by omega) (l ++ [xM]) _ _ _ _ _ _ _ _ _ (by simp; omega) (fun z hz => (List.mem_append.1 hz).elim (hw z) (fun h => by simp only [List.mem_singleton] at h; subst h; exact hxl)) hB hO hA hsl62
       refine XO.callH rfl hcall rfl ?_; rintro _ HF hleF ⟨aF, cF, rfl, hF⟩; replace hB := hB.mono hleF; replace hO := hO.mono hleF; replace hA := hA.mono hleF; replace hs := hs.mono hleF; replace hm := hm.mono hleF; replace hacck := hacck.mono hleF; replace hpM := hpM.mono hleF; replace hdM := hdM.mono hleF; replace hsl62 := hsl62.mono hleF; replace hle0 := hle0.trans hleF; refine XO.nil ?_
       exact stepQN_ok rfl trivial (⟨_, _, rfl, hF⟩)
      refine stepsM_cons rfl rfl ?_ ?_
      ·intro X ext HD hleD _
       replace hB := hB.mono hleD; replace hO := hO.mono hleD; replace hA := hA.mono hleD; replace hs := hs.mono hleD; replace hm := hm.mono hleD; replace hacck := hacck.mono hleD; replace hpM := hpM.mono hleD; replace hdM := hdM.mono hleD; replace hle0 := hle0.trans hleD; refine withP_cons rfl rfl ?_; rintro _ ⟨aF, cF, rfl, hF⟩; refine withP_nil rfl ?_; refine XO.move rfl rfl ?_; refine XO.nil ?_
       exact stepQN_ok rfl trivial (⟨_, _, rfl, hF⟩)
      refine stepsM_cons rfl rfl ?_ ?_
      ·intro X ext HD hleD _
       replace hB := hB.mono hleD; replace hO := hO.mono hleD; replace hA := hA.mono hleD; replace hs := hs.mono hleD; replace hm := hm.mono hleD; replace hacck := hacck.mono hleD; replace hpM := hpM.mono hleD; replace hdM := hdM.mono hleD; replace hle0 := hle0.trans hleD; refine withP_cons rfl rfl ?_; rintro _ ⟨aG, cG, rfl, hG⟩; refine withP_nil rfl ?_; refine XO.extract rfl rfl rfl ?_; refine XO.nil ?_
       exact stepQN_ok rfl trivial (⟨_, _, rfl, hG⟩)
      refine stepsM_cons rfl rfl ?_ ?_
      ·intro X ext HD hleD _
       replace hB := hB.mono hleD; replace hO := hO.mono hleD; replace hA := hA.mono hleD; replace hs := hs.mono hleD; replace hm := hm.mono hleD; replace hacck := hacck.mono hleD; replace hpM := hpM.mono hleD; replace hdM := hdM.mono hleD; replace hle0 := hle0.trans hleD; refine withP_cons rfl rfl ?_; rintro _ ⟨aG, cG, rfl, hG⟩; refine withP_nil rfl ?_; refine XO.extract rfl rfl rfl ?_; refine XO.nil ?_; exact stepQN_ok rfl trivial (rfl)
      refine stepsM_cons rfl rfl ?_ ?_
      ·intro X ext HD hleD _
       replace hB := hB.mono hleD; replace hO := hO.mono hleD; replace hA := hA.mono hleD; replace hs := hs.mono hleD; replace hm := hm.mono hleD; replace hacck := hacck.mono hleD; replace hpM := hpM.mono hleD; replace hdM := hdM.mono hleD; replace hle0 := hle0.trans hleD; refine withP_nil rfl ?_; refine XO.alloc ze_34 rfl (fun b16 => ?_); refine XO.nil ?_
       exact stepQN_new rfl trivial trivial (⟨fun h => absurd h (by decide), fun _ => ⟨rfl, rfl⟩⟩)
      refine stepsM_mod rfl rfl ?_ ?_
      ·intro X ext p HD hleD _
       replace hB := hB.mono hleD; replace hO := hO.mono hleD; replace hA := hA.mono hleD; replace hs := hs.mono hleD; replace hm := hm.mono hleD; replace hacck := hacck.mono hleD; replace hpM := hpM.mono hleD; replace hdM := hdM.mono hleD; replace hle0 := hle0.trans hleD; refine withP_cons rfl rfl ?_; rintro _ _; refine withP_cons rfl rfl ?_; rintro _ ⟨aD, cD, rfl, hD⟩; refine withP_nil rfl ?_
       intro hfo
       obtain ⟨be17, se17⟩ := p; obtain ⟨rfl, hse17⟩ := (hfo _ _ rfl rfl).2 rfl
       simp only at hse17
       subst hse17
       refine XO.storeO 0 rfl rfl rfl rfl ty_34 rfl rfl rfl rfl rfl ?_; refine XO.nil ?_
       exact stepQM_ok trivial (trivial) (fun u t h1 h2 => by cases (show some _ = some t from h1); cases (show some (Value.pointer _) = some u from h2); exact ⟨fun h => absurd h (by decide), fun _ => ⟨_, _, rfl, rfl, hD⟩⟩)
      exact stepsM_end rfl
     case tail13 =>
      intro HD hleD _
      replace hB := hB.mono hleD; replace hO := hO.mono hleD; replace hA := hA.mono hleD; replace hs := hs.mono hleD; replace hm := hm.mono hleD; replace hacck := hacck.mono hleD; replace hpM := hpM.mono hleD; replace hdM := hdM.mono hleD; replace hle0 := hle0.trans hleD; refine withP_cons rfl rfl ?_; rintro _ rfl; refine withP_cons rfl rfl ?_; rintro _ rfl; refine withP_cons rfl rfl ?_; rintro _ rfl; refine withP_cons rfl rfl ?_; rintro _ rfl; refine withP_cons rfl rfl ?_; rintro _ ⟨bs54, rfl, hsl54⟩; refine withP_cons rfl rfl ?_; rintro _ rfl; refine withP_cons rfl rfl ?_; rintro _ _; refine withP_cons rfl rfl ?_; rintro _ rfl; refine withP_cons rfl rfl ?_; rintro _ rfl; refine withP_cons rfl rfl ?_; rintro _ rfl; refine withP_cons rfl rfl ?_; rintro _ rfl; refine withP_cons rfl rfl ?_; rintro _ ⟨bs61, rfl, hsl61⟩; refine withP_cons rfl rfl ?_; rintro _ ⟨a62, c62, rfl, hsl62⟩; refine withP_cons rfl rfl ?_; rintro _ ⟨aF, cF, rfl, hF⟩; refine withP_cons rfl rfl ?_; rintro _ ⟨aG, cG, rfl, hG⟩; refine withP_cons rfl rfl ?_; rintro _ ⟨aD, cD, rfl, hD⟩; refine withP_cons rfl rfl ?_; rintro _ rfl; refine withP_cons rfl rfl ?_; rintro _ _; refine withP_skip rfl rfl ?_; refine withP_nil rfl ?_; refine withEnts_cons ?_
      intro pe hpe
      refine withEnts_cons ?_
      intro pk_ hpk_
      obtain ⟨am17, cm17, rfl, hpk2, hm17⟩ := (hpk_ _ ⟨_, rfl, rfl⟩).2 rfl; obtain ⟨be17, se17⟩ := pk_
      simp only at hpk2
      subst hpk2
      refine withEnts_nil ?_; refine XO.assign rfl rfl ?_; refine XO.nil ?_; refine XC.seq2 ?_; refine XC.seq ?_; refine XC.seq ?_; refine XC.region ?_; refine XO.move rfl rfl ?_; refine XO.notB rfl rfl ?_; refine XO.nil ?_; refine XC.seq2 ?_; refine XC.condB rfl (fun c3_17 => ?_) (fun c3_17 => ?_)
      ·have hbn := isSome_no (o := (denF w old (prs w.J ab) lim d (l ++ [xM]))) (by simpa using c3_17)
       refine XC.seq ?_; refine XC.region ?_; refine XO.build bk_34 bf_34 ze_34 rfl rfl rfl ?_; refine XO.storeO 4 rfl rfl rfl rfl ty_34 rfl rfl rfl rfl rfl ?_; refine XO.assign rfl rfl ?_; refine XO.nil ?_; refine XC.seq2 ?_; refine XC.ret ?_; refine seqX_ret ?_; refine blockR ?_; refine seqX_ret ?_; refine loopX_ret ?_; refine blockR ?_; refine seqX_ret ?_; refine ⟨rfl, _, [], (resC_cell 4 rfl rfl ty_34 rfl rfl (resC_tmp rfl resC_nil)), (by repeat (first | exact List.Sublist.refl _ | apply List.Sublist.cons_cons | apply List.Sublist.cons)), RetR.mk ?_⟩
       exact DenU.no (by rw [den_s (by omega), allS_none (List.mem_of_getElem? hxM) hbn]; rfl)
      ·have hbs := getD_some (d := d0) (o := (denF w old (prs w.J ab) lim d (l ++ [xM]))) (by simpa using c3_17)
       have hkl := allS_len hks
       rw [List.length_take] at hkl
       refine XC.skip ?_; refine XC.seq2 ?_; refine XC.region ?_; refine XO.fieldAddr rfl fa_34_2 rfl ?_; refine XO.loadO 3 rfl rfl ty_32 rfl rfl rfl ?_; refine XO.loadO 1 rfl rfl ty_34 rfl rfl rfl ?_; refine XO.buildSlice rfl Try.underlying32 ty_34 ze_34 rfl rfl rfl (fun b72 => ?_); refine XO.publish 0 rfl rfl rfl (fun HP72 oP72 hleP72 hbP72 hoP72 => ?_); replace hB := hB.mono hleP72; replace hO := hO.mono hleP72; replace hA := hA.mono hleP72; replace hs := hs.mono hleP72; replace hm := hm.mono hleP72; replace hacck := hacck.mono hleP72; replace hpM := hpM.mono hleP72; replace hdM := hdM.mono hleP72; replace hsl54 := hsl54.mono hleP72; replace hsl61 := hsl61.mono hleP72; replace hsl62 := hsl62.mono hleP72; replace hm17 := hm17.mono hleP72; replace hle0 := hle0.trans hleP72
       have hsl72 := SlR.lit (ρ := denR) (l := [(Den.mk ((denF w old (prs w.J ab) lim d (l ++ [xM])).getD d0).E ((denF w old (prs w.J ab) lim d (l ++ [xM])).getD d0).Y ((denF w old (prs w.J ab) lim d (l ++ [xM])).getD d0).K)]) hbP72 hoP72 (RowsR.one1 (denR_iff.2 ⟨_, _, rfl, hm17⟩))
       refine XO.appendA 2 rfl rfl hacck rfl rfl hsl72 rfl Try.underlying32 ty_34 ze_34 rfl by_34 (by simp; omega) rfl (fun p73 a73 c73 hacc73 => ?_); refine XO.fieldAddr rfl fa_34_2 rfl ?_; refine XO.storeO 3 rfl rfl rfl rfl ty_32 rfl rfl rfl rfl rfl ?_; refine XO.nil ?_; refine blockN ?_; refine XC.seq2 ?_; refine XC.region ?_; refine XO.move rfl rfl ?_; refine XO.add rfl rfl (wrap_i64 (by omega) (by omega)) rfl ?_; refine XO.assign rfl rfl ?_; refine XO.nil ?_; refine loop_next ((k + 1, p73, a73, c73, ks ++ [(Den.mk ((denF w old (prs w.J ab) lim d (l ++ [xM])).getD d0).E ((denF w old (prs w.J ab) lim d (l ++ [xM])).getD d0).Y ((denF w old (prs w.J ab) lim d (l ++ [xM])).getD d0).K)])) (by show (lstE w (prs w.J ab) l.length).length - (k + 1) < (lstE w (prs w.J ab) l.length).length - k; omega) (prov_cons (rfl) (prov_cons (rfl) (prov_cons (rfl) (prov_cons (rfl) (prov_cons (rfl) (prov_cons (rfl) (prov_cons (rfl) (prov_cons (rfl) (prov_cons (rfl) prov_nil))))))))) (⟨by show k + 1 ≤ (lstE w (prs w.J ab) l.length).length; omega, rfl, hacc73, by rw [take_snoc hxM, eta_den]; exact allS_snoc hks hbs⟩) (by repeat (first | exact List.Sublist.refl _ | apply List.Sublist.cons_cons | apply List.Sublist.cons)) (hle0)
   ·obtain rfl : k = (lstE w (prs w.J ab) l.length).length := by omega
    rw [List.take_length] at hks
    refine XC.exit ?_; refine seqX_exit ?_; refine loopX_exit ?_; refine blockHit rfl ?_; refine XC.seq2 ?_; refine XC.seq ?_; refine XC.region ?_; refine XO.publishA 0 rfl hacck rfl (fun HQ hleQ hsQ => ?_); replace hB := hB.mono hleQ; replace hO := hO.mono hleQ; replace hA := hA.mono hleQ; replace hs := hs.mono hleQ; replace hm := hm.mono hleQ; replace hle0 := hle0.trans hleQ; refine XO.loadO 0 rfl rfl ty_34 rfl rfl rfl ?_; refine XO.storeO 1 rfl rfl rfl rfl ty_34 rfl rfl rfl rfl rfl ?_; refine XO.assign rfl rfl ?_; refine XO.nil ?_; refine XC.seq2 ?_; refine XC.ret ?_; refine ⟨rfl, _, [], (resC_cell 1 rfl rfl ty_34 rfl rfl (resC_tmp rfl resC_nil)), (by repeat (first | exact List.Sublist.refl _ | apply List.Sublist.cons_cons | apply List.Sublist.cons)), RetR.mk ?_⟩
    exact DenU.yes (by rw [den_s (by omega), hks]; rfl) (by assumption)

set_option maxRecDepth 100000 in
set_option maxHeartbeats 1600000 in
theorem rright_all (lim : Int) (w : Wi) (old : Ls) (ab : List Int) (n : Nat) (hok : RefOk w old ab n) :
 ∀ (d : Nat) (l : Ls) (e y : Int) (ks : List Den) (ad : Option Addr) (cd : Nat) (aB aO aA a : Option Addr) (cB cO cA c : Nat) (H : Hp), l.length + d = w.B.length → (∀ x ∈ l, x.length ≤ 1000) → SlR tbR H aB cB w.B → SlR ilR H aO cO old → SlR (intR .i64) H aA cA ab → SlR ilR H a c l → SlR denR H ad cd ks →
 FnC Try.prog 36 #[.agg ⟨[.int .i64 w.J, .int .i64 w.S, .int .i64 w.N, .slice aB w.B.length cB]⟩, .slice aO old.length cO, .slice aA ab.length cA, .int .i64 lim, .slice a l.length c, .agg ⟨[.int .i64 e, .int .i64 y, .slice ad ks.length cd]⟩] H [] (RetR fun v _ _ => v = .bool (refF w old (prs w.J ab) lim d l (.mk e y ks))) := by
 intro d
 refine Nat.strongRecOn d ?_
 clear d
 intro d ih l e y ks ad cd aB aO aA a cB cO cA c H hd hw hB hO hA hs hks
 have hB12 := hok.B
 have hO0 := hok.O
 have hn := hok.S
 have hn1 := hok.n1
 have hJ8 := hok.J
 have ha1 := hok.a
 have hp := hok.p
 have hprl := prs_len w.J ab
 have hwo : ∀ x ∈ old, x.length < 9223372036854775808 := fun x hx => by have := hok.wo x hx; omega
 have hz : (w.B.length ≤ 4096 ∧ 0 ≤ w.S) ∧ (w.S ≤ 256 ∧ (0 ≤ w.J ∧ w.J ≤ 256)) := by omega
 refine FnC.intro (args := [.agg ⟨[.int .i64 w.J, .int .i64 w.S, .int .i64 w.N, .slice aB w.B.length cB]⟩, .slice aO old.length cO, .slice aA ab.length cA, .int .i64 lim, .slice a l.length c, .agg ⟨[.int .i64 e, .int .i64 y, .slice ad ks.length cd]⟩]) Try.func36 rfl rfl Try.ntmps36 rfl rfl rfl fun G rest => ?_
 refine XC.seq ?_; refine XC.region ?_; refine XO.box rfl rfl rfl (fun b6 => ?_); refine XO.box rfl rfl rfl (fun b11 => ?_); refine XO.assign rfl rfl ?_; refine XO.nil ?_; refine XC.seq2 ?_; refine XC.seq ?_; refine XC.seq ?_; refine XC.region ?_; refine XO.fieldAddr rfl fa_34_0 rfl ?_; refine XO.loadO 0 rfl rfl ty_3 rfl rfl rfl ?_; refine XO.eql rfl rfl rfl ?_; refine XO.nil ?_; refine XC.seq2 ?_; refine XC.cond rfl (fun c0_1 => ?_) (fun c0_1 => ?_)
 ·refine XC.seq ?_; refine XC.seq ?_; refine XC.region ?_; refine XO.fieldAddr rfl fa_34_2 rfl ?_; refine XO.loadO 0 rfl rfl ty_32 rfl rfl rfl ?_; refine XO.lenS (ts := #[]) rfl Try.underlying32 rfl ?_; refine XO.gtr rfl rfl rfl ?_; refine XO.nil ?_; refine XC.seq2 ?_; refine XC.cond rfl (fun c1_2 => ?_) (fun c1_2 => ?_)
  ·refine XC.seq ?_; refine XC.region ?_; refine XO.assign rfl rfl ?_; refine XO.nil ?_; refine XC.seq2 ?_; refine XC.ret ?_; refine seqX_ret ?_; refine seqX_ret ?_; refine ⟨rfl, _, [], rfl, (by repeat (first | exact List.Sublist.refl _ | apply List.Sublist.cons_cons | apply List.Sublist.cons)), RetR.mk ?_⟩
   exact congrArg Value.bool (by rw [ref_leaf (by omega), leaf_no (by omega)])
  ·refine XC.skip ?_; refine XC.seq2 ?_; refine XC.seq ?_; refine XC.seq ?_; refine XC.region ?_; refine XO.fieldAddr rfl fa_34_1 rfl ?_; refine XO.loadO 0 rfl rfl ty_3 rfl rfl rfl ?_; refine XO.nil ?_; refine XC.seq2 ?_; refine XC.block ?_; refine XC.seq ?_; refine XC.region ?_; refine XO.eql rfl rfl rfl ?_; refine XO.assign rfl rfl ?_; refine XO.nil ?_; refine XC.seq2 ?_; refine XC.cond rfl (fun c2_3 => ?_) (fun c2_3 => ?_)
   ·refine XC.seq ?_; refine XC.region ?_; refine XO.move rfl rfl ?_; refine XO.move rfl rfl ?_; refine XO.callV rfl (rchanges_fn _ _ _ _ old l _ hO hs (by omega) hwo hw (by omega)) rfl ?_; refine XO.move rfl rfl ?_; refine XO.geq rfl rfl rfl ?_; refine XO.assign rfl rfl ?_; refine XO.nil ?_; refine XC.seq2 ?_; refine XC.ret ?_; refine blockR ?_; refine seqX_ret ?_; refine seqX_ret ?_; refine ⟨rfl, _, [], rfl, (by repeat (first | exact List.Sublist.refl _ | apply List.Sublist.cons_cons | apply List.Sublist.cons)), RetR.mk ?_⟩
    exact congrArg Value.bool (by rw [ref_leaf (by omega), leaf_3 (by omega) (by omega)])
   ·refine XC.seq ?_; refine XC.region ?_; refine XO.eql rfl rfl rfl ?_; refine XO.assign rfl rfl ?_; refine XO.nil ?_; refine XC.seq2 ?_; refine XC.cond rfl (fun c3_5 => ?_) (fun c3_5 => ?_)
    ·refine XC.seq ?_; refine XC.region ?_; refine XO.loadO 1 rfl rfl ty_24 rfl rfl rfl ?_; refine XO.move rfl rfl ?_; refine XO.move rfl rfl ?_; refine XO.callV rfl (rloadB_fn w ab l _ _ _ _ _ _ _ hB hA hs hw (by omega) hz hp) rfl ?_; refine XO.assign rfl rfl ?_; refine XO.nil ?_; refine XC.seq2 ?_; refine XC.ret ?_; refine blockR ?_; refine seqX_ret ?_; refine seqX_ret ?_; refine ⟨rfl, _, [], rfl, (by repeat (first | exact List.Sublist.refl _ | apply List.Sublist.cons_cons | apply List.Sublist.cons)), RetR.mk ?_⟩
     exact congrArg Value.bool (by rw [ref_leaf (by omega), leaf_1 (by omega) (by omega)])
    ·refine XC.seq ?_; refine XC.region ?_; refine XO.eql rfl rfl rfl ?_; refine XO.assign rfl rfl ?_; refine XO.nil ?_; refine XC.seq2 ?_; refine XC.cond rfl (fun c4_7 => ?_) (fun c4_7 => ?_)
     ·refine XC.seq ?_; refine XC.region ?_; refine XO.loadO 1 rfl rfl ty_24 rfl rfl rfl ?_; refine XO.move rfl rfl ?_; refine XO.callV rfl (rpair_fn w l _ _ _ _ _ hB hs hw (by omega)) rfl ?_; refine XO.assign rfl rfl ?_; refine XO.nil ?_; refine XC.seq2 ?_; refine XC.ret ?_; refine blockR ?_; refine seqX_ret ?_; refine seqX_ret ?_; refine ⟨rfl, _, [], rfl, (by repeat (first | exact List.Sublist.refl _ | apply List.Sublist.cons_cons | apply List.Sublist.cons)), RetR.mk ?_⟩
      exact congrArg Value.bool (by rw [ref_leaf (by omega), leaf_2 (by omega) (by omega)])
     ·refine XC.skip ?_; refine blockN ?_; refine XC.seq2 ?_; refine XC.seq ?_; refine XC.region ?_; refine XO.assign rfl rfl ?_; refine XO.nil ?_; refine XC.seq2 ?_; refine XC.ret ?_; refine seqX_ret ?_; refine ⟨rfl, _, [], rfl, (by repeat (first | exact List.Sublist.refl _ | apply List.Sublist.cons_cons | apply List.Sublist.cons)), RetR.mk ?_⟩
      exact congrArg Value.bool (by rw [ref_leaf (by omega), leaf_0 (by omega)])
 ·refine XC.skip ?_; refine XC.seq2 ?_; refine XC.seq ?_; refine XC.seq ?_; refine XC.region ?_; refine XO.fieldAddr rfl fa_34_0 rfl ?_; refine XO.loadO 0 rfl rfl ty_3 rfl rfl rfl ?_; refine XO.move rfl rfl ?_; refine XO.lenS (ts := #[]) rfl Try.underlying25 rfl ?_; refine XO.neq rfl rfl rfl ?_; refine XO.move rfl rfl ?_; refine XO.guardC rfl rfl rfl rfl (fun g9 => ?_) (fun g9 => ?_)
  ·have g9p := of_decide_eq_false g9
   refine XO.fieldAddr rfl fa_34_0 rfl ?_; refine XO.guardT rfl rfl (g9) rfl ?_; refine XO.loadO 0 rfl rfl ty_3 rfl rfl rfl ?_; refine XO.guardT rfl rfl (g9) rfl ?_; refine XO.fieldAddr rfl fa_24_3 rfl ?_; refine XO.guardT rfl rfl (g9) rfl ?_; refine XO.loadO 1 rfl rfl ty_22 rfl rfl rfl ?_; refine XO.guardT rfl rfl (g9) rfl ?_; refine XO.lenS (ts := #[]) rfl Try.underlying22 rfl ?_; refine XO.guardT rfl rfl (g9) rfl ?_; refine XO.geq rfl rfl rfl ?_; refine XO.pickF rfl (g9) rfl rfl ?_; refine XO.move rfl rfl ?_; refine XO.guardC rfl rfl rfl rfl (fun g10 => ?_) (fun g10 => ?_)
   ·have g10p := of_decide_eq_false g10
    refine XO.fieldAddr rfl fa_34_1 rfl ?_; refine XO.guardT rfl rfl (g10) rfl ?_; refine XO.loadO 0 rfl rfl ty_3 rfl rfl rfl ?_; refine XO.guardT rfl rfl (g10) rfl ?_; refine XO.neq rfl rfl rfl ?_; refine XO.pickF rfl (g10) rfl rfl ?_; refine XO.nil ?_; refine XC.seq2 ?_; refine XC.cond rfl (fun c5_11 => ?_) (fun c5_11 => ?_)
    ·refine XC.seq ?_; refine XC.region ?_; refine XO.assign rfl rfl ?_; refine XO.nil ?_; refine XC.seq2 ?_; refine XC.ret ?_; refine seqX_ret ?_; refine ⟨rfl, _, [], rfl, (by repeat (first | exact List.Sublist.refl _ | apply List.Sublist.cons_cons | apply List.Sublist.cons)), RetR.mk ?_⟩
     first | exact congrArg Value.bool (ref_bad (by omega) (by omega)).symm | exact congrArg Value.bool (ref_d0 (by omega) (by omega)).symm | exact congrArg Value.bool (by rw [ref_s (by omega) ⟨he, hy0⟩, zip_ne (by omega)]) | exact congrArg Value.bool (by rw [ref_s (by omega) ⟨he, hy0⟩, zip_diff hxM hxD (by simp_all)]) | exact congrArg Value.bool (by rw [ref_s (by omega) ⟨he, hy0⟩]; rw [List.take_of_length_le (by omega)] at hzp; exact hzp.symm)
    ·have he : e = (l.length : Nat) := by omega
     have hy0 : y = 0 := by omega
     obtain ⟨d, rfl⟩ : ∃ q, d = q + 1 := ⟨d - 1, by omega⟩
     obtain ⟨r, hr⟩ : ∃ r, w.B[l.length]? = some r := ⟨_, List.getElem?_eq_getElem (by omega)⟩
     have hrl := hok.rows r (List.mem_of_getElem? hr)
     have hsz := lst_size (w := w) (pr := prs w.J ab) (e := l.length) (by omega)
     refine XC.skip ?_; refine XC.seq2 ?_; refine XC.seq ?_; refine XC.region ?_; refine XO.loadO 1 rfl rfl ty_24 rfl rfl rfl ?_; refine XO.move rfl rfl ?_; refine XO.move rfl rfl ?_; refine XO.lenS (ts := #[]) rfl Try.underlying25 rfl ?_; refine XO.callH rfl (rLists_fn w ab l.length n r hr hrl hn (by omega) (by omega) (by omega) (by omega) (by omega) _ _ _ _ _ hB hA) rfl ?_; rintro _ HM hleM ⟨aM, cM, rfl, hm⟩; replace hB := hB.mono hleM; replace hO := hO.mono hleM; replace hA := hA.mono hleM; replace hs := hs.mono hleM; replace hks := hks.mono hleM; refine XO.assign rfl rfl ?_; refine XO.nil ?_; refine XC.seq2 ?_; refine XC.seq ?_; refine XC.seq ?_; refine XC.region ?_; refine XO.fieldAddr rfl fa_34_2 rfl ?_; refine XO.loadO 0 rfl rfl ty_32 rfl rfl rfl ?_; refine XO.lenS (ts := #[]) rfl Try.underlying32 rfl ?_; refine XO.move rfl rfl ?_; refine XO.lenS (ts := #[]) rfl Try.underlying25 rfl ?_; refine XO.neq rfl rfl rfl ?_; refine XO.nil ?_; refine XC.seq2 ?_; refine XC.cond rfl (fun c6_13 => ?_) (fun c6_13 => ?_)
     ·refine XC.seq ?_; refine XC.region ?_; refine XO.assign rfl rfl ?_; refine XO.nil ?_; refine XC.seq2 ?_; refine XC.ret ?_; refine seqX_ret ?_; refine ⟨rfl, _, [], rfl, (by repeat (first | exact List.Sublist.refl _ | apply List.Sublist.cons_cons | apply List.Sublist.cons)), RetR.mk ?_⟩
      first | exact congrArg Value.bool (ref_bad (by omega) (by omega)).symm | exact congrArg Value.bool (ref_d0 (by omega) (by omega)).symm | exact congrArg Value.bool (by rw [ref_s (by omega) ⟨he, hy0⟩, zip_ne (by omega)]) | exact congrArg Value.bool (by rw [ref_s (by omega) ⟨he, hy0⟩, zip_diff hxM hxD (by simp_all)]) | exact congrArg Value.bool (by rw [ref_s (by omega) ⟨he, hy0⟩]; rw [List.take_of_length_le (by omega)] at hzp; exact hzp.symm)
     ·have hkl : ks.length = (lstE w (prs w.J ab) l.length).length := by omega
      refine XC.skip ?_; refine XC.seq2 ?_; refine XC.seq ?_; refine XC.seq ?_; refine XC.region ?_; refine XO.assign rfl rfl ?_; refine XO.nil ?_; refine XC.seq2 ?_; refine XC.block ?_; refine XC.keep [14, 1, 2, 3, 4, 6, 11, 13] rfl ?_; refine XC.loop (base := [(1, _), (2, _), (3, _), (4, _), (6, _), (11, _), (13, _)]) (fun ζ : Nat => [(14, .int .i64 (ζ : Nat))]) (fun ζ Hl own => ζ ≤ (lstE w (prs w.J ab) l.length).length ∧ (b11, .cells 34 [.int .i64 e, .int .i64 y, .slice ad ks.length cd]) :: (b6, .cells 24 [.int .i64 w.J, .int .i64 w.S, .int .i64 w.N, .slice aB w.B.length cB]) :: rest = own ∧ (zipB (fun x D => refF w old (prs w.J ab) lim d (l ++ [x]) D) ((lstE w (prs w.J ab) l.length).take (ζ)) (ks.take (ζ)) = true)) (fun ζ => (lstE w (prs w.J ab) l.length).length - ζ) 0 (prov_cons (rfl) (prov_cons (rfl) (prov_cons (rfl) (prov_cons (rfl) (prov_cons (rfl) (prov_cons (rfl) (prov_cons (rfl) (prov_cons (rfl) prov_nil)))))))) (by repeat (first | exact List.Sublist.refl _ | apply List.Sublist.cons_cons | apply List.Sublist.cons)) ⟨Nat.zero_le _, rfl, rfl⟩ ?_; rintro k Hl0 _ hle0 ⟨hkk, rfl, hzp⟩; replace hB := hB.mono hle0; replace hO := hO.mono hle0; replace hA := hA.mono hle0; replace hs := hs.mono hle0; replace hks := hks.mono hle0; replace hm := hm.mono hle0
      try dsimp only at ⊢
      refine XC.seq ?_; refine XC.seq ?_; refine XC.region ?_; refine XO.move rfl rfl ?_; refine XO.move rfl rfl ?_; refine XO.lenS (ts := #[]) rfl Try.underlying25 rfl ?_; refine XO.lss rfl rfl rfl ?_; refine XO.nil ?_; refine XC.seq2 ?_; refine XC.cond rfl (fun c7_14 => ?_) (fun c7_14 => ?_)
      ·refine XC.skip ?_; refine XC.seq2 ?_; refine XC.seq ?_; refine XC.block ?_; refine XC.seq ?_
       by_cases hq0 : l = []
       ·skip
        refine XC.keep [1, 2, 3, 4, 6, 11, 13, 14] rfl ?_; obtain ⟨bEM, oEM, rfl⟩ := hm.addr (by omega); obtain ⟨_, xM, hxM, ⟨axM, cxM, rfl, hdM⟩, hpM⟩ := hm.elem (k) (by omega); obtain ⟨bED, oED, rfl⟩ := hks.addr (by omega); obtain ⟨_, xD, hxD, hRD, hpD⟩ := hks.elem (k) (by omega); obtain ⟨eD, yD, kD⟩ := xD; obtain ⟨aD, cD, rfl, hdD⟩ := denR_iff.1 hRD
        have hxl : xM.length ≤ 1000 := by have := lst_rows hn (List.mem_of_getElem? hxM); omega
        apply XC.drawG (fun _ => True) trivial 18 [eqF _, eqF _, eqF _, eqF _, slCap ilR [], eqF _, slCap ilR l, eqF _, eqF _, eqF _, eqF _, slF ilR [xM], slG ilR (l ++ [xM]), eqF _, eqF _, eqF _, eqF _, eqF _] follows (by kernel_rfl) (by kernel_rfl) ⟨eqF_mono _, eqF_mono _, eqF_mono _, eqF_mono _, slCap_mono _ _, eqF_mono _, slCap_mono _ _, eqF_mono _, eqF_mono _, eqF_mono _, eqF_mono _, slF_mono _ _, slG_mono _ _, eqF_mono _, eqF_mono _, eqF_mono _, eqF_mono _, eqF_mono _, trivial⟩ ?steps15 ?tail15
        case steps15 =>
         refine stepsD_cons rfl ?_ ?_
         ·intro X HD hleD _
          replace hB := hB.mono hleD; replace hO := hO.mono hleD; replace hA := hA.mono hleD; replace hs := hs.mono hleD; replace hks := hks.mono hleD; replace hm := hm.mono hleD; replace hpM := hpM.mono hleD; replace hdM := hdM.mono hleD; replace hpD := hpD.mono hleD; replace hdD := hdD.mono hleD; replace hle0 := hle0.trans hleD; refine withPreds_nil rfl ?_; refine XO.loadO 1 rfl rfl ty_24 rfl rfl rfl ?_; refine XO.nil ?_
          exact stepQ_ok trivial (rfl)
         refine stepsD_cons rfl ?_ ?_
         ·intro X HD hleD _
          replace hB := hB.mono hleD; replace hO := hO.mono hleD; replace hA := hA.mono hleD; replace hs := hs.mono hleD; replace hks := hks.mono hleD; replace hm := hm.mono hleD; replace hpM := hpM.mono hleD; replace hdM := hdM.mono hleD; replace hpD := hpD.mono hleD; replace hdD := hdD.mono hleD; replace hle0 := hle0.trans hleD; refine withPreds_nil rfl ?_; refine XO.move rfl rfl ?_; refine XO.nil ?_
          exact stepQ_ok trivial (rfl)
         refine stepsD_cons rfl ?_ ?_
         ·intro X HD hleD _
          replace hB := hB.mono hleD; replace hO := hO.mono hleD; replace hA := hA.mono hleD; replace hs := hs.mono hleD; replace hks := hks.mono hleD; replace hm := hm.mono hleD; replace hpM := hpM.mono hleD; replace hdM := hdM.mono hleD; replace hpD := hpD.mono hleD; replace hdD := hdD.mono hleD; replace hle0 := hle0.trans hleD; refine withPreds_nil rfl ?_; refine XO.move rfl rfl ?_; refine XO.nil ?_
          exact stepQ_ok trivial (rfl)
         refine stepsD_cons rfl ?_ ?_
         ·intro X HD hleD _
          replace hB := hB.mono hleD; replace hO := hO.mono hleD; replace hA := hA.mono hleD; replace hs := hs.mono hleD; replace hks := hks.mono hleD; replace hm := hm.mono hleD; replace hpM := hpM.mono hleD; replace hdM := hdM.mono hleD; replace hpD := hpD.mono hleD; replace hdD := hdD.mono hleD; replace hle0 := hle0.trans hleD; refine withPreds_nil rfl ?_; refine XO.move rfl rfl ?_; refine XO.nil ?_
          exact stepQ_ok trivial (rfl)
         refine stepsD_cons rfl ?_ ?_
         ·intro X HD hleD _
          replace hB := hB.mono hleD; replace hO := hO.mono hleD; replace hA := hA.mono hleD; replace hs := hs.mono hleD; replace hks := hks.mono hleD; replace hm := hm.mono hleD; replace hpM := hpM.mono hleD; replace hdM := hdM.mono hleD; replace hpD := hpD.mono hleD; replace hdD := hdD.mono hleD; replace hle0 := hle0.trans hleD; refine withPreds_nil rfl ?_; refine XO.buildSlice rfl Try.underlying25 ty_26 ze_26 rfl rfl rfl (fun b81 => ?_); refine XO.publish 0 rfl rfl rfl (fun HP81 oP81 hleP81 hbP81 hoP81 => ?_)
          have hsl81 := SlR.lit (ρ := ilR) (l := ([] : Ls)) hbP81 hoP81 rfl
          replace hB := hB.mono hleP81; replace hO := hO.mono hleP81; replace hA := hA.mono hleP81; replace hs := hs.mono hleP81; replace hks := hks.mono hleP81; replace hm := hm.mono hleP81; replace hpM := hpM.mono hleP81; replace hdM := hdM.mono hleP81; replace hpD := hpD.mono hleP81; replace hdD := hdD.mono hleP81; replace hle0 := hle0.trans hleP81; refine XO.nil ?_
          exact stepQ_ok trivial (⟨_, _, rfl, hsl81, by simp⟩)
         refine stepsD_cons rfl ?_ ?_
         ·intro X HD hleD _
          replace hB := hB.mono hleD; replace hO := hO.mono hleD; replace hA := hA.mono hleD; replace hs := hs.mono hleD; replace hks := hks.mono hleD; replace hm := hm.mono hleD; replace hpM := hpM.mono hleD; replace hdM := hdM.mono hleD; replace hpD := hpD.mono hleD; replace hdD := hdD.mono hleD; replace hle0 := hle0.trans hleD; refine withPreds_nil rfl ?_; refine XO.move rfl rfl ?_; refine XO.nil ?_
          exact stepQ_ok trivial (rfl)
         refine stepsD_cons rfl ?_ ?_
         ·intro X HD hleD _
          replace hB := hB.mono hleD; replace hO := hO.mono hleD; replace hA := hA.mono hleD; replace hs := hs.mono hleD; replace hks := hks.mono hleD; replace hm := hm.mono hleD; replace hpM := hpM.mono hleD; replace hdM := hdM.mono hleD; replace hpD := hpD.mono hleD; replace hdD := hdD.mono hleD; replace hle0 := hle0.trans hleD; refine withPreds_cons rfl rfl ?_; rintro _ ⟨a81, c81, rfl, hsl81, hcap81⟩; refine withPreds_cons rfl rfl ?_; rintro _ rfl; refine withPreds_nil rfl ?_; refine XO.append0 rfl rfl (by rw [hq0]; rfl) hsl81.le Try.underlying25 ty_26 rfl ?_; refine XO.nil ?_
          exact stepQ_ok trivial (⟨_, _, by first | (rw [hq0]; done) | (rw [hq0]; rfl), by rw [hq0]; exact hsl81, by rw [hq0]; exact hcap81⟩)
         refine stepsD_cons rfl ?_ ?_
         ·intro X HD hleD _
          replace hB := hB.mono hleD; replace hO := hO.mono hleD; replace hA := hA.mono hleD; replace hs := hs.mono hleD; replace hks := hks.mono hleD; replace hm := hm.mono hleD; replace hpM := hpM.mono hleD; replace hdM := hdM.mono hleD; replace hpD := hpD.mono hleD; replace hdD := hdD.mono hleD; replace hle0 := hle0.trans hleD; refine withPreds_nil rfl ?_; refine XO.move rfl rfl ?_; refine XO.nil ?_
          exact stepQ_ok trivial (rfl)
         refine stepsD_cons rfl ?_ ?_
         ·intro X HD hleD _
          replace hB := hB.mono hleD; replace hO := hO.mono hleD; replace hA := hA.mono hleD; replace hs := hs.mono hleD; replace hks := hks.mono hleD; replace hm := hm.mono hleD; replace hpM := hpM.mono hleD; replace hdM := hdM.mono hleD; replace hpD := hpD.mono hleD; replace hdD := hdD.mono hleD; replace hle0 := hle0.trans hleD; refine withPreds_nil rfl ?_; refine XO.move rfl rfl ?_; refine XO.nil ?_
          exact stepQ_ok trivial (rfl)
         refine stepsD_cons rfl ?_ ?_
         ·intro X HD hleD _
          replace hB := hB.mono hleD; replace hO := hO.mono hleD; replace hA := hA.mono hleD; replace hs := hs.mono hleD; replace hks := hks.mono hleD; replace hm := hm.mono hleD; replace hpM := hpM.mono hleD; replace hdM := hdM.mono hleD; replace hpD := hpD.mono hleD; replace hdD := hdD.mono hleD; replace hle0 := hle0.trans hleD; refine withPreds_cons rfl rfl ?_; rintro _ rfl; refine withPreds_cons rfl rfl ?_; rintro _ rfl; refine withPreds_nil rfl ?_; refine XO.indexE rfl rfl Try.underlying25 ty_26 (by omega) (by omega) rfl ?_; refine XO.nil ?_
          exact stepQ_ok trivial (rfl)
         refine stepsD_cons rfl ?_ ?_
         ·intro X HD hleD _
          replace hB := hB.mono hleD; replace hO := hO.mono hleD; replace hA := hA.mono hleD; replace hs := hs.mono hleD; replace hks := hks.mono hleD; replace hm := hm.mono hleD; replace hpM := hpM.mono hleD; replace hdM := hdM.mono hleD; replace hpD := hpD.mono hleD; replace hdD := hdD.mono hleD; replace hle0 := hle0.trans hleD; refine withPreds_cons rfl rfl ?_; rintro _ rfl; refine withPreds_nil rfl ?_; refine XO.loadH rfl (by assumption) ty_26 rfl rfl rfl ?_; refine XO.nil ?_
          exact stepQ_ok trivial (rfl)
         refine stepsD_cons rfl ?_ ?_
         ·intro X HD hleD _
          replace hB := hB.mono hleD; replace hO := hO.mono hleD; replace hA := hA.mono hleD; replace hs := hs.mono hleD; replace hks := hks.mono hleD; replace hm := hm.mono hleD; replace hpM := hpM.mono hleD; replace hdM := hdM.mono hleD; replace hpD := hpD.mono hleD; replace hdD := hdD.mono hleD; replace hle0 := hle0.trans hleD; refine withPreds_cons rfl rfl ?_; rintro _ rfl; refine withPreds_nil rfl ?_; refine XO.buildSlice rfl Try.underlying25 ty_26 ze_26 rfl rfl rfl (fun b88 => ?_); refine XO.publish 0 rfl rfl rfl (fun HP88 oP88 hleP88 hbP88 hoP88 => ?_); replace hB := hB.mono hleP88; replace hO := hO.mono hleP88; replace hA := hA.mono hleP88; replace hs := hs.mono hleP88; replace hks := hks.mono hleP88; replace hm := hm.mono hleP88; replace hpM := hpM.mono hleP88; replace hdM := hdM.mono hleP88; replace hpD := hpD.mono hleP88; replace hdD := hdD.mono hleP88; replace hle0 := hle0.trans hleP88
          have hsl88 := SlR.lit (ρ := ilR) (l := [xM]) hbP88 hoP88 (RowsR.one1 ⟨_, _, rfl, hdM⟩)
          refine XO.nil ?_
          exact stepQ_ok trivial (⟨_, rfl, hsl88⟩)
         refine stepsD_cons rfl ?_ ?_
         ·intro X HD hleD _
          replace hB := hB.mono hleD; replace hO := hO.mono hleD; replace hA := hA.mono hleD; replace hs := hs.mono hleD; replace hks := hks.mono hleD; replace hm := hm.mono hleD; replace hpM := hpM.mono hleD; replace hdM := hdM.mono hleD; replace hpD := hpD.mono hleD; replace hdD := hdD.mono hleD; replace hle0 := hle0.trans hleD; refine withPreds_cons rfl rfl ?_; rintro _ ⟨a83, c83, rfl, hsl83, hcap83⟩; refine withPreds_cons rfl rfl ?_; rintro _ ⟨bs88, rfl, hsl88⟩; refine withPreds_nil rfl ?_; refine XO.appendP rfl hsl83 rfl rfl hsl88 rfl (by exact hcap83) Try.underlying25 ty_26 ze_26 rfl by_26 (by simp; omega) rfl (fun HA89 aA89 cA89 hleA89 hsA89 => ?_); replace hB := hB.mono hleA89; replace hO := hO.mono hleA89; replace hA := hA.mono hleA89; replace hs := hs.mono hleA89; replace hks := hks.mono hleA89; replace hm := hm.mono hleA89; replace hpM := hpM.mono hleA89; replace hdM := hdM.mono hleA89; replace hpD := hpD.mono hleA89; replace hdD := hdD.mono hleA89; replace hsl83 := hsl83.mono hleA89; replace hsl88 := hsl88.mono hleA89; replace hle0 := hle0.trans hleA89; refine XO.nil ?_
          exact stepQ_ok trivial (⟨_, _, rfl, hsA89⟩)
         refine stepsD_cons rfl ?_ ?_
         ·intro X HD hleD _
          replace hB := hB.mono hleD; replace hO := hO.mono hleD; replace hA := hA.mono hleD; replace hs := hs.mono hleD; replace hks := hks.mono hleD; replace hm := hm.mono hleD; replace hpM := hpM.mono hleD; replace hdM := hdM.mono hleD; replace hpD := hpD.mono hleD; replace hdD := hdD.mono hleD; replace hle0 := hle0.trans hleD; refine withPreds_nil rfl ?_; refine XO.fieldAddr rfl fa_34_2 rfl ?_; refine XO.nil ?_
          exact stepQ_ok trivial (rfl)
         refine stepsD_cons rfl ?_ ?_
         ·intro X HD hleD _
          replace hB := hB.mono hleD; replace hO := hO.mono hleD; replace hA := hA.mono hleD; replace hs := hs.mono hleD; replace hks := hks.mono hleD; replace hm := hm.mono hleD; replace hpM := hpM.mono hleD; replace hdM := hdM.mono hleD; replace hpD := hpD.mono hleD; replace hdD := hdD.mono hleD; replace hle0 := hle0.trans hleD; refine withPreds_cons rfl rfl ?_; rintro _ rfl; refine withPreds_nil rfl ?_; refine XO.loadO 0 rfl rfl ty_32 rfl rfl rfl ?_; refine XO.nil ?_
          exact stepQ_ok trivial (rfl)
         refine stepsD_cons rfl ?_ ?_
         ·intro X HD hleD _
          replace hB := hB.mono hleD; replace hO := hO.mono hleD; replace hA := hA.mono hleD; replace hs := hs.mono hleD; replace hks := hks.mono hleD; replace hm := hm.mono hleD; replace hpM := hpM.mono hleD; replace hdM := hdM.mono hleD; replace hpD := hpD.mono hleD; replace hdD := hdD.mono hleD; replace hle0 := hle0.trans hleD; refine withPreds_nil rfl ?_; refine XO.move rfl rfl ?_; refine XO.nil ?_
          exact stepQ_ok trivial (rfl)
         refine stepsD_cons rfl ?_ ?_
         ·intro X HD hleD _
          replace hB := hB.mono hleD; replace hO := hO.mono hleD; replace hA := hA.mono hleD; replace hs := hs.mono hleD; replace hks := hks.mono hleD; replace hm := hm.mono hleD; replace hpM := hpM.mono hleD; replace hdM := hdM.mono hleD; replace hpD := hpD.mono hleD; replace hdD := hdD.mono hleD; replace hle0 := hle0.trans hleD; refine withPreds_cons rfl rfl ?_; rintro _ rfl; refine withPreds_cons rfl rfl ?_; rintro _ rfl; refine withPreds_nil rfl ?_; refine XO.indexE rfl rfl Try.underlying32 ty_34 (by omega) (by omega) rfl ?_; refine XO.nil ?_
          exact stepQ_ok trivial (rfl)
         refine stepsD_cons rfl ?_ ?_
         ·intro X HD hleD _
          replace hB := hB.mono hleD; replace hO := hO.mono hleD; replace hA := hA.mono hleD; replace hs := hs.mono hleD; replace hks := hks.mono hleD; replace hm := hm.mono hleD; replace hpM := hpM.mono hleD; replace hdM := hdM.mono hleD; replace hpD := hpD.mono hleD; replace hdD := hdD.mono hleD; replace hle0 := hle0.trans hleD; refine withPreds_cons rfl rfl ?_; rintro _ rfl; refine withPreds_nil rfl ?_; refine XO.loadH rfl (by assumption) ty_34 rfl rfl rfl ?_; refine XO.nil ?_
          exact stepQ_ok trivial (rfl)
         exact stepsD_end rfl
        case tail15 =>
         intro HD hleD _
         replace hB := hB.mono hleD; replace hO := hO.mono hleD; replace hA := hA.mono hleD; replace hs := hs.mono hleD; replace hks := hks.mono hleD; replace hm := hm.mono hleD; replace hpM := hpM.mono hleD; replace hdM := hdM.mono hleD; replace hpD := hpD.mono hleD; replace hdD := hdD.mono hleD; replace hle0 := hle0.trans hleD; refine withPreds_cons rfl rfl ?_; rintro _ rfl; refine withPreds_cons rfl rfl ?_; rintro _ rfl; refine withPreds_cons rfl rfl ?_; rintro _ rfl; refine withPreds_cons rfl rfl ?_; rintro _ rfl; refine withPreds_cons rfl rfl ?_; rintro _ ⟨a81, c81, rfl, hsl81, hcap81⟩; refine withPreds_cons rfl rfl ?_; rintro _ rfl; refine withPreds_cons rfl rfl ?_; rintro _ ⟨a83, c83, rfl, hsl83, hcap83⟩; refine withPreds_cons rfl rfl ?_; rintro _ rfl; refine withPreds_cons rfl rfl ?_; rintro _ rfl; refine withPreds_cons rfl rfl ?_; rintro _ rfl; refine withPreds_cons rfl rfl ?_; rintro _ rfl; refine withPreds_cons rfl rfl ?_; rintro _ ⟨bs88, rfl, hsl88⟩; refine withPreds_cons rfl rfl ?_; rintro _ ⟨a89, c89, rfl, hsl89⟩; refine withPreds_cons rfl rfl ?_; rintro _ rfl; refine withPreds_cons rfl rfl ?_; rintro _ rfl; refine withPreds_cons rfl rfl ?_; rintro _ rfl; refine withPreds_cons rfl rfl ?_; rintro _ rfl; refine withPreds_cons rfl rfl ?_; rintro _ rfl; refine withPreds_nil rfl ?_; refine XO.callV rfl (ih d (by omega) (l ++ [xM]) eD yD kD _ _ _ _ _ _ _ _ _ _ _ (by simp; omega) (fun z hz => (List.mem_append.1 hz).elim (hw z) (fun h => by simp only [List.mem_singleton] at h; subst h; exact hxl)) hB hO hA hsl89 hdD) rfl ?_; refine XO.notB rfl rfl ?_; refine XO.nil ?_; refine XC.seq2 ?_; refine XC.condB rfl (fun c8_21 => ?_) (fun c8_21 => ?_)
         ·refine XC.seq ?_; refine XC.region ?_; refine XO.assign rfl rfl ?_; refine XO.nil ?_; refine XC.seq2 ?_; refine XC.ret ?_; refine blockR ?_; refine seqX_ret ?_; refine loopX_ret ?_; refine blockR ?_; refine seqX_ret ?_; refine ⟨rfl, _, [], rfl, (by repeat (first | exact List.Sublist.refl _ | apply List.Sublist.cons_cons | apply List.Sublist.cons)), RetR.mk ?_⟩
          first | exact congrArg Value.bool (ref_bad (by omega) (by omega)).symm | exact congrArg Value.bool (ref_d0 (by omega) (by omega)).symm | exact congrArg Value.bool (by rw [ref_s (by omega) ⟨he, hy0⟩, zip_ne (by omega)]) | exact congrArg Value.bool (by rw [ref_s (by omega) ⟨he, hy0⟩, zip_diff hxM hxD (by simp_all)]) | exact congrArg Value.bool (by rw [ref_s (by omega) ⟨he, hy0⟩]; rw [List.take_of_length_le (by omega)] at hzp; exact hzp.symm)
         ·refine XC.skip ?_; refine blockN ?_; refine XC.seq2 ?_; refine XC.region ?_; refine XO.move rfl rfl ?_; refine XO.add rfl rfl (wrap_i64 (by omega) (by omega)) rfl ?_; refine XO.assign rfl rfl ?_; refine XO.nil ?_; refine loop_next (k + 1) (by show (lstE w (prs w.J ab) l.length).length - (k + 1) < (lstE w (prs w.J ab) l.length).length - k; omega) (prov_cons (rfl) (prov_cons (rfl) (prov_cons (rfl) (prov_cons (rfl) (prov_cons (rfl) (prov_cons (rfl) (prov_cons (rfl) (prov_cons (rfl) prov_nil)))))))) (⟨by show k + 1 ≤ (lstE w (prs w.J ab) l.length).length; omega, rfl, by rw [zip_step hxM hxD, hzp]; simp_all⟩) (by repeat (first | exact List.Sublist.refl _ | apply List.Sublist.cons_cons | apply List.Sublist.cons)) (hle0)
       ·skip
        refine XC.keep [1, 2, 3, 4, 6, 11, 13, 14] rfl ?_; obtain ⟨bEM, oEM, rfl⟩ := hm.addr (by omega); obtain ⟨_, xM, hxM, ⟨axM, cxM, rfl, hdM⟩, hpM⟩ := hm.elem (k) (by omega); obtain ⟨bED, oED, rfl⟩ := hks.addr (by omega); obtain ⟨_, xD, hxD, hRD, hpD⟩ := hks.elem (k) (by omega); obtain ⟨eD, yD, kD⟩ := xD; obtain ⟨aD, cD, rfl, hdD⟩ := denR_iff.1 hRD
        have hxl : xM.length ≤ 1000 := by have := lst_rows hn (List.mem_of_getElem? hxM); omega
        apply XC.drawM (fun _ => True) trivial [6] (by decide) [(12, 6)] (ownF ilR 26 l) (fun _ _ p _ => p.2 = .nothing) (ownF_mono _ _ _) (fun _ _ _ _ _ _ h => h) 18 [eqF _, eqF _, eqF _, eqF _, slF ilR ([] : Ls), eqF _, anyF, eqF _, eqF _, eqF _, eqF _, slF ilR [xM], slG ilR (l ++ [xM]), eqF _, eqF _, eqF _, eqF _, eqF _] follows (by kernel_rfl) ⟨eqF_mono _, eqF_mono _, eqF_mono _, eqF_mono _, slF_mono _ _, eqF_mono _, anyF_mono, eqF_mono _, eqF_mono _, eqF_mono _, eqF_mono _, slF_mono _ _, slG_mono _ _, eqF_mono _, eqF_mono _, eqF_mono _, eqF_mono _, eqF_mono _, trivial⟩ (by decide) (by kernel_rfl) ?steps22 ?tail22
        case steps22 =>
         refine stepsM_cons rfl rfl ?_ ?_
         ·intro X ext HD hleD _
          replace hB := hB.mono hleD; replace hO := hO.mono hleD; replace hA := hA.mono hleD; replace hs := hs.mono hleD; replace hks := hks.mono hleD; replace hm := hm.mono hleD; replace hpM := hpM.mono hleD; replace hdM := hdM.mono hleD; replace hpD := hpD.mono hleD; replace hdD := hdD.mono hleD; replace hle0 := hle0.trans hleD; refine withP_nil rfl ?_; refine XO.loadO 1 rfl rfl ty_24 rfl rfl rfl ?_; refine XO.nil ?_; exact stepQN_ok rfl trivial (rfl)
         refine stepsM_cons rfl rfl ?_ ?_
         ·intro X ext HD hleD _
          replace hB := hB.mono hleD; replace hO := hO.mono hleD; replace hA := hA.mono hleD; replace hs := hs.mono hleD; replace hks := hks.mono hleD; replace hm := hm.mono hleD; replace hpM := hpM.mono hleD; replace hdM := hdM.mono hleD; replace hpD := hpD.mono hleD; replace hdD := hdD.mono hleD; replace hle0 := hle0.trans hleD; refine withP_nil rfl ?_; refine XO.move rfl rfl ?_; refine XO.nil ?_; exact stepQN_ok rfl trivial (rfl)
         refine stepsM_cons rfl rfl ?_ ?_
         ·intro X ext HD hleD _
          replace hB := hB.mono hleD; replace hO := hO.mono hleD; replace hA := hA.mono hleD; replace hs := hs.mono hleD; replace hks := hks.mono hleD; replace hm := hm.mono hleD; replace hpM := hpM.mono hleD; replace hdM := hdM.mono hleD; replace hpD := hpD.mono hleD; replace hdD := hdD.mono hleD; replace hle0 := hle0.trans hleD; refine withP_nil rfl ?_; refine XO.move rfl rfl ?_; refine XO.nil ?_; exact stepQN_ok rfl trivial (rfl)
         refine stepsM_cons rfl rfl ?_ ?_
         ·intro X ext HD hleD _
          replace hB := hB.mono hleD; replace hO := hO.mono hleD; replace hA := hA.mono hleD; replace hs := hs.mono hleD; replace hks := hks.mono hleD; replace hm := hm.mono hleD; replace hpM := hpM.mono hleD; replace hdM := hdM.mono hleD; replace hpD := hpD.mono hleD; replace hdD := hdD.mono hleD; replace hle0 := hle0.trans hleD; refine withP_nil rfl ?_; refine XO.move rfl rfl ?_; refine XO.nil ?_; exact stepQN_ok rfl trivial (rfl)
         refine stepsM_cons rfl rfl ?_ ?_
         ·intro X ext HD hleD _
          replace hB := hB.mono hleD; replace hO := hO.mono hleD; replace hA := hA.mono hleD; replace hs := hs.mono hleD; replace hks := hks.mono hleD; replace hm := hm.mono hleD; replace hpM := hpM.mono hleD; replace hdM := hdM.mono hleD; replace hpD := hpD.mono hleD; replace hdD := hdD.mono hleD; replace hle0 := hle0.trans hleD; refine withP_nil rfl ?_; refine XO.buildSlice rfl Try.underlying25 ty_26 ze_26 rfl rfl rfl (fun b81 => ?_); refine XO.publish 0 rfl rfl rfl (fun HP81 oP81 hleP81 hbP81 hoP81 => ?_)
          have hsl81 := SlR.lit (ρ := ilR) (l := ([] : Ls)) hbP81 hoP81 rfl
          replace hB := hB.mono hleP81; replace hO := hO.mono hleP81; replace hA := hA.mono hleP81; replace hs := hs.mono hleP81; replace hks := hks.mono hleP81; replace hm := hm.mono hleP81; replace hpM := hpM.mono hleP81; replace hdM := hdM.mono hleP81; replace hpD := hpD.mono hleP81; replace hdD := hdD.mono hleP81; replace hle0 := hle0.trans hleP81; refine XO.nil ?_
          exact stepQN_ok rfl trivial (⟨_, rfl, hsl81⟩)
         refine stepsM_cons rfl rfl ?_ ?_
         ·intro X ext HD hleD _
          replace hB := hB.mono hleD; replace hO := hO.mono hleD; replace hA := hA.mono hleD; replace hs := hs.mono hleD; replace hks := hks.mono hleD; replace hm := hm.mono hleD; replace hpM := hpM.mono hleD; replace hdM := hdM.mono hleD; replace hpD := hpD.mono hleD; replace hdD := hdD.mono hleD; replace hle0 := hle0.trans hleD; refine withP_nil rfl ?_; refine XO.move rfl rfl ?_; refine XO.nil ?_; exact stepQN_ok rfl trivial (rfl)
         refine stepsM_cons rfl rfl ?_ ?_
         ·intro X ext HD hleD _
          replace hB := hB.mono hleD; replace hO := hO.mono hleD; replace hA := hA.mono hleD; replace hs := hs.mono hleD; replace hks := hks.mono hleD; replace hm := hm.mono hleD; replace hpM := hpM.mono hleD; replace hdM := hdM.mono hleD; replace hpD := hpD.mono hleD; replace hdD := hdD.mono hleD; replace hle0 := hle0.trans hleD; refine withP_cons rfl rfl ?_; rintro _ ⟨bs81, rfl, hsl81⟩; refine withP_cons rfl rfl ?_; rintro _ rfl; refine withP_nil rfl ?_; refine XO.appendN rfl hsl81 rfl rfl hs rfl (by have := List.length_pos_iff.2 hq0; simp; omega) Try.underlying25 ty_26 ze_26 rfl by_26 (by simp; omega) rfl (fun pe ae ce hacc => ?_); refine XO.nil ?_
          exact stepQN_new rfl trivial trivial (⟨_, _, rfl, hacc⟩)
         refine stepsM_cons rfl rfl ?_ ?_
         ·intro X ext HD hleD _
          replace hB := hB.mono hleD; replace hO := hO.mono hleD; replace hA := hA.mono hleD; replace hs := hs.mono hleD; replace hks := hks.mono hleD; replace hm := hm.mono hleD; replace hpM := hpM.mono hleD; replace hdM := hdM.mono hleD; replace hpD := hpD.mono hleD; replace hdD := hdD.mono hleD; replace hle0 := hle0.trans hleD; refine withP_nil rfl ?_; refine XO.move rfl rfl ?_; refine XO.nil ?_; exact stepQN_ok rfl trivial (rfl)
         refine stepsM_cons rfl rfl ?_ ?_
         ·intro X ext HD hleD _
          replace hB := hB.mono hleD; replace hO := hO.mono hleD; replace hA := hA.mono hleD; replace hs := hs.mono hleD; replace hks := hks.mono hleD; replace hm := hm.mono hleD; replace hpM := hpM.mono hleD; replace hdM := hdM.mono hleD; replace hpD := hpD.mono hleD; replace hdD := hdD.mono hleD; replace hle0 := hle0.trans hleD; refine withP_nil rfl ?_; refine XO.move rfl rfl ?_; refine XO.nil ?_; exact stepQN_ok rfl trivial (rfl)
         refine stepsM_cons rfl rfl ?_ ?_
         ·intro X ext HD hleD _
          replace hB := hB.mono hleD; replace hO := hO.mono hleD; replace hA := hA.mono hleD; replace hs := hs.mono hleD; replace hks := hks.mono hleD; replace hm := hm.mono hleD; replace hpM := hpM.mono hleD; replace hdM := hdM.mono hleD; replace hpD := hpD.mono hleD; replace hdD := hdD.mono hleD; replace hle0 := hle0.trans hleD; refine withP_cons rfl rfl ?_; rintro _ rfl; refine withP_cons rfl rfl ?_; rintro _ rfl; refine withP_nil rfl ?_; refine XO.indexE rfl rfl Try.underlying25 ty_26 (by omega) (by omega) rfl ?_; refine XO.nil ?_; exact stepQN_ok rfl trivial (rfl)
         refine stepsM_cons rfl rfl ?_ ?_
         ·intro X ext HD hleD _
          replace hB := hB.mono hleD; replace hO := hO.mono hleD; replace hA := hA.mono hleD; replace hs := hs.mono hleD; replace hks := hks.mono hleD; replace hm := hm.mono hleD; replace hpM := hpM.mono hleD; replace hdM := hdM.mono hleD; replace hpD := hpD.mono hleD; replace hdD := hdD.mono hleD; replace hle0 := hle0.trans hleD; refine withP_cons rfl rfl ?_; rintro _ rfl; refine withP_nil rfl ?_; refine XO.loadH rfl (by assumption) ty_26 rfl rfl rfl ?_; refine XO.nil ?_; exact stepQN_ok rfl trivial (rfl)
         refine stepsM_cons rfl rfl ?_ ?_
         ·intro X ext HD hleD _
          replace hB := hB.mono hleD; replace hO := hO.mono hleD; replace hA := hA.mono hleD; replace hs := hs.mono hleD; replace hks := hks.mono hleD; replace hm := hm.mono hleD; replace hpM := hpM.mono hleD; replace hdM := hdM.mono hleD; replace hpD := hpD.mono hleD; replace hdD := hdD.mono hleD; replace hle0 := hle0.trans hleD; refine withP_cons rfl rfl ?_; rintro _ rfl; refine withP_nil rfl ?_; refine XO.buildSlice rfl Try.underlying25 ty_26 ze_26 rfl rfl rfl (fun b88 => ?_); refine XO.publish 0 rfl rfl rfl (fun HP88 oP88 hleP88 hbP88 hoP88 => ?_); replace hB := hB.mono hleP88; replace hO := hO.mono hleP88; replace hA := hA.mono hleP88; replace hs := hs.mono hleP88; replace hks := hks.mono hleP88; replace hm := hm.mono hleP88; replace hpM := hpM.mono hleP88; replace hdM := hdM.mono hleP88; replace hpD := hpD.mono hleP88; replace hdD := hdD.mono hleP88; replace hle0 := hle0.trans hleP88
          have hsl88 := SlR.lit (ρ := ilR) (l := [xM]) hbP88 hoP88 (RowsR.one1 ⟨_, _, rfl, hdM⟩)
          refine XO.nil ?_
          exact stepQN_ok rfl trivial (⟨_, rfl, hsl88⟩)
         refine stepsM_mod rfl rfl ?_ ?_
         ·intro X ext p HD hleD _
          replace hB := hB.mono hleD; replace hO := hO.mono hleD; replace hA := hA.mono hleD; replace hs := hs.mono hleD; replace hks := hks.mono hleD; replace hm := hm.mono hleD; replace hpM := hpM.mono hleD; replace hdM := hdM.mono hleD; replace hpD := hpD.mono hleD; replace hdD := hdD.mono hleD; replace hle0 := hle0.trans hleD; refine withP_cons rfl rfl ?_; rintro _ _; refine withP_cons rfl rfl ?_; rintro _ ⟨bs88, rfl, hsl88⟩; refine withP_nil rfl ?_
          intro hfo
          obtain ⟨ab, cb, rfl, haccb⟩ := hfo _ _ rfl rfl; refine XO.appendA 0 rfl rfl haccb rfl rfl hsl88 rfl Try.underlying25 ty_26 ze_26 rfl by_26 (by simp; omega) rfl (fun pc ac cc haccc => ?_); refine XO.publishA 0 rfl haccc rfl (fun HQ hleQ hsQ => ?_); refine XO.open0 (σ := []) (fun b0 => ?_); refine XO.nil ?_
          exact stepQM_ok trivial (⟨_, _, rfl, hsQ⟩) (fun u t h1 h2 => rfl)
         refine stepsM_cons rfl rfl ?_ ?_
         ·intro X ext HD hleD _
          replace hB := hB.mono hleD; replace hO := hO.mono hleD; replace hA := hA.mono hleD; replace hs := hs.mono hleD; replace hks := hks.mono hleD; replace hm := hm.mono hleD; replace hpM := hpM.mono hleD; replace hdM := hdM.mono hleD; replace hpD := hpD.mono hleD; replace hdD := hdD.mono hleD; replace hle0 := hle0.trans hleD; refine withP_nil rfl ?_; refine XO.fieldAddr rfl fa_34_2 rfl ?_; refine XO.nil ?_; exact stepQN_ok rfl trivial (rfl)
         refine stepsM_cons rfl rfl ?_ ?_
         ·intro X ext HD hleD _
          replace hB := hB.mono hleD; replace hO := hO.mono hleD; replace hA := hA.mono hleD; replace hs := hs.mono hleD; replace hks := hks.mono hleD; replace hm := hm.mono hleD; replace hpM := hpM.mono hleD; replace hdM := hdM.mono hleD; replace hpD := hpD.mono hleD; replace hdD := hdD.mono hleD; replace hle0 := hle0.trans hleD; refine withP_cons rfl rfl ?_; rintro _ rfl; refine withP_nil rfl ?_; refine XO.loadO 0 rfl rfl ty_32 rfl rfl rfl ?_; refine XO.nil ?_; exact stepQN_ok rfl trivial (rfl)
         refine stepsM_cons rfl rfl ?_ ?_
         ·intro X ext HD hleD _
          replace hB := hB.mono hleD; replace hO := hO.mono hleD; replace hA := hA.mono hleD; replace hs := hs.mono hleD; replace hks := hks.mono hleD; replace hm := hm.mono hleD; replace hpM := hpM.mono hleD; replace hdM := hdM.mono hleD; replace hpD := hpD.mono hleD; replace hdD := hdD.mono hleD; replace hle0 := hle0.trans hleD; refine withP_nil rfl ?_; refine XO.move rfl rfl ?_; refine XO.nil ?_; exact stepQN_ok rfl trivial (rfl)
         refine stepsM_cons rfl rfl ?_ ?_
         ·intro X ext HD hleD _
          replace hB := hB.mono hleD; replace hO := hO.mono hleD; replace hA := hA.mono hleD; replace hs := hs.mono hleD; replace hks := hks.mono hleD; replace hm := hm.mono hleD; replace hpM := hpM.mono hleD; replace hdM := hdM.mono hleD; replace hpD := hpD.mono hleD; replace hdD := hdD.mono hleD; replace hle0 := hle0.trans hleD; refine withP_cons rfl rfl ?_; rintro _ rfl; refine withP_cons rfl rfl ?_; rintro _ rfl; refine withP_nil rfl ?_; refine XO.indexE rfl rfl Try.underlying32 ty_34 (by omega) (by omega) rfl ?_; refine XO.nil ?_; exact stepQN_ok rfl trivial (rfl)
         refine stepsM_cons rfl rfl ?_ ?_
         ·intro X ext HD hleD _
          replace hB := hB.mono hleD; replace hO := hO.mono hleD; replace hA := hA.mono hleD; replace hs := hs.mono hleD; replace hks := hks.mono hleD; replace hm := hm.mono hleD; replace hpM := hpM.mono hleD; replace hdM := hdM.mono hleD; replace hpD := hpD.mono hleD; replace hdD := hdD.mono hleD; replace hle0 := hle0.trans hleD; refine withP_cons rfl rfl ?_; rintro _ rfl; refine withP_nil rfl ?_; refine XO.loadH rfl (by assumption) ty_34 rfl rfl rfl ?_; refine XO.nil ?_; exact stepQN_ok rfl trivial (rfl)
         exact stepsM_end rfl
        case tail22 =>
         intro HD hleD _
         replace hB := hB.mono hleD; replace hO := hO.mono hleD; replace hA := hA.mono hleD; replace hs := hs.mono hleD; replace hks := hks.mono hleD; replace hm := hm.mono hleD; replace hpM := hpM.mono hleD; replace hdM := hdM.mono hleD; replace hpD := hpD.mono hleD; replace hdD := hdD.mono hleD; replace hle0 := hle0.trans hleD; refine withP_cons rfl rfl ?_; rintro _ rfl; refine withP_cons rfl rfl ?_; rintro _ rfl; refine withP_cons rfl rfl ?_; rintro _ rfl; refine withP_cons rfl rfl ?_; rintro _ rfl; refine withP_cons rfl rfl ?_; rintro _ ⟨bs81, rfl, hsl81⟩; refine withP_cons rfl rfl ?_; rintro _ rfl; refine withP_cons rfl rfl ?_; rintro _ _; refine withP_cons rfl rfl ?_; rintro _ rfl; refine withP_cons rfl rfl ?_; rintro _ rfl; refine withP_cons rfl rfl ?_; rintro _ rfl; refine withP_cons rfl rfl ?_; rintro _ rfl; refine withP_cons rfl rfl ?_; rintro _ ⟨bs88, rfl, hsl88⟩; refine withP_cons rfl rfl ?_; rintro _ ⟨a89, c89, rfl, hsl89⟩; refine withP_cons rfl rfl ?_; rintro _ rfl; refine withP_cons rfl rfl ?_; rintro _ rfl; refine withP_cons rfl rfl ?_; rintro _ rfl; refine withP_cons rfl rfl ?_; rintro _ rfl; refine withP_cons rfl rfl ?_; rintro _ rfl; refine withP_nil rfl ?_; refine withEnts_cons ?_
         intro pe hpe
         refine withEnts_nil ?_; refine XO.callV rfl (ih d (by omega) (l ++ [xM]) eD yD kD _ _ _ _ _ _ _ _ _ _ _ (by simp; omega) (fun z hz => (List.mem_append.1 hz).elim (hw z) (fun h => by simp only [List.mem_singleton] at h; subst h; exact hxl)) hB hO hA hsl89 hdD) rfl ?_; refine XO.notB rfl rfl ?_; refine XO.nil ?_; refine XC.seq2 ?_; refine XC.condB rfl (fun c8_27 => ?_) (fun c8_27 => ?_)
         ·refine XC.seq ?_; refine XC.region ?_; refine XO.assign rfl rfl ?_; refine XO.nil ?_; refine XC.seq2 ?_; refine XC.ret ?_; refine blockR ?_; refine seqX_ret ?_; refine loopX_ret ?_; refine blockR ?_; refine seqX_ret ?_; refine ⟨rfl, _, [], rfl, (by repeat (first | exact List.Sublist.refl _ | apply List.Sublist.cons_cons | apply List.Sublist.cons)), RetR.mk ?_⟩
          first | exact congrArg Value.bool (ref_bad (by omega) (by omega)).symm | exact congrArg Value.bool (ref_d0 (by omega) (by omega)).symm | exact congrArg Value.bool (by rw [ref_s (by omega) ⟨he, hy0⟩, zip_ne (by omega)]) | exact congrArg Value.bool (by rw [ref_s (by omega) ⟨he, hy0⟩, zip_diff hxM hxD (by simp_all)]) | exact congrArg Value.bool (by rw [ref_s (by omega) ⟨he, hy0⟩]; rw [List.take_of_length_le (by omega)] at hzp; exact hzp.symm)
         ·refine XC.skip ?_; refine blockN ?_; refine XC.seq2 ?_; refine XC.region ?_; refine XO.move rfl rfl ?_; refine XO.add rfl rfl (wrap_i64 (by omega) (by omega)) rfl ?_; refine XO.assign rfl rfl ?_; refine XO.nil ?_; refine loop_next (k + 1) (by show (lstE w (prs w.J ab) l.length).length - (k + 1) < (lstE w (prs w.J ab) l.length).length - k; omega) (prov_cons (rfl) (prov_cons (rfl) (prov_cons (rfl) (prov_cons (rfl) (prov_cons (rfl) (prov_cons (rfl) (prov_cons (rfl) (prov_cons (rfl) prov_nil)))))))) (⟨by show k + 1 ≤ (lstE w (prs w.J ab) l.length).length; omega, rfl, by rw [zip_step hxM hxD, hzp]; simp_all⟩) (by repeat (first | exact List.Sublist.refl _ | apply List.Sublist.cons_cons | apply List.Sublist.cons)) (hle0)
      ·obtain rfl : k = (lstE w (prs w.J ab) l.length).length := by omega
       rw [List.take_length] at hzp
       refine XC.exit ?_; refine seqX_exit ?_; refine loopX_exit ?_; refine blockHit rfl ?_; refine XC.seq2 ?_; refine XC.seq ?_; refine XC.region ?_; refine XO.assign rfl rfl ?_; refine XO.nil ?_; refine XC.seq2 ?_; refine XC.ret ?_; refine ⟨rfl, _, [], rfl, (by repeat (first | exact List.Sublist.refl _ | apply List.Sublist.cons_cons | apply List.Sublist.cons)), RetR.mk ?_⟩
       first | exact congrArg Value.bool (ref_bad (by omega) (by omega)).symm | exact congrArg Value.bool (ref_d0 (by omega) (by omega)).symm | exact congrArg Value.bool (by rw [ref_s (by omega) ⟨he, hy0⟩, zip_ne (by omega)]) | exact congrArg Value.bool (by rw [ref_s (by omega) ⟨he, hy0⟩, zip_diff hxM hxD (by simp_all)]) | exact congrArg Value.bool (by rw [ref_s (by omega) ⟨he, hy0⟩]; rw [List.take_of_length_le (by omega)] at hzp; exact hzp.symm)
   ·have g10p := of_decide_eq_true g10
    refine XO.guardF rfl rfl (g10) rfl rfl ?_; refine XO.guardF rfl rfl (g10) rfl rfl ?_; refine XO.pickT rfl (g10) rfl rfl ?_; refine XO.nil ?_; refine XC.seq2 ?_; refine XC.condT rfl (rfl) ?_; refine XC.seq ?_; refine XC.region ?_; refine XO.assign rfl rfl ?_; refine XO.nil ?_; refine XC.seq2 ?_; refine XC.ret ?_; refine seqX_ret ?_; refine ⟨rfl, _, [], rfl, (by repeat (first | exact List.Sublist.refl _ | apply List.Sublist.cons_cons | apply List.Sublist.cons)), RetR.mk ?_⟩
    first | exact congrArg Value.bool (ref_bad (by omega) (by omega)).symm | exact congrArg Value.bool (ref_d0 (by omega) (by omega)).symm | exact congrArg Value.bool (by rw [ref_s (by omega) ⟨he, hy0⟩, zip_ne (by omega)]) | exact congrArg Value.bool (by rw [ref_s (by omega) ⟨he, hy0⟩, zip_diff hxM hxD (by simp_all)]) | exact congrArg Value.bool (by rw [ref_s (by omega) ⟨he, hy0⟩]; rw [List.take_of_length_le (by omega)] at hzp; exact hzp.symm)
  ·have g9p := of_decide_eq_true g9
   refine XO.guardF rfl rfl (g9) rfl rfl ?_; refine XO.guardF rfl rfl (g9) rfl rfl ?_; refine XO.guardF rfl rfl (g9) rfl rfl ?_; refine XO.guardF rfl rfl (g9) rfl rfl ?_; refine XO.guardF rfl rfl (g9) rfl rfl ?_; refine XO.pickT rfl (g9) rfl rfl ?_; refine XO.move rfl rfl ?_; refine XO.guardF rfl rfl (rfl) rfl rfl ?_; refine XO.guardF rfl rfl (rfl) rfl rfl ?_; refine XO.guardF rfl rfl (rfl) rfl rfl ?_; refine XO.pickT rfl (rfl) rfl rfl ?_; refine XO.nil ?_; refine XC.seq2 ?_; refine XC.condT rfl (rfl) ?_; refine XC.seq ?_; refine XC.region ?_; refine XO.assign rfl rfl ?_; refine XO.nil ?_; refine XC.seq2 ?_; refine XC.ret ?_; refine seqX_ret ?_; refine ⟨rfl, _, [], rfl, (by repeat (first | exact List.Sublist.refl _ | apply List.Sublist.cons_cons | apply List.Sublist.cons)), RetR.mk ?_⟩
   first | exact congrArg Value.bool (ref_bad (by omega) (by omega)).symm | exact congrArg Value.bool (ref_d0 (by omega) (by omega)).symm | exact congrArg Value.bool (by rw [ref_s (by omega) ⟨he, hy0⟩, zip_ne (by omega)]) | exact congrArg Value.bool (by rw [ref_s (by omega) ⟨he, hy0⟩, zip_diff hxM hxD (by simp_all)]) | exact congrArg Value.bool (by rw [ref_s (by omega) ⟨he, hy0⟩]; rw [List.take_of_length_le (by omega)] at hzp; exact hzp.symm)

theorem sameD_all : ∀ (m : Nat) (e y e2 y2 : Int) (ks ks2 : List Den) (ad ad2 : Option Addr) (cd cd2 : Nat) (H : Hp), dsz (.mk e y ks) ≤ m → FitD (.mk e y ks) → SlR denR H ad cd ks → SlR denR H ad2 cd2 ks2 →
 FnC Try.prog 16 #[.agg ⟨[.int .i64 e, .int .i64 y, .slice ad ks.length cd]⟩, .agg ⟨[.int .i64 e2, .int .i64 y2, .slice ad2 ks2.length cd2]⟩] H [] (RetR fun v _ _ => v = .bool (sameD (.mk e y ks) (.mk e2 y2 ks2))) := by
 intro m
 refine Nat.strongRecOn m ?_
 clear m
 intro m ih e y e2 y2 ks ks2 ad ad2 cd cd2 H hm hf hs ht
 have hfl := hf.of.1
 refine FnC.intro (args := [.agg ⟨[.int .i64 e, .int .i64 y, .slice ad ks.length cd]⟩, .agg ⟨[.int .i64 e2, .int .i64 y2, .slice ad2 ks2.length cd2]⟩]) Try.func16 rfl rfl Try.ntmps16 rfl rfl rfl fun G rest => ?_
 refine XC.seq ?_; refine XC.region ?_; refine XO.box rfl rfl rfl (fun b2 => ?_); refine XO.box rfl rfl rfl (fun b3 => ?_); refine XO.assign rfl rfl ?_; refine XO.nil ?_; refine XC.seq2 ?_; refine XC.seq ?_; refine XC.seq ?_; refine XC.region ?_; refine XO.fieldAddr rfl fa_34_0 rfl ?_; refine XO.loadO 1 rfl rfl ty_3 rfl rfl rfl ?_; refine XO.fieldAddr rfl fa_34_0 rfl ?_; refine XO.loadO 0 rfl rfl ty_3 rfl rfl rfl ?_; refine XO.neq rfl rfl rfl ?_; refine XO.move rfl rfl ?_; refine XO.guardC rfl rfl rfl rfl (fun g1 => ?_) (fun g1 => ?_)
 ·have g1p := of_decide_eq_false g1
  refine XO.fieldAddr rfl fa_34_1 rfl ?_; refine XO.guardT rfl rfl (g1) rfl ?_; refine XO.loadO 1 rfl rfl ty_3 rfl rfl rfl ?_; refine XO.guardT rfl rfl (g1) rfl ?_; refine XO.fieldAddr rfl fa_34_1 rfl ?_; refine XO.guardT rfl rfl (g1) rfl ?_; refine XO.loadO 0 rfl rfl ty_3 rfl rfl rfl ?_; refine XO.guardT rfl rfl (g1) rfl ?_; refine XO.neq rfl rfl rfl ?_; refine XO.pickF rfl (g1) rfl rfl ?_; refine XO.move rfl rfl ?_; refine XO.guardC rfl rfl rfl rfl (fun g2 => ?_) (fun g2 => ?_)
  ·have g2p := of_decide_eq_false g2
   refine XO.fieldAddr rfl fa_34_2 rfl ?_; refine XO.guardT rfl rfl (g2) rfl ?_; refine XO.loadO 1 rfl rfl ty_32 rfl rfl rfl ?_; refine XO.guardT rfl rfl (g2) rfl ?_; refine XO.lenS (ts := #[]) rfl Try.underlying32 rfl ?_; refine XO.guardT rfl rfl (g2) rfl ?_; refine XO.fieldAddr rfl fa_34_2 rfl ?_; refine XO.guardT rfl rfl (g2) rfl ?_; refine XO.loadO 0 rfl rfl ty_32 rfl rfl rfl ?_; refine XO.guardT rfl rfl (g2) rfl ?_; refine XO.lenS (ts := #[]) rfl Try.underlying32 rfl ?_; refine XO.guardT rfl rfl (g2) rfl ?_; refine XO.neq rfl rfl rfl ?_; refine XO.pickF rfl (g2) rfl rfl ?_; refine XO.nil ?_; refine XC.seq2 ?_; refine XC.cond rfl (fun c0_3 => ?_) (fun c0_3 => ?_)
   ·refine XC.seq ?_; refine XC.region ?_; refine XO.assign rfl rfl ?_; refine XO.nil ?_; refine XC.seq2 ?_; refine XC.ret ?_; refine seqX_ret ?_; refine ⟨rfl, _, [], rfl, (by repeat (first | exact List.Sublist.refl _ | apply List.Sublist.cons)), RetR.mk ?_⟩
    first | exact congrArg Value.bool (bf (fun h => by rw [sameD_mk] at h; have h3 := sameDL_len h.2; omega)).symm | exact congrArg Value.bool (bf (fun h => by rw [sameD_mk, sameDL_diff hxX hxY (by simp_all)] at h; cases h.2)).symm | exact congrArg Value.bool (sameD_mk.2 ⟨by omega, heq⟩).symm
   ·refine XC.skip ?_; refine XC.seq2 ?_; refine XC.seq ?_; refine XC.seq ?_; refine XC.region ?_; refine XO.assign rfl rfl ?_; refine XO.nil ?_; refine XC.seq2 ?_; refine XC.block ?_; refine XC.keep [5, 2, 3] rfl ?_; refine XC.loop (base := [(2, _), (3, _)]) (fun ζ : Nat => [(5, .int .i64 (ζ : Nat))]) (fun ζ Hl own => ζ ≤ ks.length ∧ (b3, .cells 34 [.int .i64 e2, .int .i64 y2, .slice ad2 ks2.length cd2]) :: (b2, .cells 34 [.int .i64 e, .int .i64 y, .slice ad ks.length cd]) :: rest = own ∧ (sameDL (ks.take ζ) (ks2.take ζ) = true)) (fun ζ => ks.length - ζ) 0 (prov_cons (rfl) (prov_cons (rfl) (prov_cons (rfl) prov_nil))) (by repeat (first | exact List.Sublist.refl _ | apply List.Sublist.cons_cons | apply List.Sublist.cons)) ⟨Nat.zero_le _, rfl, rfl⟩ ?_; rintro k Hl0 _ hle0 ⟨hkk, rfl, heq⟩; replace hs := hs.mono hle0; replace ht := ht.mono hle0
    try dsimp only at ⊢
    refine XC.seq ?_; refine XC.seq ?_; refine XC.region ?_; refine XO.move rfl rfl ?_; refine XO.fieldAddr rfl fa_34_2 rfl ?_; refine XO.loadO 1 rfl rfl ty_32 rfl rfl rfl ?_; refine XO.lenS (ts := #[]) rfl Try.underlying32 rfl ?_; refine XO.lss rfl rfl rfl ?_; refine XO.nil ?_; refine XC.seq2 ?_; refine XC.cond rfl (fun c1_4 => ?_) (fun c1_4 => ?_)
    ·refine XC.skip ?_; refine XC.seq2 ?_; refine XC.seq ?_; refine XC.block ?_; refine XC.seq ?_; refine XC.keep [2, 3, 5] rfl ?_; obtain ⟨bEX, oEX, rfl⟩ := hs.addr (by omega); obtain ⟨_, xX, hxX, hRX, hpX⟩ := hs.elem (k) (by omega); obtain ⟨eX, yX, kX⟩ := xX; obtain ⟨aX, cX, rfl, hdX⟩ := denR_iff.1 hRX; obtain ⟨bEY, oEY, rfl⟩ := ht.addr (by omega); obtain ⟨_, xY, hxY, hRY, hpY⟩ := ht.elem (k) (by omega); obtain ⟨eY, yY, kY⟩ := xY; obtain ⟨aY, cY, rfl, hdY⟩ := denR_iff.1 hRY
     apply XC.draw 10 [eqF _, eqF _, eqF _, eqF _, eqF _, eqF _, eqF _, eqF _, eqF _, eqF _] follows (by kernel_rfl) (by kernel_rfl) ⟨eqF_mono _, eqF_mono _, eqF_mono _, eqF_mono _, eqF_mono _, eqF_mono _, eqF_mono _, eqF_mono _, eqF_mono _, eqF_mono _, trivial⟩ ?steps5 ?tail5
     case steps5 =>
      refine stepsK_cons rfl ?_ ?_
      ·intro X
       refine withPreds_nil rfl ?_; refine XO.fieldAddr rfl fa_34_2 rfl ?_; refine XO.nil ?_
       exact stepQ_ok rfl (rfl)
      refine stepsK_cons rfl ?_ ?_
      ·intro X
       refine withPreds_cons rfl rfl ?_; rintro _ rfl; refine withPreds_nil rfl ?_; refine XO.loadO 1 rfl rfl ty_32 rfl rfl rfl ?_; refine XO.nil ?_
       exact stepQ_ok rfl (rfl)
      refine stepsK_cons rfl ?_ ?_
      ·intro X
       refine withPreds_nil rfl ?_; refine XO.move rfl rfl ?_; refine XO.nil ?_
       exact stepQ_ok rfl (rfl)
      refine stepsK_cons rfl ?_ ?_
      ·intro X
       refine withPreds_cons rfl rfl ?_; rintro _ rfl; refine withPreds_cons rfl rfl ?_; rintro _ rfl; refine withPreds_nil rfl ?_; refine XO.indexE rfl rfl Try.underlying32 ty_34 (by omega) (by omega) rfl ?_; refine XO.nil ?_
       exact stepQ_ok rfl (rfl)
      refine stepsK_cons rfl ?_ ?_
      ·intro X
       refine withPreds_cons rfl rfl ?_; rintro _ rfl; refine withPreds_nil rfl ?_; refine XO.loadH rfl (by assumption) ty_34 rfl rfl rfl ?_; refine XO.nil ?_
       exact stepQ_ok rfl (rfl)
      refine stepsK_cons rfl ?_ ?_
      ·intro X
       refine withPreds_nil rfl ?_; refine XO.fieldAddr rfl fa_34_2 rfl ?_; refine XO.nil ?_
       exact stepQ_ok rfl (rfl)
      refine stepsK_cons rfl ?_ ?_
      ·intro X
       refine withPreds_cons rfl rfl ?_; rintro _ rfl; refine withPreds_nil rfl ?_; refine XO.loadO 0 rfl rfl ty_32 rfl rfl rfl ?_; refine XO.nil ?_
       exact stepQ_ok rfl (rfl)
      refine stepsK_cons rfl ?_ ?_
      ·intro X
       refine withPreds_nil rfl ?_; refine XO.move rfl rfl ?_; refine XO.nil ?_
       exact stepQ_ok rfl (rfl)
      refine stepsK_cons rfl ?_ ?_
      ·intro X
       refine withPreds_cons rfl rfl ?_; rintro _ rfl; refine withPreds_cons rfl rfl ?_; rintro _ rfl; refine withPreds_nil rfl ?_; refine XO.indexE rfl rfl Try.underlying32 ty_34 (by omega) (by omega) rfl ?_; refine XO.nil ?_
       exact stepQ_ok rfl (rfl)
      refine stepsK_cons rfl ?_ ?_
      ·intro X
       refine withPreds_cons rfl rfl ?_; rintro _ rfl; refine withPreds_nil rfl ?_; refine XO.loadH rfl (by assumption) ty_34 rfl rfl rfl ?_; refine XO.nil ?_
       exact stepQ_ok rfl (rfl)
      exact stepsD_end rfl
     case tail5 =>
      refine withPreds_cons rfl rfl ?_; rintro _ rfl; refine withPreds_cons rfl rfl ?_; rintro _ rfl; refine withPreds_cons rfl rfl ?_; rintro _ rfl; refine withPreds_cons rfl rfl ?_; rintro _ rfl; refine withPreds_cons rfl rfl ?_; rintro _ rfl; refine withPreds_cons rfl rfl ?_; rintro _ rfl; refine withPreds_cons rfl rfl ?_; rintro _ rfl; refine withPreds_cons rfl rfl ?_; rintro _ rfl; refine withPreds_cons rfl rfl ?_; rintro _ rfl; refine withPreds_cons rfl rfl ?_; rintro _ rfl; refine withPreds_nil rfl ?_; refine XO.callV rfl (ih (dsz (.mk eX yX kX)) (by have := dsz_lt (e := e) (y := y) (List.mem_of_getElem? hxX); omega) eX yX eY yY kX kY _ _ _ _ _ (Nat.le_refl _) (hf.of.2 _ (List.mem_of_getElem? hxX)) hdX hdY) rfl ?_; refine XO.notB rfl rfl ?_; refine XO.nil ?_; refine XC.seq2 ?_; refine XC.condB rfl (fun c2_9 => ?_) (fun c2_9 => ?_)
      ·refine XC.seq ?_; refine XC.region ?_; refine XO.assign rfl rfl ?_; refine XO.nil ?_; refine XC.seq2 ?_; refine XC.ret ?_; refine blockR ?_; refine seqX_ret ?_; refine loopX_ret ?_; refine blockR ?_; refine seqX_ret ?_; refine ⟨rfl, _, [], rfl, (by repeat (first | exact List.Sublist.refl _ | apply List.Sublist.cons)), RetR.mk ?_⟩
       first | exact congrArg Value.bool (bf (fun h => by rw [sameD_mk] at h; have h3 := sameDL_len h.2; omega)).symm | exact congrArg Value.bool (bf (fun h => by rw [sameD_mk, sameDL_diff hxX hxY (by simp_all)] at h; cases h.2)).symm | exact congrArg Value.bool (sameD_mk.2 ⟨by omega, heq⟩).symm
      ·refine XC.skip ?_; refine blockN ?_; refine XC.seq2 ?_; refine XC.region ?_; refine XO.move rfl rfl ?_; refine XO.add rfl rfl (wrap_i64 (by omega) (by omega)) rfl ?_; refine XO.assign rfl rfl ?_; refine XO.nil ?_; refine loop_next (k + 1) (by show ks.length - (k + 1) < ks.length - k; omega) (prov_cons (rfl) (prov_cons (rfl) (prov_cons (rfl) prov_nil))) (⟨by show k + 1 ≤ ks.length; omega, rfl, by rw [sameDL_snoc hxX hxY, heq]; simp_all⟩) (by repeat (first | exact List.Sublist.refl _ | apply List.Sublist.cons_cons | apply List.Sublist.cons)) (hle0)
    ·obtain rfl : k = ks.length := by omega
     rw [List.take_length, List.take_of_length_le (by omega)] at heq
     refine XC.exit ?_; refine seqX_exit ?_; refine loopX_exit ?_; refine blockHit rfl ?_; refine XC.seq2 ?_; refine XC.seq ?_; refine XC.region ?_; refine XO.assign rfl rfl ?_; refine XO.nil ?_; refine XC.seq2 ?_; refine XC.ret ?_; refine ⟨rfl, _, [], rfl, (by repeat (first | exact List.Sublist.refl _ | apply List.Sublist.cons)), RetR.mk ?_⟩
     first | exact congrArg Value.bool (bf (fun h => by rw [sameD_mk] at h; have h3 := sameDL_len h.2; omega)).symm | exact congrArg Value.bool (bf (fun h => by rw [sameD_mk, sameDL_diff hxX hxY (by simp_all)] at h; cases h.2)).symm | exact congrArg Value.bool (sameD_mk.2 ⟨by omega, heq⟩).symm
  ·have g2p := of_decide_eq_true g2
   refine XO.guardF rfl rfl (g2) rfl rfl ?_; refine XO.guardF rfl rfl (g2) rfl rfl ?_; refine XO.guardF rfl rfl (g2) rfl rfl ?_; refine XO.guardF rfl rfl (g2) rfl rfl ?_; refine XO.guardF rfl rfl (g2) rfl rfl ?_; refine XO.guardF rfl rfl (g2) rfl rfl ?_; refine XO.pickT rfl (g2) rfl rfl ?_; refine XO.nil ?_; refine XC.seq2 ?_; refine XC.condT rfl (rfl) ?_; refine XC.seq ?_; refine XC.region ?_; refine XO.assign rfl rfl ?_; refine XO.nil ?_; refine XC.seq2 ?_; refine XC.ret ?_; refine seqX_ret ?_; refine ⟨rfl, _, [], rfl, (by repeat (first | exact List.Sublist.refl _ | apply List.Sublist.cons)), RetR.mk ?_⟩
   first | exact congrArg Value.bool (bf (fun h => by rw [sameD_mk] at h; have h3 := sameDL_len h.2; omega)).symm | exact congrArg Value.bool (bf (fun h => by rw [sameD_mk, sameDL_diff hxX hxY (by simp_all)] at h; cases h.2)).symm | exact congrArg Value.bool (sameD_mk.2 ⟨by omega, heq⟩).symm
 ·have g1p := of_decide_eq_true g1
  refine XO.guardF rfl rfl (g1) rfl rfl ?_; refine XO.guardF rfl rfl (g1) rfl rfl ?_; refine XO.guardF rfl rfl (g1) rfl rfl ?_; refine XO.guardF rfl rfl (g1) rfl rfl ?_; refine XO.pickT rfl (g1) rfl rfl ?_; refine XO.move rfl rfl ?_; refine XO.guardF rfl rfl (rfl) rfl rfl ?_; refine XO.guardF rfl rfl (rfl) rfl rfl ?_; refine XO.guardF rfl rfl (rfl) rfl rfl ?_; refine XO.guardF rfl rfl (rfl) rfl rfl ?_; refine XO.guardF rfl rfl (rfl) rfl rfl ?_; refine XO.guardF rfl rfl (rfl) rfl rfl ?_; refine XO.guardF rfl rfl (rfl) rfl rfl ?_; refine XO.pickT rfl (rfl) rfl rfl ?_; refine XO.nil ?_; refine XC.seq2 ?_; refine XC.condT rfl (rfl) ?_; refine XC.seq ?_; refine XC.region ?_; refine XO.assign rfl rfl ?_; refine XO.nil ?_; refine XC.seq2 ?_; refine XC.ret ?_; refine seqX_ret ?_; refine ⟨rfl, _, [], rfl, (by repeat (first | exact List.Sublist.refl _ | apply List.Sublist.cons)), RetR.mk ?_⟩
  first | exact congrArg Value.bool (bf (fun h => by rw [sameD_mk] at h; have h3 := sameDL_len h.2; omega)).symm | exact congrArg Value.bool (bf (fun h => by rw [sameD_mk, sameDL_diff hxX hxY (by simp_all)] at h; cases h.2)).symm | exact congrArg Value.bool (sameD_mk.2 ⟨by omega, heq⟩).symm

theorem parts_all : ∀ (m : Nat) (e y : Int) (ks : List Den) (ad : Option Addr) (cd : Nat) (lim : Int) (H : Hp), dsz (.mk e y ks) ≤ m → FitD (.mk e y ks) → 0 ≤ lim → lim ≤ 1000000 → SlR denR H ad cd ks →
 FnC Try.prog 17 #[.agg ⟨[.int .i64 e, .int .i64 y, .slice ad ks.length cd]⟩, .int .i64 lim] H [] (RetR fun v _ _ => ∃ q : Int, v = .int .i64 q ∧ 1 ≤ q ∧ q ≤ lim + 1) := by
 intro m
 refine Nat.strongRecOn m ?_
 clear m
 intro m ih e y ks ad cd lim H hm hf hl0 hl1 hks
 have hfl := hf.of.1
 refine FnC.intro (args := [.agg ⟨[.int .i64 e, .int .i64 y, .slice ad ks.length cd]⟩, .int .i64 lim]) Try.func17 rfl rfl Try.ntmps17 rfl rfl rfl fun G rest => ?_
 refine XC.seq ?_; refine XC.region ?_; refine XO.box rfl rfl rfl (fun b2 => ?_); refine XO.assign rfl rfl ?_; refine XO.nil ?_; refine XC.seq2 ?_; refine XC.seq ?_; refine XC.region ?_; refine XO.assign rfl rfl ?_; refine XO.nil ?_; refine XC.seq2 ?_; refine XC.seq ?_; refine XC.seq ?_; refine XC.region ?_; refine XO.assign rfl rfl ?_; refine XO.nil ?_; refine XC.seq2 ?_; refine XC.block ?_; refine XC.keep [5, 6, 1, 2] rfl ?_; refine XC.loop (base := [(1, _), (2, _)]) (fun ζ : Nat × (Int) => [(5, .int .i64 ζ.2), (6, .int .i64 (ζ.1 : Nat))]) (fun ζ Hl own => ζ.1 ≤ ks.length ∧ (b2, .cells 34 [.int .i64 e, .int .i64 y, .slice ad ks.length cd]) :: rest = own ∧ (1 ≤ ζ.2) ∧ (ζ.2 ≤ lim + 1)) (fun ζ => ks.length - ζ.1) (0, 1) (prov_cons (rfl) (prov_cons (rfl) (prov_cons (rfl) (prov_cons (rfl) prov_nil)))) (by repeat (first | exact List.Sublist.refl _ | apply List.Sublist.cons_cons | apply List.Sublist.cons)) ⟨Nat.zero_le _, rfl, by omega, by omega⟩ ?_; rintro ⟨k, q⟩ Hl0 _ hle0 ⟨hkk, rfl, hq1, hq2⟩; replace hks := hks.mono hle0
 try dsimp only at hkk hq1 hq2 ⊢
 refine XC.seq ?_; refine XC.seq ?_; refine XC.region ?_; refine XO.move rfl rfl ?_; refine XO.fieldAddr rfl fa_34_2 rfl ?_; refine XO.loadO 0 rfl rfl ty_32 rfl rfl rfl ?_; refine XO.lenS (ts := #[]) rfl Try.underlying32 rfl ?_; refine XO.lss rfl rfl rfl ?_; refine XO.move rfl rfl ?_; refine XO.guardC rfl rfl rfl rfl (fun g1 => ?_) (fun g1 => ?_)
 ·have g1p := of_decide_eq_true g1
  refine XO.move rfl rfl ?_; refine XO.guardT rfl rfl (g1) rfl ?_; refine XO.move rfl rfl ?_; refine XO.guardT rfl rfl (g1) rfl ?_; refine XO.leq rfl rfl rfl ?_; refine XO.pickT rfl (g1) rfl rfl ?_; refine XO.nil ?_; refine XC.seq2 ?_; refine XC.cond rfl (fun c0_2 => ?_) (fun c0_2 => ?_)
  ·refine XC.skip ?_; refine XC.seq2 ?_; refine XC.seq ?_; refine XC.block ?_; refine XC.region ?_; refine XO.move rfl rfl ?_; refine XO.fieldAddr rfl fa_34_2 rfl ?_; refine XO.loadO 0 rfl rfl ty_32 rfl rfl rfl ?_; refine XO.move rfl rfl ?_; refine XO.indexN rfl hks rfl Try.underlying32 ty_34 (by omega) rfl ?_; rintro eb23 eo23 _ x23 hx23 hR23 hp23; obtain ⟨e23, w23, l23⟩ := x23; obtain ⟨a23, c23, rfl, hd23⟩ := denR_iff.1 hR23; refine XO.loadH rfl (by assumption) ty_34 rfl rfl rfl ?_; refine XO.move rfl rfl ?_; refine XO.move rfl rfl ?_; refine XO.sub rfl rfl (wrap_i64 (by omega) (by omega)) rfl ?_
   have hcall := ih (dsz (.mk e23 w23 l23)) (by have := dsz_lt (e := e) (y := y) (List.mem_of_getElem? hx23); omega) e23 w23 l23 _ _ (lim - q) _ (Nat.le_refl _) (hf.of.2 _ (List.mem_of_getElem? hx23)) (by omega) (by omega) hd23
   refine XO.callK rfl hcall rfl ?_; rintro _ ⟨q2, rfl, hq3, hq4⟩; refine XO.add rfl rfl (wrap_i64 (by omega) (by omega)) rfl ?_; refine XO.assign rfl rfl ?_; refine XO.nil ?_; refine blockN ?_; refine XC.seq2 ?_; refine XC.region ?_; refine XO.move rfl rfl ?_; refine XO.add rfl rfl (wrap_i64 (by omega) (by omega)) rfl ?_; refine XO.assign rfl rfl ?_; refine XO.nil ?_; refine loop_next ((k + 1, q + q2)) (by show ks.length - (k + 1) < ks.length - k; omega) (prov_cons (rfl) (prov_cons (rfl) (prov_cons (rfl) (prov_cons (rfl) prov_nil)))) (⟨by show k + 1 ≤ ks.length; omega, rfl, by omega, by omega⟩) (by repeat (first | exact List.Sublist.refl _ | apply List.Sublist.cons_cons | apply List.Sublist.cons)) (hle0)
  ·refine XC.exit ?_; refine seqX_exit ?_; refine loopX_exit ?_; refine blockHit rfl ?_; refine XC.seq2 ?_; refine XC.seq ?_; refine XC.region ?_; refine XO.move rfl rfl ?_; refine XO.assign rfl rfl ?_; refine XO.nil ?_; refine XC.seq2 ?_; refine XC.ret ?_; refine ⟨rfl, _, [], rfl, (by repeat (first | exact List.Sublist.refl _ | apply List.Sublist.cons)), RetR.mk ?_⟩
   exact ⟨q, rfl, hq1, hq2⟩
 ·have g1p := of_decide_eq_false g1
  refine XO.guardF rfl rfl (g1) rfl rfl ?_; refine XO.guardF rfl rfl (g1) rfl rfl ?_; refine XO.pickF rfl (g1) rfl rfl ?_; refine XO.nil ?_; refine XC.seq2 ?_; refine XC.condF rfl (rfl) ?_; refine XC.exit ?_; refine seqX_exit ?_; refine loopX_exit ?_; refine blockHit rfl ?_; refine XC.seq2 ?_; refine XC.seq ?_; refine XC.region ?_; refine XO.move rfl rfl ?_; refine XO.assign rfl rfl ?_; refine XO.nil ?_; refine XC.seq2 ?_; refine XC.ret ?_; refine ⟨rfl, _, [], rfl, (by repeat (first | exact List.Sublist.refl _ | apply List.Sublist.cons)), RetR.mk ?_⟩
  exact ⟨q, rfl, hq1, hq2⟩

end Go.Proofs

/- Repairs: errors of a question, what the law's own functions say. -/
set_option autoImplicit false
set_option linter.unusedVariables false
set_option linter.unusedSimpArgs false
namespace Go.Proofs
open Go.XL
def errE (w : Wi) (old : Ls) (ab : List Int) : Int := if chkD w old = 0 then (if fitB w.J [] (-1) ab = true then (if 12 < w.B.length ∨ 8 < w.J then 2 else 0) else 300) else chkD w old
theorem ris_y {J last x : Int} {l : List Int} {k : Nat} {b : Bool} (h : b = fitB J [] last (l.drop k)) (hx : l[k]? = some x) (h1 : last < x) (h2 : x < J) : b = fitB J [] x (l.drop (k + 1)) := by
 rw [h, drop_cons hx, fitB]; simp [h1, h2]
theorem ris_n {J last x : Int} {l : List Int} {k : Nat} {b : Bool} (h : b = fitB J [] last (l.drop k)) (hx : l[k]? = some x) (hn : ¬ (last < x ∧ x < J)) : b = false := by
 rw [h, drop_cons hx, fitB]
 cases hb : decide (last < x) && decide (x < J)
 ·rfl
 ·exfalso; simp only [Bool.and_eq_true, decide_eq_true_eq] at hb; exact hn hb
theorem err_chk {w : Wi} {old : Ls} {ab : List Int} (h : chkD w old ≠ 0) : errE w old ab = chkD w old := by unfold errE; rw [if_neg h]
theorem err_300 {w : Wi} {old : Ls} {ab : List Int} (h : chkD w old = 0) (h2 : fitB w.J [] (-1) ab = false) : errE w old ab = 300 := by unfold errE; rw [if_pos h, if_neg (by rw [h2]; decide)]
theorem err_2 {w : Wi} {old : Ls} {ab : List Int} (h : chkD w old = 0) (h2 : fitB w.J [] (-1) ab = true) (h3 : 12 < w.B.length ∨ 8 < w.J) : errE w old ab = 2 := by unfold errE; rw [if_pos h, if_pos h2, if_pos h3]
theorem err_0 {w : Wi} {old : Ls} {ab : List Int} (h : chkD w old = 0) (h2 : fitB w.J [] (-1) ab = true) (h3 : ¬ (12 < w.B.length ∨ 8 < w.J)) : errE w old ab = 0 := by unfold errE; rw [if_pos h, if_pos h2, if_neg h3]
theorem err_eq0 {w : Wi} {old : Ls} {ab : List Int} (h : errE w old ab = 0) : chkD w old = 0 ∧ fitB w.J [] (-1) ab = true ∧ w.B.length ≤ 12 ∧ w.J ≤ 8 := by
 unfold errE at h
 split at h
 ·rename_i h1
  split at h
  ·rename_i h2
   split at h
   ·cases h
   ·exact ⟨h1, h2, by omega, by omega⟩
  ·cases h
 ·rename_i h1; exact absurd h h1
/-- a question's answer: an error, or a job in memory -/
def OpenU (w : Wi) (old : Ls) (ab : List Int) (H : Hp) (v : Value) : Prop := ∃ p, v = .tuple #[p, .int .i64 (errE w old ab)] ∧ (errE w old ab = 0 → ∃ bj, p = .pointer (some ⟨bj, 0, none⟩) ∧ JobH H bj w old (prs w.J ab))
theorem OpenU.no {w : Wi} {old : Ls} {ab : List Int} {H : Hp} {e : Int} (h : errE w old ab = e) (h0 : e ≠ 0) : OpenU w old ab H (.tuple #[.pointer none, .int .i64 e]) := ⟨_, by rw [h], fun h1 => absurd (h.symm.trans h1) h0⟩
theorem fitB_sorted {J : Int} {r : List Bool} : ∀ {l : List Int} {last : Int}, fitB J r last l = true → l.Pairwise (· < ·) ∧ ∀ x ∈ l, last < x
  | [], _, _ => ⟨List.Pairwise.nil, fun x hx => by cases hx⟩
  | y :: t, last, h => by
    have hm : ∀ x ∈ y :: t, last < x := fun x hx => (fitB_mem h hx).1
    rw [fitB, Bool.and_eq_true] at h
    have h2 := fitB_sorted h.2
    exact ⟨List.Pairwise.cons h2.2 h2.1, hm⟩
theorem nodup_of {l : List Int} (h : l.Pairwise (· < ·)) : l.Nodup := h.imp fun h => by omega
theorem filter_len {p : Int → Bool} : ∀ (l : List Int), (l.filter p).length + (l.filter fun x => !p x).length = l.length
  | [] => rfl
  | x :: t => by
    have := filter_len (p := p) t
    cases hp : p x <;> simp [hp] <;> omega
/-- as many are there as are not absent -/
theorem prs_count {J : Int} {ab : List Int} (hJ : 0 ≤ J) (h : fitB J [] (-1) ab = true) : ((prs J ab).length : Int) = J - ab.length := by
 have hs := fitB_sorted h
 have hm : ∀ x ∈ ab, 0 ≤ x ∧ x < J := fun x hx => by have := fitB_mem h hx; omega
 have h1 := filter_len (p := fun x => decide (x ∈ ab)) (rangeI 0 J.toNat)
 rw [rangeI_len] at h1
 have h2 : ((rangeI 0 J.toNat).filter fun x => decide (x ∈ ab)).length = ab.length := by
  have hnd : (rangeI 0 J.toNat).Nodup := by
   unfold rangeI
   refine List.Pairwise.map _ (R := fun a b : Nat => a ≠ b) (fun a b h => by omega) (List.nodup_range')
  have p1 : ((rangeI 0 J.toNat).filter fun x => decide (x ∈ ab)).Perm ab := by
   refine (List.perm_ext_iff_of_nodup (hnd.filter _) (nodup_of hs.1)).2 fun x => ?_
   rw [List.mem_filter, mem_rangeI]
   simp only [decide_eq_true_eq]
   exact ⟨fun h => h.2, fun h => ⟨by have := hm x h; omega, h⟩⟩
  exact p1.length_eq
 unfold prs
 omega
/-! ### The law's own measures -/
def cntL (l : Ls) (j : Int) : Nat := (l.map fun x => x.count j).sum
theorem cnt_snoc {l : Ls} {j : Int} {k : Nat} {x : List Int} (hx : l[k]? = some x) : cntL (l.take (k + 1)) j = cntL (l.take k) j + x.count j := by
 unfold cntL; rw [take_snoc hx, List.map_append, List.sum_append]; simp
theorem count_y {x : List Int} {j z : Int} {q : Nat} (hz : x[q]? = some z) (h : z = j) : (x.take (q + 1)).count j = (x.take q).count j + 1 := by
 rw [take_snoc hz, List.count_append, h]; simp
theorem count_n {x : List Int} {j z : Int} {q : Nat} (hz : x[q]? = some z) (h : ¬ z = j) : (x.take (q + 1)).count j = (x.take q).count j := by
 rw [take_snoc hz, List.count_append, List.count_singleton]; simp [h]
def FL (ab : List Int) (k : Nat) : List Int := (rangeI 0 k).filter fun x => !decide (x ∈ ab)
theorem FL_y {k : Nat} {ab : List Int} (h : ¬ ((k : Nat) : Int) ∈ ab) : FL ab (k + 1) = FL ab k ++ [((k : Nat) : Int)] := prs_y h
theorem FL_n {k : Nat} {ab : List Int} (h : ((k : Nat) : Int) ∈ ab) : FL ab (k + 1) = FL ab k := prs_n h
theorem FL_len (ab : List Int) (k : Nat) : (FL ab k).length ≤ k := Nat.le_trans (List.length_filter_le _ _) (by rw [rangeI_len]; exact Nat.le_refl _)
def mnK (ab : List Int) (l : Ls) (k : Nat) : Int := (FL ab k).foldl (fun (m : Int) j => min m ((cntL l j : Nat) : Int)) (l.length : Int)
def mxK (ab : List Int) (l : Ls) (k : Nat) : Int := (FL ab k).foldl (fun (m : Int) j => max m ((cntL l j : Nat) : Int)) 0
theorem mn_y {ab : List Int} {l : Ls} {k : Nat} (h : ¬ ((k : Nat) : Int) ∈ ab) : min (mnK ab l k) ((cntL l (k : Nat) : Nat) : Int) = mnK ab l (k + 1) := by unfold mnK; rw [FL_y h, List.foldl_append]; rfl
theorem mx_y {ab : List Int} {l : Ls} {k : Nat} (h : ¬ ((k : Nat) : Int) ∈ ab) : max (mxK ab l k) ((cntL l (k : Nat) : Nat) : Int) = mxK ab l (k + 1) := by unfold mxK; rw [FL_y h, List.foldl_append]; rfl
theorem mn_n {ab : List Int} {l : Ls} {k : Nat} (h : ((k : Nat) : Int) ∈ ab) : mnK ab l k = mnK ab l (k + 1) := by unfold mnK; rw [FL_n h]
theorem mx_n {ab : List Int} {l : Ls} {k : Nat} (h : ((k : Nat) : Int) ∈ ab) : mxK ab l k = mxK ab l (k + 1) := by unfold mxK; rw [FL_n h]
theorem mn_b (ab : List Int) (l : Ls) (k : Nat) : 0 ≤ mnK ab l k ∧ mnK ab l k ≤ l.length := by
 unfold mnK
 have : ∀ (m : List Int) (z : Int), 0 ≤ z → 0 ≤ m.foldl (fun (m : Int) j => min m ((cntL l j : Nat) : Int)) z ∧ m.foldl (fun (m : Int) j => min m ((cntL l j : Nat) : Int)) z ≤ z := by
  intro m
  induction m with
  | nil => intro z hz; exact ⟨hz, Int.le_refl _⟩
  | cons x r ih => intro z hz; have := ih (min z ((cntL l x : Nat) : Int)) (by omega); simp only [List.foldl_cons]; omega
 exact this _ _ (by omega)
theorem cnt_le {l : Ls} {m : Nat} {j : Int} (h : ∀ x ∈ l, x.length ≤ m) : ∀ k, cntL (l.take k) j ≤ m * k := by
  induction l with
  | nil => intro k; simp [cntL]
  | cons x r ih =>
    intro k
    cases k with
    | zero => simp [cntL]
    | succ k =>
      have h1 := ih (fun y hy => h y (by simp [hy])) k
      have h2 := h x (by simp)
      have h3 := List.count_le_length (a := j) (l := x)
      simp only [cntL, List.take_succ_cons, List.map_cons, List.sum_cons] at h1 ⊢
      rw [Nat.mul_succ]; omega
theorem mx_b {ab : List Int} {l : Ls} {m : Nat} (h : ∀ j, cntL l j ≤ m) (k : Nat) : 0 ≤ mxK ab l k ∧ mxK ab l k ≤ m := by
 unfold mxK
 have : ∀ (L : List Int) (z : Int), 0 ≤ z → z ≤ m → 0 ≤ L.foldl (fun (m : Int) j => max m ((cntL l j : Nat) : Int)) z ∧ L.foldl (fun (m : Int) j => max m ((cntL l j : Nat) : Int)) z ≤ m := by
  intro L
  induction L with
  | nil => intro z hz hz2; exact ⟨hz, hz2⟩
  | cons x r ih => intro z hz hz2; have := h x; simp only [List.foldl_cons]; exact ih _ (by omega) (by omega)
 exact this _ _ (by omega) (by omega)
def pairP (w : Wi) (l : Ls) (n : Nat) : Prop := ∀ i x, i < n → l[i]? = some x → ∀ y ∈ l.take i, ¬ ((cmn x y : Nat) : Int) < w.N
def isP (w : Wi) (ab : List Int) (l : Ls) : Prop := chkD w l = 0 ∧ (∀ j : Int, 0 ≤ j → j < w.J → j ∈ ab → cntL l j = 0) ∧ pairP w l l.length ∧ mxK ab l w.J.toNat - mnK ab l w.J.toNat ≤ 1
def lessR : List Int → List Int → Option Bool
 | u :: x, v :: y => if u = v then lessR x y else some (decide (u < v))
 | _, _ => none
def lessB : Ls → Ls → Bool
  | x :: a, y :: b => match lessR x y with
    | some r => r
    | none => lessB a b
  | _, _ => false
def lessC (o : Option Bool) (r : Bool) : Bool := match o with | some b => b | none => r
theorem lessB_at {a b : Ls} {i : Nat} {x y : List Int} (hx : a[i]? = some x) (hy : b[i]? = some y) : lessB (a.drop i) (b.drop i) = lessC (lessR x y) (lessB (a.drop (i + 1)) (b.drop (i + 1))) := by
 rw [drop_cons hx, drop_cons hy, lessB]; rfl
theorem lessR_eq {x y : List Int} {k : Nat} {u v : Int} (hu : x[k]? = some u) (hv : y[k]? = some v) (h : u = v) : lessR (x.drop k) (y.drop k) = lessR (x.drop (k + 1)) (y.drop (k + 1)) := by
 rw [drop_cons hu, drop_cons hv, lessR, if_pos h]
theorem lessR_ne {x y : List Int} {k : Nat} {u v : Int} (hu : x[k]? = some u) (hv : y[k]? = some v) (h : ¬ u = v) : lessR (x.drop k) (y.drop k) = some (decide (u < v)) := by
 rw [drop_cons hu, drop_cons hv, lessR, if_neg h]
theorem lessR_nil {x : List Int} : lessR [] x = none := rfl
theorem lessB_nil {x : Ls} : lessB [] x = false := rfl
end Go.Proofs
