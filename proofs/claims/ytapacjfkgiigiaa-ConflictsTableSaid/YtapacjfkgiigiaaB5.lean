/- The walks of the functions of conflicts: what each of them computes, at any input. -/
import Derived.Test.YtapacjfkgiigiaaB4
set_option autoImplicit false
set_option linter.unusedVariables false
set_option linter.unusedSimpArgs false
namespace Go.Proofs
open Go.XL

theorem by_41 : Nat.ble (Try.prog.bytesOf 41) 4096 = true := by kernel_rfl

theorem rcounting_fn (a : Option Addr) (c : Nat) (l : Fs) (H : Hp) (hs : SlR faR H a c l) (hl : l.length < 9223372036854775808) (hl2 : l.length ≤ 100000) (day time : Int) : FnC Try.prog 29 #[.slice a l.length c, .int .i64 day, .int .i64 time] H [] (RetR (fun v H2 _ => ∃ a2 c2, v = .slice a2 (cntF l day time).length c2 ∧ SlR faR H2 a2 c2 (cntF l day time))) := by
 refine FnC.intro (args := [.slice a l.length c, .int .i64 day, .int .i64 time]) Try.func29 rfl rfl Try.ntmps29 rfl rfl rfl fun G rest => ?_
 refine XC.seq ?_; refine XC.region ?_; refine XO.assign rfl rfl ?_; refine XO.nil ?_; refine XC.seq2 ?_; refine XC.seq ?_; refine XC.region ?_; refine XO.assign rfl rfl ?_; refine XO.nil ?_; refine XC.seq2 ?_; refine XC.seq ?_; refine XC.seq ?_; refine XC.region ?_; refine XO.assign rfl rfl ?_; refine XO.nil ?_; refine XC.seq2 ?_; refine XC.block ?_; refine XC.keep [7, 8, 0, 1, 2] rfl ?_; refine XC.open0 0 ?_; refine XC.loop (base := [(0, _), (1, _), (2, _)]) (fun ζ : Nat × ((Nat × SObj) × Option Addr × Nat) => [(7, .slice ζ.2.2.1 (cntF (l.take (ζ.1)) day time).length ζ.2.2.2), (8, .int .i64 (ζ.1 : Nat))]) (fun ζ Hl own => ζ.1 ≤ l.length ∧ ζ.2.1 :: rest = own ∧ Acc faR 41 Hl ζ.2.1 ζ.2.2.1 ζ.2.2.2 (cntF (l.take (ζ.1)) day time)) (fun ζ => l.length - ζ.1) (0, ((0, .nothing), none, 0)) (prov_cons (rfl) (prov_cons (rfl) (prov_cons (rfl) (prov_cons (rfl) (prov_cons (rfl) prov_nil))))) (by repeat (first | exact List.Sublist.refl _ | apply List.Sublist.cons_cons | apply List.Sublist.cons)) ⟨Nat.zero_le _, rfl, Acc.nil _ _ _ _⟩ ?_; rintro ⟨k, ⟨pw, aw, cw⟩⟩ Hl0 _ hle0 ⟨hkk, rfl, haccw⟩; replace hs := hs.mono hle0
 try dsimp only at hkk haccw ⊢
 refine XC.seq ?_; refine XC.seq ?_; refine XC.region ?_; refine XO.move rfl rfl ?_; refine XO.move rfl rfl ?_; refine XO.lenS (ts := #[]) rfl Try.underlying22 rfl ?_; refine XO.lss rfl rfl rfl ?_; refine XO.nil ?_; refine XC.seq2 ?_; refine XC.cond rfl (fun c0_1 => ?_) (fun c0_1 => ?_)
 ·refine XC.skip ?_; refine XC.seq2 ?_; refine XC.seq ?_; refine XC.block ?_; refine XC.seq ?_; refine XC.region ?_; refine XO.move rfl rfl ?_; refine XO.move rfl rfl ?_; refine XO.indexN rfl hs rfl Try.underlying22 ty_41 (by omega) rfl ?_; rintro eb17 eo17 _ x17 hx17 rfl hp17; refine XO.loadH rfl (by assumption) ty_41 rfl rfl rfl ?_; refine XO.move rfl rfl ?_; refine XO.move rfl rfl ?_; refine XO.callV rfl (rcounts_fn x17 day time _) rfl ?_; refine XO.nil ?_; refine XC.seq2 ?_; refine XC.cond rfl (fun c1_4 => ?_) (fun c1_4 => ?_)
  ·refine XC.region ?_; refine XO.move rfl rfl ?_; refine XO.move rfl rfl ?_; refine XO.move rfl rfl ?_; refine XO.indexN rfl hs rfl Try.underlying22 ty_41 (by omega) rfl ?_; rintro eb25 eo25 _ x25 hx25 rfl hp25; obtain rfl := Option.some.inj (hx17.symm.trans hx25); refine XO.loadH rfl (by assumption) ty_41 rfl rfl rfl ?_; refine XO.buildSlice rfl Try.underlying22 ty_41 ze_41 rfl rfl rfl (fun b27 => ?_); refine XO.publish 0 rfl rfl rfl (fun HP27 oP27 hleP27 hbP27 hoP27 => ?_)
   have hsl27 := SlR.lit (ρ := faR) (l := [x17]) hbP27 hoP27 (RowsR.one1 rfl)
   replace hs := hs.mono hleP27; replace haccw := haccw.mono hleP27; replace hp17 := hp17.mono hleP27; replace hp25 := hp25.mono hleP27; replace hle0 := hle0.trans hleP27; refine XO.appendA 0 rfl rfl haccw rfl rfl hsl27 rfl Try.underlying22 ty_41 ze_41 rfl by_41 (by have := cnt_len l day time k; simp; omega) rfl (fun p28 a28 c28 hacc28 => ?_); refine XO.assign rfl rfl ?_; refine XO.nil ?_; refine blockN ?_; refine XC.seq2 ?_; refine XC.region ?_; refine XO.move rfl rfl ?_; refine XO.add rfl rfl (wrap_i64 (by omega) (by omega)) rfl ?_; refine XO.assign rfl rfl ?_; refine XO.nil ?_; refine loop_next ((k + 1, (p28, a28, c28))) (by show l.length - (k + 1) < l.length - k; omega) (prov_cons (by first | rfl | (rw [← cnt_y hx17 (by assumption)]; rfl) | (rw [← cnt_n hx17 (by assumption)]; rfl)) (prov_cons (rfl) (prov_cons (rfl) (prov_cons (rfl) (prov_cons (rfl) prov_nil))))) (⟨by show k + 1 ≤ l.length; omega, rfl, by first | (exact hacc28) | (rw [← cnt_y hx17 (by assumption)]; exact hacc28) | (rw [← cnt_n hx17 (by assumption)]; exact hacc28)⟩) (by repeat (first | exact List.Sublist.refl _ | apply List.Sublist.cons_cons | apply List.Sublist.cons)) (hle0)
  ·refine XC.skip ?_; refine blockN ?_; refine XC.seq2 ?_; refine XC.region ?_; refine XO.move rfl rfl ?_; refine XO.add rfl rfl (wrap_i64 (by omega) (by omega)) rfl ?_; refine XO.assign rfl rfl ?_; refine XO.nil ?_; refine loop_next ((k + 1, (pw, aw, cw))) (by show l.length - (k + 1) < l.length - k; omega) (prov_cons (by first | rfl | (rw [← cnt_y hx17 (by assumption)]; rfl) | (rw [← cnt_n hx17 (by assumption)]; rfl)) (prov_cons (rfl) (prov_cons (rfl) (prov_cons (rfl) (prov_cons (rfl) prov_nil))))) (⟨by show k + 1 ≤ l.length; omega, rfl, by first | (exact haccw) | (rw [← cnt_y hx17 (by assumption)]; exact haccw) | (rw [← cnt_n hx17 (by assumption)]; exact haccw)⟩) (by repeat (first | exact List.Sublist.refl _ | apply List.Sublist.cons_cons | apply List.Sublist.cons)) (hle0)
 ·obtain rfl : k = l.length := by omega
  rw [List.take_length] at haccw ⊢
  refine XC.exit ?_; refine seqX_exit ?_; refine loopX_exit ?_; refine blockHit rfl ?_; refine XC.seq2 ?_; refine XC.seq ?_; refine XC.region ?_; refine XO.move rfl rfl ?_; refine XO.publishA 0 rfl haccw rfl (fun HQ7 hleQ7 hsQ7 => ?_); replace hs := hs.mono hleQ7; replace hle0 := hle0.trans hleQ7; refine XO.assign rfl rfl ?_; refine XO.nil ?_; refine XC.seq2 ?_; refine XC.ret ?_; refine ⟨rfl, _, [], rfl, (by repeat (first | exact List.Sublist.refl _ | apply List.Sublist.cons)), RetR.mk ?_⟩
  exact ⟨_, _, rfl, by assumption⟩

set_option maxRecDepth 100000 in
set_option maxHeartbeats 1600000 in
theorem rel_all (b : Int) : ∀ (n : Nat) (fs : Fs) (met : List Int) (z : Int) (a am : Option Addr) (c cm : Nat) (H : Hp), fs.length = n → met.length + fs.length ≤ 100000 → met[met.length - 1]? = some z → SlR faR H a c fs → SlR (intR .i64) H am cm met →
 FnC Try.prog 53 #[.slice a fs.length c, .slice am met.length cm, .int .i64 b] H [] (RetR fun v _ _ => v = .bool (relF b fs met z)) := by
 intro n
 refine Nat.strongRecOn n ?_
 clear n
 intro n ih fs met z a am c cm H hn hb hz hs hm
 have hmp : 0 < met.length := by
  rcases Nat.eq_zero_or_pos met.length with h | h
  ·rw [List.getElem?_eq_none (by omega)] at hz; cases hz
  ·exact h
 refine FnC.intro (args := [.slice a fs.length c, .slice am met.length cm, .int .i64 b]) Try.func53 rfl rfl Try.ntmps53 rfl rfl rfl fun G rest => ?_
 refine XC.seq ?_; refine XC.region ?_; refine XO.assign rfl rfl ?_; refine XO.nil ?_; refine XC.seq2 ?_; refine XC.seq ?_; refine XC.region ?_; refine XO.move rfl rfl ?_; refine XO.move rfl rfl ?_; refine XO.lenS (ts := #[]) rfl Try.underlying25 rfl ?_; refine XO.sub (c := ((met.length - 1 : Nat) : Int)) rfl rfl ((wrap_i64 (by omega) (by omega)).trans (by omega)) rfl ?_; refine XO.indexN (i := met.length - 1) rfl hm rfl Try.underlying25 ty_3 (by omega) rfl ?_; rintro eb14 eo14 _ x14 hx14 rfl hp14; obtain rfl := Option.some.inj (hz.symm.trans hx14); refine XO.loadH rfl (by assumption) ty_3 rfl rfl rfl ?_; refine XO.assign rfl rfl ?_; refine XO.nil ?_; refine XC.seq2 ?_; refine XC.seq ?_; refine XC.seq ?_; refine XC.region ?_; refine XO.move rfl rfl ?_; refine XO.lenS (ts := #[]) rfl Try.underlying22 rfl ?_; refine XO.eql rfl rfl rfl ?_; refine XO.nil ?_; refine XC.seq2 ?_; refine XC.cond rfl (fun c0_3 => ?_) (fun c0_3 => ?_)
 ·obtain rfl : fs = [] := List.length_eq_zero_iff.1 (by omega); refine XC.seq ?_; refine XC.region ?_; refine XO.move rfl rfl ?_; refine XO.move rfl rfl ?_; refine XO.eql rfl rfl rfl ?_; refine XO.assign rfl rfl ?_; refine XO.nil ?_; refine XC.seq2 ?_; refine XC.ret ?_; refine seqX_ret ?_; refine ⟨rfl, _, [], rfl, (by repeat (first | exact List.Sublist.refl _ | apply List.Sublist.cons)), RetR.mk ?_⟩
  rfl
 ·obtain ⟨f, t, rfl⟩ : ∃ f t, fs = f :: t := by
   cases fs with
   | nil => exact absurd rfl (by assumption)
   | cons f t => exact ⟨f, t, rfl⟩
  simp only [List.length_cons] at hn hb
  have hfl : (f :: t).length = t.length + 1 := rfl
  have hsle := hs.le
  refine XC.skip ?_; refine XC.seq2 ?_; refine XC.seq ?_; refine XC.region ?_; refine XO.move rfl rfl ?_; refine XO.indexN rfl hs rfl Try.underlying22 ty_41 (by show 0 < (f :: t).length; omega) rfl ?_; rintro eb23 eo23 _ x23 hx23 rfl hp23
  obtain rfl : f = x23 := by simpa using hx23
  refine XO.loadH rfl (by assumption) ty_41 rfl rfl rfl ?_; refine XO.alloc ze_41 rfl (fun b8 => ?_); refine XO.storeO 0 rfl rfl rfl rfl ty_41 rfl rfl rfl rfl rfl ?_; refine XO.nil ?_; refine XC.seq2 ?_; refine XC.seq ?_; refine XC.region ?_; refine XO.fieldAddr rfl fa_41_2 rfl ?_; refine XO.loadO 0 rfl rfl ty_3 rfl rfl rfl ?_; refine XO.assign rfl rfl ?_; refine XO.nil ?_; refine XC.seq2 ?_; refine XC.join (base := [(0, _), (1, _), (2, _), (7, _), (8, _)]) (fun ζ : Unit => [(9, .int .i64 (nxt f z))]) (fun ζ Hl own => (b8, .cells 41 (faV f)) :: rest = own) (prov_cons (rfl) (prov_cons (rfl) (prov_cons (rfl) (prov_cons (rfl) (prov_cons (rfl) prov_nil))))) (fun hleJ5 => ?_) ?_
  ·skip
   refine XC.seq ?_; refine XC.region ?_; refine XO.fieldAddr rfl fa_41_2 rfl ?_; refine XO.loadO 0 rfl rfl ty_3 rfl rfl rfl ?_; refine XO.move rfl rfl ?_; refine XO.eql rfl rfl rfl ?_; refine XO.nil ?_; refine XC.seq2 ?_; refine XC.cond rfl (fun c1_6 => ?_) (fun c1_6 => ?_)
   ·refine XC.region ?_; refine XO.fieldAddr rfl fa_41_3 rfl ?_; refine XO.loadO 0 rfl rfl ty_3 rfl rfl rfl ?_; refine XO.assign rfl rfl ?_; refine XO.nil ?_; refine join_next () (prov_cons (by first | exact provI rfl (nxt_y (by assumption)) | exact provI rfl (nxt_n (by assumption))) (prov_cons (rfl) (prov_cons (rfl) (prov_cons (rfl) (prov_cons (rfl) (prov_cons (rfl) prov_nil)))))) (rfl) (by repeat (first | exact List.Sublist.refl _ | apply List.Sublist.cons_cons | apply List.Sublist.cons)) hleJ5
   ·refine XC.skip ?_; refine join_next () (prov_cons (by first | exact provI rfl (nxt_y (by assumption)) | exact provI rfl (nxt_n (by assumption))) (prov_cons (rfl) (prov_cons (rfl) (prov_cons (rfl) (prov_cons (rfl) (prov_cons (rfl) prov_nil)))))) (rfl) (by repeat (first | exact List.Sublist.refl _ | apply List.Sublist.cons_cons | apply List.Sublist.cons)) hleJ5
  ·rintro _ Hl _ hleK5 ⟨rfl⟩; replace hs := hs.mono hleK5; replace hm := hm.mono hleK5; replace hp14 := hp14.mono hleK5; replace hp23 := hp23.mono hleK5; refine XC.seq ?_; refine XC.seq ?_; refine XC.region ?_; refine XO.fieldAddr rfl fa_41_1 rfl ?_; refine XO.loadO 0 rfl rfl ty_3 rfl rfl rfl ?_; refine XO.neq rfl rfl rfl ?_; refine XO.move rfl rfl ?_; refine XO.guardC rfl rfl rfl rfl (fun g7 => ?_) (fun g7 => ?_)
   ·have g7p := of_decide_eq_false g7
    refine XO.fieldAddr rfl fa_41_2 rfl ?_; refine XO.guardT rfl rfl (g7) rfl ?_; refine XO.loadO 0 rfl rfl ty_3 rfl rfl rfl ?_; refine XO.guardT rfl rfl (g7) rfl ?_; refine XO.move rfl rfl ?_; refine XO.guardT rfl rfl (g7) rfl ?_; refine XO.neq rfl rfl rfl ?_; refine XO.guardT rfl rfl (g7) rfl ?_; refine XO.move rfl rfl ?_; refine XO.guardC rfl rfl rfl rfl (fun g8 => ?_) (fun g8 => ?_)
    ·have g8p := of_decide_eq_true g8
     refine XO.fieldAddr rfl fa_41_3 rfl ?_; refine XO.guardT rfl rfl (g8) rfl ?_; refine XO.loadO 0 rfl rfl ty_3 rfl rfl rfl ?_; refine XO.guardT rfl rfl (g8) rfl ?_; refine XO.move rfl rfl ?_; refine XO.guardT rfl rfl (g8) rfl ?_; refine XO.neq rfl rfl rfl ?_; refine XO.guardT rfl rfl (g7) rfl ?_; refine XO.pickT rfl (g8) rfl rfl ?_; refine XO.pickF rfl (g7) rfl rfl ?_; refine XO.move rfl rfl ?_; refine XO.guardC rfl rfl rfl rfl (fun g9 => ?_) (fun g9 => ?_)
     ·have g9p := of_decide_eq_false g9
      refine XO.move rfl rfl ?_; refine XO.guardT rfl rfl (g9) rfl ?_; refine XO.move rfl rfl ?_; refine XO.guardT rfl rfl (g9) rfl ?_; refine XO.callV rfl (has_fn _ _ met _ hm (by omega) (nxt f z)) rfl ?_; refine XO.pickF rfl (g9) rfl rfl ?_; refine XO.nil ?_; refine XC.seq2 ?_; refine XC.cond rfl (fun c2_11 => ?_) (fun c2_11 => ?_)
      ·refine XC.seq ?_; refine XC.region ?_; refine XO.assign rfl rfl ?_; refine XO.nil ?_; refine XC.seq2 ?_; refine XC.ret ?_; refine seqX_ret ?_; refine ⟨rfl, _, [], rfl, (by repeat (first | exact List.Sublist.refl _ | apply List.Sublist.cons)), RetR.mk ?_⟩
       first | exact congrArg Value.bool (rel_no (Or.inl (by omega))) | exact congrArg Value.bool (rel_no (Or.inr (Or.inl (by omega)))) | exact congrArg Value.bool (rel_no (Or.inr (Or.inr (by assumption)))) | exact congrArg Value.bool (rel_yes (by omega) (by omega) (by assumption))
      ·refine XC.skip ?_; refine XC.seq2 ?_; refine XC.seq ?_
       by_cases hq0 : met = []
       ·skip
        refine XC.keep [0, 1, 2, 9] rfl ?_
        apply XC.drawG (fun _ => True) trivial 10 [eqF _, slG faR t, slCap (intR .i64) [], eqF _, slCap (intR .i64) met, eqF _, slF (intR .i64) [(nxt f z)], slG (intR .i64) (met ++ [(nxt f z)]), eqF _, eqF _] follows (by kernel_rfl) (by kernel_rfl) ⟨eqF_mono _, slG_mono _ _, slCap_mono _ _, eqF_mono _, slCap_mono _ _, eqF_mono _, slF_mono _ _, slG_mono _ _, eqF_mono _, eqF_mono _, trivial⟩ ?steps12 ?tail12
        case steps12 =>
         refine stepsD_cons rfl ?_ ?_
         ·intro X HD hleD _
          replace hs := hs.mono hleD; replace hm := hm.mono hleD; replace hp14 := hp14.mono hleD; replace hp23 := hp23.mono hleD; refine withPreds_nil rfl ?_; refine XO.move rfl rfl ?_; refine XO.nil ?_
          exact stepQ_ok trivial (rfl)
         refine stepsD_cons rfl ?_ ?_
         ·intro X HD hleD _
          replace hs := hs.mono hleD; replace hm := hm.mono hleD; replace hp14 := hp14.mono hleD; replace hp23 := hp23.mono hleD; refine withPreds_cons rfl rfl ?_; rintro _ rfl; refine withPreds_nil rfl ?_; refine XO.slice (lo' := 1) (hi' := ((f :: t).length : Int)) (m' := (c : Int)) rfl hs (ev?_some rfl) ev?_none ev?_none (by simp) (by omega) (by omega) (by omega) (by omega) (by omega) Try.underlying22 ty_41 rfl (fun as54 ls54 hls54 hss54 => ?_)
          obtain rfl : ls54 = t := by first | (rw [hls54]; simp only [Int.toNat_natCast, Nat.add_sub_cancel_left]; done) | (rw [hls54]; simp; done) | (rw [hls54]; simp; rw [List.take_of_length_le (by simp)]; done) | (rw [hls54]; simp only [Int.toNat_natCast]; exact List.take_of_length_le (by rw [List.length_drop]; omega))
          refine XO.nil ?_
          exact stepQ_ok trivial (⟨_, _, rfl, hss54⟩)
         refine stepsD_cons rfl ?_ ?_
         ·intro X HD hleD _
          replace hs := hs.mono hleD; replace hm := hm.mono hleD; replace hp14 := hp14.mono hleD; replace hp23 := hp23.mono hleD; refine withPreds_nil rfl ?_; refine XO.buildSlice rfl Try.underlying25 ty_3 ze_3 rfl rfl rfl (fun b55 => ?_); refine XO.publish 0 rfl rfl rfl (fun HP55 oP55 hleP55 hbP55 hoP55 => ?_)
          have hsl55 := SlR.lit (ρ := (intR .i64)) (l := ([] : List Int)) hbP55 hoP55 rfl
          replace hs := hs.mono hleP55; replace hm := hm.mono hleP55; replace hp14 := hp14.mono hleP55; replace hp23 := hp23.mono hleP55; refine XO.nil ?_
          exact stepQ_ok trivial (⟨_, _, rfl, hsl55, by simp⟩)
         refine stepsD_cons rfl ?_ ?_
         ·intro X HD hleD _
          replace hs := hs.mono hleD; replace hm := hm.mono hleD; replace hp14 := hp14.mono hleD; replace hp23 := hp23.mono hleD; refine withPreds_nil rfl ?_; refine XO.move rfl rfl ?_; refine XO.nil ?_
          exact stepQ_ok trivial (rfl)
         refine stepsD_cons rfl ?_ ?_
         ·intro X HD hleD _
          replace hs := hs.mono hleD; replace hm := hm.mono hleD; replace hp14 := hp14.mono hleD; replace hp23 := hp23.mono hleD; refine withPreds_cons rfl rfl ?_; rintro _ ⟨a55, c55, rfl, hsl55, hcap55⟩; refine withPreds_cons rfl rfl ?_; rintro _ rfl; refine withPreds_nil rfl ?_; refine XO.append0 rfl rfl (by rw [hq0]; rfl) hsl55.le Try.underlying25 ty_3 rfl ?_; refine XO.nil ?_
          exact stepQ_ok trivial (⟨_, _, by first | (rw [hq0]; done) | (rw [hq0]; rfl), by rw [hq0]; exact hsl55, by rw [hq0]; exact hcap55⟩)
         refine stepsD_cons rfl ?_ ?_
         ·intro X HD hleD _
          replace hs := hs.mono hleD; replace hm := hm.mono hleD; replace hp14 := hp14.mono hleD; replace hp23 := hp23.mono hleD; refine withPreds_nil rfl ?_; refine XO.move rfl rfl ?_; refine XO.nil ?_
          exact stepQ_ok trivial (rfl)
         refine stepsD_cons rfl ?_ ?_
         ·intro X HD hleD _
          replace hs := hs.mono hleD; replace hm := hm.mono hleD; replace hp14 := hp14.mono hleD; replace hp23 := hp23.mono hleD; refine withPreds_cons rfl rfl ?_; rintro _ rfl; refine withPreds_nil rfl ?_; refine XO.buildSlice rfl Try.underlying25 ty_3 ze_3 rfl rfl rfl (fun b59 => ?_); refine XO.publish 0 rfl rfl rfl (fun HP59 oP59 hleP59 hbP59 hoP59 => ?_)
          have hsl59 := SlR.lit (ρ := (intR .i64)) (l := [(nxt f z)]) hbP59 hoP59 (RowsR.one1 rfl)
          replace hs := hs.mono hleP59; replace hm := hm.mono hleP59; replace hp14 := hp14.mono hleP59; replace hp23 := hp23.mono hleP59; refine XO.nil ?_
          exact stepQ_ok trivial (⟨_, rfl, hsl59⟩)
         refine stepsD_cons rfl ?_ ?_
         ·intro X HD hleD _
          replace hs := hs.mono hleD; replace hm := hm.mono hleD; replace hp14 := hp14.mono hleD; replace hp23 := hp23.mono hleD; refine withPreds_cons rfl rfl ?_; rintro _ ⟨a57, c57, rfl, hsl57, hcap57⟩; refine withPreds_cons rfl rfl ?_; rintro _ ⟨bs59, rfl, hsl59⟩; refine withPreds_nil rfl ?_; refine XO.appendP rfl hsl57 rfl rfl hsl59 rfl (by exact hcap57) Try.underlying25 ty_3 ze_3 rfl by_3 (by simp; omega) rfl (fun HA60 aA60 cA60 hleA60 hsA60 => ?_); replace hs := hs.mono hleA60; replace hm := hm.mono hleA60; replace hp14 := hp14.mono hleA60; replace hp23 := hp23.mono hleA60; replace hsl57 := hsl57.mono hleA60; replace hsl59 := hsl59.mono hleA60; refine XO.nil ?_
          exact stepQ_ok trivial (⟨_, _, rfl, hsA60⟩)
         refine stepsD_cons rfl ?_ ?_
         ·intro X HD hleD _
          replace hs := hs.mono hleD; replace hm := hm.mono hleD; replace hp14 := hp14.mono hleD; replace hp23 := hp23.mono hleD; refine withPreds_nil rfl ?_; refine XO.move rfl rfl ?_; refine XO.nil ?_
          exact stepQ_ok trivial (rfl)
         refine stepsD_cons rfl ?_ ?_
         ·intro X HD hleD _
          replace hs := hs.mono hleD; replace hm := hm.mono hleD; replace hp14 := hp14.mono hleD; replace hp23 := hp23.mono hleD; refine withPreds_cons rfl rfl ?_; rintro _ ⟨a54, c54, rfl, hsl54⟩; refine withPreds_cons rfl rfl ?_; rintro _ ⟨a60, c60, rfl, hsl60⟩; refine withPreds_cons rfl rfl ?_; rintro _ rfl; refine withPreds_nil rfl ?_; refine XO.callV rfl (ih t.length (by omega) t (met ++ [(nxt f z)]) (nxt f z) _ _ _ _ _ rfl (by simp; omega) (by simp) hsl54 hsl60) rfl ?_; refine XO.nil ?_
          exact stepQ_ok trivial (rfl)
         exact stepsD_end rfl
        case tail12 =>
         intro HD hleD _
         replace hs := hs.mono hleD; replace hm := hm.mono hleD; replace hp14 := hp14.mono hleD; replace hp23 := hp23.mono hleD; refine withPreds_cons rfl rfl ?_; rintro _ rfl; refine withPreds_cons rfl rfl ?_; rintro _ ⟨a54, c54, rfl, hsl54⟩; refine withPreds_cons rfl rfl ?_; rintro _ ⟨a55, c55, rfl, hsl55, hcap55⟩; refine withPreds_cons rfl rfl ?_; rintro _ rfl; refine withPreds_cons rfl rfl ?_; rintro _ ⟨a57, c57, rfl, hsl57, hcap57⟩; refine withPreds_cons rfl rfl ?_; rintro _ rfl; refine withPreds_cons rfl rfl ?_; rintro _ ⟨bs59, rfl, hsl59⟩; refine withPreds_cons rfl rfl ?_; rintro _ ⟨a60, c60, rfl, hsl60⟩; refine withPreds_cons rfl rfl ?_; rintro _ rfl; refine withPreds_cons rfl rfl ?_; rintro _ rfl; refine withPreds_nil rfl ?_; refine XO.assign rfl rfl ?_; refine XO.nil ?_; refine XC.seq2 ?_; refine XC.ret ?_; refine ⟨rfl, _, [], rfl, (by repeat (first | exact List.Sublist.refl _ | apply List.Sublist.cons)), RetR.mk ?_⟩
         first | exact congrArg Value.bool (rel_no (Or.inl (by omega))) | exact congrArg Value.bool (rel_no (Or.inr (Or.inl (by omega)))) | exact congrArg Value.bool (rel_no (Or.inr (Or.inr (by assumption)))) | exact congrArg Value.bool (rel_yes (by omega) (by omega) (by assumption))
       ·skip
        refine XC.keep [0, 1, 2, 9] rfl ?_
        apply XC.drawM (fun _ => True) trivial [4] (by decide) [(7, 4)] (ownF (intR .i64) 3 met) (fun _ _ p _ => p.2 = .nothing) (ownF_mono _ _ _) (fun _ _ _ _ _ _ h => h) 10 [eqF _, slG faR t, slF (intR .i64) ([] : List Int), eqF _, anyF, eqF _, slF (intR .i64) [(nxt f z)], slG (intR .i64) (met ++ [(nxt f z)]), eqF _, eqF _] follows (by kernel_rfl) ⟨eqF_mono _, slG_mono _ _, slF_mono _ _, eqF_mono _, anyF_mono, eqF_mono _, slF_mono _ _, slG_mono _ _, eqF_mono _, eqF_mono _, trivial⟩ (by decide) (by kernel_rfl) ?steps16 ?tail16
        case steps16 =>
         refine stepsM_cons rfl rfl ?_ ?_
         ·intro X ext HD hleD _
          replace hs := hs.mono hleD; replace hm := hm.mono hleD; replace hp14 := hp14.mono hleD; replace hp23 := hp23.mono hleD; refine withP_nil rfl ?_; refine XO.move rfl rfl ?_; refine XO.nil ?_; exact stepQN_ok rfl trivial (rfl)
         refine stepsM_cons rfl rfl ?_ ?_
         ·intro X ext HD hleD _
          replace hs := hs.mono hleD; replace hm := hm.mono hleD; replace hp14 := hp14.mono hleD; replace hp23 := hp23.mono hleD; refine withP_cons rfl rfl ?_; rintro _ rfl; refine withP_nil rfl ?_; refine XO.slice (lo' := 1) (hi' := ((f :: t).length : Int)) (m' := (c : Int)) rfl hs (ev?_some rfl) ev?_none ev?_none (by simp) (by omega) (by omega) (by omega) (by omega) (by omega) Try.underlying22 ty_41 rfl (fun as54 ls54 hls54 hss54 => ?_)
          obtain rfl : ls54 = t := by first | (rw [hls54]; simp only [Int.toNat_natCast, Nat.add_sub_cancel_left]; done) | (rw [hls54]; simp; done) | (rw [hls54]; simp; rw [List.take_of_length_le (by simp)]; done) | (rw [hls54]; simp only [Int.toNat_natCast]; exact List.take_of_length_le (by rw [List.length_drop]; omega))
          refine XO.nil ?_
          exact stepQN_ok rfl trivial (⟨_, _, rfl, hss54⟩)
         refine stepsM_cons rfl rfl ?_ ?_
         ·intro X ext HD hleD _
          replace hs := hs.mono hleD; replace hm := hm.mono hleD; replace hp14 := hp14.mono hleD; replace hp23 := hp23.mono hleD; refine withP_nil rfl ?_; refine XO.buildSlice rfl Try.underlying25 ty_3 ze_3 rfl rfl rfl (fun b55 => ?_); refine XO.publish 0 rfl rfl rfl (fun HP55 oP55 hleP55 hbP55 hoP55 => ?_)
          have hsl55 := SlR.lit (ρ := (intR .i64)) (l := ([] : List Int)) hbP55 hoP55 rfl
          replace hs := hs.mono hleP55; replace hm := hm.mono hleP55; replace hp14 := hp14.mono hleP55; replace hp23 := hp23.mono hleP55; refine XO.nil ?_
          exact stepQN_ok rfl trivial (⟨_, rfl, hsl55⟩)
         refine stepsM_cons rfl rfl ?_ ?_
         ·intro X ext HD hleD _
          replace hs := hs.mono hleD; replace hm := hm.mono hleD; replace hp14 := hp14.mono hleD; replace hp23 := hp23.mono hleD; refine withP_nil rfl ?_; refine XO.move rfl rfl ?_; refine XO.nil ?_; exact stepQN_ok rfl trivial (rfl)
         refine stepsM_cons rfl rfl ?_ ?_
         ·intro X ext HD hleD _
          replace hs := hs.mono hleD; replace hm := hm.mono hleD; replace hp14 := hp14.mono hleD; replace hp23 := hp23.mono hleD; refine withP_cons rfl rfl ?_; rintro _ ⟨bs55, rfl, hsl55⟩; refine withP_cons rfl rfl ?_; rintro _ rfl; refine withP_nil rfl ?_; refine XO.appendN rfl hsl55 rfl rfl hm rfl (by have := List.length_pos_iff.2 hq0; simp; omega) Try.underlying25 ty_3 ze_3 rfl by_3 (by simp; omega) rfl (fun pe ae ce hacc => ?_); refine XO.nil ?_
          exact stepQN_new rfl trivial trivial (⟨_, _, rfl, hacc⟩)
         refine stepsM_cons rfl rfl ?_ ?_
         ·intro X ext HD hleD _
          replace hs := hs.mono hleD; replace hm := hm.mono hleD; replace hp14 := hp14.mono hleD; replace hp23 := hp23.mono hleD; refine withP_nil rfl ?_; refine XO.move rfl rfl ?_; refine XO.nil ?_; exact stepQN_ok rfl trivial (rfl)
         refine stepsM_cons rfl rfl ?_ ?_
         ·intro X ext HD hleD _
          replace hs := hs.mono hleD; replace hm := hm.mono hleD; replace hp14 := hp14.mono hleD; replace hp23 := hp23.mono hleD; refine withP_cons rfl rfl ?_; rintro _ rfl; refine withP_nil rfl ?_; refine XO.buildSlice rfl Try.underlying25 ty_3 ze_3 rfl rfl rfl (fun b59 => ?_); refine XO.publish 0 rfl rfl rfl (fun HP59 oP59 hleP59 hbP59 hoP59 => ?_)
          have hsl59 := SlR.lit (ρ := (intR .i64)) (l := [(nxt f z)]) hbP59 hoP59 (RowsR.one1 rfl)
          replace hs := hs.mono hleP59; replace hm := hm.mono hleP59; replace hp14 := hp14.mono hleP59; replace hp23 := hp23.mono hleP59; refine XO.nil ?_
          exact stepQN_ok rfl trivial (⟨_, rfl, hsl59⟩)
         refine stepsM_mod rfl rfl ?_ ?_
         ·intro X ext p HD hleD _
          replace hs := hs.mono hleD; replace hm := hm.mono hleD; replace hp14 := hp14.mono hleD; replace hp23 := hp23.mono hleD; refine withP_cons rfl rfl ?_; rintro _ _; refine withP_cons rfl rfl ?_; rintro _ ⟨bs59, rfl, hsl59⟩; refine withP_nil rfl ?_
          intro hfo
          obtain ⟨ab, cb, rfl, haccb⟩ := hfo _ _ rfl rfl; refine XO.appendA 0 rfl rfl haccb rfl rfl hsl59 rfl Try.underlying25 ty_3 ze_3 rfl by_3 (by simp; omega) rfl (fun pc ac cc haccc => ?_); refine XO.publishA 0 rfl haccc rfl (fun HQ hleQ hsQ => ?_); refine XO.open0 (σ := []) (fun b0 => ?_); refine XO.nil ?_
          exact stepQM_ok trivial (⟨_, _, rfl, hsQ⟩) (fun u t h1 h2 => rfl)
         refine stepsM_cons rfl rfl ?_ ?_
         ·intro X ext HD hleD _
          replace hs := hs.mono hleD; replace hm := hm.mono hleD; replace hp14 := hp14.mono hleD; replace hp23 := hp23.mono hleD; refine withP_nil rfl ?_; refine XO.move rfl rfl ?_; refine XO.nil ?_; exact stepQN_ok rfl trivial (rfl)
         refine stepsM_cons rfl rfl ?_ ?_
         ·intro X ext HD hleD _
          replace hs := hs.mono hleD; replace hm := hm.mono hleD; replace hp14 := hp14.mono hleD; replace hp23 := hp23.mono hleD; refine withP_cons rfl rfl ?_; rintro _ ⟨a54, c54, rfl, hsl54⟩; refine withP_cons rfl rfl ?_; rintro _ ⟨a60, c60, rfl, hsl60⟩; refine withP_cons rfl rfl ?_; rintro _ rfl; refine withP_nil rfl ?_; refine XO.callV rfl (ih t.length (by omega) t (met ++ [(nxt f z)]) (nxt f z) _ _ _ _ _ rfl (by simp; omega) (by simp) hsl54 hsl60) rfl ?_; refine XO.nil ?_; exact stepQN_ok rfl trivial (rfl)
         exact stepsM_end rfl
        case tail16 =>
         intro HD hleD _
         replace hs := hs.mono hleD; replace hm := hm.mono hleD; replace hp14 := hp14.mono hleD; replace hp23 := hp23.mono hleD; refine withP_cons rfl rfl ?_; rintro _ rfl; refine withP_cons rfl rfl ?_; rintro _ ⟨a54, c54, rfl, hsl54⟩; refine withP_cons rfl rfl ?_; rintro _ ⟨bs55, rfl, hsl55⟩; refine withP_cons rfl rfl ?_; rintro _ rfl; refine withP_cons rfl rfl ?_; rintro _ _; refine withP_cons rfl rfl ?_; rintro _ rfl; refine withP_cons rfl rfl ?_; rintro _ ⟨bs59, rfl, hsl59⟩; refine withP_cons rfl rfl ?_; rintro _ ⟨a60, c60, rfl, hsl60⟩; refine withP_cons rfl rfl ?_; rintro _ rfl; refine withP_cons rfl rfl ?_; rintro _ rfl; refine withP_nil rfl ?_; refine withEnts_cons ?_
         intro pe hpe
         refine withEnts_nil ?_; refine XO.assign rfl rfl ?_; refine XO.nil ?_; refine XC.seq2 ?_; refine XC.ret ?_; refine ⟨rfl, _, [], rfl, (by repeat (first | exact List.Sublist.refl _ | apply List.Sublist.cons)), RetR.mk ?_⟩
         first | exact congrArg Value.bool (rel_no (Or.inl (by omega))) | exact congrArg Value.bool (rel_no (Or.inr (Or.inl (by omega)))) | exact congrArg Value.bool (rel_no (Or.inr (Or.inr (by assumption)))) | exact congrArg Value.bool (rel_yes (by omega) (by omega) (by assumption))
     ·have g9p := of_decide_eq_true g9
      refine XO.guardF rfl rfl (g9) rfl rfl ?_; refine XO.guardF rfl rfl (g9) rfl rfl ?_; refine XO.pickT rfl (g9) rfl rfl ?_; refine XO.nil ?_; refine XC.seq2 ?_; refine XC.condT rfl (rfl) ?_; refine XC.seq ?_; refine XC.region ?_; refine XO.assign rfl rfl ?_; refine XO.nil ?_; refine XC.seq2 ?_; refine XC.ret ?_; refine seqX_ret ?_; refine ⟨rfl, _, [], rfl, (by repeat (first | exact List.Sublist.refl _ | apply List.Sublist.cons)), RetR.mk ?_⟩
      first | exact congrArg Value.bool (rel_no (Or.inl (by omega))) | exact congrArg Value.bool (rel_no (Or.inr (Or.inl (by omega)))) | exact congrArg Value.bool (rel_no (Or.inr (Or.inr (by assumption)))) | exact congrArg Value.bool (rel_yes (by omega) (by omega) (by assumption))
    ·have g8p := of_decide_eq_false g8
     refine XO.guardF rfl rfl (g8) rfl rfl ?_; refine XO.guardF rfl rfl (g8) rfl rfl ?_; refine XO.guardF rfl rfl (g8) rfl rfl ?_; refine XO.guardT rfl rfl (g7) rfl ?_; refine XO.pickF rfl (g8) rfl rfl ?_; refine XO.pickF rfl (g7) rfl rfl ?_; refine XO.move rfl rfl ?_; refine XO.guardT rfl rfl (rfl) rfl ?_; refine XO.move rfl rfl ?_; refine XO.guardT rfl rfl (rfl) rfl ?_; refine XO.move rfl rfl ?_; refine XO.guardT rfl rfl (rfl) rfl ?_; refine XO.callV rfl (has_fn _ _ met _ hm (by omega) (nxt f z)) rfl ?_; refine XO.pickF rfl (rfl) rfl rfl ?_; refine XO.nil ?_; refine XC.seq2 ?_; refine XC.cond rfl (fun c2_20 => ?_) (fun c2_20 => ?_)
     ·refine XC.seq ?_; refine XC.region ?_; refine XO.assign rfl rfl ?_; refine XO.nil ?_; refine XC.seq2 ?_; refine XC.ret ?_; refine seqX_ret ?_; refine ⟨rfl, _, [], rfl, (by repeat (first | exact List.Sublist.refl _ | apply List.Sublist.cons)), RetR.mk ?_⟩
      first | exact congrArg Value.bool (rel_no (Or.inl (by omega))) | exact congrArg Value.bool (rel_no (Or.inr (Or.inl (by omega)))) | exact congrArg Value.bool (rel_no (Or.inr (Or.inr (by assumption)))) | exact congrArg Value.bool (rel_yes (by omega) (by omega) (by assumption))
     ·refine XC.skip ?_; refine XC.seq2 ?_; refine XC.seq ?_
      by_cases hq0 : met = []
      ·skip
       refine XC.keep [0, 1, 2, 9] rfl ?_
       apply XC.drawG (fun _ => True) trivial 10 [eqF _, slG faR t, slCap (intR .i64) [], eqF _, slCap (intR .i64) met, eqF _, slF (intR .i64) [(nxt f z)], slG (intR .i64) (met ++ [(nxt f z)]), eqF _, eqF _] follows (by kernel_rfl) (by kernel_rfl) ⟨eqF_mono _, slG_mono _ _, slCap_mono _ _, eqF_mono _, slCap_mono _ _, eqF_mono _, slF_mono _ _, slG_mono _ _, eqF_mono _, eqF_mono _, trivial⟩ ?steps21 ?tail21
       case steps21 =>
        refine stepsD_cons rfl ?_ ?_
        ·intro X HD hleD _
         replace hs := hs.mono hleD; replace hm := hm.mono hleD; replace hp14 := hp14.mono hleD; replace hp23 := hp23.mono hleD; refine withPreds_nil rfl ?_; refine XO.move rfl rfl ?_; refine XO.nil ?_
         exact stepQ_ok trivial (rfl)
        refine stepsD_cons rfl ?_ ?_
        ·intro X HD hleD _
         replace hs := hs.mono hleD; replace hm := hm.mono hleD; replace hp14 := hp14.mono hleD; replace hp23 := hp23.mono hleD; refine withPreds_cons rfl rfl ?_; rintro _ rfl; refine withPreds_nil rfl ?_; refine XO.slice (lo' := 1) (hi' := ((f :: t).length : Int)) (m' := (c : Int)) rfl hs (ev?_some rfl) ev?_none ev?_none (by simp) (by omega) (by omega) (by omega) (by omega) (by omega) Try.underlying22 ty_41 rfl (fun as54 ls54 hls54 hss54 => ?_)
         obtain rfl : ls54 = t := by first | (rw [hls54]; simp only [Int.toNat_natCast, Nat.add_sub_cancel_left]; done) | (rw [hls54]; simp; done) | (rw [hls54]; simp; rw [List.take_of_length_le (by simp)]; done) | (rw [hls54]; simp only [Int.toNat_natCast]; exact List.take_of_length_le (by rw [List.length_drop]; omega))
         refine XO.nil ?_
         exact stepQ_ok trivial (⟨_, _, rfl, hss54⟩)
        refine stepsD_cons rfl ?_ ?_
        ·intro X HD hleD _
         replace hs := hs.mono hleD; replace hm := hm.mono hleD; replace hp14 := hp14.mono hleD; replace hp23 := hp23.mono hleD; refine withPreds_nil rfl ?_; refine XO.buildSlice rfl Try.underlying25 ty_3 ze_3 rfl rfl rfl (fun b55 => ?_); refine XO.publish 0 rfl rfl rfl (fun HP55 oP55 hleP55 hbP55 hoP55 => ?_)
         have hsl55 := SlR.lit (ρ := (intR .i64)) (l := ([] : List Int)) hbP55 hoP55 rfl
         replace hs := hs.mono hleP55; replace hm := hm.mono hleP55; replace hp14 := hp14.mono hleP55; replace hp23 := hp23.mono hleP55; refine XO.nil ?_
         exact stepQ_ok trivial (⟨_, _, rfl, hsl55, by simp⟩)
        refine stepsD_cons rfl ?_ ?_
        ·intro X HD hleD _
         replace hs := hs.mono hleD; replace hm := hm.mono hleD; replace hp14 := hp14.mono hleD; replace hp23 := hp23.mono hleD; refine withPreds_nil rfl ?_; refine XO.move rfl rfl ?_; refine XO.nil ?_
         exact stepQ_ok trivial (rfl)
        refine stepsD_cons rfl ?_ ?_
        ·intro X HD hleD _
         replace hs := hs.mono hleD; replace hm := hm.mono hleD; replace hp14 := hp14.mono hleD; replace hp23 := hp23.mono hleD; refine withPreds_cons rfl rfl ?_; rintro _ ⟨a55, c55, rfl, hsl55, hcap55⟩; refine withPreds_cons rfl rfl ?_; rintro _ rfl; refine withPreds_nil rfl ?_; refine XO.append0 rfl rfl (by rw [hq0]; rfl) hsl55.le Try.underlying25 ty_3 rfl ?_; refine XO.nil ?_
         exact stepQ_ok trivial (⟨_, _, by first | (rw [hq0]; done) | (rw [hq0]; rfl), by rw [hq0]; exact hsl55, by rw [hq0]; exact hcap55⟩)
        refine stepsD_cons rfl ?_ ?_
        ·intro X HD hleD _
         replace hs := hs.mono hleD; replace hm := hm.mono hleD; replace hp14 := hp14.mono hleD; replace hp23 := hp23.mono hleD; refine withPreds_nil rfl ?_; refine XO.move rfl rfl ?_; refine XO.nil ?_
         exact stepQ_ok trivial (rfl)
        refine stepsD_cons rfl ?_ ?_
        ·intro X HD hleD _
         replace hs := hs.mono hleD; replace hm := hm.mono hleD; replace hp14 := hp14.mono hleD; replace hp23 := hp23.mono hleD; refine withPreds_cons rfl rfl ?_; rintro _ rfl; refine withPreds_nil rfl ?_; refine XO.buildSlice rfl Try.underlying25 ty_3 ze_3 rfl rfl rfl (fun b59 => ?_); refine XO.publish 0 rfl rfl rfl (fun HP59 oP59 hleP59 hbP59 hoP59 => ?_)
         have hsl59 := SlR.lit (ρ := (intR .i64)) (l := [(nxt f z)]) hbP59 hoP59 (RowsR.one1 rfl)
         replace hs := hs.mono hleP59; replace hm := hm.mono hleP59; replace hp14 := hp14.mono hleP59; replace hp23 := hp23.mono hleP59; refine XO.nil ?_
         exact stepQ_ok trivial (⟨_, rfl, hsl59⟩)
        refine stepsD_cons rfl ?_ ?_
        ·intro X HD hleD _
         replace hs := hs.mono hleD; replace hm := hm.mono hleD; replace hp14 := hp14.mono hleD; replace hp23 := hp23.mono hleD; refine withPreds_cons rfl rfl ?_; rintro _ ⟨a57, c57, rfl, hsl57, hcap57⟩; refine withPreds_cons rfl rfl ?_; rintro _ ⟨bs59, rfl, hsl59⟩; refine withPreds_nil rfl ?_; refine XO.appendP rfl hsl57 rfl rfl hsl59 rfl (by exact hcap57) Try.underlying25 ty_3 ze_3 rfl by_3 (by simp; omega) rfl (fun HA60 aA60 cA60 hleA60 hsA60 => ?_); replace hs := hs.mono hleA60; replace hm := hm.mono hleA60; replace hp14 := hp14.mono hleA60; replace hp23 := hp23.mono hleA60; replace hsl57 := hsl57.mono hleA60; replace hsl59 := hsl59.mono hleA60; refine XO.nil ?_
         exact stepQ_ok trivial (⟨_, _, rfl, hsA60⟩)
        refine stepsD_cons rfl ?_ ?_
        ·intro X HD hleD _
         replace hs := hs.mono hleD; replace hm := hm.mono hleD; replace hp14 := hp14.mono hleD; replace hp23 := hp23.mono hleD; refine withPreds_nil rfl ?_; refine XO.move rfl rfl ?_; refine XO.nil ?_
         exact stepQ_ok trivial (rfl)
        refine stepsD_cons rfl ?_ ?_
        ·intro X HD hleD _
         replace hs := hs.mono hleD; replace hm := hm.mono hleD; replace hp14 := hp14.mono hleD; replace hp23 := hp23.mono hleD; refine withPreds_cons rfl rfl ?_; rintro _ ⟨a54, c54, rfl, hsl54⟩; refine withPreds_cons rfl rfl ?_; rintro _ ⟨a60, c60, rfl, hsl60⟩; refine withPreds_cons rfl rfl ?_; rintro _ rfl; refine withPreds_nil rfl ?_; refine XO.callV rfl (ih t.length (by omega) t (met ++ [(nxt f z)]) (nxt f z) _ _ _ _ _ rfl (by simp; omega) (by simp) hsl54 hsl60) rfl ?_; refine XO.nil ?_
         exact stepQ_ok trivial (rfl)
        exact stepsD_end rfl
       case tail21 =>
        intro HD hleD _
        replace hs := hs.mono hleD; replace hm := hm.mono hleD; replace hp14 := hp14.mono hleD; replace hp23 := hp23.mono hleD; refine withPreds_cons rfl rfl ?_; rintro _ rfl; refine withPreds_cons rfl rfl ?_; rintro _ ⟨a54, c54, rfl, hsl54⟩; refine withPreds_cons rfl rfl ?_; rintro _ ⟨a55, c55, rfl, hsl55, hcap55⟩; refine withPreds_cons rfl rfl ?_; rintro _ rfl; refine withPreds_cons rfl rfl ?_; rintro _ ⟨a57, c57, rfl, hsl57, hcap57⟩; refine withPreds_cons rfl rfl ?_; rintro _ rfl; refine withPreds_cons rfl rfl ?_; rintro _ ⟨bs59, rfl, hsl59⟩; refine withPreds_cons rfl rfl ?_; rintro _ ⟨a60, c60, rfl, hsl60⟩; refine withPreds_cons rfl rfl ?_; rintro _ rfl; refine withPreds_cons rfl rfl ?_; rintro _ rfl; refine withPreds_nil rfl ?_; refine XO.assign rfl rfl ?_; refine XO.nil ?_; refine XC.seq2 ?_; refine XC.ret ?_; refine ⟨rfl, _, [], rfl, (by repeat (first | exact List.Sublist.refl _ | apply List.Sublist.cons)), RetR.mk ?_⟩
        first | exact congrArg Value.bool (rel_no (Or.inl (by omega))) | exact congrArg Value.bool (rel_no (Or.inr (Or.inl (by omega)))) | exact congrArg Value.bool (rel_no (Or.inr (Or.inr (by assumption)))) | exact congrArg Value.bool (rel_yes (by omega) (by omega) (by assumption))
      ·skip
       refine XC.keep [0, 1, 2, 9] rfl ?_
       apply XC.drawM (fun _ => True) trivial [4] (by decide) [(7, 4)] (ownF (intR .i64) 3 met) (fun _ _ p _ => p.2 = .nothing) (ownF_mono _ _ _) (fun _ _ _ _ _ _ h => h) 10 [eqF _, slG faR t, slF (intR .i64) ([] : List Int), eqF _, anyF, eqF _, slF (intR .i64) [(nxt f z)], slG (intR .i64) (met ++ [(nxt f z)]), eqF _, eqF _] follows (by kernel_rfl) ⟨eqF_mono _, slG_mono _ _, slF_mono _ _, eqF_mono _, anyF_mono, eqF_mono _, slF_mono _ _, slG_mono _ _, eqF_mono _, eqF_mono _, trivial⟩ (by decide) (by kernel_rfl) ?steps25 ?tail25
       case steps25 =>
        refine stepsM_cons rfl rfl ?_ ?_
        ·intro X ext HD hleD _
         replace hs := hs.mono hleD; replace hm := hm.mono hleD; replace hp14 := hp14.mono hleD; replace hp23 := hp23.mono hleD; refine withP_nil rfl ?_; refine XO.move rfl rfl ?_; refine XO.nil ?_; exact stepQN_ok rfl trivial (rfl)
        refine stepsM_cons rfl rfl ?_ ?_
        ·intro X ext HD hleD _
         replace hs := hs.mono hleD; replace hm := hm.mono hleD; replace hp14 := hp14.mono hleD; replace hp23 := hp23.mono hleD; refine withP_cons rfl rfl ?_; rintro _ rfl; refine withP_nil rfl ?_; refine XO.slice (lo' := 1) (hi' := ((f :: t).length : Int)) (m' := (c : Int)) rfl hs (ev?_some rfl) ev?_none ev?_none (by simp) (by omega) (by omega) (by omega) (by omega) (by omega) Try.underlying22 ty_41 rfl (fun as54 ls54 hls54 hss54 => ?_)
         obtain rfl : ls54 = t := by first | (rw [hls54]; simp only [Int.toNat_natCast, Nat.add_sub_cancel_left]; done) | (rw [hls54]; simp; done) | (rw [hls54]; simp; rw [List.take_of_length_le (by simp)]; done) | (rw [hls54]; simp only [Int.toNat_natCast]; exact List.take_of_length_le (by rw [List.length_drop]; omega))
         refine XO.nil ?_
         exact stepQN_ok rfl trivial (⟨_, _, rfl, hss54⟩)
        refine stepsM_cons rfl rfl ?_ ?_
        ·intro X ext HD hleD _
         replace hs := hs.mono hleD; replace hm := hm.mono hleD; replace hp14 := hp14.mono hleD; replace hp23 := hp23.mono hleD; refine withP_nil rfl ?_; refine XO.buildSlice rfl Try.underlying25 ty_3 ze_3 rfl rfl rfl (fun b55 => ?_); refine XO.publish 0 rfl rfl rfl (fun HP55 oP55 hleP55 hbP55 hoP55 => ?_)
         have hsl55 := SlR.lit (ρ := (intR .i64)) (l := ([] : List Int)) hbP55 hoP55 rfl
         replace hs := hs.mono hleP55; replace hm := hm.mono hleP55; replace hp14 := hp14.mono hleP55; replace hp23 := hp23.mono hleP55; refine XO.nil ?_
         exact stepQN_ok rfl trivial (⟨_, rfl, hsl55⟩)
        refine stepsM_cons rfl rfl ?_ ?_
        ·intro X ext HD hleD _
         replace hs := hs.mono hleD; replace hm := hm.mono hleD; replace hp14 := hp14.mono hleD; replace hp23 := hp23.mono hleD; refine withP_nil rfl ?_; refine XO.move rfl rfl ?_; refine XO.nil ?_; exact stepQN_ok rfl trivial (rfl)
        refine stepsM_cons rfl rfl ?_ ?_
        ·intro X ext HD hleD _
         replace hs := hs.mono hleD; replace hm := hm.mono hleD; replace hp14 := hp14.mono hleD; replace hp23 := hp23.mono hleD; refine withP_cons rfl rfl ?_; rintro _ ⟨bs55, rfl, hsl55⟩; refine withP_cons rfl rfl ?_; rintro _ rfl; refine withP_nil rfl ?_; refine XO.appendN rfl hsl55 rfl rfl hm rfl (by have := List.length_pos_iff.2 hq0; simp; omega) Try.underlying25 ty_3 ze_3 rfl by_3 (by simp; omega) rfl (fun pe ae ce hacc => ?_); refine XO.nil ?_
         exact stepQN_new rfl trivial trivial (⟨_, _, rfl, hacc⟩)
        refine stepsM_cons rfl rfl ?_ ?_
        ·intro X ext HD hleD _
         replace hs := hs.mono hleD; replace hm := hm.mono hleD; replace hp14 := hp14.mono hleD; replace hp23 := hp23.mono hleD; refine withP_nil rfl ?_; refine XO.move rfl rfl ?_; refine XO.nil ?_; exact stepQN_ok rfl trivial (rfl)
        refine stepsM_cons rfl rfl ?_ ?_
        ·intro X ext HD hleD _
         replace hs := hs.mono hleD; replace hm := hm.mono hleD; replace hp14 := hp14.mono hleD; replace hp23 := hp23.mono hleD; refine withP_cons rfl rfl ?_; rintro _ rfl; refine withP_nil rfl ?_; refine XO.buildSlice rfl Try.underlying25 ty_3 ze_3 rfl rfl rfl (fun b59 => ?_); refine XO.publish 0 rfl rfl rfl (fun HP59 oP59 hleP59 hbP59 hoP59 => ?_)
         have hsl59 := SlR.lit (ρ := (intR .i64)) (l := [(nxt f z)]) hbP59 hoP59 (RowsR.one1 rfl)
         replace hs := hs.mono hleP59; replace hm := hm.mono hleP59; replace hp14 := hp14.mono hleP59; replace hp23 := hp23.mono hleP59; refine XO.nil ?_
         exact stepQN_ok rfl trivial (⟨_, rfl, hsl59⟩)
        refine stepsM_mod rfl rfl ?_ ?_
        ·intro X ext p HD hleD _
         replace hs := hs.mono hleD; replace hm := hm.mono hleD; replace hp14 := hp14.mono hleD; replace hp23 := hp23.mono hleD; refine withP_cons rfl rfl ?_; rintro _ _; refine withP_cons rfl rfl ?_; rintro _ ⟨bs59, rfl, hsl59⟩; refine withP_nil rfl ?_
         intro hfo
         obtain ⟨ab, cb, rfl, haccb⟩ := hfo _ _ rfl rfl; refine XO.appendA 0 rfl rfl haccb rfl rfl hsl59 rfl Try.underlying25 ty_3 ze_3 rfl by_3 (by simp; omega) rfl (fun pc ac cc haccc => ?_); refine XO.publishA 0 rfl haccc rfl (fun HQ hleQ hsQ => ?_); refine XO.open0 (σ := []) (fun b0 => ?_); refine XO.nil ?_
         exact stepQM_ok trivial (⟨_, _, rfl, hsQ⟩) (fun u t h1 h2 => rfl)
        refine stepsM_cons rfl rfl ?_ ?_
        ·intro X ext HD hleD _
         replace hs := hs.mono hleD; replace hm := hm.mono hleD; replace hp14 := hp14.mono hleD; replace hp23 := hp23.mono hleD; refine withP_nil rfl ?_; refine XO.move rfl rfl ?_; refine XO.nil ?_; exact stepQN_ok rfl trivial (rfl)
        refine stepsM_cons rfl rfl ?_ ?_
        ·intro X ext HD hleD _
         replace hs := hs.mono hleD; replace hm := hm.mono hleD; replace hp14 := hp14.mono hleD; replace hp23 := hp23.mono hleD; refine withP_cons rfl rfl ?_; rintro _ ⟨a54, c54, rfl, hsl54⟩; refine withP_cons rfl rfl ?_; rintro _ ⟨a60, c60, rfl, hsl60⟩; refine withP_cons rfl rfl ?_; rintro _ rfl; refine withP_nil rfl ?_; refine XO.callV rfl (ih t.length (by omega) t (met ++ [(nxt f z)]) (nxt f z) _ _ _ _ _ rfl (by simp; omega) (by simp) hsl54 hsl60) rfl ?_; refine XO.nil ?_; exact stepQN_ok rfl trivial (rfl)
        exact stepsM_end rfl
       case tail25 =>
        intro HD hleD _
        replace hs := hs.mono hleD; replace hm := hm.mono hleD; replace hp14 := hp14.mono hleD; replace hp23 := hp23.mono hleD; refine withP_cons rfl rfl ?_; rintro _ rfl; refine withP_cons rfl rfl ?_; rintro _ ⟨a54, c54, rfl, hsl54⟩; refine withP_cons rfl rfl ?_; rintro _ ⟨bs55, rfl, hsl55⟩; refine withP_cons rfl rfl ?_; rintro _ rfl; refine withP_cons rfl rfl ?_; rintro _ _; refine withP_cons rfl rfl ?_; rintro _ rfl; refine withP_cons rfl rfl ?_; rintro _ ⟨bs59, rfl, hsl59⟩; refine withP_cons rfl rfl ?_; rintro _ ⟨a60, c60, rfl, hsl60⟩; refine withP_cons rfl rfl ?_; rintro _ rfl; refine withP_cons rfl rfl ?_; rintro _ rfl; refine withP_nil rfl ?_; refine withEnts_cons ?_
        intro pe hpe
        refine withEnts_nil ?_; refine XO.assign rfl rfl ?_; refine XO.nil ?_; refine XC.seq2 ?_; refine XC.ret ?_; refine ⟨rfl, _, [], rfl, (by repeat (first | exact List.Sublist.refl _ | apply List.Sublist.cons)), RetR.mk ?_⟩
        first | exact congrArg Value.bool (rel_no (Or.inl (by omega))) | exact congrArg Value.bool (rel_no (Or.inr (Or.inl (by omega)))) | exact congrArg Value.bool (rel_no (Or.inr (Or.inr (by assumption)))) | exact congrArg Value.bool (rel_yes (by omega) (by omega) (by assumption))
   ·have g7p := of_decide_eq_true g7
    refine XO.guardF rfl rfl (g7) rfl rfl ?_; refine XO.guardF rfl rfl (g7) rfl rfl ?_; refine XO.guardF rfl rfl (g7) rfl rfl ?_; refine XO.guardF rfl rfl (g7) rfl rfl ?_; refine XO.guardU rfl rfl rfl rfl ?_; refine XO.guardU rfl rfl rfl rfl ?_; refine XO.guardU rfl rfl rfl rfl ?_; refine XO.guardU rfl rfl rfl rfl ?_; refine XO.guardF rfl rfl (g7) rfl rfl ?_; refine XO.pickT rfl (g7) rfl rfl ?_; refine XO.move rfl rfl ?_; refine XO.guardF rfl rfl (rfl) rfl rfl ?_; refine XO.guardF rfl rfl (rfl) rfl rfl ?_; refine XO.guardF rfl rfl (rfl) rfl rfl ?_; refine XO.pickT rfl (rfl) rfl rfl ?_; refine XO.nil ?_; refine XC.seq2 ?_; refine XC.condT rfl (rfl) ?_; refine XC.seq ?_; refine XC.region ?_; refine XO.assign rfl rfl ?_; refine XO.nil ?_; refine XC.seq2 ?_; refine XC.ret ?_; refine seqX_ret ?_; refine ⟨rfl, _, [], rfl, (by repeat (first | exact List.Sublist.refl _ | apply List.Sublist.cons)), RetR.mk ?_⟩
    first | exact congrArg Value.bool (rel_no (Or.inl (by omega))) | exact congrArg Value.bool (rel_no (Or.inr (Or.inl (by omega)))) | exact congrArg Value.bool (rel_no (Or.inr (Or.inr (by assumption)))) | exact congrArg Value.bool (rel_yes (by omega) (by omega) (by assumption))

end Go.Proofs

/- Conflicts: cases of what proves, and the search for paths. -/
set_option autoImplicit false
set_option linter.unusedVariables false
set_option linter.unusedSimpArgs false
namespace Go.Proofs
open Go.XL
section
variable {l fs : Fs} {a b : Int} {p : List Int} {x y : Fa}
theorem prv_none {z : Int} (hz : z ∈ p) (h : findN l z = none) : false = prvF l a b p := by unfold prvF; rw [allS_none hz h]
theorem prv_some (h : allS (findN l) p = some fs) : prvF l a b p = prvB fs a b := by unfold prvF; rw [h]
theorem pv_0 (h : fs.length = 0 ∨ a = b) : prvB fs a b = decide (fs.length = 0 ∧ a = b) := if_pos h
theorem pv_1 (h : ¬ (fs.length = 0 ∨ a = b)) (h1 : fs.length = 1) (hx : fs[0]? = some x) : prvB fs a b = decide (x.K ≠ 1 ∧ joinP x a b) := by
 unfold prvB; rw [if_neg h, if_pos h1, hx]
theorem pv_2 (h : ¬ (fs.length = 0 ∨ a = b)) (h1 : fs.length = 2) (hx : fs[0]? = some x) (hy : fs[1]? = some y) (hk : x.K = 1 ∧ y.K = 1) : prvB fs a b = decide (x.A = a ∧ y.A = b ∧ x.B = y.B) := by
 unfold prvB
 rw [if_neg h, if_neg (by omega), hx, hy]
 simp only [Option.map_some, Option.some.injEq]
 rw [if_pos ⟨h1, hk⟩]
theorem pv_3 (h : ¬ (fs.length = 0 ∨ a = b)) (h1 : ¬ fs.length = 1) (h2 : ¬ (fs.length = 2 ∧ ((fs[0]?.map Fa.K) = some 1 ∧ (fs[1]?.map Fa.K) = some 1))) : relF b fs [a] a = prvB fs a b := by
 unfold prvB; rw [if_neg h, if_neg h1, if_neg h2]
theorem pv_3b (h : ¬ (fs.length = 0 ∨ a = b)) (h1 : ¬ fs.length = 1) (hx : fs[0]? = some x) (hk : ¬ x.K = 1) : relF b fs [a] a = prvB fs a b := pv_3 h h1 (by rw [hx]; simp [hk])
theorem pv_3c (h : ¬ (fs.length = 0 ∨ a = b)) (h1 : ¬ fs.length = 1) (hy : fs[1]? = some y) (hk : ¬ y.K = 1) : relF b fs [a] a = prvB fs a b := pv_3 h h1 (by rw [hy]; simp [hk])
theorem getD_some {α : Type} {o : Option α} {d : α} (h : o.isSome = true) : o = some (o.getD d) := by cases o <;> simp_all
theorem isSome_no {α : Type} {o : Option α} (h : o.isSome = false) : o = none := by cases o <;> simp_all
end
theorem all_snocP {α : Type} {p : α → Prop} {l : List α} {k : Nat} {x : α} (h : ∀ y ∈ l.take k, p y) (hx : l[k]? = some x) (hp : p x) : ∀ y ∈ l.take (k + 1), p y := by
 rw [take_snoc hx]
 intro y hy
 rcases List.mem_append.1 hy with h1 | h1
 ·exact h y h1
 ·simp only [List.mem_singleton] at h1; subst h1; exact hp
/-- the search for a path of so many facts -/
def extF (l : Fs) (a b : Int) (many : Nat) : Nat → List Int → List Int × Bool
  | 0, p => (p, prvF l a b p)
  | d + 1, p => match l.findSome? (fun f => if 2 < many ∧ (f.K ≠ 3 ∨ f.No ∈ p) then none else if (extF l a b many d (p ++ [f.No])).2 = true then some (extF l a b many d (p ++ [f.No])).1 else none) with
    | some q => (q, true)
    | none => ([], false)
def extG (l : Fs) (a b : Int) (many d : Nat) (p : List Int) (f : Fa) : Option (List Int) := if 2 < many ∧ (f.K ≠ 3 ∨ f.No ∈ p) then none else if (extF l a b many d (p ++ [f.No])).2 = true then some (extF l a b many d (p ++ [f.No])).1 else none
section
variable {l : Fs} {a b : Int} {many d : Nat} {p : List Int} {f : Fa} {k : Nat}
theorem ext_s : extF l a b many (d + 1) p = match l.findSome? (extG l a b many d p) with | some q => (q, true) | none => ([], false) := rfl
theorem extG_skip (h : 2 < many) (h2 : f.K ≠ 3 ∨ f.No ∈ p) : extG l a b many d p f = none := if_pos ⟨h, h2⟩
theorem extG_y (h : ¬ (2 < many ∧ (f.K ≠ 3 ∨ f.No ∈ p))) (h2 : (extF l a b many d (p ++ [f.No])).2 = true) : extG l a b many d p f = some (extF l a b many d (p ++ [f.No])).1 := by unfold extG; rw [if_neg h, if_pos h2]
theorem extG_n (h2 : (extF l a b many d (p ++ [f.No])).2 = false) : extG l a b many d p f = none := by
 unfold extG; split
 ·rfl
 ·rw [if_neg (by rw [h2]; decide)]
theorem ext_y {q : List Int} (h : ∀ g ∈ l.take k, extG l a b many d p g = none) (hx : l[k]? = some f) (hq : extG l a b many d p f = some q) : extF l a b many (d + 1) p = (q, true) := by
 have key : ∀ (g : Fa → Option (List Int)), (∀ x ∈ l.take k, g x = none) → g f = some q → l.findSome? g = some q := by
  intro g h1 h2
  have e : l.findSome? g = (l.take k ++ f :: l.drop (k + 1)).findSome? g := by rw [← drop_cons hx, List.take_append_drop]
  rw [e, List.findSome?_append, List.findSome?_eq_none_iff.2 h1, Option.none_or, List.findSome?_cons, h2]
 have e2 := key _ h hq
 rw [ext_s, e2]
theorem ext_n (h : ∀ g ∈ l, extG l a b many d p g = none) : extF l a b many (d + 1) p = ([], false) := by
 rw [ext_s, List.findSome?_eq_none_iff.2 h]
end
def ExtU (r : List Int × Bool) (H : Hp) (v : Value) : Prop := ∃ a c, v = .tuple #[.slice a r.1.length c, .bool r.2] ∧ SlR (intR .i64) H a c r.1
theorem ExtU.of {r : List Int × Bool} {q : List Int} {t : Bool} {H : Hp} {a : Option Addr} {c : Nat} (h : r = (q, t)) (hs : SlR (intR .i64) H a c q) : ExtU r H (.tuple #[.slice a q.length c, .bool t]) := by subst h; exact ⟨a, c, rfl, hs⟩
theorem ExtU.mono {r : List Int × Bool} {H H' : Hp} {v : Value} (h : ExtU r H v) (hle : Le H H') : ExtU r H' v := let ⟨a, c, h1, h2⟩ := h; ⟨a, c, h1, h2.mono hle⟩
end Go.Proofs

/- The walks of the functions of conflicts: what each of them computes, at any input. -/
set_option autoImplicit false
set_option linter.unusedVariables false
set_option linter.unusedSimpArgs false
namespace Go.Proofs
open Go.XL



set_option maxRecDepth 100000 in
set_option maxHeartbeats 1600000 in
theorem proves_fn (a ap : Option Addr) (c cp : Nat) (l : Fs) (p : List Int) (x y : Int) (H : Hp) (hs : SlR faR H a c l) (hp : SlR (intR .i64) H ap cp p) (hl : l.length < 9223372036854775808) (hpl : p.length ≤ 10000) : FnC Try.prog 37 #[.slice a l.length c, .int .i64 x, .int .i64 y, .slice ap p.length cp] H [] (RetR (fun v _ _ => v = .bool (prvF l x y p))) := by
 refine FnC.intro (args := [.slice a l.length c, .int .i64 x, .int .i64 y, .slice ap p.length cp]) Try.func37 rfl rfl Try.ntmps37 rfl rfl rfl fun G rest => ?_
 refine XC.seq ?_; refine XC.region ?_; refine XO.assign rfl rfl ?_; refine XO.nil ?_; refine XC.seq2 ?_; refine XC.seq ?_; refine XC.region ?_; refine XO.assign rfl rfl ?_; refine XO.nil ?_; refine XC.seq2 ?_; refine XC.seq ?_; refine XC.seq ?_; refine XC.region ?_; refine XO.assign rfl rfl ?_; refine XO.nil ?_; refine XC.seq2 ?_; refine XC.block ?_; refine XC.keep [9, 10, 0, 1, 2, 3] rfl ?_; refine XC.open0 0 ?_; refine XC.loop (base := [(0, _), (1, _), (2, _), (3, _)]) (fun ζ : Nat × (Fs) × ((Nat × SObj) × Option Addr × Nat) => [(9, .slice ζ.2.2.2.1 (ζ.2.1).length ζ.2.2.2.2), (10, .int .i64 (ζ.1 : Nat))]) (fun ζ Hl own => ζ.1 ≤ p.length ∧ ζ.2.2.1 :: rest = own ∧ Acc faR 41 Hl ζ.2.2.1 ζ.2.2.2.1 ζ.2.2.2.2 (ζ.2.1) ∧ (allS (findN l) (p.take (ζ.1)) = some ζ.2.1)) (fun ζ => p.length - ζ.1) (0, [], ((0, .nothing), none, 0)) (prov_cons (rfl) (prov_cons (rfl) (prov_cons (rfl) (prov_cons (rfl) (prov_cons (rfl) (prov_cons (rfl) prov_nil)))))) (by repeat (first | exact List.Sublist.refl _ | apply List.Sublist.cons_cons | apply List.Sublist.cons)) ⟨Nat.zero_le _, rfl, Acc.nil _ _ _ _, rfl⟩ ?_; rintro ⟨k, ks, ⟨pw, aw, cw⟩⟩ Hl0 _ hle0 ⟨hkk, rfl, haccw, hks⟩; replace hs := hs.mono hle0; replace hp := hp.mono hle0
 try dsimp only at hkk haccw hks ⊢
 refine XC.seq ?_; refine XC.seq ?_; refine XC.region ?_; refine XO.move rfl rfl ?_; refine XO.move rfl rfl ?_; refine XO.lenS (ts := #[]) rfl Try.underlying25 rfl ?_; refine XO.lss rfl rfl rfl ?_; refine XO.nil ?_; refine XC.seq2 ?_; refine XC.cond rfl (fun c0_1 => ?_) (fun c0_1 => ?_)
 ·refine XC.skip ?_; refine XC.seq2 ?_; refine XC.seq ?_; refine XC.block ?_; refine XC.seq ?_; refine XC.region ?_; refine XO.move rfl rfl ?_; refine XO.move rfl rfl ?_; refine XO.move rfl rfl ?_; refine XO.indexN rfl hp rfl Try.underlying25 ty_3 (by omega) rfl ?_; rintro eb23 eo23 _ x23 hx23 rfl hp23; refine XO.loadH rfl (by assumption) ty_3 rfl rfl rfl ?_; refine XO.callV rfl (find_fn _ _ l _ hs hl x23) rfl ?_; refine XO.move rfl rfl ?_; refine XO.extract rfl rfl rfl ?_; refine XO.extract rfl rfl rfl ?_; refine XO.alloc ze_41 rfl (fun b11 => ?_); refine XO.storeO 0 rfl rfl rfl rfl ty_41 rfl rfl rfl rfl rfl ?_; refine XO.assign rfl rfl ?_; refine XO.nil ?_; refine XC.seq2 ?_; refine XC.seq ?_; refine XC.seq ?_; refine XC.region ?_; refine XO.move rfl rfl ?_; refine XO.notB rfl rfl ?_; refine XO.nil ?_; refine XC.seq2 ?_; refine XC.condB rfl (fun c1_4 => ?_) (fun c1_4 => ?_)
  ·have hbn := isSome_no (o := (findN l x23)) (by simpa using c1_4)
   refine XC.seq ?_; refine XC.region ?_; refine XO.assign rfl rfl ?_; refine XO.nil ?_; refine XC.seq2 ?_; refine XC.ret ?_; refine seqX_ret ?_; refine blockR ?_; refine seqX_ret ?_; refine loopX_ret ?_; refine blockR ?_; refine seqX_ret ?_; refine ⟨rfl, _, [], rfl, (by repeat (first | exact List.Sublist.refl _ | apply List.Sublist.cons)), RetR.mk ?_⟩
   first | exact congrArg Value.bool (prv_none (List.mem_of_getElem? hx23) hbn) | (rw [prv_some hks]; first | exact congrArg Value.bool ((decide_eq_decide.2 (by omega)).trans (pv_0 (by omega)).symm) | exact congrArg Value.bool ((decide_eq_false (by omega)).symm.trans (pv_0 (by omega)).symm) | exact congrArg Value.bool ((decide_eq_true (by omega)).symm.trans (pv_0 (by omega)).symm) | exact congrArg Value.bool ((decide_eq_decide.2 (by omega)).trans (pv_1 (by omega) (by omega) hx54).symm) | exact congrArg Value.bool ((decide_eq_false (by omega)).symm.trans (pv_1 (by omega) (by omega) hx54).symm) | exact congrArg Value.bool ((decide_eq_decide.2 (by omega)).trans (pv_2 (by omega) (by omega) hx71 hx78 (by omega)).symm) | exact congrArg Value.bool ((decide_eq_false (by omega)).symm.trans (pv_2 (by omega) (by omega) hx71 hx78 (by omega)).symm) | exact congrArg Value.bool (pv_3 (by omega) (by omega) (by omega)) | exact congrArg Value.bool (pv_3b (by omega) (by omega) hx71 (by omega)) | exact congrArg Value.bool (pv_3c (by omega) (by omega) hx78 (by omega)))
  ·have hbs := getD_some (d := f0) (o := (findN l x23)) (by simpa using c1_4)
   have hkl := allS_len hks
   rw [List.length_take] at hkl
   refine XC.skip ?_; refine XC.seq2 ?_; refine XC.region ?_; refine XO.move rfl rfl ?_; refine XO.loadO 0 rfl rfl ty_41 rfl rfl rfl ?_; refine XO.buildSlice rfl Try.underlying22 ty_41 ze_41 rfl rfl rfl (fun b32 => ?_); refine XO.publish 0 rfl rfl rfl (fun HP32 oP32 hleP32 hbP32 hoP32 => ?_)
   have hsl32 := SlR.lit (ρ := faR) (l := [(findN l x23).getD f0]) hbP32 hoP32 (RowsR.one1 rfl)
   replace hs := hs.mono hleP32; replace hp := hp.mono hleP32; replace haccw := haccw.mono hleP32; replace hp23 := hp23.mono hleP32; replace hle0 := hle0.trans hleP32; refine XO.appendA 1 rfl rfl haccw rfl rfl hsl32 rfl Try.underlying22 ty_41 ze_41 rfl by_41 (by simp; omega) rfl (fun p33 a33 c33 hacc33 => ?_); refine XO.assign rfl rfl ?_; refine XO.nil ?_; refine blockN ?_; refine XC.seq2 ?_; refine XC.region ?_; refine XO.move rfl rfl ?_; refine XO.add rfl rfl (wrap_i64 (by omega) (by omega)) rfl ?_; refine XO.assign rfl rfl ?_; refine XO.nil ?_; refine loop_next ((k + 1, ks ++ [(findN l x23).getD f0], (p33, a33, c33))) (by show p.length - (k + 1) < p.length - k; omega) (prov_cons (by first | rfl) (prov_cons (rfl) (prov_cons (rfl) (prov_cons (rfl) (prov_cons (rfl) (prov_cons (rfl) prov_nil)))))) (⟨by show k + 1 ≤ p.length; omega, rfl, by first | (exact hacc33), by rw [take_snoc hx23]; exact allS_snoc hks hbs⟩) (by repeat (first | exact List.Sublist.refl _ | apply List.Sublist.cons_cons | apply List.Sublist.cons)) (hle0)
 ·obtain rfl : k = p.length := by omega
  rw [List.take_length] at hks
  have hkl := allS_len hks
  refine XC.exit ?_; refine seqX_exit ?_; refine loopX_exit ?_; refine blockHit rfl ?_; refine XC.seq2 ?_; refine XC.seq ?_; refine XC.seq ?_; refine XC.region ?_; refine XO.publishA 0 rfl haccw rfl (fun HQ6 hleQ6 hsQ6 => ?_); replace hs := hs.mono hleQ6; replace hp := hp.mono hleQ6; replace hle0 := hle0.trans hleQ6; refine XO.move rfl rfl ?_; refine XO.lenS (ts := #[]) rfl Try.underlying22 rfl ?_; refine XO.eql rfl rfl rfl ?_; refine XO.move rfl rfl ?_; refine XO.guardC rfl rfl rfl rfl (fun g7 => ?_) (fun g7 => ?_)
  ·have g7p := of_decide_eq_false g7
   refine XO.move rfl rfl ?_; refine XO.guardT rfl rfl (g7) rfl ?_; refine XO.move rfl rfl ?_; refine XO.guardT rfl rfl (g7) rfl ?_; refine XO.eql rfl rfl rfl ?_; refine XO.pickF rfl (g7) rfl rfl ?_; refine XO.nil ?_; refine XC.seq2 ?_; refine XC.cond rfl (fun c2_8 => ?_) (fun c2_8 => ?_)
   ·refine XC.seq ?_; refine XC.region ?_; refine XO.move rfl rfl ?_; refine XO.lenS (ts := #[]) rfl Try.underlying22 rfl ?_; refine XO.eql rfl rfl rfl ?_; refine XO.move rfl rfl ?_; refine XO.guardC rfl rfl rfl rfl (fun g9 => ?_) (fun g9 => ?_)
    ·have g9p := of_decide_eq_true g9
     refine XO.move rfl rfl ?_; refine XO.guardT rfl rfl (g9) rfl ?_; refine XO.move rfl rfl ?_; refine XO.guardT rfl rfl (g9) rfl ?_; refine XO.eql rfl rfl rfl ?_; refine XO.pickT rfl (g9) rfl rfl ?_; refine XO.assign rfl rfl ?_; refine XO.nil ?_; refine XC.seq2 ?_; refine XC.ret ?_; refine seqX_ret ?_; refine ⟨rfl, _, [], rfl, (by repeat (first | exact List.Sublist.refl _ | apply List.Sublist.cons)), RetR.mk ?_⟩
     first | exact congrArg Value.bool (prv_none (List.mem_of_getElem? hx23) hbn) | (rw [prv_some hks]; first | exact congrArg Value.bool ((decide_eq_decide.2 (by omega)).trans (pv_0 (by omega)).symm) | exact congrArg Value.bool ((decide_eq_false (by omega)).symm.trans (pv_0 (by omega)).symm) | exact congrArg Value.bool ((decide_eq_true (by omega)).symm.trans (pv_0 (by omega)).symm) | exact congrArg Value.bool ((decide_eq_decide.2 (by omega)).trans (pv_1 (by omega) (by omega) hx54).symm) | exact congrArg Value.bool ((decide_eq_false (by omega)).symm.trans (pv_1 (by omega) (by omega) hx54).symm) | exact congrArg Value.bool ((decide_eq_decide.2 (by omega)).trans (pv_2 (by omega) (by omega) hx71 hx78 (by omega)).symm) | exact congrArg Value.bool ((decide_eq_false (by omega)).symm.trans (pv_2 (by omega) (by omega) hx71 hx78 (by omega)).symm) | exact congrArg Value.bool (pv_3 (by omega) (by omega) (by omega)) | exact congrArg Value.bool (pv_3b (by omega) (by omega) hx71 (by omega)) | exact congrArg Value.bool (pv_3c (by omega) (by omega) hx78 (by omega)))
    ·have g9p := of_decide_eq_false g9
     refine XO.guardF rfl rfl (g9) rfl rfl ?_; refine XO.guardF rfl rfl (g9) rfl rfl ?_; refine XO.pickF rfl (g9) rfl rfl ?_; refine XO.assign rfl rfl ?_; refine XO.nil ?_; refine XC.seq2 ?_; refine XC.ret ?_; refine seqX_ret ?_; refine ⟨rfl, _, [], rfl, (by repeat (first | exact List.Sublist.refl _ | apply List.Sublist.cons)), RetR.mk ?_⟩
     first | exact congrArg Value.bool (prv_none (List.mem_of_getElem? hx23) hbn) | (rw [prv_some hks]; first | exact congrArg Value.bool ((decide_eq_decide.2 (by omega)).trans (pv_0 (by omega)).symm) | exact congrArg Value.bool ((decide_eq_false (by omega)).symm.trans (pv_0 (by omega)).symm) | exact congrArg Value.bool ((decide_eq_true (by omega)).symm.trans (pv_0 (by omega)).symm) | exact congrArg Value.bool ((decide_eq_decide.2 (by omega)).trans (pv_1 (by omega) (by omega) hx54).symm) | exact congrArg Value.bool ((decide_eq_false (by omega)).symm.trans (pv_1 (by omega) (by omega) hx54).symm) | exact congrArg Value.bool ((decide_eq_decide.2 (by omega)).trans (pv_2 (by omega) (by omega) hx71 hx78 (by omega)).symm) | exact congrArg Value.bool ((decide_eq_false (by omega)).symm.trans (pv_2 (by omega) (by omega) hx71 hx78 (by omega)).symm) | exact congrArg Value.bool (pv_3 (by omega) (by omega) (by omega)) | exact congrArg Value.bool (pv_3b (by omega) (by omega) hx71 (by omega)) | exact congrArg Value.bool (pv_3c (by omega) (by omega) hx78 (by omega)))
   ·refine XC.skip ?_; refine XC.seq2 ?_; refine XC.seq ?_; refine XC.seq ?_; refine XC.region ?_; refine XO.move rfl rfl ?_; refine XO.lenS (ts := #[]) rfl Try.underlying22 rfl ?_; refine XO.eql rfl rfl rfl ?_; refine XO.nil ?_; refine XC.seq2 ?_; refine XC.cond rfl (fun c3_10 => ?_) (fun c3_10 => ?_)
    ·refine XC.seq ?_; refine XC.region ?_; refine XO.move rfl rfl ?_; refine XO.indexN rfl hsQ6 rfl Try.underlying22 ty_41 (by show 0 < ks.length; omega) rfl ?_; rintro eb54 eo54 _ x54 hx54 rfl hp54; refine XO.fieldAddr rfl fa_41_1 rfl ?_; refine XO.loadHF rfl (by assumption) ty_3 rfl rfl rfl ?_; refine XO.neq rfl rfl rfl ?_; refine XO.move rfl rfl ?_; refine XO.guardC rfl rfl rfl rfl (fun g12 => ?_) (fun g12 => ?_)
     ·have g12p := of_decide_eq_true g12
      refine XO.move rfl rfl ?_; refine XO.guardT rfl rfl (g12) rfl ?_; refine XO.indexN rfl hsQ6 rfl Try.underlying22 ty_41 (by show 0 < ks.length; omega) rfl ?_; rintro eb60 eo60 _ x60 hx60 rfl hp60; obtain rfl := Option.some.inj (hx54.symm.trans hx60); refine XO.guardT rfl rfl (g12) rfl ?_; refine XO.loadH rfl (by assumption) ty_41 rfl rfl rfl ?_; refine XO.guardT rfl rfl (g12) rfl ?_; refine XO.move rfl rfl ?_; refine XO.guardT rfl rfl (g12) rfl ?_; refine XO.move rfl rfl ?_; refine XO.guardT rfl rfl (g12) rfl ?_; refine XO.callV rfl (joins_fn x54 x y _) rfl ?_; refine XO.pickT rfl (g12) rfl rfl ?_; refine XO.assign rfl rfl ?_; refine XO.nil ?_; refine XC.seq2 ?_; refine XC.ret ?_; refine seqX_ret ?_; refine ⟨rfl, _, [], rfl, (by repeat (first | exact List.Sublist.refl _ | apply List.Sublist.cons)), RetR.mk ?_⟩
      first | exact congrArg Value.bool (prv_none (List.mem_of_getElem? hx23) hbn) | (rw [prv_some hks]; first | exact congrArg Value.bool ((decide_eq_decide.2 (by omega)).trans (pv_0 (by omega)).symm) | exact congrArg Value.bool ((decide_eq_false (by omega)).symm.trans (pv_0 (by omega)).symm) | exact congrArg Value.bool ((decide_eq_true (by omega)).symm.trans (pv_0 (by omega)).symm) | exact congrArg Value.bool ((decide_eq_decide.2 (by omega)).trans (pv_1 (by omega) (by omega) hx54).symm) | exact congrArg Value.bool ((decide_eq_false (by omega)).symm.trans (pv_1 (by omega) (by omega) hx54).symm) | exact congrArg Value.bool ((decide_eq_decide.2 (by omega)).trans (pv_2 (by omega) (by omega) hx71 hx78 (by omega)).symm) | exact congrArg Value.bool ((decide_eq_false (by omega)).symm.trans (pv_2 (by omega) (by omega) hx71 hx78 (by omega)).symm) | exact congrArg Value.bool (pv_3 (by omega) (by omega) (by omega)) | exact congrArg Value.bool (pv_3b (by omega) (by omega) hx71 (by omega)) | exact congrArg Value.bool (pv_3c (by omega) (by omega) hx78 (by omega)))
     ·have g12p := of_decide_eq_false g12
      refine XO.guardF rfl rfl (g12) rfl rfl ?_; refine XO.guardF rfl rfl (g12) rfl rfl ?_; refine XO.guardF rfl rfl (g12) rfl rfl ?_; refine XO.guardF rfl rfl (g12) rfl rfl ?_; refine XO.guardF rfl rfl (g12) rfl rfl ?_; refine XO.pickF rfl (g12) rfl rfl ?_; refine XO.assign rfl rfl ?_; refine XO.nil ?_; refine XC.seq2 ?_; refine XC.ret ?_; refine seqX_ret ?_; refine ⟨rfl, _, [], rfl, (by repeat (first | exact List.Sublist.refl _ | apply List.Sublist.cons)), RetR.mk ?_⟩
      first | exact congrArg Value.bool (prv_none (List.mem_of_getElem? hx23) hbn) | (rw [prv_some hks]; first | exact congrArg Value.bool ((decide_eq_decide.2 (by omega)).trans (pv_0 (by omega)).symm) | exact congrArg Value.bool ((decide_eq_false (by omega)).symm.trans (pv_0 (by omega)).symm) | exact congrArg Value.bool ((decide_eq_true (by omega)).symm.trans (pv_0 (by omega)).symm) | exact congrArg Value.bool ((decide_eq_decide.2 (by omega)).trans (pv_1 (by omega) (by omega) hx54).symm) | exact congrArg Value.bool ((decide_eq_false (by omega)).symm.trans (pv_1 (by omega) (by omega) hx54).symm) | exact congrArg Value.bool ((decide_eq_decide.2 (by omega)).trans (pv_2 (by omega) (by omega) hx71 hx78 (by omega)).symm) | exact congrArg Value.bool ((decide_eq_false (by omega)).symm.trans (pv_2 (by omega) (by omega) hx71 hx78 (by omega)).symm) | exact congrArg Value.bool (pv_3 (by omega) (by omega) (by omega)) | exact congrArg Value.bool (pv_3b (by omega) (by omega) hx71 (by omega)) | exact congrArg Value.bool (pv_3c (by omega) (by omega) hx78 (by omega)))
    ·refine XC.skip ?_; refine XC.seq2 ?_; refine XC.seq ?_; refine XC.seq ?_; refine XC.region ?_; refine XO.move rfl rfl ?_; refine XO.lenS (ts := #[]) rfl Try.underlying22 rfl ?_; refine XO.eql rfl rfl rfl ?_; refine XO.move rfl rfl ?_; refine XO.guardC rfl rfl rfl rfl (fun g15 => ?_) (fun g15 => ?_)
     ·have g15p := of_decide_eq_true g15
      refine XO.move rfl rfl ?_; refine XO.guardT rfl rfl (g15) rfl ?_; refine XO.indexN rfl hsQ6 rfl Try.underlying22 ty_41 (by show 0 < ks.length; omega) rfl ?_; rintro eb71 eo71 _ x71 hx71 rfl hp71; refine XO.guardT rfl rfl (g15) rfl ?_; refine XO.fieldAddr rfl fa_41_1 rfl ?_; refine XO.guardT rfl rfl (g15) rfl ?_; refine XO.loadHF rfl (by assumption) ty_3 rfl rfl rfl ?_; refine XO.guardT rfl rfl (g15) rfl ?_; refine XO.eql rfl rfl rfl ?_; refine XO.pickT rfl (g15) rfl rfl ?_; refine XO.move rfl rfl ?_; refine XO.guardC rfl rfl rfl rfl (fun g17 => ?_) (fun g17 => ?_)
      ·have g17p := of_decide_eq_true g17
       refine XO.move rfl rfl ?_; refine XO.guardT rfl rfl (g17) rfl ?_; refine XO.indexN rfl hsQ6 rfl Try.underlying22 ty_41 (by show 1 < ks.length; omega) rfl ?_; rintro eb78 eo78 _ x78 hx78 rfl hp78; refine XO.guardT rfl rfl (g17) rfl ?_; refine XO.fieldAddr rfl fa_41_1 rfl ?_; refine XO.guardT rfl rfl (g17) rfl ?_; refine XO.loadHF rfl (by assumption) ty_3 rfl rfl rfl ?_; refine XO.guardT rfl rfl (g17) rfl ?_; refine XO.eql rfl rfl rfl ?_; refine XO.pickT rfl (g17) rfl rfl ?_; refine XO.nil ?_; refine XC.seq2 ?_; refine XC.cond rfl (fun c4_19 => ?_) (fun c4_19 => ?_)
       ·refine XC.seq ?_
        by_cases h6 : x71.A = x
        ·skip
         by_cases h14 : x78.A = y
         ·skip
          refine XC.keep [1, 2, 9] rfl ?_
          skip
          obtain ⟨bEX, oEX, rfl⟩ := hsQ6.addr (by omega); obtain ⟨_, xX, hxX, rfl, hpX⟩ := hsQ6.elem (0) (by omega); obtain ⟨_, xY, hxY, rfl, hpY⟩ := hsQ6.elem (1) (by omega); obtain rfl := Option.some.inj (hx71.symm.trans hxX); obtain rfl := Option.some.inj (hx78.symm.trans hxY)
          apply XC.drawH (fun _ => True) trivial [] (by decide) (fun _ _ _ _ => True) (fun _ _ _ _ _ _ h => h) 23 [eqF _, eqF _, eqF _, eqF _, eqF _, eqF _, eqF _, eqF _, eqF _, eqF _, eqF _, eqF _, eqF _, eqF _, eqF _, eqF _, eqF _, eqF _, eqF _, eqF _, eqF _, eqF _, eqF _] follows (by kernel_rfl) ⟨eqF_mono _, eqF_mono _, eqF_mono _, eqF_mono _, eqF_mono _, eqF_mono _, eqF_mono _, eqF_mono _, eqF_mono _, eqF_mono _, eqF_mono _, eqF_mono _, eqF_mono _, eqF_mono _, eqF_mono _, eqF_mono _, eqF_mono _, eqF_mono _, eqF_mono _, eqF_mono _, eqF_mono _, eqF_mono _, eqF_mono _, trivial⟩ (by decide) ?steps20 ?tail20
          case steps20 =>
           refine stepsH_cons rfl ?_ ?_
           ·intro X ext HD hleD _
            replace hs := hs.mono hleD; replace hp := hp.mono hleD; replace hsQ6 := hsQ6.mono hleD; replace hp71 := hp71.mono hleD; replace hp78 := hp78.mono hleD; replace hpX := hpX.mono hleD; replace hpY := hpY.mono hleD; replace hle0 := hle0.trans hleD; refine withP_nil rfl ?_; refine XO.move rfl rfl ?_; refine XO.nil ?_; exact stepQN_ok rfl trivial (rfl)
           refine stepsH_cons rfl ?_ ?_
           ·intro X ext HD hleD _
            replace hs := hs.mono hleD; replace hp := hp.mono hleD; replace hsQ6 := hsQ6.mono hleD; replace hp71 := hp71.mono hleD; replace hp78 := hp78.mono hleD; replace hpX := hpX.mono hleD; replace hpY := hpY.mono hleD; replace hle0 := hle0.trans hleD; refine withP_cons rfl rfl ?_; rintro _ rfl; refine withP_nil rfl ?_; refine XO.indexE rfl rfl Try.underlying22 ty_41 (by omega) (by omega) rfl ?_; refine XO.nil ?_; exact stepQN_ok rfl trivial (rfl)
           refine stepsH_cons rfl ?_ ?_
           ·intro X ext HD hleD _
            replace hs := hs.mono hleD; replace hp := hp.mono hleD; replace hsQ6 := hsQ6.mono hleD; replace hp71 := hp71.mono hleD; replace hp78 := hp78.mono hleD; replace hpX := hpX.mono hleD; replace hpY := hpY.mono hleD; replace hle0 := hle0.trans hleD; refine withP_cons rfl rfl ?_; rintro _ rfl; refine withP_nil rfl ?_; refine XO.fieldAddr rfl fa_41_2 rfl ?_; refine XO.nil ?_; exact stepQN_ok rfl trivial (rfl)
           refine stepsH_cons rfl ?_ ?_
           ·intro X ext HD hleD _
            replace hs := hs.mono hleD; replace hp := hp.mono hleD; replace hsQ6 := hsQ6.mono hleD; replace hp71 := hp71.mono hleD; replace hp78 := hp78.mono hleD; replace hpX := hpX.mono hleD; replace hpY := hpY.mono hleD; replace hle0 := hle0.trans hleD; refine withP_cons rfl rfl ?_; rintro _ rfl; refine withP_nil rfl ?_; refine XO.loadHF rfl (by assumption) ty_3 rfl rfl rfl ?_; refine XO.nil ?_; exact stepQN_ok rfl trivial (rfl)
           refine stepsH_cons rfl ?_ ?_
           ·intro X ext HD hleD _
            replace hs := hs.mono hleD; replace hp := hp.mono hleD; replace hsQ6 := hsQ6.mono hleD; replace hp71 := hp71.mono hleD; replace hp78 := hp78.mono hleD; replace hpX := hpX.mono hleD; replace hpY := hpY.mono hleD; replace hle0 := hle0.trans hleD; refine withP_nil rfl ?_; refine XO.move rfl rfl ?_; refine XO.nil ?_; exact stepQN_ok rfl trivial (rfl)
           refine stepsH_cons rfl ?_ ?_
           ·intro X ext HD hleD _
            replace hs := hs.mono hleD; replace hp := hp.mono hleD; replace hsQ6 := hsQ6.mono hleD; replace hp71 := hp71.mono hleD; replace hp78 := hp78.mono hleD; replace hpX := hpX.mono hleD; replace hpY := hpY.mono hleD; replace hle0 := hle0.trans hleD; refine withP_cons rfl rfl ?_; rintro _ rfl; refine withP_cons rfl rfl ?_; rintro _ rfl; refine withP_nil rfl ?_; refine XO.eql rfl rfl rfl ?_; refine XO.nil ?_; exact stepQN_ok rfl trivial (rfl)
           refine stepsH_cons rfl ?_ ?_
           ·intro X ext HD hleD _
            replace hs := hs.mono hleD; replace hp := hp.mono hleD; replace hsQ6 := hsQ6.mono hleD; replace hp71 := hp71.mono hleD; replace hp78 := hp78.mono hleD; replace hpX := hpX.mono hleD; replace hpY := hpY.mono hleD; replace hle0 := hle0.trans hleD; refine withP_cons rfl rfl ?_; rintro _ rfl; refine withP_nil rfl ?_; refine XO.move rfl rfl ?_; refine XO.nil ?_; exact stepQN_ok rfl trivial (rfl)
           refine stepsH_cons rfl ?_ ?_
           ·intro X ext HD hleD _
            replace hs := hs.mono hleD; replace hp := hp.mono hleD; replace hsQ6 := hsQ6.mono hleD; replace hp71 := hp71.mono hleD; replace hp78 := hp78.mono hleD; replace hpX := hpX.mono hleD; replace hpY := hpY.mono hleD; replace hle0 := hle0.trans hleD; refine withP_cons rfl rfl ?_; rintro _ rfl; refine withP_nil rfl ?_; refine XO.guardT rfl rfl (decide_eq_true h6) rfl ?_; refine XO.move rfl rfl ?_; refine XO.nil ?_; exact stepQN_ok rfl trivial (rfl)
           refine stepsH_cons rfl ?_ ?_
           ·intro X ext HD hleD _
            replace hs := hs.mono hleD; replace hp := hp.mono hleD; replace hsQ6 := hsQ6.mono hleD; replace hp71 := hp71.mono hleD; replace hp78 := hp78.mono hleD; replace hpX := hpX.mono hleD; replace hpY := hpY.mono hleD; replace hle0 := hle0.trans hleD; refine withP_cons rfl rfl ?_; rintro _ rfl; refine withP_cons rfl rfl ?_; rintro _ rfl; refine withP_nil rfl ?_; refine XO.guardT rfl rfl (decide_eq_true h6) rfl ?_; refine XO.indexE rfl rfl Try.underlying22 ty_41 (by omega) (by omega) rfl ?_; refine XO.nil ?_; exact stepQN_ok rfl trivial (rfl)
           refine stepsH_cons rfl ?_ ?_
           ·intro X ext HD hleD _
            replace hs := hs.mono hleD; replace hp := hp.mono hleD; replace hsQ6 := hsQ6.mono hleD; replace hp71 := hp71.mono hleD; replace hp78 := hp78.mono hleD; replace hpX := hpX.mono hleD; replace hpY := hpY.mono hleD; replace hle0 := hle0.trans hleD; refine withP_cons rfl rfl ?_; rintro _ rfl; refine withP_cons rfl rfl ?_; rintro _ rfl; refine withP_nil rfl ?_; refine XO.guardT rfl rfl (decide_eq_true h6) rfl ?_; refine XO.fieldAddr rfl fa_41_2 rfl ?_; refine XO.nil ?_; exact stepQN_ok rfl trivial (rfl)
           refine stepsH_cons rfl ?_ ?_
           ·intro X ext HD hleD _
            replace hs := hs.mono hleD; replace hp := hp.mono hleD; replace hsQ6 := hsQ6.mono hleD; replace hp71 := hp71.mono hleD; replace hp78 := hp78.mono hleD; replace hpX := hpX.mono hleD; replace hpY := hpY.mono hleD; replace hle0 := hle0.trans hleD; refine withP_cons rfl rfl ?_; rintro _ rfl; refine withP_cons rfl rfl ?_; rintro _ rfl; refine withP_nil rfl ?_; refine XO.guardT rfl rfl (decide_eq_true h6) rfl ?_; refine XO.loadHF rfl (by assumption) ty_3 rfl rfl rfl ?_; refine XO.nil ?_; exact stepQN_ok rfl trivial (rfl)
           refine stepsH_cons rfl ?_ ?_
           ·intro X ext HD hleD _
            replace hs := hs.mono hleD; replace hp := hp.mono hleD; replace hsQ6 := hsQ6.mono hleD; replace hp71 := hp71.mono hleD; replace hp78 := hp78.mono hleD; replace hpX := hpX.mono hleD; replace hpY := hpY.mono hleD; replace hle0 := hle0.trans hleD; refine withP_cons rfl rfl ?_; rintro _ rfl; refine withP_nil rfl ?_; refine XO.guardT rfl rfl (decide_eq_true h6) rfl ?_; refine XO.move rfl rfl ?_; refine XO.nil ?_; exact stepQN_ok rfl trivial (rfl)
           refine stepsH_cons rfl ?_ ?_
           ·intro X ext HD hleD _
            replace hs := hs.mono hleD; replace hp := hp.mono hleD; replace hsQ6 := hsQ6.mono hleD; replace hp71 := hp71.mono hleD; replace hp78 := hp78.mono hleD; replace hpX := hpX.mono hleD; replace hpY := hpY.mono hleD; replace hle0 := hle0.trans hleD; refine withP_cons rfl rfl ?_; rintro _ rfl; refine withP_cons rfl rfl ?_; rintro _ rfl; refine withP_cons rfl rfl ?_; rintro _ rfl; refine withP_nil rfl ?_; refine XO.guardT rfl rfl (decide_eq_true h6) rfl ?_; refine XO.eql rfl rfl rfl ?_; refine XO.nil ?_; exact stepQN_ok rfl trivial (rfl)
           refine stepsH_cons rfl ?_ ?_
           ·intro X ext HD hleD _
            replace hs := hs.mono hleD; replace hp := hp.mono hleD; replace hsQ6 := hsQ6.mono hleD; replace hp71 := hp71.mono hleD; replace hp78 := hp78.mono hleD; replace hpX := hpX.mono hleD; replace hpY := hpY.mono hleD; replace hle0 := hle0.trans hleD; refine withP_cons rfl rfl ?_; rintro _ rfl; refine withP_cons rfl rfl ?_; rintro _ rfl; refine withP_nil rfl ?_; refine XO.pickT rfl (decide_eq_true h6) rfl rfl ?_; refine XO.nil ?_; exact stepQN_ok rfl trivial (rfl)
           refine stepsH_cons rfl ?_ ?_
           ·intro X ext HD hleD _
            replace hs := hs.mono hleD; replace hp := hp.mono hleD; replace hsQ6 := hsQ6.mono hleD; replace hp71 := hp71.mono hleD; replace hp78 := hp78.mono hleD; replace hpX := hpX.mono hleD; replace hpY := hpY.mono hleD; replace hle0 := hle0.trans hleD; refine withP_cons rfl rfl ?_; rintro _ rfl; refine withP_nil rfl ?_; refine XO.move rfl rfl ?_; refine XO.nil ?_; exact stepQN_ok rfl trivial (rfl)
           refine stepsH_cons rfl ?_ ?_
           ·intro X ext HD hleD _
            replace hs := hs.mono hleD; replace hp := hp.mono hleD; replace hsQ6 := hsQ6.mono hleD; replace hp71 := hp71.mono hleD; replace hp78 := hp78.mono hleD; replace hpX := hpX.mono hleD; replace hpY := hpY.mono hleD; replace hle0 := hle0.trans hleD; refine withP_cons rfl rfl ?_; rintro _ rfl; refine withP_nil rfl ?_; refine XO.guardT rfl rfl (decide_eq_true h14) rfl ?_; refine XO.move rfl rfl ?_; refine XO.nil ?_; exact stepQN_ok rfl trivial (rfl)
           refine stepsH_cons rfl ?_ ?_
           ·intro X ext HD hleD _
            replace hs := hs.mono hleD; replace hp := hp.mono hleD; replace hsQ6 := hsQ6.mono hleD; replace hp71 := hp71.mono hleD; replace hp78 := hp78.mono hleD; replace hpX := hpX.mono hleD; replace hpY := hpY.mono hleD; replace hle0 := hle0.trans hleD; refine withP_cons rfl rfl ?_; rintro _ rfl; refine withP_cons rfl rfl ?_; rintro _ rfl; refine withP_nil rfl ?_; refine XO.guardT rfl rfl (decide_eq_true h14) rfl ?_; refine XO.indexE rfl rfl Try.underlying22 ty_41 (by omega) (by omega) rfl ?_; refine XO.nil ?_; exact stepQN_ok rfl trivial (rfl)
           refine stepsH_cons rfl ?_ ?_
           ·intro X ext HD hleD _
            replace hs := hs.mono hleD; replace hp := hp.mono hleD; replace hsQ6 := hsQ6.mono hleD; replace hp71 := hp71.mono hleD; replace hp78 := hp78.mono hleD; replace hpX := hpX.mono hleD; replace hpY := hpY.mono hleD; replace hle0 := hle0.trans hleD; refine withP_cons rfl rfl ?_; rintro _ rfl; refine withP_cons rfl rfl ?_; rintro _ rfl; refine withP_nil rfl ?_; refine XO.guardT rfl rfl (decide_eq_true h14) rfl ?_; refine XO.fieldAddr rfl fa_41_3 rfl ?_; refine XO.nil ?_; exact stepQN_ok rfl trivial (rfl)
           refine stepsH_cons rfl ?_ ?_
           ·intro X ext HD hleD _
            replace hs := hs.mono hleD; replace hp := hp.mono hleD; replace hsQ6 := hsQ6.mono hleD; replace hp71 := hp71.mono hleD; replace hp78 := hp78.mono hleD; replace hpX := hpX.mono hleD; replace hpY := hpY.mono hleD; replace hle0 := hle0.trans hleD; refine withP_cons rfl rfl ?_; rintro _ rfl; refine withP_cons rfl rfl ?_; rintro _ rfl; refine withP_nil rfl ?_; refine XO.guardT rfl rfl (decide_eq_true h14) rfl ?_; refine XO.loadHF rfl (by assumption) ty_3 rfl rfl rfl ?_; refine XO.nil ?_; exact stepQN_ok rfl trivial (rfl)
           refine stepsH_cons rfl ?_ ?_
           ·intro X ext HD hleD _
            replace hs := hs.mono hleD; replace hp := hp.mono hleD; replace hsQ6 := hsQ6.mono hleD; replace hp71 := hp71.mono hleD; replace hp78 := hp78.mono hleD; replace hpX := hpX.mono hleD; replace hpY := hpY.mono hleD; replace hle0 := hle0.trans hleD; refine withP_cons rfl rfl ?_; rintro _ rfl; refine withP_nil rfl ?_; refine XO.guardT rfl rfl (decide_eq_true h14) rfl ?_; refine XO.move rfl rfl ?_; refine XO.nil ?_; exact stepQN_ok rfl trivial (rfl)
           refine stepsH_cons rfl ?_ ?_
           ·intro X ext HD hleD _
            replace hs := hs.mono hleD; replace hp := hp.mono hleD; replace hsQ6 := hsQ6.mono hleD; replace hp71 := hp71.mono hleD; replace hp78 := hp78.mono hleD; replace hpX := hpX.mono hleD; replace hpY := hpY.mono hleD; replace hle0 := hle0.trans hleD; refine withP_cons rfl rfl ?_; rintro _ rfl; refine withP_cons rfl rfl ?_; rintro _ rfl; refine withP_nil rfl ?_; refine XO.guardT rfl rfl (decide_eq_true h14) rfl ?_; refine XO.indexE rfl rfl Try.underlying22 ty_41 (by omega) (by omega) rfl ?_; refine XO.nil ?_; exact stepQN_ok rfl trivial (rfl)
           refine stepsH_cons rfl ?_ ?_
           ·intro X ext HD hleD _
            replace hs := hs.mono hleD; replace hp := hp.mono hleD; replace hsQ6 := hsQ6.mono hleD; replace hp71 := hp71.mono hleD; replace hp78 := hp78.mono hleD; replace hpX := hpX.mono hleD; replace hpY := hpY.mono hleD; replace hle0 := hle0.trans hleD; refine withP_cons rfl rfl ?_; rintro _ rfl; refine withP_cons rfl rfl ?_; rintro _ rfl; refine withP_nil rfl ?_; refine XO.guardT rfl rfl (decide_eq_true h14) rfl ?_; refine XO.fieldAddr rfl fa_41_3 rfl ?_; refine XO.nil ?_; exact stepQN_ok rfl trivial (rfl)
           refine stepsH_cons rfl ?_ ?_
           ·intro X ext HD hleD _
            replace hs := hs.mono hleD; replace hp := hp.mono hleD; replace hsQ6 := hsQ6.mono hleD; replace hp71 := hp71.mono hleD; replace hp78 := hp78.mono hleD; replace hpX := hpX.mono hleD; replace hpY := hpY.mono hleD; replace hle0 := hle0.trans hleD; refine withP_cons rfl rfl ?_; rintro _ rfl; refine withP_cons rfl rfl ?_; rintro _ rfl; refine withP_nil rfl ?_; refine XO.guardT rfl rfl (decide_eq_true h14) rfl ?_; refine XO.loadHF rfl (by assumption) ty_3 rfl rfl rfl ?_; refine XO.nil ?_; exact stepQN_ok rfl trivial (rfl)
           exact stepsH_end rfl
          case tail20 =>
           intro HD hleD _
           replace hs := hs.mono hleD; replace hp := hp.mono hleD; replace hsQ6 := hsQ6.mono hleD; replace hp71 := hp71.mono hleD; replace hp78 := hp78.mono hleD; replace hpX := hpX.mono hleD; replace hpY := hpY.mono hleD; replace hle0 := hle0.trans hleD; refine withP_cons rfl rfl ?_; rintro _ rfl; refine withP_cons rfl rfl ?_; rintro _ rfl; refine withP_cons rfl rfl ?_; rintro _ rfl; refine withP_cons rfl rfl ?_; rintro _ rfl; refine withP_cons rfl rfl ?_; rintro _ rfl; refine withP_cons rfl rfl ?_; rintro _ rfl; refine withP_cons rfl rfl ?_; rintro _ rfl; refine withP_cons rfl rfl ?_; rintro _ rfl; refine withP_cons rfl rfl ?_; rintro _ rfl; refine withP_cons rfl rfl ?_; rintro _ rfl; refine withP_cons rfl rfl ?_; rintro _ rfl; refine withP_cons rfl rfl ?_; rintro _ rfl; refine withP_cons rfl rfl ?_; rintro _ rfl; refine withP_cons rfl rfl ?_; rintro _ rfl; refine withP_cons rfl rfl ?_; rintro _ rfl; refine withP_cons rfl rfl ?_; rintro _ rfl; refine withP_cons rfl rfl ?_; rintro _ rfl; refine withP_cons rfl rfl ?_; rintro _ rfl; refine withP_cons rfl rfl ?_; rintro _ rfl; refine withP_cons rfl rfl ?_; rintro _ rfl; refine withP_cons rfl rfl ?_; rintro _ rfl; refine withP_cons rfl rfl ?_; rintro _ rfl; refine withP_cons rfl rfl ?_; rintro _ rfl; refine withP_nil rfl ?_; refine withEnts_nil ?_; refine XO.guardT rfl rfl (decide_eq_true h14) rfl ?_; refine XO.eql rfl rfl rfl ?_; refine XO.pickT rfl (decide_eq_true h14) rfl rfl ?_; refine XO.assign rfl rfl ?_; refine XO.nil ?_; refine XC.seq2 ?_; refine XC.ret ?_; refine seqX_ret ?_; refine ⟨rfl, _, [], rfl, (by repeat (first | exact List.Sublist.refl _ | apply List.Sublist.cons)), RetR.mk ?_⟩
           first | exact congrArg Value.bool (prv_none (List.mem_of_getElem? hx23) hbn) | (rw [prv_some hks]; first | exact congrArg Value.bool ((decide_eq_decide.2 (by omega)).trans (pv_0 (by omega)).symm) | exact congrArg Value.bool ((decide_eq_false (by omega)).symm.trans (pv_0 (by omega)).symm) | exact congrArg Value.bool ((decide_eq_true (by omega)).symm.trans (pv_0 (by omega)).symm) | exact congrArg Value.bool ((decide_eq_decide.2 (by omega)).trans (pv_1 (by omega) (by omega) hx54).symm) | exact congrArg Value.bool ((decide_eq_false (by omega)).symm.trans (pv_1 (by omega) (by omega) hx54).symm) | exact congrArg Value.bool ((decide_eq_decide.2 (by omega)).trans (pv_2 (by omega) (by omega) hx71 hx78 (by omega)).symm) | exact congrArg Value.bool ((decide_eq_false (by omega)).symm.trans (pv_2 (by omega) (by omega) hx71 hx78 (by omega)).symm) | exact congrArg Value.bool (pv_3 (by omega) (by omega) (by omega)) | exact congrArg Value.bool (pv_3b (by omega) (by omega) hx71 (by omega)) | exact congrArg Value.bool (pv_3c (by omega) (by omega) hx78 (by omega)))
         ·skip
          refine XC.keep [1, 2, 9] rfl ?_
          skip
          obtain ⟨bEX, oEX, rfl⟩ := hsQ6.addr (by omega); obtain ⟨_, xX, hxX, rfl, hpX⟩ := hsQ6.elem (0) (by omega); obtain ⟨_, xY, hxY, rfl, hpY⟩ := hsQ6.elem (1) (by omega); obtain rfl := Option.some.inj (hx71.symm.trans hxX); obtain rfl := Option.some.inj (hx78.symm.trans hxY)
          apply XC.drawH (fun _ => True) trivial [] (by decide) (fun _ _ _ _ => True) (fun _ _ _ _ _ _ h => h) 23 [eqF _, eqF _, eqF _, eqF _, eqF _, eqF _, eqF _, eqF _, eqF _, eqF _, eqF _, eqF _, eqF _, eqF _, eqF _, eqF _, eqF _, eqF _, eqF _, eqF _, eqF _, eqF _, eqF _] follows (by kernel_rfl) ⟨eqF_mono _, eqF_mono _, eqF_mono _, eqF_mono _, eqF_mono _, eqF_mono _, eqF_mono _, eqF_mono _, eqF_mono _, eqF_mono _, eqF_mono _, eqF_mono _, eqF_mono _, eqF_mono _, eqF_mono _, eqF_mono _, eqF_mono _, eqF_mono _, eqF_mono _, eqF_mono _, eqF_mono _, eqF_mono _, eqF_mono _, trivial⟩ (by decide) ?steps25 ?tail25
          case steps25 =>
           refine stepsH_cons rfl ?_ ?_
           ·intro X ext HD hleD _
            replace hs := hs.mono hleD; replace hp := hp.mono hleD; replace hsQ6 := hsQ6.mono hleD; replace hp71 := hp71.mono hleD; replace hp78 := hp78.mono hleD; replace hpX := hpX.mono hleD; replace hpY := hpY.mono hleD; replace hle0 := hle0.trans hleD; refine withP_nil rfl ?_; refine XO.move rfl rfl ?_; refine XO.nil ?_; exact stepQN_ok rfl trivial (rfl)
           refine stepsH_cons rfl ?_ ?_
           ·intro X ext HD hleD _
            replace hs := hs.mono hleD; replace hp := hp.mono hleD; replace hsQ6 := hsQ6.mono hleD; replace hp71 := hp71.mono hleD; replace hp78 := hp78.mono hleD; replace hpX := hpX.mono hleD; replace hpY := hpY.mono hleD; replace hle0 := hle0.trans hleD; refine withP_cons rfl rfl ?_; rintro _ rfl; refine withP_nil rfl ?_; refine XO.indexE rfl rfl Try.underlying22 ty_41 (by omega) (by omega) rfl ?_; refine XO.nil ?_; exact stepQN_ok rfl trivial (rfl)
           refine stepsH_cons rfl ?_ ?_
           ·intro X ext HD hleD _
            replace hs := hs.mono hleD; replace hp := hp.mono hleD; replace hsQ6 := hsQ6.mono hleD; replace hp71 := hp71.mono hleD; replace hp78 := hp78.mono hleD; replace hpX := hpX.mono hleD; replace hpY := hpY.mono hleD; replace hle0 := hle0.trans hleD; refine withP_cons rfl rfl ?_; rintro _ rfl; refine withP_nil rfl ?_; refine XO.fieldAddr rfl fa_41_2 rfl ?_; refine XO.nil ?_; exact stepQN_ok rfl trivial (rfl)
           refine stepsH_cons rfl ?_ ?_
           ·intro X ext HD hleD _
            replace hs := hs.mono hleD; replace hp := hp.mono hleD; replace hsQ6 := hsQ6.mono hleD; replace hp71 := hp71.mono hleD; replace hp78 := hp78.mono hleD; replace hpX := hpX.mono hleD; replace hpY := hpY.mono hleD; replace hle0 := hle0.trans hleD; refine withP_cons rfl rfl ?_; rintro _ rfl; refine withP_nil rfl ?_; refine XO.loadHF rfl (by assumption) ty_3 rfl rfl rfl ?_; refine XO.nil ?_; exact stepQN_ok rfl trivial (rfl)
           refine stepsH_cons rfl ?_ ?_
           ·intro X ext HD hleD _
            replace hs := hs.mono hleD; replace hp := hp.mono hleD; replace hsQ6 := hsQ6.mono hleD; replace hp71 := hp71.mono hleD; replace hp78 := hp78.mono hleD; replace hpX := hpX.mono hleD; replace hpY := hpY.mono hleD; replace hle0 := hle0.trans hleD; refine withP_nil rfl ?_; refine XO.move rfl rfl ?_; refine XO.nil ?_; exact stepQN_ok rfl trivial (rfl)
           refine stepsH_cons rfl ?_ ?_
           ·intro X ext HD hleD _
            replace hs := hs.mono hleD; replace hp := hp.mono hleD; replace hsQ6 := hsQ6.mono hleD; replace hp71 := hp71.mono hleD; replace hp78 := hp78.mono hleD; replace hpX := hpX.mono hleD; replace hpY := hpY.mono hleD; replace hle0 := hle0.trans hleD; refine withP_cons rfl rfl ?_; rintro _ rfl; refine withP_cons rfl rfl ?_; rintro _ rfl; refine withP_nil rfl ?_; refine XO.eql rfl rfl rfl ?_; refine XO.nil ?_; exact stepQN_ok rfl trivial (rfl)
           refine stepsH_cons rfl ?_ ?_
           ·intro X ext HD hleD _
            replace hs := hs.mono hleD; replace hp := hp.mono hleD; replace hsQ6 := hsQ6.mono hleD; replace hp71 := hp71.mono hleD; replace hp78 := hp78.mono hleD; replace hpX := hpX.mono hleD; replace hpY := hpY.mono hleD; replace hle0 := hle0.trans hleD; refine withP_cons rfl rfl ?_; rintro _ rfl; refine withP_nil rfl ?_; refine XO.move rfl rfl ?_; refine XO.nil ?_; exact stepQN_ok rfl trivial (rfl)
           refine stepsH_cons rfl ?_ ?_
           ·intro X ext HD hleD _
            replace hs := hs.mono hleD; replace hp := hp.mono hleD; replace hsQ6 := hsQ6.mono hleD; replace hp71 := hp71.mono hleD; replace hp78 := hp78.mono hleD; replace hpX := hpX.mono hleD; replace hpY := hpY.mono hleD; replace hle0 := hle0.trans hleD; refine withP_cons rfl rfl ?_; rintro _ rfl; refine withP_nil rfl ?_; refine XO.guardT rfl rfl (decide_eq_true h6) rfl ?_; refine XO.move rfl rfl ?_; refine XO.nil ?_; exact stepQN_ok rfl trivial (rfl)
           refine stepsH_cons rfl ?_ ?_
           ·intro X ext HD hleD _
            replace hs := hs.mono hleD; replace hp := hp.mono hleD; replace hsQ6 := hsQ6.mono hleD; replace hp71 := hp71.mono hleD; replace hp78 := hp78.mono hleD; replace hpX := hpX.mono hleD; replace hpY := hpY.mono hleD; replace hle0 := hle0.trans hleD; refine withP_cons rfl rfl ?_; rintro _ rfl; refine withP_cons rfl rfl ?_; rintro _ rfl; refine withP_nil rfl ?_; refine XO.guardT rfl rfl (decide_eq_true h6) rfl ?_; refine XO.indexE rfl rfl Try.underlying22 ty_41 (by omega) (by omega) rfl ?_; refine XO.nil ?_; exact stepQN_ok rfl trivial (rfl)
           refine stepsH_cons rfl ?_ ?_
           ·intro X ext HD hleD _
            replace hs := hs.mono hleD; replace hp := hp.mono hleD; replace hsQ6 := hsQ6.mono hleD; replace hp71 := hp71.mono hleD; replace hp78 := hp78.mono hleD; replace hpX := hpX.mono hleD; replace hpY := hpY.mono hleD; replace hle0 := hle0.trans hleD; refine withP_cons rfl rfl ?_; rintro _ rfl; refine withP_cons rfl rfl ?_; rintro _ rfl; refine withP_nil rfl ?_; refine XO.guardT rfl rfl (decide_eq_true h6) rfl ?_; refine XO.fieldAddr rfl fa_41_2 rfl ?_; refine XO.nil ?_; exact stepQN_ok rfl trivial (rfl)
           refine stepsH_cons rfl ?_ ?_
           ·intro X ext HD hleD _
            replace hs := hs.mono hleD; replace hp := hp.mono hleD; replace hsQ6 := hsQ6.mono hleD; replace hp71 := hp71.mono hleD; replace hp78 := hp78.mono hleD; replace hpX := hpX.mono hleD; replace hpY := hpY.mono hleD; replace hle0 := hle0.trans hleD; refine withP_cons rfl rfl ?_; rintro _ rfl; refine withP_cons rfl rfl ?_; rintro _ rfl; refine withP_nil rfl ?_; refine XO.guardT rfl rfl (decide_eq_true h6) rfl ?_; refine XO.loadHF rfl (by assumption) ty_3 rfl rfl rfl ?_; refine XO.nil ?_; exact stepQN_ok rfl trivial (rfl)
           refine stepsH_cons rfl ?_ ?_
           ·intro X ext HD hleD _
            replace hs := hs.mono hleD; replace hp := hp.mono hleD; replace hsQ6 := hsQ6.mono hleD; replace hp71 := hp71.mono hleD; replace hp78 := hp78.mono hleD; replace hpX := hpX.mono hleD; replace hpY := hpY.mono hleD; replace hle0 := hle0.trans hleD; refine withP_cons rfl rfl ?_; rintro _ rfl; refine withP_nil rfl ?_; refine XO.guardT rfl rfl (decide_eq_true h6) rfl ?_; refine XO.move rfl rfl ?_; refine XO.nil ?_; exact stepQN_ok rfl trivial (rfl)
           refine stepsH_cons rfl ?_ ?_
           ·intro X ext HD hleD _
            replace hs := hs.mono hleD; replace hp := hp.mono hleD; replace hsQ6 := hsQ6.mono hleD; replace hp71 := hp71.mono hleD; replace hp78 := hp78.mono hleD; replace hpX := hpX.mono hleD; replace hpY := hpY.mono hleD; replace hle0 := hle0.trans hleD; refine withP_cons rfl rfl ?_; rintro _ rfl; refine withP_cons rfl rfl ?_; rintro _ rfl; refine withP_cons rfl rfl ?_; rintro _ rfl; refine withP_nil rfl ?_; refine XO.guardT rfl rfl (decide_eq_true h6) rfl ?_; refine XO.eql rfl rfl rfl ?_; refine XO.nil ?_; exact stepQN_ok rfl trivial (rfl)
           refine stepsH_cons rfl ?_ ?_
           ·intro X ext HD hleD _
            replace hs := hs.mono hleD; replace hp := hp.mono hleD; replace hsQ6 := hsQ6.mono hleD; replace hp71 := hp71.mono hleD; replace hp78 := hp78.mono hleD; replace hpX := hpX.mono hleD; replace hpY := hpY.mono hleD; replace hle0 := hle0.trans hleD; refine withP_cons rfl rfl ?_; rintro _ rfl; refine withP_cons rfl rfl ?_; rintro _ rfl; refine withP_nil rfl ?_; refine XO.pickT rfl (decide_eq_true h6) rfl rfl ?_; refine XO.nil ?_; exact stepQN_ok rfl trivial (rfl)
           refine stepsH_cons rfl ?_ ?_
           ·intro X ext HD hleD _
            replace hs := hs.mono hleD; replace hp := hp.mono hleD; replace hsQ6 := hsQ6.mono hleD; replace hp71 := hp71.mono hleD; replace hp78 := hp78.mono hleD; replace hpX := hpX.mono hleD; replace hpY := hpY.mono hleD; replace hle0 := hle0.trans hleD; refine withP_cons rfl rfl ?_; rintro _ rfl; refine withP_nil rfl ?_; refine XO.move rfl rfl ?_; refine XO.nil ?_; exact stepQN_ok rfl trivial (rfl)
           refine stepsH_cons rfl ?_ ?_
           ·intro X ext HD hleD _
            replace hs := hs.mono hleD; replace hp := hp.mono hleD; replace hsQ6 := hsQ6.mono hleD; replace hp71 := hp71.mono hleD; replace hp78 := hp78.mono hleD; replace hpX := hpX.mono hleD; replace hpY := hpY.mono hleD; replace hle0 := hle0.trans hleD; refine withP_cons rfl rfl ?_; rintro _ rfl; refine withP_nil rfl ?_; refine XO.guardF rfl rfl (decide_eq_false h14) rfl rfl ?_; refine XO.nil ?_; exact stepQN_ok rfl trivial (rfl)
           refine stepsH_cons rfl ?_ ?_
           ·intro X ext HD hleD _
            replace hs := hs.mono hleD; replace hp := hp.mono hleD; replace hsQ6 := hsQ6.mono hleD; replace hp71 := hp71.mono hleD; replace hp78 := hp78.mono hleD; replace hpX := hpX.mono hleD; replace hpY := hpY.mono hleD; replace hle0 := hle0.trans hleD; refine withP_cons rfl rfl ?_; rintro _ rfl; refine withP_cons rfl rfl ?_; rintro _ rfl; refine withP_nil rfl ?_; refine XO.guardF rfl rfl (decide_eq_false h14) rfl rfl ?_; refine XO.nil ?_; exact stepQN_ok rfl trivial (rfl)
           refine stepsH_cons rfl ?_ ?_
           ·intro X ext HD hleD _
            replace hs := hs.mono hleD; replace hp := hp.mono hleD; replace hsQ6 := hsQ6.mono hleD; replace hp71 := hp71.mono hleD; replace hp78 := hp78.mono hleD; replace hpX := hpX.mono hleD; replace hpY := hpY.mono hleD; replace hle0 := hle0.trans hleD; refine withP_cons rfl rfl ?_; rintro _ rfl; refine withP_cons rfl rfl ?_; rintro _ rfl; refine withP_nil rfl ?_; refine XO.guardF rfl rfl (decide_eq_false h14) rfl rfl ?_; refine XO.nil ?_; exact stepQN_ok rfl trivial (rfl)
           refine stepsH_cons rfl ?_ ?_
           ·intro X ext HD hleD _
            replace hs := hs.mono hleD; replace hp := hp.mono hleD; replace hsQ6 := hsQ6.mono hleD; replace hp71 := hp71.mono hleD; replace hp78 := hp78.mono hleD; replace hpX := hpX.mono hleD; replace hpY := hpY.mono hleD; replace hle0 := hle0.trans hleD; refine withP_cons rfl rfl ?_; rintro _ rfl; refine withP_cons rfl rfl ?_; rintro _ rfl; refine withP_nil rfl ?_; refine XO.guardF rfl rfl (decide_eq_false h14) rfl rfl ?_; refine XO.nil ?_; exact stepQN_ok rfl trivial (rfl)
           refine stepsH_cons rfl ?_ ?_
           ·intro X ext HD hleD _
            replace hs := hs.mono hleD; replace hp := hp.mono hleD; replace hsQ6 := hsQ6.mono hleD; replace hp71 := hp71.mono hleD; replace hp78 := hp78.mono hleD; replace hpX := hpX.mono hleD; replace hpY := hpY.mono hleD; replace hle0 := hle0.trans hleD; refine withP_cons rfl rfl ?_; rintro _ rfl; refine withP_nil rfl ?_; refine XO.guardF rfl rfl (decide_eq_false h14) rfl rfl ?_; refine XO.nil ?_; exact stepQN_ok rfl trivial (rfl)
           refine stepsH_cons rfl ?_ ?_
           ·intro X ext HD hleD _
            replace hs := hs.mono hleD; replace hp := hp.mono hleD; replace hsQ6 := hsQ6.mono hleD; replace hp71 := hp71.mono hleD; replace hp78 := hp78.mono hleD; replace hpX := hpX.mono hleD; replace hpY := hpY.mono hleD; replace hle0 := hle0.trans hleD; refine withP_cons rfl rfl ?_; rintro _ rfl; refine withP_cons rfl rfl ?_; rintro _ rfl; refine withP_nil rfl ?_; refine XO.guardF rfl rfl (decide_eq_false h14) rfl rfl ?_; refine XO.nil ?_; exact stepQN_ok rfl trivial (rfl)
           refine stepsH_cons rfl ?_ ?_
           ·intro X ext HD hleD _
            replace hs := hs.mono hleD; replace hp := hp.mono hleD; replace hsQ6 := hsQ6.mono hleD; replace hp71 := hp71.mono hleD; replace hp78 := hp78.mono hleD; replace hpX := hpX.mono hleD; replace hpY := hpY.mono hleD; replace hle0 := hle0.trans hleD; refine withP_cons rfl rfl ?_; rintro _ rfl; refine withP_cons rfl rfl ?_; rintro _ rfl; refine withP_nil rfl ?_; refine XO.guardF rfl rfl (decide_eq_false h14) rfl rfl ?_; refine XO.nil ?_; exact stepQN_ok rfl trivial (rfl)
           refine stepsH_cons rfl ?_ ?_
           ·intro X ext HD hleD _
            replace hs := hs.mono hleD; replace hp := hp.mono hleD; replace hsQ6 := hsQ6.mono hleD; replace hp71 := hp71.mono hleD; replace hp78 := hp78.mono hleD; replace hpX := hpX.mono hleD; replace hpY := hpY.mono hleD; replace hle0 := hle0.trans hleD; refine withP_cons rfl rfl ?_; rintro _ rfl; refine withP_cons rfl rfl ?_; rintro _ rfl; refine withP_nil rfl ?_; refine XO.guardF rfl rfl (decide_eq_false h14) rfl rfl ?_; refine XO.nil ?_; exact stepQN_ok rfl trivial (rfl)
           exact stepsH_end rfl
          case tail25 =>
           intro HD hleD _
           replace hs := hs.mono hleD; replace hp := hp.mono hleD; replace hsQ6 := hsQ6.mono hleD; replace hp71 := hp71.mono hleD; replace hp78 := hp78.mono hleD; replace hpX := hpX.mono hleD; replace hpY := hpY.mono hleD; replace hle0 := hle0.trans hleD; refine withP_cons rfl rfl ?_; rintro _ rfl; refine withP_cons rfl rfl ?_; rintro _ rfl; refine withP_cons rfl rfl ?_; rintro _ rfl; refine withP_cons rfl rfl ?_; rintro _ rfl; refine withP_cons rfl rfl ?_; rintro _ rfl; refine withP_cons rfl rfl ?_; rintro _ rfl; refine withP_cons rfl rfl ?_; rintro _ rfl; refine withP_cons rfl rfl ?_; rintro _ rfl; refine withP_cons rfl rfl ?_; rintro _ rfl; refine withP_cons rfl rfl ?_; rintro _ rfl; refine withP_cons rfl rfl ?_; rintro _ rfl; refine withP_cons rfl rfl ?_; rintro _ rfl; refine withP_cons rfl rfl ?_; rintro _ rfl; refine withP_cons rfl rfl ?_; rintro _ rfl; refine withP_cons rfl rfl ?_; rintro _ rfl; refine withP_cons rfl rfl ?_; rintro _ rfl; refine withP_cons rfl rfl ?_; rintro _ rfl; refine withP_cons rfl rfl ?_; rintro _ rfl; refine withP_cons rfl rfl ?_; rintro _ rfl; refine withP_cons rfl rfl ?_; rintro _ rfl; refine withP_cons rfl rfl ?_; rintro _ rfl; refine withP_cons rfl rfl ?_; rintro _ rfl; refine withP_cons rfl rfl ?_; rintro _ rfl; refine withP_nil rfl ?_; refine withEnts_nil ?_; refine XO.guardF rfl rfl (decide_eq_false h14) rfl rfl ?_; refine XO.pickF rfl (decide_eq_false h14) rfl rfl ?_; refine XO.assign rfl rfl ?_; refine XO.nil ?_; refine XC.seq2 ?_; refine XC.ret ?_; refine seqX_ret ?_; refine ⟨rfl, _, [], rfl, (by repeat (first | exact List.Sublist.refl _ | apply List.Sublist.cons)), RetR.mk ?_⟩
           first | exact congrArg Value.bool (prv_none (List.mem_of_getElem? hx23) hbn) | (rw [prv_some hks]; first | exact congrArg Value.bool ((decide_eq_decide.2 (by omega)).trans (pv_0 (by omega)).symm) | exact congrArg Value.bool ((decide_eq_false (by omega)).symm.trans (pv_0 (by omega)).symm) | exact congrArg Value.bool ((decide_eq_true (by omega)).symm.trans (pv_0 (by omega)).symm) | exact congrArg Value.bool ((decide_eq_decide.2 (by omega)).trans (pv_1 (by omega) (by omega) hx54).symm) | exact congrArg Value.bool ((decide_eq_false (by omega)).symm.trans (pv_1 (by omega) (by omega) hx54).symm) | exact congrArg Value.bool ((decide_eq_decide.2 (by omega)).trans (pv_2 (by omega) (by omega) hx71 hx78 (by omega)).symm) | exact congrArg Value.bool ((decide_eq_false (by omega)).symm.trans (pv_2 (by omega) (by omega) hx71 hx78 (by omega)).symm) | exact congrArg Value.bool (pv_3 (by omega) (by omega) (by omega)) | exact congrArg Value.bool (pv_3b (by omega) (by omega) hx71 (by omega)) | exact congrArg Value.bool (pv_3c (by omega) (by omega) hx78 (by omega)))
        ·skip
         refine XC.keep [1, 2, 9] rfl ?_
         skip
         obtain ⟨bEX, oEX, rfl⟩ := hsQ6.addr (by omega); obtain ⟨_, xX, hxX, rfl, hpX⟩ := hsQ6.elem (0) (by omega); obtain ⟨_, xY, hxY, rfl, hpY⟩ := hsQ6.elem (1) (by omega); obtain rfl := Option.some.inj (hx71.symm.trans hxX); obtain rfl := Option.some.inj (hx78.symm.trans hxY)
         apply XC.drawH (fun _ => True) trivial [] (by decide) (fun _ _ _ _ => True) (fun _ _ _ _ _ _ h => h) 23 [eqF _, eqF _, eqF _, eqF _, eqF _, eqF _, eqF _, eqF _, eqF _, eqF _, eqF _, eqF _, eqF _, eqF _, eqF _, eqF _, eqF _, eqF _, eqF _, eqF _, eqF _, eqF _, eqF _] follows (by kernel_rfl) ⟨eqF_mono _, eqF_mono _, eqF_mono _, eqF_mono _, eqF_mono _, eqF_mono _, eqF_mono _, eqF_mono _, eqF_mono _, eqF_mono _, eqF_mono _, eqF_mono _, eqF_mono _, eqF_mono _, eqF_mono _, eqF_mono _, eqF_mono _, eqF_mono _, eqF_mono _, eqF_mono _, eqF_mono _, eqF_mono _, eqF_mono _, trivial⟩ (by decide) ?steps28 ?tail28
         case steps28 =>
          refine stepsH_cons rfl ?_ ?_
          ·intro X ext HD hleD _
           replace hs := hs.mono hleD; replace hp := hp.mono hleD; replace hsQ6 := hsQ6.mono hleD; replace hp71 := hp71.mono hleD; replace hp78 := hp78.mono hleD; replace hpX := hpX.mono hleD; replace hpY := hpY.mono hleD; replace hle0 := hle0.trans hleD; refine withP_nil rfl ?_; refine XO.move rfl rfl ?_; refine XO.nil ?_; exact stepQN_ok rfl trivial (rfl)
          refine stepsH_cons rfl ?_ ?_
          ·intro X ext HD hleD _
           replace hs := hs.mono hleD; replace hp := hp.mono hleD; replace hsQ6 := hsQ6.mono hleD; replace hp71 := hp71.mono hleD; replace hp78 := hp78.mono hleD; replace hpX := hpX.mono hleD; replace hpY := hpY.mono hleD; replace hle0 := hle0.trans hleD; refine withP_cons rfl rfl ?_; rintro _ rfl; refine withP_nil rfl ?_; refine XO.indexE rfl rfl Try.underlying22 ty_41 (by omega) (by omega) rfl ?_; refine XO.nil ?_; exact stepQN_ok rfl trivial (rfl)
          refine stepsH_cons rfl ?_ ?_
          ·intro X ext HD hleD _
           replace hs := hs.mono hleD; replace hp := hp.mono hleD; replace hsQ6 := hsQ6.mono hleD; replace hp71 := hp71.mono hleD; replace hp78 := hp78.mono hleD; replace hpX := hpX.mono hleD; replace hpY := hpY.mono hleD; replace hle0 := hle0.trans hleD; refine withP_cons rfl rfl ?_; rintro _ rfl; refine withP_nil rfl ?_; refine XO.fieldAddr rfl fa_41_2 rfl ?_; refine XO.nil ?_; exact stepQN_ok rfl trivial (rfl)
          refine stepsH_cons rfl ?_ ?_
          ·intro X ext HD hleD _
           replace hs := hs.mono hleD; replace hp := hp.mono hleD; replace hsQ6 := hsQ6.mono hleD; replace hp71 := hp71.mono hleD; replace hp78 := hp78.mono hleD; replace hpX := hpX.mono hleD; replace hpY := hpY.mono hleD; replace hle0 := hle0.trans hleD; refine withP_cons rfl rfl ?_; rintro _ rfl; refine withP_nil rfl ?_; refine XO.loadHF rfl (by assumption) ty_3 rfl rfl rfl ?_; refine XO.nil ?_; exact stepQN_ok rfl trivial (rfl)
          refine stepsH_cons rfl ?_ ?_
          ·intro X ext HD hleD _
           replace hs := hs.mono hleD; replace hp := hp.mono hleD; replace hsQ6 := hsQ6.mono hleD; replace hp71 := hp71.mono hleD; replace hp78 := hp78.mono hleD; replace hpX := hpX.mono hleD; replace hpY := hpY.mono hleD; replace hle0 := hle0.trans hleD; refine withP_nil rfl ?_; refine XO.move rfl rfl ?_; refine XO.nil ?_; exact stepQN_ok rfl trivial (rfl)
          refine stepsH_cons rfl ?_ ?_
          ·intro X ext HD hleD _
           replace hs := hs.mono hleD; replace hp := hp.mono hleD; replace hsQ6 := hsQ6.mono hleD; replace hp71 := hp71.mono hleD; replace hp78 := hp78.mono hleD; replace hpX := hpX.mono hleD; replace hpY := hpY.mono hleD; replace hle0 := hle0.trans hleD; refine withP_cons rfl rfl ?_; rintro _ rfl; refine withP_cons rfl rfl ?_; rintro _ rfl; refine withP_nil rfl ?_; refine XO.eql rfl rfl rfl ?_; refine XO.nil ?_; exact stepQN_ok rfl trivial (rfl)
          refine stepsH_cons rfl ?_ ?_
          ·intro X ext HD hleD _
           replace hs := hs.mono hleD; replace hp := hp.mono hleD; replace hsQ6 := hsQ6.mono hleD; replace hp71 := hp71.mono hleD; replace hp78 := hp78.mono hleD; replace hpX := hpX.mono hleD; replace hpY := hpY.mono hleD; replace hle0 := hle0.trans hleD; refine withP_cons rfl rfl ?_; rintro _ rfl; refine withP_nil rfl ?_; refine XO.move rfl rfl ?_; refine XO.nil ?_; exact stepQN_ok rfl trivial (rfl)
          refine stepsH_cons rfl ?_ ?_
          ·intro X ext HD hleD _
           replace hs := hs.mono hleD; replace hp := hp.mono hleD; replace hsQ6 := hsQ6.mono hleD; replace hp71 := hp71.mono hleD; replace hp78 := hp78.mono hleD; replace hpX := hpX.mono hleD; replace hpY := hpY.mono hleD; replace hle0 := hle0.trans hleD; refine withP_cons rfl rfl ?_; rintro _ rfl; refine withP_nil rfl ?_; refine XO.guardF rfl rfl (decide_eq_false h6) rfl rfl ?_; refine XO.nil ?_; exact stepQN_ok rfl trivial (rfl)
          refine stepsH_cons rfl ?_ ?_
          ·intro X ext HD hleD _
           replace hs := hs.mono hleD; replace hp := hp.mono hleD; replace hsQ6 := hsQ6.mono hleD; replace hp71 := hp71.mono hleD; replace hp78 := hp78.mono hleD; replace hpX := hpX.mono hleD; replace hpY := hpY.mono hleD; replace hle0 := hle0.trans hleD; refine withP_cons rfl rfl ?_; rintro _ rfl; refine withP_cons rfl rfl ?_; rintro _ rfl; refine withP_nil rfl ?_; refine XO.guardF rfl rfl (decide_eq_false h6) rfl rfl ?_; refine XO.nil ?_; exact stepQN_ok rfl trivial (rfl)
          refine stepsH_cons rfl ?_ ?_
          ·intro X ext HD hleD _
           replace hs := hs.mono hleD; replace hp := hp.mono hleD; replace hsQ6 := hsQ6.mono hleD; replace hp71 := hp71.mono hleD; replace hp78 := hp78.mono hleD; replace hpX := hpX.mono hleD; replace hpY := hpY.mono hleD; replace hle0 := hle0.trans hleD; refine withP_cons rfl rfl ?_; rintro _ rfl; refine withP_cons rfl rfl ?_; rintro _ rfl; refine withP_nil rfl ?_; refine XO.guardF rfl rfl (decide_eq_false h6) rfl rfl ?_; refine XO.nil ?_; exact stepQN_ok rfl trivial (rfl)
          refine stepsH_cons rfl ?_ ?_
          ·intro X ext HD hleD _
           replace hs := hs.mono hleD; replace hp := hp.mono hleD; replace hsQ6 := hsQ6.mono hleD; replace hp71 := hp71.mono hleD; replace hp78 := hp78.mono hleD; replace hpX := hpX.mono hleD; replace hpY := hpY.mono hleD; replace hle0 := hle0.trans hleD; refine withP_cons rfl rfl ?_; rintro _ rfl; refine withP_cons rfl rfl ?_; rintro _ rfl; refine withP_nil rfl ?_; refine XO.guardF rfl rfl (decide_eq_false h6) rfl rfl ?_; refine XO.nil ?_; exact stepQN_ok rfl trivial (rfl)
          refine stepsH_cons rfl ?_ ?_
          ·intro X ext HD hleD _
           replace hs := hs.mono hleD; replace hp := hp.mono hleD; replace hsQ6 := hsQ6.mono hleD; replace hp71 := hp71.mono hleD; replace hp78 := hp78.mono hleD; replace hpX := hpX.mono hleD; replace hpY := hpY.mono hleD; replace hle0 := hle0.trans hleD; refine withP_cons rfl rfl ?_; rintro _ rfl; refine withP_nil rfl ?_; refine XO.guardF rfl rfl (decide_eq_false h6) rfl rfl ?_; refine XO.nil ?_; exact stepQN_ok rfl trivial (rfl)
          refine stepsH_cons rfl ?_ ?_
          ·intro X ext HD hleD _
           replace hs := hs.mono hleD; replace hp := hp.mono hleD; replace hsQ6 := hsQ6.mono hleD; replace hp71 := hp71.mono hleD; replace hp78 := hp78.mono hleD; replace hpX := hpX.mono hleD; replace hpY := hpY.mono hleD; replace hle0 := hle0.trans hleD; refine withP_cons rfl rfl ?_; rintro _ rfl; refine withP_cons rfl rfl ?_; rintro _ rfl; refine withP_cons rfl rfl ?_; rintro _ rfl; refine withP_nil rfl ?_; refine XO.guardF rfl rfl (decide_eq_false h6) rfl rfl ?_; refine XO.nil ?_; exact stepQN_ok rfl trivial (rfl)
          refine stepsH_cons rfl ?_ ?_
          ·intro X ext HD hleD _
           replace hs := hs.mono hleD; replace hp := hp.mono hleD; replace hsQ6 := hsQ6.mono hleD; replace hp71 := hp71.mono hleD; replace hp78 := hp78.mono hleD; replace hpX := hpX.mono hleD; replace hpY := hpY.mono hleD; replace hle0 := hle0.trans hleD; refine withP_cons rfl rfl ?_; rintro _ rfl; refine withP_cons rfl rfl ?_; rintro _ rfl; refine withP_nil rfl ?_; refine XO.pickF rfl (decide_eq_false h6) rfl rfl ?_; refine XO.nil ?_; exact stepQN_ok rfl trivial (rfl)
          refine stepsH_cons rfl ?_ ?_
          ·intro X ext HD hleD _
           replace hs := hs.mono hleD; replace hp := hp.mono hleD; replace hsQ6 := hsQ6.mono hleD; replace hp71 := hp71.mono hleD; replace hp78 := hp78.mono hleD; replace hpX := hpX.mono hleD; replace hpY := hpY.mono hleD; replace hle0 := hle0.trans hleD; refine withP_cons rfl rfl ?_; rintro _ rfl; refine withP_nil rfl ?_; refine XO.move rfl rfl ?_; refine XO.nil ?_; exact stepQN_ok rfl trivial (rfl)
          refine stepsH_cons rfl ?_ ?_
          ·intro X ext HD hleD _
           replace hs := hs.mono hleD; replace hp := hp.mono hleD; replace hsQ6 := hsQ6.mono hleD; replace hp71 := hp71.mono hleD; replace hp78 := hp78.mono hleD; replace hpX := hpX.mono hleD; replace hpY := hpY.mono hleD; replace hle0 := hle0.trans hleD; refine withP_cons rfl rfl ?_; rintro _ rfl; refine withP_nil rfl ?_; refine XO.guardF rfl rfl (rfl) rfl rfl ?_; refine XO.nil ?_; exact stepQN_ok rfl trivial (rfl)
          refine stepsH_cons rfl ?_ ?_
          ·intro X ext HD hleD _
           replace hs := hs.mono hleD; replace hp := hp.mono hleD; replace hsQ6 := hsQ6.mono hleD; replace hp71 := hp71.mono hleD; replace hp78 := hp78.mono hleD; replace hpX := hpX.mono hleD; replace hpY := hpY.mono hleD; replace hle0 := hle0.trans hleD; refine withP_cons rfl rfl ?_; rintro _ rfl; refine withP_cons rfl rfl ?_; rintro _ rfl; refine withP_nil rfl ?_; refine XO.guardF rfl rfl (rfl) rfl rfl ?_; refine XO.nil ?_; exact stepQN_ok rfl trivial (rfl)
          refine stepsH_cons rfl ?_ ?_
          ·intro X ext HD hleD _
           replace hs := hs.mono hleD; replace hp := hp.mono hleD; replace hsQ6 := hsQ6.mono hleD; replace hp71 := hp71.mono hleD; replace hp78 := hp78.mono hleD; replace hpX := hpX.mono hleD; replace hpY := hpY.mono hleD; replace hle0 := hle0.trans hleD; refine withP_cons rfl rfl ?_; rintro _ rfl; refine withP_cons rfl rfl ?_; rintro _ rfl; refine withP_nil rfl ?_; refine XO.guardF rfl rfl (rfl) rfl rfl ?_; refine XO.nil ?_; exact stepQN_ok rfl trivial (rfl)
          refine stepsH_cons rfl ?_ ?_
          ·intro X ext HD hleD _
           replace hs := hs.mono hleD; replace hp := hp.mono hleD; replace hsQ6 := hsQ6.mono hleD; replace hp71 := hp71.mono hleD; replace hp78 := hp78.mono hleD; replace hpX := hpX.mono hleD; replace hpY := hpY.mono hleD; replace hle0 := hle0.trans hleD; refine withP_cons rfl rfl ?_; rintro _ rfl; refine withP_cons rfl rfl ?_; rintro _ rfl; refine withP_nil rfl ?_; refine XO.guardF rfl rfl (rfl) rfl rfl ?_; refine XO.nil ?_; exact stepQN_ok rfl trivial (rfl)
          refine stepsH_cons rfl ?_ ?_
          ·intro X ext HD hleD _
           replace hs := hs.mono hleD; replace hp := hp.mono hleD; replace hsQ6 := hsQ6.mono hleD; replace hp71 := hp71.mono hleD; replace hp78 := hp78.mono hleD; replace hpX := hpX.mono hleD; replace hpY := hpY.mono hleD; replace hle0 := hle0.trans hleD; refine withP_cons rfl rfl ?_; rintro _ rfl; refine withP_nil rfl ?_; refine XO.guardF rfl rfl (rfl) rfl rfl ?_; refine XO.nil ?_; exact stepQN_ok rfl trivial (rfl)
          refine stepsH_cons rfl ?_ ?_
          ·intro X ext HD hleD _
           replace hs := hs.mono hleD; replace hp := hp.mono hleD; replace hsQ6 := hsQ6.mono hleD; replace hp71 := hp71.mono hleD; replace hp78 := hp78.mono hleD; replace hpX := hpX.mono hleD; replace hpY := hpY.mono hleD; replace hle0 := hle0.trans hleD; refine withP_cons rfl rfl ?_; rintro _ rfl; refine withP_cons rfl rfl ?_; rintro _ rfl; refine withP_nil rfl ?_; refine XO.guardF rfl rfl (rfl) rfl rfl ?_; refine XO.nil ?_; exact stepQN_ok rfl trivial (rfl)
          refine stepsH_cons rfl ?_ ?_
          ·intro X ext HD hleD _
           replace hs := hs.mono hleD; replace hp := hp.mono hleD; replace hsQ6 := hsQ6.mono hleD; replace hp71 := hp71.mono hleD; replace hp78 := hp78.mono hleD; replace hpX := hpX.mono hleD; replace hpY := hpY.mono hleD; replace hle0 := hle0.trans hleD; refine withP_cons rfl rfl ?_; rintro _ rfl; refine withP_cons rfl rfl ?_; rintro _ rfl; refine withP_nil rfl ?_; refine XO.guardF rfl rfl (rfl) rfl rfl ?_; refine XO.nil ?_; exact stepQN_ok rfl trivial (rfl)
          refine stepsH_cons rfl ?_ ?_
          ·intro X ext HD hleD _
           replace hs := hs.mono hleD; replace hp := hp.mono hleD; replace hsQ6 := hsQ6.mono hleD; replace hp71 := hp71.mono hleD; replace hp78 := hp78.mono hleD; replace hpX := hpX.mono hleD; replace hpY := hpY.mono hleD; replace hle0 := hle0.trans hleD; refine withP_cons rfl rfl ?_; rintro _ rfl; refine withP_cons rfl rfl ?_; rintro _ rfl; refine withP_nil rfl ?_; refine XO.guardF rfl rfl (rfl) rfl rfl ?_; refine XO.nil ?_; exact stepQN_ok rfl trivial (rfl)
          exact stepsH_end rfl
         case tail28 =>
          intro HD hleD _
          replace hs := hs.mono hleD; replace hp := hp.mono hleD; replace hsQ6 := hsQ6.mono hleD; replace hp71 := hp71.mono hleD; replace hp78 := hp78.mono hleD; replace hpX := hpX.mono hleD; replace hpY := hpY.mono hleD; replace hle0 := hle0.trans hleD; refine withP_cons rfl rfl ?_; rintro _ rfl; refine withP_cons rfl rfl ?_; rintro _ rfl; refine withP_cons rfl rfl ?_; rintro _ rfl; refine withP_cons rfl rfl ?_; rintro _ rfl; refine withP_cons rfl rfl ?_; rintro _ rfl; refine withP_cons rfl rfl ?_; rintro _ rfl; refine withP_cons rfl rfl ?_; rintro _ rfl; refine withP_cons rfl rfl ?_; rintro _ rfl; refine withP_cons rfl rfl ?_; rintro _ rfl; refine withP_cons rfl rfl ?_; rintro _ rfl; refine withP_cons rfl rfl ?_; rintro _ rfl; refine withP_cons rfl rfl ?_; rintro _ rfl; refine withP_cons rfl rfl ?_; rintro _ rfl; refine withP_cons rfl rfl ?_; rintro _ rfl; refine withP_cons rfl rfl ?_; rintro _ rfl; refine withP_cons rfl rfl ?_; rintro _ rfl; refine withP_cons rfl rfl ?_; rintro _ rfl; refine withP_cons rfl rfl ?_; rintro _ rfl; refine withP_cons rfl rfl ?_; rintro _ rfl; refine withP_cons rfl rfl ?_; rintro _ rfl; refine withP_cons rfl rfl ?_; rintro _ rfl; refine withP_cons rfl rfl ?_; rintro _ rfl; refine withP_cons rfl rfl ?_; rintro _ rfl; refine withP_nil rfl ?_; refine withEnts_nil ?_; refine XO.guardF rfl rfl (rfl) rfl rfl ?_; refine XO.pickF rfl (rfl) rfl rfl ?_; refine XO.assign rfl rfl ?_; refine XO.nil ?_; refine XC.seq2 ?_; refine XC.ret ?_; refine seqX_ret ?_; refine ⟨rfl, _, [], rfl, (by repeat (first | exact List.Sublist.refl _ | apply List.Sublist.cons)), RetR.mk ?_⟩
          first | exact congrArg Value.bool (prv_none (List.mem_of_getElem? hx23) hbn) | (rw [prv_some hks]; first | exact congrArg Value.bool ((decide_eq_decide.2 (by omega)).trans (pv_0 (by omega)).symm) | exact congrArg Value.bool ((decide_eq_false (by omega)).symm.trans (pv_0 (by omega)).symm) | exact congrArg Value.bool ((decide_eq_true (by omega)).symm.trans (pv_0 (by omega)).symm) | exact congrArg Value.bool ((decide_eq_decide.2 (by omega)).trans (pv_1 (by omega) (by omega) hx54).symm) | exact congrArg Value.bool ((decide_eq_false (by omega)).symm.trans (pv_1 (by omega) (by omega) hx54).symm) | exact congrArg Value.bool ((decide_eq_decide.2 (by omega)).trans (pv_2 (by omega) (by omega) hx71 hx78 (by omega)).symm) | exact congrArg Value.bool ((decide_eq_false (by omega)).symm.trans (pv_2 (by omega) (by omega) hx71 hx78 (by omega)).symm) | exact congrArg Value.bool (pv_3 (by omega) (by omega) (by omega)) | exact congrArg Value.bool (pv_3b (by omega) (by omega) hx71 (by omega)) | exact congrArg Value.bool (pv_3c (by omega) (by omega) hx78 (by omega)))
       ·refine XC.skip ?_; refine XC.seq2 ?_; refine XC.seq ?_; refine XC.region ?_; refine XO.move rfl rfl ?_; refine XO.move rfl rfl ?_; refine XO.buildSlice rfl Try.underlying25 ty_3 ze_3 rfl rfl rfl (fun b110 => ?_); refine XO.publish 0 rfl rfl rfl (fun HP110 oP110 hleP110 hbP110 hoP110 => ?_)
        have hsl110 := SlR.lit (ρ := (intR .i64)) (l := [x]) hbP110 hoP110 (RowsR.one1 rfl)
        replace hs := hs.mono hleP110; replace hp := hp.mono hleP110; replace hsQ6 := hsQ6.mono hleP110; replace hp71 := hp71.mono hleP110; replace hp78 := hp78.mono hleP110; replace hle0 := hle0.trans hleP110; refine XO.move rfl rfl ?_; refine XO.callV rfl (rel_all y ks.length ks [x] x _ _ _ _ _ rfl (by simp; omega) (by simp) hsQ6 hsl110) rfl ?_; refine XO.assign rfl rfl ?_; refine XO.nil ?_; refine XC.seq2 ?_; refine XC.ret ?_; refine ⟨rfl, _, [], rfl, (by repeat (first | exact List.Sublist.refl _ | apply List.Sublist.cons)), RetR.mk ?_⟩
        first | exact congrArg Value.bool (prv_none (List.mem_of_getElem? hx23) hbn) | (rw [prv_some hks]; first | exact congrArg Value.bool ((decide_eq_decide.2 (by omega)).trans (pv_0 (by omega)).symm) | exact congrArg Value.bool ((decide_eq_false (by omega)).symm.trans (pv_0 (by omega)).symm) | exact congrArg Value.bool ((decide_eq_true (by omega)).symm.trans (pv_0 (by omega)).symm) | exact congrArg Value.bool ((decide_eq_decide.2 (by omega)).trans (pv_1 (by omega) (by omega) hx54).symm) | exact congrArg Value.bool ((decide_eq_false (by omega)).symm.trans (pv_1 (by omega) (by omega) hx54).symm) | exact congrArg Value.bool ((decide_eq_decide.2 (by omega)).trans (pv_2 (by omega) (by omega) hx71 hx78 (by omega)).symm) | exact congrArg Value.bool ((decide_eq_false (by omega)).symm.trans (pv_2 (by omega) (by omega) hx71 hx78 (by omega)).symm) | exact congrArg Value.bool (pv_3 (by omega) (by omega) (by omega)) | exact congrArg Value.bool (pv_3b (by omega) (by omega) hx71 (by omega)) | exact congrArg Value.bool (pv_3c (by omega) (by omega) hx78 (by omega)))
      ·have g17p := of_decide_eq_false g17
       refine XO.guardF rfl rfl (g17) rfl rfl ?_; refine XO.guardF rfl rfl (g17) rfl rfl ?_; refine XO.guardF rfl rfl (g17) rfl rfl ?_; refine XO.guardF rfl rfl (g17) rfl rfl ?_; refine XO.pickF rfl (g17) rfl rfl ?_; refine XO.nil ?_; refine XC.seq2 ?_; refine XC.condF rfl (rfl) ?_; refine XC.skip ?_; refine XC.seq2 ?_; refine XC.seq ?_; refine XC.region ?_; refine XO.move rfl rfl ?_; refine XO.move rfl rfl ?_; refine XO.buildSlice rfl Try.underlying25 ty_3 ze_3 rfl rfl rfl (fun b110 => ?_); refine XO.publish 0 rfl rfl rfl (fun HP110 oP110 hleP110 hbP110 hoP110 => ?_)
       have hsl110 := SlR.lit (ρ := (intR .i64)) (l := [x]) hbP110 hoP110 (RowsR.one1 rfl)
       replace hs := hs.mono hleP110; replace hp := hp.mono hleP110; replace hsQ6 := hsQ6.mono hleP110; replace hp71 := hp71.mono hleP110; replace hle0 := hle0.trans hleP110; refine XO.move rfl rfl ?_; refine XO.callV rfl (rel_all y ks.length ks [x] x _ _ _ _ _ rfl (by simp; omega) (by simp) hsQ6 hsl110) rfl ?_; refine XO.assign rfl rfl ?_; refine XO.nil ?_; refine XC.seq2 ?_; refine XC.ret ?_; refine ⟨rfl, _, [], rfl, (by repeat (first | exact List.Sublist.refl _ | apply List.Sublist.cons)), RetR.mk ?_⟩
       first | exact congrArg Value.bool (prv_none (List.mem_of_getElem? hx23) hbn) | (rw [prv_some hks]; first | exact congrArg Value.bool ((decide_eq_decide.2 (by omega)).trans (pv_0 (by omega)).symm) | exact congrArg Value.bool ((decide_eq_false (by omega)).symm.trans (pv_0 (by omega)).symm) | exact congrArg Value.bool ((decide_eq_true (by omega)).symm.trans (pv_0 (by omega)).symm) | exact congrArg Value.bool ((decide_eq_decide.2 (by omega)).trans (pv_1 (by omega) (by omega) hx54).symm) | exact congrArg Value.bool ((decide_eq_false (by omega)).symm.trans (pv_1 (by omega) (by omega) hx54).symm) | exact congrArg Value.bool ((decide_eq_decide.2 (by omega)).trans (pv_2 (by omega) (by omega) hx71 hx78 (by omega)).symm) | exact congrArg Value.bool ((decide_eq_false (by omega)).symm.trans (pv_2 (by omega) (by omega) hx71 hx78 (by omega)).symm) | exact congrArg Value.bool (pv_3 (by omega) (by omega) (by omega)) | exact congrArg Value.bool (pv_3b (by omega) (by omega) hx71 (by omega)) | exact congrArg Value.bool (pv_3c (by omega) (by omega) hx78 (by omega)))
     ·have g15p := of_decide_eq_false g15
      refine XO.guardF rfl rfl (g15) rfl rfl ?_; refine XO.guardF rfl rfl (g15) rfl rfl ?_; refine XO.guardF rfl rfl (g15) rfl rfl ?_; refine XO.guardF rfl rfl (g15) rfl rfl ?_; refine XO.pickF rfl (g15) rfl rfl ?_; refine XO.move rfl rfl ?_; refine XO.guardF rfl rfl (rfl) rfl rfl ?_; refine XO.guardF rfl rfl (rfl) rfl rfl ?_; refine XO.guardF rfl rfl (rfl) rfl rfl ?_; refine XO.guardF rfl rfl (rfl) rfl rfl ?_; refine XO.guardF rfl rfl (rfl) rfl rfl ?_; refine XO.pickF rfl (rfl) rfl rfl ?_; refine XO.nil ?_; refine XC.seq2 ?_; refine XC.condF rfl (rfl) ?_; refine XC.skip ?_; refine XC.seq2 ?_; refine XC.seq ?_; refine XC.region ?_; refine XO.move rfl rfl ?_; refine XO.move rfl rfl ?_; refine XO.buildSlice rfl Try.underlying25 ty_3 ze_3 rfl rfl rfl (fun b110 => ?_); refine XO.publish 0 rfl rfl rfl (fun HP110 oP110 hleP110 hbP110 hoP110 => ?_)
      have hsl110 := SlR.lit (ρ := (intR .i64)) (l := [x]) hbP110 hoP110 (RowsR.one1 rfl)
      replace hs := hs.mono hleP110; replace hp := hp.mono hleP110; replace hsQ6 := hsQ6.mono hleP110; replace hle0 := hle0.trans hleP110; refine XO.move rfl rfl ?_; refine XO.callV rfl (rel_all y ks.length ks [x] x _ _ _ _ _ rfl (by simp; omega) (by simp) hsQ6 hsl110) rfl ?_; refine XO.assign rfl rfl ?_; refine XO.nil ?_; refine XC.seq2 ?_; refine XC.ret ?_; refine ⟨rfl, _, [], rfl, (by repeat (first | exact List.Sublist.refl _ | apply List.Sublist.cons)), RetR.mk ?_⟩
      first | exact congrArg Value.bool (prv_none (List.mem_of_getElem? hx23) hbn) | (rw [prv_some hks]; first | exact congrArg Value.bool ((decide_eq_decide.2 (by omega)).trans (pv_0 (by omega)).symm) | exact congrArg Value.bool ((decide_eq_false (by omega)).symm.trans (pv_0 (by omega)).symm) | exact congrArg Value.bool ((decide_eq_true (by omega)).symm.trans (pv_0 (by omega)).symm) | exact congrArg Value.bool ((decide_eq_decide.2 (by omega)).trans (pv_1 (by omega) (by omega) hx54).symm) | exact congrArg Value.bool ((decide_eq_false (by omega)).symm.trans (pv_1 (by omega) (by omega) hx54).symm) | exact congrArg Value.bool ((decide_eq_decide.2 (by omega)).trans (pv_2 (by omega) (by omega) hx71 hx78 (by omega)).symm) | exact congrArg Value.bool ((decide_eq_false (by omega)).symm.trans (pv_2 (by omega) (by omega) hx71 hx78 (by omega)).symm) | exact congrArg Value.bool (pv_3 (by omega) (by omega) (by omega)) | exact congrArg Value.bool (pv_3b (by omega) (by omega) hx71 (by omega)) | exact congrArg Value.bool (pv_3c (by omega) (by omega) hx78 (by omega)))
  ·have g7p := of_decide_eq_true g7
   refine XO.guardF rfl rfl (g7) rfl rfl ?_; refine XO.guardF rfl rfl (g7) rfl rfl ?_; refine XO.pickT rfl (g7) rfl rfl ?_; refine XO.nil ?_; refine XC.seq2 ?_; refine XC.condT rfl (rfl) ?_; refine XC.seq ?_; refine XC.region ?_; refine XO.move rfl rfl ?_; refine XO.lenS (ts := #[]) rfl Try.underlying22 rfl ?_; refine XO.eql rfl rfl rfl ?_; refine XO.move rfl rfl ?_; refine XO.guardC rfl rfl rfl rfl (fun g33 => ?_) (fun g33 => ?_)
   ·have g33p := of_decide_eq_true g33
    refine XO.move rfl rfl ?_; refine XO.guardT rfl rfl (g33) rfl ?_; refine XO.move rfl rfl ?_; refine XO.guardT rfl rfl (g33) rfl ?_; refine XO.eql rfl rfl rfl ?_; refine XO.pickT rfl (g33) rfl rfl ?_; refine XO.assign rfl rfl ?_; refine XO.nil ?_; refine XC.seq2 ?_; refine XC.ret ?_; refine seqX_ret ?_; refine ⟨rfl, _, [], rfl, (by repeat (first | exact List.Sublist.refl _ | apply List.Sublist.cons)), RetR.mk ?_⟩
    first | exact congrArg Value.bool (prv_none (List.mem_of_getElem? hx23) hbn) | (rw [prv_some hks]; first | exact congrArg Value.bool ((decide_eq_decide.2 (by omega)).trans (pv_0 (by omega)).symm) | exact congrArg Value.bool ((decide_eq_false (by omega)).symm.trans (pv_0 (by omega)).symm) | exact congrArg Value.bool ((decide_eq_true (by omega)).symm.trans (pv_0 (by omega)).symm) | exact congrArg Value.bool ((decide_eq_decide.2 (by omega)).trans (pv_1 (by omega) (by omega) hx54).symm) | exact congrArg Value.bool ((decide_eq_false (by omega)).symm.trans (pv_1 (by omega) (by omega) hx54).symm) | exact congrArg Value.bool ((decide_eq_decide.2 (by omega)).trans (pv_2 (by omega) (by omega) hx71 hx78 (by omega)).symm) | exact congrArg Value.bool ((decide_eq_false (by omega)).symm.trans (pv_2 (by omega) (by omega) hx71 hx78 (by omega)).symm) | exact congrArg Value.bool (pv_3 (by omega) (by omega) (by omega)) | exact congrArg Value.bool (pv_3b (by omega) (by omega) hx71 (by omega)) | exact congrArg Value.bool (pv_3c (by omega) (by omega) hx78 (by omega)))
   ·have g33p := of_decide_eq_false g33
    refine XO.guardF rfl rfl (g33) rfl rfl ?_; refine XO.guardF rfl rfl (g33) rfl rfl ?_; refine XO.pickF rfl (g33) rfl rfl ?_; refine XO.assign rfl rfl ?_; refine XO.nil ?_; refine XC.seq2 ?_; refine XC.ret ?_; refine seqX_ret ?_; refine ⟨rfl, _, [], rfl, (by repeat (first | exact List.Sublist.refl _ | apply List.Sublist.cons)), RetR.mk ?_⟩
    first | exact congrArg Value.bool (prv_none (List.mem_of_getElem? hx23) hbn) | (rw [prv_some hks]; first | exact congrArg Value.bool ((decide_eq_decide.2 (by omega)).trans (pv_0 (by omega)).symm) | exact congrArg Value.bool ((decide_eq_false (by omega)).symm.trans (pv_0 (by omega)).symm) | exact congrArg Value.bool ((decide_eq_true (by omega)).symm.trans (pv_0 (by omega)).symm) | exact congrArg Value.bool ((decide_eq_decide.2 (by omega)).trans (pv_1 (by omega) (by omega) hx54).symm) | exact congrArg Value.bool ((decide_eq_false (by omega)).symm.trans (pv_1 (by omega) (by omega) hx54).symm) | exact congrArg Value.bool ((decide_eq_decide.2 (by omega)).trans (pv_2 (by omega) (by omega) hx71 hx78 (by omega)).symm) | exact congrArg Value.bool ((decide_eq_false (by omega)).symm.trans (pv_2 (by omega) (by omega) hx71 hx78 (by omega)).symm) | exact congrArg Value.bool (pv_3 (by omega) (by omega) (by omega)) | exact congrArg Value.bool (pv_3b (by omega) (by omega) hx71 (by omega)) | exact congrArg Value.bool (pv_3c (by omega) (by omega) hx78 (by omega)))

end Go.Proofs
