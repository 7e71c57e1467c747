/- The walks of the functions of the links: what each of them computes, at any input. -/
import Derived.Test.YtonmnpdhpailcaaRbZ
set_option autoImplicit false
set_option linter.unusedVariables false
set_option linter.unusedSimpArgs false
namespace Go.Proofs
open Go.XL

theorem by_55 : Nat.ble (Try.prog.bytesOf 55) 4096 = true := by kernel_rfl
theorem eg_58 : Try.prog.eqGuardType Try.prog.depth 58 = false := by kernel_rfl
theorem ty_4 : tyF Try.prog 4 1 false = true := by kernel_rfl

set_option maxHeartbeats 1600000 in
theorem cuts_seq (n : Nt) (ch : Int × Int) (on : Bool) (a0 : Option Addr) (c0 : Nat) (H : Hp) (b1 b2 b3 : Nat) (hs : SlR pairR H a0 c0 n.ap) (hl : n.ap.length < 4611686018427387904) (h1 : PtH H b1 0 [.int .i64 ch.1, .int .i64 ch.2]) (h2 : PtH H b2 0 [.bool on]) (h3 : PtH H b3 0 [.slice a0 n.ap.length c0]) : SeqC Try.prog 46 [.pointer (some ⟨b1, 0, none⟩), .pointer (some ⟨b2, 0, none⟩), .pointer (some ⟨b3, 0, none⟩)] H [] (fun p : Int × Int => [.agg ⟨[.int .i64 p.1, .int .i64 p.2]⟩]) (cutL n ch on) := by
  obtain ⟨ch1, ch2⟩ := ch
  intro yv J K ownY hy hJ0
  refine FnC.intro (args := [yv, .pointer (some ⟨b1, 0, none⟩), .pointer (some ⟨b2, 0, none⟩), .pointer (some ⟨b3, 0, none⟩)]) Try.func46 rfl rfl Try.ntmps46 rfl rfl rfl fun G rest => ?_
  refine XC.seq ?_
  refine XC.region ?_
  refine XO.move rfl rfl ?_
  refine XO.nil ?_
  refine XC.seq2 ?_
  refine XC.block ?_
  refine XC.keep [8, 0, 1, 2, 3] rfl ?_
  refine XC.loop (base := [(0, _), (1, _), (2, _), (3, _)]) (fun a : Nat => [(8, .int .i64 (a : Nat))]) (fun a Hl own => a ≤ 24 ∧ Le H Hl ∧ ∃ oy, oy ++ rest = own ∧ J ((doneP a).filter (keepB n (ch1, ch2) on)) Hl oy) (fun a => 24 - a) 0 (prov_cons (rfl) (prov_cons (rfl) (prov_cons (rfl) (prov_cons (rfl) (prov_cons (rfl) prov_nil))))) (List.Sublist.refl _) ⟨Nat.zero_le _, Le.refl _, ownY, rfl, hJ0⟩ ?_
  rintro a Hl0 _ hle ⟨ha, hH0, oy, rfl, hJ⟩
  replace hs := hs.mono hH0
  replace h1 := h1.mono hH0
  replace h2 := h2.mono hH0
  replace h3 := h3.mono hH0
  refine XC.seq ?_
  refine XC.region ?_
  refine XO.lss rfl rfl rfl ?_
  refine XO.nil ?_
  refine XC.seq2 ?_
  refine XC.seq ?_
  refine XC.cond rfl (fun c0_1 => ?_) (fun c0_1 => ?_)
  · refine XC.skip ?_
    refine XC.seq2 ?_
    refine XC.seq ?_
    refine XC.block ?_
    refine XC.seq ?_
    refine XC.region ?_
    refine XO.move rfl rfl ?_
    refine XO.assign rfl rfl ?_
    refine XO.nil ?_
    refine XC.seq2 ?_
    refine XC.seq ?_
    refine XC.region ?_
    refine XO.move rfl rfl ?_
    refine XO.add rfl rfl (wrap_i64 (by omega) (by omega)) rfl ?_
    refine XO.assign rfl rfl ?_
    refine XO.nil ?_
    refine XC.seq2 ?_
    refine XC.block ?_
    refine XC.keep [6, 0, 1, 2, 3, 5, 8] rfl ?_
    refine XC.loop (base := [(0, _), (1, _), (2, _), (3, _), (5, _), (8, _)]) (fun j : Nat => [(6, .int .i64 ((a + 1 + j : Nat) : Int))]) (fun j Hl own => j ≤ 23 - a ∧ Le Hl0 Hl ∧ ∃ oy, oy ++ rest = own ∧ J ((doneP a ++ (rowP a).take j).filter (keepB n (ch1, ch2) on)) Hl oy) (fun j => 23 - a - j) 0 (prov_cons (provI rfl (by omega)) (prov_cons (rfl) (prov_cons (rfl) (prov_cons (rfl) (prov_cons (rfl) (prov_cons (rfl) (prov_cons (rfl) prov_nil))))))) (List.Sublist.refl _) ⟨Nat.zero_le _, Le.refl _, oy, rfl, by simpa using hJ⟩ ?_
    rintro j Hl _ hlej ⟨hj, hH, oy, rfl, hJ⟩
    replace hs := hs.mono hH
    replace h1 := h1.mono hH
    replace h2 := h2.mono hH
    replace h3 := h3.mono hH
    refine XC.seq ?_
    refine XC.seq ?_
    refine XC.region ?_
    refine XO.move rfl rfl ?_
    refine XO.lss rfl rfl rfl ?_
    refine XO.nil ?_
    refine XC.seq2 ?_
    refine XC.cond rfl (fun c1_2 => ?_) (fun c1_2 => ?_)
    · have hjj : j < 23 - a := by omega
      refine XC.skip ?_
      refine XC.seq2 ?_
      refine XC.seq ?_
      refine XC.block ?_
      refine XC.seq ?_
      refine XC.region ?_
      refine XO.move rfl rfl ?_
      refine XO.move rfl rfl ?_
      refine XO.buildArr Try.underlying58 ty_3 ze_58 rfl rfl rfl ?_
      refine XO.alloc ze_58 rfl (fun b7 => ?_)
      refine XO.storeO 0 rfl rfl rfl rfl ty_58 rfl rfl rfl rfl rfl ?_
      refine XO.nil ?_
      refine XC.seq2 ?_
      refine XC.seq ?_
      refine XC.seq ?_
      refine XC.region ?_
      refine XO.loadO 0 rfl rfl ty_58 rfl rfl rfl ?_
      refine XO.loadH rfl h1 ty_58 rfl rfl rfl ?_
      refine XO.eqlA2 rfl rfl Try.underlying58 eg_58 Try.underlying3 ty_3 rfl ?_
      refine XO.move rfl rfl ?_
      refine XO.guardC rfl rfl rfl rfl (fun g4 => ?_) (fun g4 => ?_)
      · have g4p := of_decide_eq_true g4
        refine XO.loadH rfl h2 ty_4 rfl rfl rfl ?_
        refine XO.guardT rfl rfl (g4) rfl ?_
        refine XO.notB rfl rfl ?_
        refine XO.pickT rfl (g4) rfl rfl ?_
        refine XO.move rfl rfl ?_
        refine XO.guardC rfl rfl rfl rfl (fun g6 => ?_) (fun g6 => ?_)
        · have g6p := g6
          refine XO.loadO 0 rfl rfl ty_58 rfl rfl rfl ?_
          refine XO.guardT rfl rfl (g6) rfl ?_
          refine XO.loadH rfl h1 ty_58 rfl rfl rfl ?_
          refine XO.guardT rfl rfl (g6) rfl ?_
          refine XO.neqA2 rfl rfl Try.underlying58 eg_58 Try.underlying3 ty_3 rfl ?_
          refine XO.guardT rfl rfl (g6) rfl ?_
          refine XO.move rfl rfl ?_
          refine XO.guardC rfl rfl rfl rfl (fun g8 => ?_) (fun g8 => ?_)
          · have g8p := of_decide_eq_true g8
            refine XO.loadH rfl h3 ty_23 rfl rfl rfl ?_
            refine XO.guardT rfl rfl (g8) rfl ?_
            refine XO.loadO 0 rfl rfl ty_58 rfl rfl rfl ?_
            refine XO.guardT rfl rfl (g8) rfl ?_
            refine XO.callV rfl (containsp_fn _ _ _ ((a : Int), ((a + 1 + j : Nat) : Int)) _ hs hl) rfl ?_
            refine XO.guardT rfl rfl (g8) rfl ?_
            refine XO.not rfl rfl ?_
            refine XO.guardT rfl rfl (g6) rfl ?_
            refine XO.pickT rfl (g8) rfl rfl ?_
            refine XO.pickF rfl (g6) rfl rfl ?_
            refine XO.nil ?_
            refine XC.seq2 ?_
            refine XC.condB rfl (fun c2_11 => ?_) (fun c2_11 => ?_)
            · refine XC.exit ?_
              refine seqX_exit ?_
              refine blockHit rfl ?_
              refine XC.seq2 ?_
              refine XC.region ?_
              refine XO.move rfl rfl ?_
              refine XO.add rfl rfl (wrap_i64 (by omega) (by omega)) rfl ?_
              refine XO.assign rfl rfl ?_
              refine XO.nil ?_
              refine loop_next (j + 1) (by omega) (prov_cons (provI rfl (by omega)) (prov_cons (rfl) (prov_cons (rfl) (prov_cons (rfl) (prov_cons (rfl) (prov_cons (rfl) (prov_cons (rfl) prov_nil))))))) (by first | exact ⟨by omega, hH2, oy2, rfl, hJ2⟩ | exact ⟨by omega, hH, oy, rfl, by rw [keep_no hjj (by first | (unfold keepB; simp_all; done) | (unfold keepB; split <;> simp_all))]; exact hJ⟩) (by repeat (first | exact List.Sublist.refl _ | apply List.Sublist.cons)) (by first | exact hlej.trans hleY | exact hlej)
            · refine XC.skip ?_
              refine XC.seq2 ?_
              refine XC.seq ?_
              refine XC.region ?_
              refine XO.move rfl rfl ?_
              refine XO.loadO 0 rfl rfl ty_58 rfl rfl rfl ?_
              have hkf : keepB n (ch1, ch2) on ((a : Int), ((a + 1 + j : Nat) : Int)) = true := by
                unfold keepB
                split
                · rename_i h; first | exact absurd h (by assumption) | (simp_all; done)
                · first | (simp_all; done) | exact absurd (by assumption) (by assumption)
              obtain ⟨post, hpost⟩ := keep_split (f := keepB n (ch1, ch2) on) (show a < 24 by omega) hjj hkf
              refine XO.callVal [_] (ownF := oy) (rst := rest) rfl trivial rfl (hy _ _ post hpost _ oy (hH0.trans hH) hJ) rfl rfl ?_
              rintro u HY oy2 hleY hR
              rw [← keep_yes hjj hkf] at hR
              rcases hR with ⟨rfl, hJ2⟩ | ⟨rfl, hK2⟩
              · have hH2 := hH.trans hleY
                refine XO.notB rfl rfl ?_
                refine XO.nil ?_
                refine XC.seq2 ?_
                refine XC.condF rfl (rfl) ?_
                refine XC.skip ?_
                refine blockN ?_
                refine XC.seq2 ?_
                refine XC.region ?_
                refine XO.move rfl rfl ?_
                refine XO.add rfl rfl (wrap_i64 (by omega) (by omega)) rfl ?_
                refine XO.assign rfl rfl ?_
                refine XO.nil ?_
                refine loop_next (j + 1) (by omega) (prov_cons (provI rfl (by omega)) (prov_cons (rfl) (prov_cons (rfl) (prov_cons (rfl) (prov_cons (rfl) (prov_cons (rfl) (prov_cons (rfl) prov_nil))))))) (by first | exact ⟨by omega, hH2, oy2, rfl, hJ2⟩ | exact ⟨by omega, hH, oy, rfl, by rw [keep_no hjj (by first | (unfold keepB; simp_all; done) | (unfold keepB; split <;> simp_all))]; exact hJ⟩) (by repeat (first | exact List.Sublist.refl _ | apply List.Sublist.cons)) (by first | exact hlej.trans hleY | exact hlej)
              · have hH2 := hH.trans hleY
                refine XO.notB rfl rfl ?_
                refine XO.nil ?_
                refine XC.seq2 ?_
                refine XC.condT rfl (rfl) ?_
                refine XC.ret ?_
                refine blockR ?_
                refine seqX_ret ?_
                refine loopX_ret ?_
                refine blockR ?_
                refine blockR ?_
                refine seqX_ret ?_
                refine loopX_ret ?_
                refine blockR ?_
                exact ⟨rfl, _, oy2, rfl, (by repeat (first | exact List.Sublist.refl _ | apply List.Sublist.cons)), RetR.mk ⟨rfl, [], oy2, rfl, .inr hK2⟩⟩
          · have g8p := of_decide_eq_false g8
            refine XO.guardF rfl rfl (g8) rfl rfl ?_
            refine XO.guardF rfl rfl (g8) rfl rfl ?_
            refine XO.guardF rfl rfl (g8) rfl rfl ?_
            refine XO.guardT rfl rfl (g6) rfl ?_
            refine XO.pickF rfl (g8) rfl rfl ?_
            refine XO.pickF rfl (g6) rfl rfl ?_
            refine XO.nil ?_
            refine XC.seq2 ?_
            refine XC.condF rfl (rfl) ?_
            refine XC.skip ?_
            refine XC.seq2 ?_
            refine XC.seq ?_
            refine XC.region ?_
            refine XO.move rfl rfl ?_
            refine XO.loadO 0 rfl rfl ty_58 rfl rfl rfl ?_
            have hkf : keepB n (ch1, ch2) on ((a : Int), ((a + 1 + j : Nat) : Int)) = true := by
              unfold keepB
              split
              · rename_i h; first | exact absurd h (by assumption) | (simp_all; done)
              · first | (simp_all; done) | exact absurd (by assumption) (by assumption)
            obtain ⟨post, hpost⟩ := keep_split (f := keepB n (ch1, ch2) on) (show a < 24 by omega) hjj hkf
            refine XO.callVal [_] (ownF := oy) (rst := rest) rfl trivial rfl (hy _ _ post hpost _ oy (hH0.trans hH) hJ) rfl rfl ?_
            rintro u HY oy2 hleY hR
            rw [← keep_yes hjj hkf] at hR
            rcases hR with ⟨rfl, hJ2⟩ | ⟨rfl, hK2⟩
            · have hH2 := hH.trans hleY
              refine XO.notB rfl rfl ?_
              refine XO.nil ?_
              refine XC.seq2 ?_
              refine XC.condF rfl (rfl) ?_
              refine XC.skip ?_
              refine blockN ?_
              refine XC.seq2 ?_
              refine XC.region ?_
              refine XO.move rfl rfl ?_
              refine XO.add rfl rfl (wrap_i64 (by omega) (by omega)) rfl ?_
              refine XO.assign rfl rfl ?_
              refine XO.nil ?_
              refine loop_next (j + 1) (by omega) (prov_cons (provI rfl (by omega)) (prov_cons (rfl) (prov_cons (rfl) (prov_cons (rfl) (prov_cons (rfl) (prov_cons (rfl) (prov_cons (rfl) prov_nil))))))) (by first | exact ⟨by omega, hH2, oy2, rfl, hJ2⟩ | exact ⟨by omega, hH, oy, rfl, by rw [keep_no hjj (by first | (unfold keepB; simp_all; done) | (unfold keepB; split <;> simp_all))]; exact hJ⟩) (by repeat (first | exact List.Sublist.refl _ | apply List.Sublist.cons)) (by first | exact hlej.trans hleY | exact hlej)
            · have hH2 := hH.trans hleY
              refine XO.notB rfl rfl ?_
              refine XO.nil ?_
              refine XC.seq2 ?_
              refine XC.condT rfl (rfl) ?_
              refine XC.ret ?_
              refine blockR ?_
              refine seqX_ret ?_
              refine loopX_ret ?_
              refine blockR ?_
              refine blockR ?_
              refine seqX_ret ?_
              refine loopX_ret ?_
              refine blockR ?_
              exact ⟨rfl, _, oy2, rfl, (by repeat (first | exact List.Sublist.refl _ | apply List.Sublist.cons)), RetR.mk ⟨rfl, [], oy2, rfl, .inr hK2⟩⟩
        · have g6p := g6
          refine XO.guardF rfl rfl (g6) rfl rfl ?_
          refine XO.guardF rfl rfl (g6) rfl rfl ?_
          refine XO.guardF rfl rfl (g6) rfl rfl ?_
          refine XO.guardU rfl rfl rfl rfl ?_
          refine XO.guardU rfl rfl rfl rfl ?_
          refine XO.guardU rfl rfl rfl rfl ?_
          refine XO.guardU rfl rfl rfl rfl ?_
          refine XO.guardF rfl rfl (g6) rfl rfl ?_
          refine XO.pickT rfl (g6) rfl rfl ?_
          refine XO.nil ?_
          refine XC.seq2 ?_
          refine XC.condT rfl (rfl) ?_
          refine XC.exit ?_
          refine seqX_exit ?_
          refine blockHit rfl ?_
          refine XC.seq2 ?_
          refine XC.region ?_
          refine XO.move rfl rfl ?_
          refine XO.add rfl rfl (wrap_i64 (by omega) (by omega)) rfl ?_
          refine XO.assign rfl rfl ?_
          refine XO.nil ?_
          refine loop_next (j + 1) (by omega) (prov_cons (provI rfl (by omega)) (prov_cons (rfl) (prov_cons (rfl) (prov_cons (rfl) (prov_cons (rfl) (prov_cons (rfl) (prov_cons (rfl) prov_nil))))))) (by first | exact ⟨by omega, hH2, oy2, rfl, hJ2⟩ | exact ⟨by omega, hH, oy, rfl, by rw [keep_no hjj (by first | (unfold keepB; simp_all; done) | (unfold keepB; split <;> simp_all))]; exact hJ⟩) (by repeat (first | exact List.Sublist.refl _ | apply List.Sublist.cons)) (by first | exact hlej.trans hleY | exact hlej)
      · have g4p := of_decide_eq_false g4
        refine XO.guardF rfl rfl (g4) rfl rfl ?_
        refine XO.pickF rfl (g4) rfl rfl ?_
        refine XO.move rfl rfl ?_
        refine XO.guardT rfl rfl (rfl) rfl ?_
        refine XO.loadO 0 rfl rfl ty_58 rfl rfl rfl ?_
        refine XO.guardT rfl rfl (rfl) rfl ?_
        refine XO.loadH rfl h1 ty_58 rfl rfl rfl ?_
        refine XO.guardT rfl rfl (rfl) rfl ?_
        refine XO.neqA2 rfl rfl Try.underlying58 eg_58 Try.underlying3 ty_3 rfl ?_
        refine XO.guardT rfl rfl (rfl) rfl ?_
        refine XO.move rfl rfl ?_
        refine XO.guardC rfl rfl rfl rfl (fun g13 => ?_) (fun g13 => ?_)
        · have g13p := of_decide_eq_true g13
          refine XO.loadH rfl h3 ty_23 rfl rfl rfl ?_
          refine XO.guardT rfl rfl (g13) rfl ?_
          refine XO.loadO 0 rfl rfl ty_58 rfl rfl rfl ?_
          refine XO.guardT rfl rfl (g13) rfl ?_
          refine XO.callV rfl (containsp_fn _ _ _ ((a : Int), ((a + 1 + j : Nat) : Int)) _ hs hl) rfl ?_
          refine XO.guardT rfl rfl (g13) rfl ?_
          refine XO.not rfl rfl ?_
          refine XO.guardT rfl rfl (rfl) rfl ?_
          refine XO.pickT rfl (g13) rfl rfl ?_
          refine XO.pickF rfl (rfl) rfl rfl ?_
          refine XO.nil ?_
          refine XC.seq2 ?_
          refine XC.condB rfl (fun c2_16 => ?_) (fun c2_16 => ?_)
          · refine XC.exit ?_
            refine seqX_exit ?_
            refine blockHit rfl ?_
            refine XC.seq2 ?_
            refine XC.region ?_
            refine XO.move rfl rfl ?_
            refine XO.add rfl rfl (wrap_i64 (by omega) (by omega)) rfl ?_
            refine XO.assign rfl rfl ?_
            refine XO.nil ?_
            refine loop_next (j + 1) (by omega) (prov_cons (provI rfl (by omega)) (prov_cons (rfl) (prov_cons (rfl) (prov_cons (rfl) (prov_cons (rfl) (prov_cons (rfl) (prov_cons (rfl) prov_nil))))))) (by first | exact ⟨by omega, hH2, oy2, rfl, hJ2⟩ | exact ⟨by omega, hH, oy, rfl, by rw [keep_no hjj (by first | (unfold keepB; simp_all; done) | (unfold keepB; split <;> simp_all))]; exact hJ⟩) (by repeat (first | exact List.Sublist.refl _ | apply List.Sublist.cons)) (by first | exact hlej.trans hleY | exact hlej)
          · refine XC.skip ?_
            refine XC.seq2 ?_
            refine XC.seq ?_
            refine XC.region ?_
            refine XO.move rfl rfl ?_
            refine XO.loadO 0 rfl rfl ty_58 rfl rfl rfl ?_
            have hkf : keepB n (ch1, ch2) on ((a : Int), ((a + 1 + j : Nat) : Int)) = true := by
              unfold keepB
              split
              · rename_i h; first | exact absurd h (by assumption) | (simp_all; done)
              · first | (simp_all; done) | exact absurd (by assumption) (by assumption)
            obtain ⟨post, hpost⟩ := keep_split (f := keepB n (ch1, ch2) on) (show a < 24 by omega) hjj hkf
            refine XO.callVal [_] (ownF := oy) (rst := rest) rfl trivial rfl (hy _ _ post hpost _ oy (hH0.trans hH) hJ) rfl rfl ?_
            rintro u HY oy2 hleY hR
            rw [← keep_yes hjj hkf] at hR
            rcases hR with ⟨rfl, hJ2⟩ | ⟨rfl, hK2⟩
            · have hH2 := hH.trans hleY
              refine XO.notB rfl rfl ?_
              refine XO.nil ?_
              refine XC.seq2 ?_
              refine XC.condF rfl (rfl) ?_
              refine XC.skip ?_
              refine blockN ?_
              refine XC.seq2 ?_
              refine XC.region ?_
              refine XO.move rfl rfl ?_
              refine XO.add rfl rfl (wrap_i64 (by omega) (by omega)) rfl ?_
              refine XO.assign rfl rfl ?_
              refine XO.nil ?_
              refine loop_next (j + 1) (by omega) (prov_cons (provI rfl (by omega)) (prov_cons (rfl) (prov_cons (rfl) (prov_cons (rfl) (prov_cons (rfl) (prov_cons (rfl) (prov_cons (rfl) prov_nil))))))) (by first | exact ⟨by omega, hH2, oy2, rfl, hJ2⟩ | exact ⟨by omega, hH, oy, rfl, by rw [keep_no hjj (by first | (unfold keepB; simp_all; done) | (unfold keepB; split <;> simp_all))]; exact hJ⟩) (by repeat (first | exact List.Sublist.refl _ | apply List.Sublist.cons)) (by first | exact hlej.trans hleY | exact hlej)
            · have hH2 := hH.trans hleY
              refine XO.notB rfl rfl ?_
              refine XO.nil ?_
              refine XC.seq2 ?_
              refine XC.condT rfl (rfl) ?_
              refine XC.ret ?_
              refine blockR ?_
              refine seqX_ret ?_
              refine loopX_ret ?_
              refine blockR ?_
              refine blockR ?_
              refine seqX_ret ?_
              refine loopX_ret ?_
              refine blockR ?_
              exact ⟨rfl, _, oy2, rfl, (by repeat (first | exact List.Sublist.refl _ | apply List.Sublist.cons)), RetR.mk ⟨rfl, [], oy2, rfl, .inr hK2⟩⟩
        · have g13p := of_decide_eq_false g13
          refine XO.guardF rfl rfl (g13) rfl rfl ?_
          refine XO.guardF rfl rfl (g13) rfl rfl ?_
          refine XO.guardF rfl rfl (g13) rfl rfl ?_
          refine XO.guardT rfl rfl (rfl) rfl ?_
          refine XO.pickF rfl (g13) rfl rfl ?_
          refine XO.pickF rfl (rfl) rfl rfl ?_
          refine XO.nil ?_
          refine XC.seq2 ?_
          refine XC.condF rfl (rfl) ?_
          refine XC.skip ?_
          refine XC.seq2 ?_
          refine XC.seq ?_
          refine XC.region ?_
          refine XO.move rfl rfl ?_
          refine XO.loadO 0 rfl rfl ty_58 rfl rfl rfl ?_
          have hkf : keepB n (ch1, ch2) on ((a : Int), ((a + 1 + j : Nat) : Int)) = true := by
            unfold keepB
            split
            · rename_i h; first | exact absurd h (by assumption) | (simp_all; done)
            · first | (simp_all; done) | exact absurd (by assumption) (by assumption)
          obtain ⟨post, hpost⟩ := keep_split (f := keepB n (ch1, ch2) on) (show a < 24 by omega) hjj hkf
          refine XO.callVal [_] (ownF := oy) (rst := rest) rfl trivial rfl (hy _ _ post hpost _ oy (hH0.trans hH) hJ) rfl rfl ?_
          rintro u HY oy2 hleY hR
          rw [← keep_yes hjj hkf] at hR
          rcases hR with ⟨rfl, hJ2⟩ | ⟨rfl, hK2⟩
          · have hH2 := hH.trans hleY
            refine XO.notB rfl rfl ?_
            refine XO.nil ?_
            refine XC.seq2 ?_
            refine XC.condF rfl (rfl) ?_
            refine XC.skip ?_
            refine blockN ?_
            refine XC.seq2 ?_
            refine XC.region ?_
            refine XO.move rfl rfl ?_
            refine XO.add rfl rfl (wrap_i64 (by omega) (by omega)) rfl ?_
            refine XO.assign rfl rfl ?_
            refine XO.nil ?_
            refine loop_next (j + 1) (by omega) (prov_cons (provI rfl (by omega)) (prov_cons (rfl) (prov_cons (rfl) (prov_cons (rfl) (prov_cons (rfl) (prov_cons (rfl) (prov_cons (rfl) prov_nil))))))) (by first | exact ⟨by omega, hH2, oy2, rfl, hJ2⟩ | exact ⟨by omega, hH, oy, rfl, by rw [keep_no hjj (by first | (unfold keepB; simp_all; done) | (unfold keepB; split <;> simp_all))]; exact hJ⟩) (by repeat (first | exact List.Sublist.refl _ | apply List.Sublist.cons)) (by first | exact hlej.trans hleY | exact hlej)
          · have hH2 := hH.trans hleY
            refine XO.notB rfl rfl ?_
            refine XO.nil ?_
            refine XC.seq2 ?_
            refine XC.condT rfl (rfl) ?_
            refine XC.ret ?_
            refine blockR ?_
            refine seqX_ret ?_
            refine loopX_ret ?_
            refine blockR ?_
            refine blockR ?_
            refine seqX_ret ?_
            refine loopX_ret ?_
            refine blockR ?_
            exact ⟨rfl, _, oy2, rfl, (by repeat (first | exact List.Sublist.refl _ | apply List.Sublist.cons)), RetR.mk ⟨rfl, [], oy2, rfl, .inr hK2⟩⟩
    · obtain rfl : j = 23 - a := by omega
      refine XC.exit ?_
      refine seqX_exit ?_
      refine loopX_exit ?_
      refine blockHit rfl ?_
      refine blockN ?_
      refine XC.seq2 ?_
      refine XC.region ?_
      refine XO.add rfl rfl (wrap_i64 (by omega) (by omega)) rfl ?_
      refine XO.move rfl rfl ?_
      refine XO.nil ?_
      refine loop_next (a + 1) (by omega) (prov_cons (rfl) (prov_cons (rfl) (prov_cons (rfl) (prov_cons (rfl) (prov_cons (rfl) prov_nil))))) (⟨by omega, hH0.trans hH, oy, rfl, by rw [← keep_row]; exact hJ⟩) (by repeat (first | exact List.Sublist.refl _ | apply List.Sublist.cons)) (hle.trans hH)
  · obtain rfl : a = 24 := by omega
    refine XC.exit ?_
    refine seqX_exit ?_
    refine loopX_exit ?_
    refine blockHit rfl ?_
    exact ⟨rfl, _, oy, rfl, (by repeat (first | exact List.Sublist.refl _ | apply List.Sublist.cons)), RetR.mk ⟨rfl, [], oy, rfl, .inl hJ⟩⟩

theorem cuts_fn (n : Nt) (ch : Int × Int) (on : Bool) (a0 : Option Addr) (c0 : Nat) (H : Hp) : FnC Try.prog 39 #[.slice a0 n.ap.length c0, .agg ⟨[.int .i64 ch.1, .int .i64 ch.2]⟩, .bool on] H [] (RetR fun v H _ => ∃ b1 b2 b3, v = .func (.func 46) #[] #[.pointer (some ⟨b1, 0, none⟩), .pointer (some ⟨b2, 0, none⟩), .pointer (some ⟨b3, 0, none⟩)] ∧ PtH H b1 0 [.int .i64 ch.1, .int .i64 ch.2] ∧ PtH H b2 0 [.bool on] ∧ PtH H b3 0 [.slice a0 n.ap.length c0]) := by
  refine FnC.intro (args := [.slice a0 n.ap.length c0, .agg ⟨[.int .i64 ch.1, .int .i64 ch.2]⟩, .bool on]) Try.func39 rfl rfl Try.ntmps39 rfl rfl rfl fun G rest => ?_
  refine XC.seq ?_
  refine XC.region ?_
  refine XO.box rfl rfl rfl (fun b3 => ?_)
  refine XO.box rfl rfl rfl (fun b4 => ?_)
  refine XO.box rfl rfl rfl (fun b5 => ?_)
  refine XO.assign rfl rfl ?_
  refine XO.nil ?_
  refine XC.seq2 ?_
  refine XC.seq ?_
  refine XC.region ?_
  refine XO.makeFunc rfl rfl ?_
  refine XO.publish 0 rfl rfl rfl (fun HA o1 hle1 hb1 ho1 => ?_)
  refine XO.publish 0 rfl rfl rfl (fun HB o2 hle2 hb2 ho2 => ?_)
  refine XO.publish 0 rfl rfl rfl (fun HC o3 hle3 hb3 ho3 => ?_)
  refine XO.assign rfl rfl ?_
  refine XO.nil ?_
  refine XC.seq2 ?_
  refine XC.ret ?_
  refine ⟨rfl, _, [], rfl, (by repeat (first | exact List.Sublist.refl _ | apply List.Sublist.cons)), RetR.mk ?_⟩
  exact ⟨_, _, _, rfl, (PtH.of_is hb2 ho2).mono hle3, ((PtH.of_is hb1 ho1).mono hle2).mono hle3, PtH.of_is hb3 ho3⟩

theorem cut_fn (aq ap : Option Addr) (cq cp : Nat) (n : Nt) (a b : Int) (on : Bool) (H : Hp) (hq : SlR pkR H aq cq n.q) (hp : SlR pairR H ap cp n.ap) (hlq : n.q.length < 4611686018427387904) (hlp : n.ap.length < 4611686018427387904) : FnC Try.prog 20 #[.agg ⟨[.slice aq n.q.length cq, .slice ap n.ap.length cp]⟩, .int .i64 a, .int .i64 b, .bool on] H [] (RetR fun v H _ => ∃ v1, v = .tuple #[v1, .int .i64 (cutE n a b)] ∧ NtV H v1 (cutN n a b on)) := by
  refine FnC.introC (args := [.agg ⟨[.slice aq n.q.length cq, .slice ap n.ap.length cp]⟩, .int .i64 a, .int .i64 b, .bool on]) Try.func20 rfl rfl Try.ntmps20 rfl rfl rfl fun G rest => ?_
  refine XC.seq ?_
  refine XC.region ?_
  refine XO.box rfl rfl rfl (fun b4 => ?_)
  refine XO.alloc ze_25 rfl (fun b8 => ?_)
  refine XO.assign rfl rfl ?_
  refine XO.nil ?_
  refine XC.seq2 ?_
  refine XC.seq ?_
  refine XC.seq ?_
  refine XC.region ?_
  refine XO.loadO 1 rfl rfl ty_25 rfl rfl rfl ?_
  refine XO.callV rfl (check_fn _ _ _ _ _ _ (by assumption) (by assumption) (by omega) (by omega)) rfl ?_
  refine XO.neq rfl rfl rfl ?_
  refine XO.nil ?_
  refine XC.seq2 ?_
  refine XC.cond rfl (fun c0_2 => ?_) (fun c0_2 => ?_)
  · refine XC.seq ?_
    refine XC.region ?_
    refine XO.loadO 0 rfl rfl ty_25 rfl rfl rfl ?_
    refine XO.storeO 0 rfl rfl rfl rfl ty_25 rfl rfl rfl rfl rfl ?_
    refine XO.assign rfl rfl ?_
    refine XO.nil ?_
    refine XC.seq2 ?_
    refine XC.ret ?_
    refine seqX_ret ?_
    refine ⟨rfl, _, [], (resC_cell 0 rfl rfl ty_25 rfl rfl (resC_tmp rfl resC_nil)), (by repeat (first | exact List.Sublist.refl _ | apply List.Sublist.cons)), RetR.mk ?_⟩
    have hc : cutE n a b = 60 := if_pos (fun h => absurd (chk_ok h) (by assumption))
    rw [cutN, hc, if_pos (by decide)]
    exact ⟨_, rfl, NtV.nil _⟩
  · have hnet : netOk n := chk_eq.1 (by omega)
    refine XC.skip ?_
    refine XC.seq2 ?_
    refine XC.seq ?_
    refine XC.region ?_
    refine XO.move rfl rfl ?_
    refine XO.move rfl rfl ?_
    refine XO.callV rfl (between_fn _ _ _) rfl ?_
    refine XO.alloc ze_58 rfl (fun b10 => ?_)
    refine XO.storeO 0 rfl rfl rfl rfl ty_58 rfl rfl rfl rfl rfl ?_
    refine XO.nil ?_
    refine XC.seq2 ?_
    refine XC.seq ?_
    refine XC.seq ?_
    refine XC.region ?_
    refine XO.loadO 0 rfl rfl ty_58 rfl rfl rfl ?_
    refine XO.callV rfl (valid_fn (lnk _ _) _) rfl ?_
    refine XO.not rfl rfl ?_
    refine XO.nil ?_
    refine XC.seq2 ?_
    refine XC.cond rfl (fun c1_5 => ?_) (fun c1_5 => ?_)
    · refine XC.seq ?_
      refine XC.region ?_
      refine XO.loadO 1 rfl rfl ty_25 rfl rfl rfl ?_
      refine XO.storeO 1 rfl rfl rfl rfl ty_25 rfl rfl rfl rfl rfl ?_
      refine XO.assign rfl rfl ?_
      refine XO.nil ?_
      refine XC.seq2 ?_
      refine XC.ret ?_
      refine seqX_ret ?_
      refine ⟨rfl, _, [], (resC_cell 1 rfl rfl ty_25 rfl rfl (resC_tmp rfl resC_nil)), (by repeat (first | exact List.Sublist.refl _ | apply List.Sublist.cons)), RetR.mk ?_⟩
      have hc : cutE n a b = 1 := by rw [cutE, if_neg (fun h => h hnet), if_pos (fun h => by first | exact absurd h.1 (by assumption) | exact absurd h.2.1 (by assumption) | exact absurd (by assumption) h.2.2 | exact absurd ((link_site a b).2 h) (by assumption))]
      rw [cutN, hc, if_pos (by decide)]
      exact ⟨_, rfl, NtV.nil _⟩
    · have hsite := (link_site a b).1 (Decidable.not_not.1 (by assumption))
      refine XC.skip ?_
      refine XC.seq2 ?_
      refine XC.seq ?_
      refine XC.region ?_
      refine XO.fieldAddr rfl fa_25_0 rfl ?_
      refine XO.loadO 2 rfl rfl ty_22 rfl rfl rfl ?_
      refine XO.build bk_25 bf_25 ze_25 rfl rfl rfl ?_
      refine XO.storeO 1 rfl rfl rfl rfl ty_25 rfl rfl rfl rfl rfl ?_
      refine XO.nil ?_
      refine XC.seq2 ?_
      refine XC.seq ?_
      refine XC.seq ?_
      refine XC.region ?_
      refine XO.fieldAddr rfl fa_25_1 rfl ?_
      refine XO.loadO 2 rfl rfl ty_23 rfl rfl rfl ?_
      refine XO.loadO 0 rfl rfl ty_58 rfl rfl rfl ?_
      refine XO.move rfl rfl ?_
      refine XO.callH rfl (cuts_fn n _ _ _ _ _) rfl ?_
      rintro _ HV hleV ⟨bv1, bv2, bv3, rfl, hv1, hv2, hv3⟩
      replace hq := hq.mono hleV
      replace hp := hp.mono hleV
      refine XO.nil ?_
      refine XC.seq2 ?_
      refine XC.block ?_
      refine XC.keep [8, 30] rfl ?_
      refine XC.open0 0 ?_
      refine XC.rangeFunc (enc := fun p : Int × Int => [.agg ⟨[.int .i64 p.1, .int .i64 p.2]⟩]) rfl (cuts_seq n _ _ _ _ _ _ _ _ hp hlp hv1 hv2 hv3) (fun _ => rfl) rfl rfl (fun pre Hl own => ∃ p a1 c1, p :: (b10, .cells 58 [.int .i64 (lnk a b).1, .int .i64 (lnk a b).2]) :: (b8, .cells 25 [.slice aq n.q.length cq, .slice a1 pre.length c1]) :: (b4, .cells 25 [.slice aq n.q.length cq, .slice ap n.ap.length cp]) :: rest = own ∧ Acc pairR 55 Hl p a1 c1 pre) (fun _ _ _ => False) (⟨(0, .nothing), none, 0, rfl, Acc.nil _ _ _ _⟩) (.inl rfl) ?_ ?_ ?_
      · rintro G lp hd1 hd2 hrec pre x post hxs Hl ownL hleL ⟨p, a1, c1, rfl, hacc⟩
        have hlen : pre.length + 1 ≤ 276 := by have h := congrArg List.length hxs; have h2 := List.length_filter_le (keepB n (lnk a b) on) allP; rw [allP_len] at h2; unfold cutL at h; rw [h] at h2; simp at h2; omega
        replace hq := hq.mono hleL
        replace hp := hp.mono hleL
        replace hv1 := hv1.mono hleL
        replace hv2 := hv2.mono hleL
        replace hv3 := hv3.mono hleL
        refine XC.region ?_
        refine XO.alloc ze_55 rfl (fun b11 => ?_)
        refine XO.storeO 0 rfl rfl rfl rfl ty_55 rfl rfl rfl rfl rfl ?_
        refine XO.nil ?_
        refine assignN ?_
        refine XC.block ?_
        refine XC.region ?_
        refine XO.fieldAddr rfl fa_25_1 rfl ?_
        refine XO.loadO 3 rfl rfl ty_23 rfl rfl rfl ?_
        refine XO.loadO 0 rfl rfl ty_55 rfl rfl rfl ?_
        refine XO.buildSlice rfl Try.underlying23 ty_55 ze_55 rfl rfl rfl (fun b35 => ?_)
        refine XO.publish 0 rfl rfl rfl (fun HP35 oP35 hleP35 hbP35 hoP35 => ?_)
        have hsl35 := SlR.lit (ρ := pairR) (l := [x]) hbP35 hoP35 (RowsR.one1 rfl)
        replace hq := hq.mono hleP35
        replace hp := hp.mono hleP35
        replace hv1 := hv1.mono hleP35
        replace hv2 := hv2.mono hleP35
        replace hv3 := hv3.mono hleP35
        replace hacc := hacc.mono hleP35
        refine XO.appendA 1 rfl rfl hacc rfl rfl hsl35 rfl Try.underlying23 ty_55 ze_55 rfl by_55 (by simp; omega) rfl (fun p36 a36 c36 hacc36 => ?_)
        refine XO.fieldAddr rfl fa_25_1 rfl ?_
        refine XO.storeO 3 rfl rfl rfl rfl ty_23 rfl rfl rfl rfl rfl ?_
        refine XO.nil ?_
        refine blockN ?_
        refine ⟨rfl, (p36 :: (b10, .cells 58 [.int .i64 (lnk a b).1, .int .i64 (lnk a b).2]) :: (b8, .cells 25 [.slice aq n.q.length cq, .slice a36 (pre ++ [x]).length c36]) :: (b4, .cells 25 [.slice aq n.q.length cq, .slice ap n.ap.length cp]) :: rest), (by repeat (first | exact List.Sublist.refl _ | apply List.Sublist.cons)), ?_⟩
        exact ⟨p36, a36, c36, rfl, hacc36⟩
      · rintro Hl ownL hleL ⟨p, a1, c1, rfl, hacc⟩
        replace hq := hq.mono hleL
        replace hp := hp.mono hleL
        replace hv1 := hv1.mono hleL
        replace hv2 := hv2.mono hleL
        replace hv3 := hv3.mono hleL
        refine blockN ?_
        refine XC.seq2 ?_
        refine XC.seq ?_
        refine XC.region ?_
        refine XO.publishA 0 rfl hacc rfl (fun HQ hleQ hsQ => ?_)
        replace hq := hq.mono hleQ
        replace hp := hp.mono hleQ
        replace hv1 := hv1.mono hleQ
        replace hv2 := hv2.mono hleQ
        replace hv3 := hv3.mono hleQ
        refine XO.loadO 1 rfl rfl ty_25 rfl rfl rfl ?_
        refine XO.storeO 1 rfl rfl rfl rfl ty_25 rfl rfl rfl rfl rfl ?_
        refine XO.assign rfl rfl ?_
        refine XO.nil ?_
        refine XC.seq2 ?_
        refine XC.ret ?_
        refine ⟨rfl, _, [], (resC_cell 1 rfl rfl ty_25 rfl rfl (resC_tmp rfl resC_nil)), (by repeat (first | exact List.Sublist.refl _ | apply List.Sublist.cons)), RetR.mk ?_⟩
        have hc : cutE n a b = 0 := by rw [cutE, if_neg (fun h => h hnet), if_neg (fun h => h hsite)]
        rw [cutN, hc, if_neg (by decide)]
        exact ⟨_, rfl, _, _, _, _, rfl, by assumption, by assumption⟩
      · rintro c Hl ownL hleL hK
        exact hK.elim

set_option maxRecDepth 100000 in
set_option maxHeartbeats 1600000 in
theorem rcut_fn (aq ap : Option Addr) (cq cp : Nat) (n : Nt) (a b : Int) (on : Bool) (H : Hp) (hq : SlR pkR H aq cq n.q) (hp : SlR pairR H ap cp n.ap) (hlq : n.q.length < 4611686018427387904) (hlp : n.ap.length < 4611686018427387904) : FnC Try.prog 21 #[.agg ⟨[.slice aq n.q.length cq, .slice ap n.ap.length cp]⟩, .int .i64 a, .int .i64 b, .bool on] H [] (RetR fun v H _ => ∃ v1, v = .tuple #[v1, .int .i64 (cutE n a b)] ∧ NtV H v1 (cutN n a b on)) := by
  refine FnC.introC (args := [.agg ⟨[.slice aq n.q.length cq, .slice ap n.ap.length cp]⟩, .int .i64 a, .int .i64 b, .bool on]) Try.func21 rfl rfl Try.ntmps21 rfl rfl rfl fun G rest => ?_
  refine XC.seq ?_
  refine XC.region ?_
  refine XO.box rfl rfl rfl (fun b4 => ?_)
  refine XO.alloc ze_25 rfl (fun b8 => ?_)
  refine XO.assign rfl rfl ?_
  refine XO.nil ?_
  refine XC.seq2 ?_
  refine XC.seq ?_
  refine XC.seq ?_
  refine XC.region ?_
  refine XO.loadO 1 rfl rfl ty_25 rfl rfl rfl ?_
  refine XO.callV rfl (rcheck_fn _ _ _ _ _ _ (by assumption) (by assumption) (by omega) (by omega)) rfl ?_
  refine XO.neq rfl rfl rfl ?_
  refine XO.nil ?_
  refine XC.seq2 ?_
  refine XC.cond rfl (fun c0_2 => ?_) (fun c0_2 => ?_)
  · refine XC.seq ?_
    refine XC.region ?_
    refine XO.build bk_25 bf_25 ze_25 rfl rfl rfl ?_
    refine XO.storeO 0 rfl rfl rfl rfl ty_25 rfl rfl rfl rfl rfl ?_
    refine XO.assign rfl rfl ?_
    refine XO.nil ?_
    refine XC.seq2 ?_
    refine XC.ret ?_
    refine seqX_ret ?_
    refine ⟨rfl, _, [], (resC_cell 0 rfl rfl ty_25 rfl rfl (resC_tmp rfl resC_nil)), (by repeat (first | exact List.Sublist.refl _ | apply List.Sublist.cons)), RetR.mk ?_⟩
    have hc : cutE n a b = 60 := if_pos (fun h => absurd (chk_ok h) (by assumption))
    rw [cutN, hc, if_pos (by decide)]
    exact ⟨_, rfl, NtV.nil _⟩
  · have hnet : netOk n := chk_eq.1 (by omega)
    refine XC.skip ?_
    refine XC.seq2 ?_
    refine XC.seq ?_
    refine XC.seq ?_
    refine XC.region ?_
    refine XO.move rfl rfl ?_
    refine XO.callV rfl (site_fn _ _) rfl ?_
    refine XO.not rfl rfl ?_
    refine XO.move rfl rfl ?_
    refine XO.guardC rfl rfl rfl rfl (fun g4 => ?_) (fun g4 => ?_)
    · have g4p := of_decide_eq_false g4
      refine XO.move rfl rfl ?_
      refine XO.guardT rfl rfl (g4) rfl ?_
      refine XO.callV rfl (site_fn _ _) rfl ?_
      refine XO.guardT rfl rfl (g4) rfl ?_
      refine XO.not rfl rfl ?_
      refine XO.pickF rfl (g4) rfl rfl ?_
      refine XO.move rfl rfl ?_
      refine XO.guardC rfl rfl rfl rfl (fun g6 => ?_) (fun g6 => ?_)
      · have g6p := of_decide_eq_false g6
        refine XO.move rfl rfl ?_
        refine XO.guardT rfl rfl (g6) rfl ?_
        refine XO.move rfl rfl ?_
        refine XO.guardT rfl rfl (g6) rfl ?_
        refine XO.eql rfl rfl rfl ?_
        refine XO.pickF rfl (g6) rfl rfl ?_
        refine XO.nil ?_
        refine XC.seq2 ?_
        refine XC.cond rfl (fun c1_7 => ?_) (fun c1_7 => ?_)
        · refine XC.seq ?_
          refine XC.region ?_
          refine XO.build bk_25 bf_25 ze_25 rfl rfl rfl ?_
          refine XO.storeO 0 rfl rfl rfl rfl ty_25 rfl rfl rfl rfl rfl ?_
          refine XO.assign rfl rfl ?_
          refine XO.nil ?_
          refine XC.seq2 ?_
          refine XC.ret ?_
          refine seqX_ret ?_
          refine ⟨rfl, _, [], (resC_cell 0 rfl rfl ty_25 rfl rfl (resC_tmp rfl resC_nil)), (by repeat (first | exact List.Sublist.refl _ | apply List.Sublist.cons)), RetR.mk ?_⟩
          have hc : cutE n a b = 1 := by rw [cutE, if_neg (fun h => h hnet), if_pos (fun h => by first | exact absurd h.1 (by assumption) | exact absurd h.2.1 (by assumption) | exact absurd (by assumption) h.2.2 | exact absurd ((link_site a b).2 h) (by assumption))]
          rw [cutN, hc, if_pos (by decide)]
          exact ⟨_, rfl, NtV.nil _⟩
        · have hsite : site a ∧ site b ∧ a ≠ b := ⟨Decidable.not_not.1 (by assumption), Decidable.not_not.1 (by assumption), by assumption⟩
          refine XC.skip ?_
          refine XC.seq2 ?_
          refine XC.seq ?_
          refine XC.region ?_
          refine XO.assign rfl rfl ?_
          refine XO.nil ?_
          refine XC.seq2 ?_
          refine XC.seq ?_
          refine XC.seq ?_
          refine XC.region ?_
          refine XO.assign rfl rfl ?_
          refine XO.nil ?_
          refine XC.seq2 ?_
          refine XC.block ?_
          refine XC.keep [10, 11, 1, 2, 3, 4, 8] rfl ?_
          refine XC.open0 0 ?_
          refine XC.loop (base := [(1, _), (2, _), (3, _), (4, _), (8, _)]) (fun ζ : Nat × ((Nat × SObj) × Option Addr × Nat) => [(10, .slice ζ.2.2.1 ((doneP (ζ.1)).filter (keepB n (lnk a b) on)).length ζ.2.2.2), (11, .int .i64 (ζ.1 : Nat))]) (fun ζ Hl own => ζ.1 ≤ 24 ∧ ζ.2.1 :: (b8, .cells 25 [.slice none 0 0, .slice none 0 0]) :: (b4, .cells 25 [.slice aq n.q.length cq, .slice ap n.ap.length cp]) :: rest = own ∧ Acc pairR 55 Hl ζ.2.1 ζ.2.2.1 ζ.2.2.2 ((doneP (ζ.1)).filter (keepB n (lnk a b) on))) (fun ζ => 24 - ζ.1) (0, ((0, .nothing), none, 0)) (prov_cons (rfl) (prov_cons (rfl) (prov_cons (rfl) (prov_cons (rfl) (prov_cons (rfl) (prov_cons (rfl) (prov_cons (rfl) prov_nil))))))) (by repeat (first | exact List.Sublist.refl _ | apply List.Sublist.cons_cons | apply List.Sublist.cons)) ⟨Nat.zero_le _, rfl, Acc.nil _ _ _ _⟩ ?_
          rintro ⟨x, ⟨po, ao, co⟩⟩ Hl0 _ hle0 ⟨hkx, rfl, hacco⟩
          replace hq := hq.mono hle0
          replace hp := hp.mono hle0
          try dsimp only at hkx hacco ⊢
          refine XC.seq ?_
          refine XC.seq ?_
          refine XC.region ?_
          refine XO.move rfl rfl ?_
          refine XO.lss rfl rfl rfl ?_
          refine XO.nil ?_
          refine XC.seq2 ?_
          refine XC.cond rfl (fun c2_8 => ?_) (fun c2_8 => ?_)
          · refine XC.skip ?_
            refine XC.seq2 ?_
            refine XC.seq ?_
            refine XC.block ?_
            refine XC.seq ?_
            refine XC.region ?_
            refine XO.move rfl rfl ?_
            refine XO.add rfl rfl (wrap_i64 (by omega) (by omega)) rfl ?_
            refine XO.assign rfl rfl ?_
            refine XO.nil ?_
            refine XC.seq2 ?_
            refine XC.block ?_
            refine XC.keep [10, 12, 1, 2, 3, 4, 8, 11] rfl ?_
            refine XC.loop (base := [(1, _), (2, _), (3, _), (4, _), (8, _), (11, _)]) (fun ζ : Nat × ((Nat × SObj) × Option Addr × Nat) => [(10, .slice ζ.2.2.1 ((doneP x ++ (rowP x).take (ζ.1)).filter (keepB n (lnk a b) on)).length ζ.2.2.2), (12, .int .i64 ((x + 1 + ζ.1 : Nat) : Int))]) (fun ζ Hl own => ζ.1 ≤ 23 - x ∧ ζ.2.1 :: (b8, .cells 25 [.slice none 0 0, .slice none 0 0]) :: (b4, .cells 25 [.slice aq n.q.length cq, .slice ap n.ap.length cp]) :: rest = own ∧ Acc pairR 55 Hl ζ.2.1 ζ.2.2.1 ζ.2.2.2 ((doneP x ++ (rowP x).take (ζ.1)).filter (keepB n (lnk a b) on))) (fun ζ => 23 - x - ζ.1) (0, (po, ao, co)) (prov_cons (by rw [List.take_zero, List.append_nil]; rfl) (prov_cons (provI rfl (by omega)) (prov_cons (rfl) (prov_cons (rfl) (prov_cons (rfl) (prov_cons (rfl) (prov_cons (rfl) (prov_cons (rfl) prov_nil)))))))) (by repeat (first | exact List.Sublist.refl _ | apply List.Sublist.cons_cons | apply List.Sublist.cons)) ⟨Nat.zero_le _, rfl, (by rw [List.take_zero, List.append_nil]; exact hacco)⟩ ?_
            rintro ⟨j, ⟨pu, au, cu⟩⟩ Hl1 _ hle1 ⟨hkj, rfl, haccu⟩
            replace hq := hq.mono hle1
            replace hp := hp.mono hle1
            replace hle0 := hle0.trans hle1
            try dsimp only at hkj haccu ⊢
            refine XC.seq ?_
            refine XC.seq ?_
            refine XC.region ?_
            refine XO.move rfl rfl ?_
            refine XO.lss rfl rfl rfl ?_
            refine XO.nil ?_
            refine XC.seq2 ?_
            refine XC.cond rfl (fun c3_9 => ?_) (fun c3_9 => ?_)
            · have hjj : j < 23 - x := by omega
              refine XC.skip ?_
              refine XC.seq2 ?_
              refine XC.seq ?_
              refine XC.block ?_
              refine XC.seq ?_
              refine XC.region ?_
              refine XO.loadO 2 rfl rfl ty_25 rfl rfl rfl ?_
              refine XO.move rfl rfl ?_
              refine XO.move rfl rfl ?_
              refine XO.callV rfl (isCut_fn _ _ _ _ n _ _ _ hq hp hlq hlp) rfl ?_
              refine XO.assign rfl rfl ?_
              refine XO.nil ?_
              refine XC.seq2 ?_
              refine XC.seq ?_
              refine XC.seq ?_
              refine XC.region ?_
              refine XO.move rfl rfl ?_
              refine XO.move rfl rfl ?_
              refine XO.move rfl rfl ?_
              refine XO.minI2 rfl rfl rfl ?_
              refine XO.eql rfl rfl rfl ?_
              refine XO.move rfl rfl ?_
              refine XO.guardC rfl rfl rfl rfl (fun g11 => ?_) (fun g11 => ?_)
              · have g11p := of_decide_eq_true g11
                refine XO.move rfl rfl ?_
                refine XO.guardT rfl rfl (g11) rfl ?_
                refine XO.move rfl rfl ?_
                refine XO.guardT rfl rfl (g11) rfl ?_
                refine XO.move rfl rfl ?_
                refine XO.guardT rfl rfl (g11) rfl ?_
                refine XO.maxI2 rfl rfl rfl ?_
                refine XO.guardT rfl rfl (g11) rfl ?_
                refine XO.eql rfl rfl rfl ?_
                refine XO.pickT rfl (g11) rfl rfl ?_
                refine XO.nil ?_
                refine XC.seq2 ?_
                refine XC.cond rfl (fun c4_12 => ?_) (fun c4_12 => ?_)
                · refine XC.region ?_
                  refine XO.move rfl rfl ?_
                  refine XO.assign rfl rfl ?_
                  refine XO.nil ?_
                  refine XC.seq2 ?_
                  refine XC.seq ?_
                  refine XC.region ?_
                  refine XO.move rfl rfl ?_
                  refine XO.nil ?_
                  refine XC.seq2 ?_
                  refine XC.condB rfl (fun c5_13 => ?_) (fun c5_13 => ?_)
                  · refine XC.region ?_
                    refine XO.move rfl rfl ?_
                    refine XO.move rfl rfl ?_
                    refine XO.move rfl rfl ?_
                    refine XO.buildArr Try.underlying55 ty_3 ze_55 rfl rfl rfl ?_
                    refine XO.buildSlice rfl Try.underlying23 ty_55 ze_55 rfl rfl rfl (fun b64 => ?_)
                    refine XO.publish 0 rfl rfl rfl (fun HP64 oP64 hleP64 hbP64 hoP64 => ?_)
                    have hsl64 := SlR.lit (ρ := pairR) (l := [((x : Int), ((x + 1 + j : Nat) : Int))]) hbP64 hoP64 (RowsR.one1 rfl)
                    replace hq := hq.mono hleP64
                    replace hp := hp.mono hleP64
                    replace haccu := haccu.mono hleP64
                    replace hle0 := hle0.trans hleP64
                    replace hle1 := hle1.trans hleP64
                    refine XO.appendA 0 rfl rfl haccu rfl rfl hsl64 rfl Try.underlying23 ty_55 ze_55 rfl by_55 (by have h2 := pre_len (show x < 24 by omega) hjj (keepB n (lnk a b) on); simp only [List.length_singleton]; omega) rfl (fun p65 a65 c65 hacc65 => ?_)
                    refine XO.assign rfl rfl ?_
                    refine XO.nil ?_
                    refine blockN ?_
                    refine XC.seq2 ?_
                    refine XC.region ?_
                    refine XO.move rfl rfl ?_
                    refine XO.add rfl rfl (wrap_i64 (by omega) (by omega)) rfl ?_
                    refine XO.assign rfl rfl ?_
                    refine XO.nil ?_
                    refine loop_next ((j + 1, (p65, a65, c65))) (by show 23 - x - (j + 1) < 23 - x - j; omega) (prov_cons (by first | rfl | (rw [keep_yes hjj (by rw [keep_eq (by omega)]; first | (rw [if_pos ⟨by omega, by omega⟩]; assumption) | (rw [if_neg (by omega)]; assumption))]; rfl) | (rw [keep_no hjj (by rw [keep_eq (by omega)]; first | (rw [if_pos ⟨by omega, by omega⟩]; assumption) | (rw [if_neg (by omega)]; assumption))]; rfl)) (prov_cons (provI rfl (by omega)) (prov_cons (rfl) (prov_cons (rfl) (prov_cons (rfl) (prov_cons (rfl) (prov_cons (rfl) (prov_cons (rfl) prov_nil)))))))) (⟨by show j + 1 ≤ 23 - x; omega, rfl, by first | (exact hacc65) | (rw [keep_yes hjj (by rw [keep_eq (by omega)]; first | (rw [if_pos ⟨by omega, by omega⟩]; assumption) | (rw [if_neg (by omega)]; assumption))]; exact hacc65) | (rw [keep_no hjj (by rw [keep_eq (by omega)]; first | (rw [if_pos ⟨by omega, by omega⟩]; assumption) | (rw [if_neg (by omega)]; assumption))]; exact hacc65)⟩) (by repeat (first | exact List.Sublist.refl _ | apply List.Sublist.cons_cons | apply List.Sublist.cons)) (hle1)
                  · refine XC.skip ?_
                    refine blockN ?_
                    refine XC.seq2 ?_
                    refine XC.region ?_
                    refine XO.move rfl rfl ?_
                    refine XO.add rfl rfl (wrap_i64 (by omega) (by omega)) rfl ?_
                    refine XO.assign rfl rfl ?_
                    refine XO.nil ?_
                    refine loop_next ((j + 1, (pu, au, cu))) (by show 23 - x - (j + 1) < 23 - x - j; omega) (prov_cons (by first | rfl | (rw [keep_yes hjj (by rw [keep_eq (by omega)]; first | (rw [if_pos ⟨by omega, by omega⟩]; assumption) | (rw [if_neg (by omega)]; assumption))]; rfl) | (rw [keep_no hjj (by rw [keep_eq (by omega)]; first | (rw [if_pos ⟨by omega, by omega⟩]; assumption) | (rw [if_neg (by omega)]; assumption))]; rfl)) (prov_cons (provI rfl (by omega)) (prov_cons (rfl) (prov_cons (rfl) (prov_cons (rfl) (prov_cons (rfl) (prov_cons (rfl) (prov_cons (rfl) prov_nil)))))))) (⟨by show j + 1 ≤ 23 - x; omega, rfl, by first | (exact haccu) | (rw [keep_yes hjj (by rw [keep_eq (by omega)]; first | (rw [if_pos ⟨by omega, by omega⟩]; assumption) | (rw [if_neg (by omega)]; assumption))]; exact haccu) | (rw [keep_no hjj (by rw [keep_eq (by omega)]; first | (rw [if_pos ⟨by omega, by omega⟩]; assumption) | (rw [if_neg (by omega)]; assumption))]; exact haccu)⟩) (by repeat (first | exact List.Sublist.refl _ | apply List.Sublist.cons_cons | apply List.Sublist.cons)) (hle1)
                · refine XC.skip ?_
                  refine XC.seq2 ?_
                  refine XC.seq ?_
                  refine XC.region ?_
                  refine XO.move rfl rfl ?_
                  refine XO.nil ?_
                  refine XC.seq2 ?_
                  refine XC.condB rfl (fun c5_15 => ?_) (fun c5_15 => ?_)
                  · refine XC.region ?_
                    refine XO.move rfl rfl ?_
                    refine XO.move rfl rfl ?_
                    refine XO.move rfl rfl ?_
                    refine XO.buildArr Try.underlying55 ty_3 ze_55 rfl rfl rfl ?_
                    refine XO.buildSlice rfl Try.underlying23 ty_55 ze_55 rfl rfl rfl (fun b64 => ?_)
                    refine XO.publish 0 rfl rfl rfl (fun HP64 oP64 hleP64 hbP64 hoP64 => ?_)
                    have hsl64 := SlR.lit (ρ := pairR) (l := [((x : Int), ((x + 1 + j : Nat) : Int))]) hbP64 hoP64 (RowsR.one1 rfl)
                    replace hq := hq.mono hleP64
                    replace hp := hp.mono hleP64
                    replace haccu := haccu.mono hleP64
                    replace hle0 := hle0.trans hleP64
                    replace hle1 := hle1.trans hleP64
                    refine XO.appendA 0 rfl rfl haccu rfl rfl hsl64 rfl Try.underlying23 ty_55 ze_55 rfl by_55 (by have h2 := pre_len (show x < 24 by omega) hjj (keepB n (lnk a b) on); simp only [List.length_singleton]; omega) rfl (fun p65 a65 c65 hacc65 => ?_)
                    refine XO.assign rfl rfl ?_
                    refine XO.nil ?_
                    refine blockN ?_
                    refine XC.seq2 ?_
                    refine XC.region ?_
                    refine XO.move rfl rfl ?_
                    refine XO.add rfl rfl (wrap_i64 (by omega) (by omega)) rfl ?_
                    refine XO.assign rfl rfl ?_
                    refine XO.nil ?_
                    refine loop_next ((j + 1, (p65, a65, c65))) (by show 23 - x - (j + 1) < 23 - x - j; omega) (prov_cons (by first | rfl | (rw [keep_yes hjj (by rw [keep_eq (by omega)]; first | (rw [if_pos ⟨by omega, by omega⟩]; assumption) | (rw [if_neg (by omega)]; assumption))]; rfl) | (rw [keep_no hjj (by rw [keep_eq (by omega)]; first | (rw [if_pos ⟨by omega, by omega⟩]; assumption) | (rw [if_neg (by omega)]; assumption))]; rfl)) (prov_cons (provI rfl (by omega)) (prov_cons (rfl) (prov_cons (rfl) (prov_cons (rfl) (prov_cons (rfl) (prov_cons (rfl) (prov_cons (rfl) prov_nil)))))))) (⟨by show j + 1 ≤ 23 - x; omega, rfl, by first | (exact hacc65) | (rw [keep_yes hjj (by rw [keep_eq (by omega)]; first | (rw [if_pos ⟨by omega, by omega⟩]; assumption) | (rw [if_neg (by omega)]; assumption))]; exact hacc65) | (rw [keep_no hjj (by rw [keep_eq (by omega)]; first | (rw [if_pos ⟨by omega, by omega⟩]; assumption) | (rw [if_neg (by omega)]; assumption))]; exact hacc65)⟩) (by repeat (first | exact List.Sublist.refl _ | apply List.Sublist.cons_cons | apply List.Sublist.cons)) (hle1)
                  · refine XC.skip ?_
                    refine blockN ?_
                    refine XC.seq2 ?_
                    refine XC.region ?_
                    refine XO.move rfl rfl ?_
                    refine XO.add rfl rfl (wrap_i64 (by omega) (by omega)) rfl ?_
                    refine XO.assign rfl rfl ?_
                    refine XO.nil ?_
                    refine loop_next ((j + 1, (pu, au, cu))) (by show 23 - x - (j + 1) < 23 - x - j; omega) (prov_cons (by first | rfl | (rw [keep_yes hjj (by rw [keep_eq (by omega)]; first | (rw [if_pos ⟨by omega, by omega⟩]; assumption) | (rw [if_neg (by omega)]; assumption))]; rfl) | (rw [keep_no hjj (by rw [keep_eq (by omega)]; first | (rw [if_pos ⟨by omega, by omega⟩]; assumption) | (rw [if_neg (by omega)]; assumption))]; rfl)) (prov_cons (provI rfl (by omega)) (prov_cons (rfl) (prov_cons (rfl) (prov_cons (rfl) (prov_cons (rfl) (prov_cons (rfl) (prov_cons (rfl) prov_nil)))))))) (⟨by show j + 1 ≤ 23 - x; omega, rfl, by first | (exact haccu) | (rw [keep_yes hjj (by rw [keep_eq (by omega)]; first | (rw [if_pos ⟨by omega, by omega⟩]; assumption) | (rw [if_neg (by omega)]; assumption))]; exact haccu) | (rw [keep_no hjj (by rw [keep_eq (by omega)]; first | (rw [if_pos ⟨by omega, by omega⟩]; assumption) | (rw [if_neg (by omega)]; assumption))]; exact haccu)⟩) (by repeat (first | exact List.Sublist.refl _ | apply List.Sublist.cons_cons | apply List.Sublist.cons)) (hle1)
              · have g11p := of_decide_eq_false g11
                refine XO.guardF rfl rfl (g11) rfl rfl ?_
                refine XO.guardF rfl rfl (g11) rfl rfl ?_
                refine XO.guardF rfl rfl (g11) rfl rfl ?_
                refine XO.guardF rfl rfl (g11) rfl rfl ?_
                refine XO.pickF rfl (g11) rfl rfl ?_
                refine XO.nil ?_
                refine XC.seq2 ?_
                refine XC.condF rfl (rfl) ?_
                refine XC.skip ?_
                refine XC.seq2 ?_
                refine XC.seq ?_
                refine XC.region ?_
                refine XO.move rfl rfl ?_
                refine XO.nil ?_
                refine XC.seq2 ?_
                refine XC.condB rfl (fun c5_17 => ?_) (fun c5_17 => ?_)
                · refine XC.region ?_
                  refine XO.move rfl rfl ?_
                  refine XO.move rfl rfl ?_
                  refine XO.move rfl rfl ?_
                  refine XO.buildArr Try.underlying55 ty_3 ze_55 rfl rfl rfl ?_
                  refine XO.buildSlice rfl Try.underlying23 ty_55 ze_55 rfl rfl rfl (fun b64 => ?_)
                  refine XO.publish 0 rfl rfl rfl (fun HP64 oP64 hleP64 hbP64 hoP64 => ?_)
                  have hsl64 := SlR.lit (ρ := pairR) (l := [((x : Int), ((x + 1 + j : Nat) : Int))]) hbP64 hoP64 (RowsR.one1 rfl)
                  replace hq := hq.mono hleP64
                  replace hp := hp.mono hleP64
                  replace haccu := haccu.mono hleP64
                  replace hle0 := hle0.trans hleP64
                  replace hle1 := hle1.trans hleP64
                  refine XO.appendA 0 rfl rfl haccu rfl rfl hsl64 rfl Try.underlying23 ty_55 ze_55 rfl by_55 (by have h2 := pre_len (show x < 24 by omega) hjj (keepB n (lnk a b) on); simp only [List.length_singleton]; omega) rfl (fun p65 a65 c65 hacc65 => ?_)
                  refine XO.assign rfl rfl ?_
                  refine XO.nil ?_
                  refine blockN ?_
                  refine XC.seq2 ?_
                  refine XC.region ?_
                  refine XO.move rfl rfl ?_
                  refine XO.add rfl rfl (wrap_i64 (by omega) (by omega)) rfl ?_
                  refine XO.assign rfl rfl ?_
                  refine XO.nil ?_
                  refine loop_next ((j + 1, (p65, a65, c65))) (by show 23 - x - (j + 1) < 23 - x - j; omega) (prov_cons (by first | rfl | (rw [keep_yes hjj (by rw [keep_eq (by omega)]; first | (rw [if_pos ⟨by omega, by omega⟩]; assumption) | (rw [if_neg (by omega)]; assumption))]; rfl) | (rw [keep_no hjj (by rw [keep_eq (by omega)]; first | (rw [if_pos ⟨by omega, by omega⟩]; assumption) | (rw [if_neg (by omega)]; assumption))]; rfl)) (prov_cons (provI rfl (by omega)) (prov_cons (rfl) (prov_cons (rfl) (prov_cons (rfl) (prov_cons (rfl) (prov_cons (rfl) (prov_cons (rfl) prov_nil)))))))) (⟨by show j + 1 ≤ 23 - x; omega, rfl, by first | (exact hacc65) | (rw [keep_yes hjj (by rw [keep_eq (by omega)]; first | (rw [if_pos ⟨by omega, by omega⟩]; assumption) | (rw [if_neg (by omega)]; assumption))]; exact hacc65) | (rw [keep_no hjj (by rw [keep_eq (by omega)]; first | (rw [if_pos ⟨by omega, by omega⟩]; assumption) | (rw [if_neg (by omega)]; assumption))]; exact hacc65)⟩) (by repeat (first | exact List.Sublist.refl _ | apply List.Sublist.cons_cons | apply List.Sublist.cons)) (hle1)
                · refine XC.skip ?_
                  refine blockN ?_
                  refine XC.seq2 ?_
                  refine XC.region ?_
                  refine XO.move rfl rfl ?_
                  refine XO.add rfl rfl (wrap_i64 (by omega) (by omega)) rfl ?_
                  refine XO.assign rfl rfl ?_
                  refine XO.nil ?_
                  refine loop_next ((j + 1, (pu, au, cu))) (by show 23 - x - (j + 1) < 23 - x - j; omega) (prov_cons (by first | rfl | (rw [keep_yes hjj (by rw [keep_eq (by omega)]; first | (rw [if_pos ⟨by omega, by omega⟩]; assumption) | (rw [if_neg (by omega)]; assumption))]; rfl) | (rw [keep_no hjj (by rw [keep_eq (by omega)]; first | (rw [if_pos ⟨by omega, by omega⟩]; assumption) | (rw [if_neg (by omega)]; assumption))]; rfl)) (prov_cons (provI rfl (by omega)) (prov_cons (rfl) (prov_cons (rfl) (prov_cons (rfl) (prov_cons (rfl) (prov_cons (rfl) (prov_cons (rfl) prov_nil)))))))) (⟨by show j + 1 ≤ 23 - x; omega, rfl, by first | (exact haccu) | (rw [keep_yes hjj (by rw [keep_eq (by omega)]; first | (rw [if_pos ⟨by omega, by omega⟩]; assumption) | (rw [if_neg (by omega)]; assumption))]; exact haccu) | (rw [keep_no hjj (by rw [keep_eq (by omega)]; first | (rw [if_pos ⟨by omega, by omega⟩]; assumption) | (rw [if_neg (by omega)]; assumption))]; exact haccu)⟩) (by repeat (first | exact List.Sublist.refl _ | apply List.Sublist.cons_cons | apply List.Sublist.cons)) (hle1)
            · obtain rfl : j = 23 - x := by omega
              refine XC.exit ?_
              refine seqX_exit ?_
              refine loopX_exit ?_
              refine blockHit rfl ?_
              refine blockN ?_
              refine XC.seq2 ?_
              refine XC.region ?_
              refine XO.move rfl rfl ?_
              refine XO.add rfl rfl (wrap_i64 (by omega) (by omega)) rfl ?_
              refine XO.assign rfl rfl ?_
              refine XO.nil ?_
              refine loop_next ((x + 1, (pu, au, cu))) (by show 24 - (x + 1) < 24 - x; omega) (prov_cons (by first | rfl | (rw [← keep_row]; rfl)) (prov_cons (rfl) (prov_cons (rfl) (prov_cons (rfl) (prov_cons (rfl) (prov_cons (rfl) (prov_cons (rfl) prov_nil))))))) (⟨by show x + 1 ≤ 24; omega, rfl, by first | (exact haccu) | (rw [← keep_row]; exact haccu)⟩) (by repeat (first | exact List.Sublist.refl _ | apply List.Sublist.cons_cons | apply List.Sublist.cons)) (hle0)
          · obtain rfl : x = 24 := by omega
            refine XC.exit ?_
            refine seqX_exit ?_
            refine loopX_exit ?_
            refine blockHit rfl ?_
            refine XC.seq2 ?_
            refine XC.seq ?_
            refine XC.region ?_
            refine XO.publishA 0 rfl hacco rfl (fun HQ19 hleQ19 hsQ19 => ?_)
            replace hq := hq.mono hleQ19
            replace hp := hp.mono hleQ19
            replace hle0 := hle0.trans hleQ19
            refine XO.move rfl rfl ?_
            refine XO.fieldAddr rfl fa_25_1 rfl ?_
            refine XO.storeO 1 rfl rfl rfl rfl ty_23 rfl rfl rfl rfl rfl ?_
            refine XO.nil ?_
            refine XC.seq2 ?_
            refine XC.seq ?_
            refine XC.region ?_
            refine XO.loadO 1 rfl rfl ty_25 rfl rfl rfl ?_
            refine XO.storeO 0 rfl rfl rfl rfl ty_25 rfl rfl rfl rfl rfl ?_
            refine XO.assign rfl rfl ?_
            refine XO.nil ?_
            refine XC.seq2 ?_
            refine XC.ret ?_
            refine ⟨rfl, _, [], (resC_cell 0 rfl rfl ty_25 rfl rfl (resC_tmp rfl resC_nil)), (by repeat (first | exact List.Sublist.refl _ | apply List.Sublist.cons)), RetR.mk ?_⟩
            have hc : cutE n a b = 0 := by rw [cutE, if_neg (fun h => h hnet), if_neg (fun h => h hsite)]
            rw [cutN, hc, if_neg (by decide)]
            exact ⟨_, rfl, _, _, _, _, rfl, by assumption, by assumption⟩
      · have g6p := of_decide_eq_true g6
        refine XO.guardF rfl rfl (g6) rfl rfl ?_
        refine XO.guardF rfl rfl (g6) rfl rfl ?_
        refine XO.pickT rfl (g6) rfl rfl ?_
        refine XO.nil ?_
        refine XC.seq2 ?_
        refine XC.condT rfl (rfl) ?_
        refine XC.seq ?_
        refine XC.region ?_
        refine XO.build bk_25 bf_25 ze_25 rfl rfl rfl ?_
        refine XO.storeO 0 rfl rfl rfl rfl ty_25 rfl rfl rfl rfl rfl ?_
        refine XO.assign rfl rfl ?_
        refine XO.nil ?_
        refine XC.seq2 ?_
        refine XC.ret ?_
        refine seqX_ret ?_
        refine ⟨rfl, _, [], (resC_cell 0 rfl rfl ty_25 rfl rfl (resC_tmp rfl resC_nil)), (by repeat (first | exact List.Sublist.refl _ | apply List.Sublist.cons)), RetR.mk ?_⟩
        have hc : cutE n a b = 1 := by rw [cutE, if_neg (fun h => h hnet), if_pos (fun h => by first | exact absurd h.1 (by assumption) | exact absurd h.2.1 (by assumption) | exact absurd (by assumption) h.2.2 | exact absurd ((link_site a b).2 h) (by assumption))]
        rw [cutN, hc, if_pos (by decide)]
        exact ⟨_, rfl, NtV.nil _⟩
    · have g4p := of_decide_eq_true g4
      refine XO.guardF rfl rfl (g4) rfl rfl ?_
      refine XO.guardF rfl rfl (g4) rfl rfl ?_
      refine XO.pickT rfl (g4) rfl rfl ?_
      refine XO.move rfl rfl ?_
      refine XO.guardF rfl rfl (rfl) rfl rfl ?_
      refine XO.guardF rfl rfl (rfl) rfl rfl ?_
      refine XO.guardF rfl rfl (rfl) rfl rfl ?_
      refine XO.pickT rfl (rfl) rfl rfl ?_
      refine XO.nil ?_
      refine XC.seq2 ?_
      refine XC.condT rfl (rfl) ?_
      refine XC.seq ?_
      refine XC.region ?_
      refine XO.build bk_25 bf_25 ze_25 rfl rfl rfl ?_
      refine XO.storeO 0 rfl rfl rfl rfl ty_25 rfl rfl rfl rfl rfl ?_
      refine XO.assign rfl rfl ?_
      refine XO.nil ?_
      refine XC.seq2 ?_
      refine XC.ret ?_
      refine seqX_ret ?_
      refine ⟨rfl, _, [], (resC_cell 0 rfl rfl ty_25 rfl rfl (resC_tmp rfl resC_nil)), (by repeat (first | exact List.Sublist.refl _ | apply List.Sublist.cons)), RetR.mk ?_⟩
      have hc : cutE n a b = 1 := by rw [cutE, if_neg (fun h => h hnet), if_pos (fun h => by first | exact absurd h.1 (by assumption) | exact absurd h.2.1 (by assumption) | exact absurd (by assumption) h.2.2 | exact absurd ((link_site a b).2 h) (by assumption))]
      rw [cutN, hc, if_pos (by decide)]
      exact ⟨_, rfl, NtV.nil _⟩

end Go.Proofs
