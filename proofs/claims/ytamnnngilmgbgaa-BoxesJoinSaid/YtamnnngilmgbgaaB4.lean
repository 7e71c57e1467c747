/- Walks that are alike in other seats, in this seat's numbers. -/
import Derived.Test.YtamnnngilmgbgaaB3
import Derived.Test.YtamnnngilmgbgaaProg
set_option autoImplicit false
set_option linter.unusedVariables false
set_option linter.unusedSimpArgs false
namespace Go.Proofs
open Go.XL

theorem follows : Try.prog.follows .mixedOrders = true := by kernel_rfl
theorem fa_87_0 : fieldF Try.prog 87 0 = some 0 := by kernel_rfl
theorem fa_87_1 : fieldF Try.prog 87 1 = some 1 := by kernel_rfl
theorem fa_87_2 : fieldF Try.prog 87 2 = some 2 := by kernel_rfl
theorem fa_87_3 : fieldF Try.prog 87 3 = some 3 := by kernel_rfl
theorem ty_85 : tyF Try.prog 85 1 false = true := by kernel_rfl
theorem ty_87 : tyF Try.prog 87 4 true = true := by kernel_rfl
theorem ty_3 : tyF Try.prog 3 1 false = true := by kernel_rfl
theorem ty_4 : tyF Try.prog 4 1 false = true := by kernel_rfl
theorem ty_113 : tyF Try.prog 113 4 true = true := by kernel_rfl
theorem ty_9 : tyF Try.prog 9 1 false = true := by kernel_rfl
theorem ze_87 : zeroC Try.prog 87 = some [.int .i64 0, .int .i64 0, .string ⟨#[]⟩, .slice none 0 0] := by kernel_rfl
theorem ze_113 : zeroC Try.prog 113 = some [.bool false, .bool false, .bool false, .bool false] := by kernel_rfl
set_option maxRecDepth 100000 in
set_option maxHeartbeats 1600000 in
theorem formed_all : ∀ (m : Nat) (k n : Int) (s : List UInt8) (l : List Val) (a : Option Addr) (c : Nat) (H : Hp), wszV (.mk k n s l) ≤ m → m ≤ 1000000 → SlR valR H a c l → FnC Try.prog 70 #[.agg ⟨[.int .i64 k, .int .i64 n, .string (bsOf s), .slice a l.length c]⟩] H [] (RetR (fun v _ _ => v = fdR (.mk k n s l))) := by
 intro m
 refine Nat.strongRecOn m ?_
 clear m
 intro m ih k n s l a c H hw hm hs
 have hwl := wsz_len (l := l)
 rw [wszV] at hw
 refine FnC.intro (args := [.agg ⟨[.int .i64 k, .int .i64 n, .string (bsOf s), .slice a l.length c]⟩]) Try.func70 rfl rfl Try.ntmps70 rfl rfl rfl fun G rest => ?_
 refine XC.seq ?_; refine XC.region ?_; refine XO.box rfl rfl rfl (fun b1 => ?_); refine XO.assign rfl rfl ?_; refine XO.assign rfl rfl ?_; refine XO.nil ?_; refine XC.seq2 ?_; refine XC.join (base := [(1, _), (2, _)]) (fun ζ : (Nat) × (Bool) × (Bool) × (Bool) => [(4, .pointer (some ⟨ζ.1, 0, none⟩))]) (fun ζ Hl own => (ζ.1, .cells 113 [.bool false, .bool ζ.2.1, .bool ζ.2.2.1, .bool ζ.2.2.2]) :: (b1, .cells 87 [.int .i64 k, .int .i64 n, .string (bsOf s), .slice a l.length c]) :: rest = own ∧ (ζ.2.1 = true ↔ s = [] ∧ l = []) ∧ (ζ.2.2.1 = true ↔ n = 0 ∧ l = []) ∧ (ζ.2.2.2 = true ↔ n = 0 ∧ s = [])) (prov_cons (rfl) (prov_cons (rfl) prov_nil)) (fun hleJ1 => ?_) ?_
 ·skip
  refine XC.region ?_; refine XO.fieldAddr rfl fa_87_2 rfl ?_; refine XO.loadO 0 rfl rfl ty_9 rfl rfl rfl ?_; refine XO.eqlS rfl rfl rfl ?_; refine XO.move rfl rfl ?_; refine XO.guardC rfl rfl rfl rfl (fun g2 => ?_) (fun g2 => ?_)
  ·have g2p := of_decide_eq_true g2
   refine XO.fieldAddr rfl fa_87_3 rfl ?_; refine XO.guardT rfl rfl (g2) rfl ?_; refine XO.loadO 0 rfl rfl ty_85 rfl rfl rfl ?_; refine XO.guardT rfl rfl (g2) rfl ?_; refine XO.lenS (ts := #[]) rfl Try.underlying85 rfl ?_; refine XO.guardT rfl rfl (g2) rfl ?_; refine XO.eql rfl rfl rfl ?_; refine XO.pickT rfl (g2) rfl rfl ?_; refine XO.fieldAddr rfl fa_87_1 rfl ?_; refine XO.loadO 0 rfl rfl ty_3 rfl rfl rfl ?_; refine XO.eql rfl rfl rfl ?_; refine XO.move rfl rfl ?_; refine XO.guardC rfl rfl rfl rfl (fun g3 => ?_) (fun g3 => ?_)
   ·have g3p := of_decide_eq_true g3
    refine XO.fieldAddr rfl fa_87_3 rfl ?_; refine XO.guardT rfl rfl (g3) rfl ?_; refine XO.loadO 0 rfl rfl ty_85 rfl rfl rfl ?_; refine XO.guardT rfl rfl (g3) rfl ?_; refine XO.lenS (ts := #[]) rfl Try.underlying85 rfl ?_; refine XO.guardT rfl rfl (g3) rfl ?_; refine XO.eql rfl rfl rfl ?_; refine XO.pickT rfl (g3) rfl rfl ?_; refine XO.fieldAddr rfl fa_87_1 rfl ?_; refine XO.loadO 0 rfl rfl ty_3 rfl rfl rfl ?_; refine XO.eql rfl rfl rfl ?_; refine XO.move rfl rfl ?_; refine XO.guardC rfl rfl rfl rfl (fun g4 => ?_) (fun g4 => ?_)
    ·have g4p := of_decide_eq_true g4
     refine XO.fieldAddr rfl fa_87_2 rfl ?_; refine XO.guardT rfl rfl (g4) rfl ?_; refine XO.loadO 0 rfl rfl ty_9 rfl rfl rfl ?_; refine XO.guardT rfl rfl (g4) rfl ?_; refine XO.eqlS rfl rfl rfl ?_; refine XO.pickT rfl (g4) rfl rfl ?_; refine XO.buildArr Try.underlying113 ty_4 ze_113 rfl rfl rfl ?_; refine XO.alloc ze_113 rfl (fun b4 => ?_); refine XO.storeO 0 rfl rfl rfl rfl ty_113 rfl rfl rfl rfl rfl ?_; refine XO.nil ?_; refine join_next (b4, decide ((l.length : Int) = 0), decide ((l.length : Int) = 0), decide (s = [])) (prov_cons (rfl) (prov_cons (rfl) (prov_cons (rfl) prov_nil))) (⟨rfl, by simp_all, by simp_all, by simp_all⟩) (by repeat (first | exact List.Sublist.refl _ | apply List.Sublist.cons_cons | apply List.Sublist.cons)) hleJ1
    ·have g4p := of_decide_eq_false g4
     refine XO.guardF rfl rfl (g4) rfl rfl ?_; refine XO.guardF rfl rfl (g4) rfl rfl ?_; refine XO.pickF rfl (g4) rfl rfl ?_; refine XO.buildArr Try.underlying113 ty_4 ze_113 rfl rfl rfl ?_; refine XO.alloc ze_113 rfl (fun b4 => ?_); refine XO.storeO 0 rfl rfl rfl rfl ty_113 rfl rfl rfl rfl rfl ?_; refine XO.nil ?_; refine join_next (b4, decide ((l.length : Int) = 0), decide ((l.length : Int) = 0), false) (prov_cons (rfl) (prov_cons (rfl) (prov_cons (rfl) prov_nil))) (⟨rfl, by simp_all, by simp_all, by simp_all⟩) (by repeat (first | exact List.Sublist.refl _ | apply List.Sublist.cons_cons | apply List.Sublist.cons)) hleJ1
   ·have g3p := of_decide_eq_false g3
    refine XO.guardF rfl rfl (g3) rfl rfl ?_; refine XO.guardF rfl rfl (g3) rfl rfl ?_; refine XO.guardF rfl rfl (g3) rfl rfl ?_; refine XO.pickF rfl (g3) rfl rfl ?_; refine XO.fieldAddr rfl fa_87_1 rfl ?_; refine XO.loadO 0 rfl rfl ty_3 rfl rfl rfl ?_; refine XO.eql rfl rfl rfl ?_; refine XO.move rfl rfl ?_; refine XO.guardC rfl rfl rfl rfl (fun g5 => ?_) (fun g5 => ?_)
    ·have g5p := of_decide_eq_true g5
     refine XO.fieldAddr rfl fa_87_2 rfl ?_; refine XO.guardT rfl rfl (g5) rfl ?_; refine XO.loadO 0 rfl rfl ty_9 rfl rfl rfl ?_; refine XO.guardT rfl rfl (g5) rfl ?_; refine XO.eqlS rfl rfl rfl ?_; refine XO.pickT rfl (g5) rfl rfl ?_; refine XO.buildArr Try.underlying113 ty_4 ze_113 rfl rfl rfl ?_; refine XO.alloc ze_113 rfl (fun b4 => ?_); refine XO.storeO 0 rfl rfl rfl rfl ty_113 rfl rfl rfl rfl rfl ?_; refine XO.nil ?_; refine join_next (b4, decide ((l.length : Int) = 0), false, decide (s = [])) (prov_cons (rfl) (prov_cons (rfl) (prov_cons (rfl) prov_nil))) (⟨rfl, by simp_all, by simp_all, by simp_all⟩) (by repeat (first | exact List.Sublist.refl _ | apply List.Sublist.cons_cons | apply List.Sublist.cons)) hleJ1
    ·have g5p := of_decide_eq_false g5
     refine XO.guardF rfl rfl (g5) rfl rfl ?_; refine XO.guardF rfl rfl (g5) rfl rfl ?_; refine XO.pickF rfl (g5) rfl rfl ?_; refine XO.buildArr Try.underlying113 ty_4 ze_113 rfl rfl rfl ?_; refine XO.alloc ze_113 rfl (fun b4 => ?_); refine XO.storeO 0 rfl rfl rfl rfl ty_113 rfl rfl rfl rfl rfl ?_; refine XO.nil ?_; refine join_next (b4, decide ((l.length : Int) = 0), false, false) (prov_cons (rfl) (prov_cons (rfl) (prov_cons (rfl) prov_nil))) (⟨rfl, by simp_all, by simp_all, by simp_all⟩) (by repeat (first | exact List.Sublist.refl _ | apply List.Sublist.cons_cons | apply List.Sublist.cons)) hleJ1
  ·have g2p := of_decide_eq_false g2
   refine XO.guardF rfl rfl (g2) rfl rfl ?_; refine XO.guardF rfl rfl (g2) rfl rfl ?_; refine XO.guardF rfl rfl (g2) rfl rfl ?_; refine XO.pickF rfl (g2) rfl rfl ?_; refine XO.fieldAddr rfl fa_87_1 rfl ?_; refine XO.loadO 0 rfl rfl ty_3 rfl rfl rfl ?_; refine XO.eql rfl rfl rfl ?_; refine XO.move rfl rfl ?_; refine XO.guardC rfl rfl rfl rfl (fun g6 => ?_) (fun g6 => ?_)
   ·have g6p := of_decide_eq_true g6
    refine XO.fieldAddr rfl fa_87_3 rfl ?_; refine XO.guardT rfl rfl (g6) rfl ?_; refine XO.loadO 0 rfl rfl ty_85 rfl rfl rfl ?_; refine XO.guardT rfl rfl (g6) rfl ?_; refine XO.lenS (ts := #[]) rfl Try.underlying85 rfl ?_; refine XO.guardT rfl rfl (g6) rfl ?_; refine XO.eql rfl rfl rfl ?_; refine XO.pickT rfl (g6) rfl rfl ?_; refine XO.fieldAddr rfl fa_87_1 rfl ?_; refine XO.loadO 0 rfl rfl ty_3 rfl rfl rfl ?_; refine XO.eql rfl rfl rfl ?_; refine XO.move rfl rfl ?_; refine XO.guardC rfl rfl rfl rfl (fun g7 => ?_) (fun g7 => ?_)
    ·have g7p := of_decide_eq_true g7
     refine XO.fieldAddr rfl fa_87_2 rfl ?_; refine XO.guardT rfl rfl (g7) rfl ?_; refine XO.loadO 0 rfl rfl ty_9 rfl rfl rfl ?_; refine XO.guardT rfl rfl (g7) rfl ?_; refine XO.eqlS rfl rfl rfl ?_; refine XO.pickT rfl (g7) rfl rfl ?_; refine XO.buildArr Try.underlying113 ty_4 ze_113 rfl rfl rfl ?_; refine XO.alloc ze_113 rfl (fun b4 => ?_); refine XO.storeO 0 rfl rfl rfl rfl ty_113 rfl rfl rfl rfl rfl ?_; refine XO.nil ?_; refine join_next (b4, false, decide ((l.length : Int) = 0), decide (s = [])) (prov_cons (rfl) (prov_cons (rfl) (prov_cons (rfl) prov_nil))) (⟨rfl, by simp_all, by simp_all, by simp_all⟩) (by repeat (first | exact List.Sublist.refl _ | apply List.Sublist.cons_cons | apply List.Sublist.cons)) hleJ1
    ·have g7p := of_decide_eq_false g7
     refine XO.guardF rfl rfl (g7) rfl rfl ?_; refine XO.guardF rfl rfl (g7) rfl rfl ?_; refine XO.pickF rfl (g7) rfl rfl ?_; refine XO.buildArr Try.underlying113 ty_4 ze_113 rfl rfl rfl ?_; refine XO.alloc ze_113 rfl (fun b4 => ?_); refine XO.storeO 0 rfl rfl rfl rfl ty_113 rfl rfl rfl rfl rfl ?_; refine XO.nil ?_; refine join_next (b4, false, decide ((l.length : Int) = 0), false) (prov_cons (rfl) (prov_cons (rfl) (prov_cons (rfl) prov_nil))) (⟨rfl, by simp_all, by simp_all, by simp_all⟩) (by repeat (first | exact List.Sublist.refl _ | apply List.Sublist.cons_cons | apply List.Sublist.cons)) hleJ1
   ·have g6p := of_decide_eq_false g6
    refine XO.guardF rfl rfl (g6) rfl rfl ?_; refine XO.guardF rfl rfl (g6) rfl rfl ?_; refine XO.guardF rfl rfl (g6) rfl rfl ?_; refine XO.pickF rfl (g6) rfl rfl ?_; refine XO.fieldAddr rfl fa_87_1 rfl ?_; refine XO.loadO 0 rfl rfl ty_3 rfl rfl rfl ?_; refine XO.eql rfl rfl rfl ?_; refine XO.move rfl rfl ?_; refine XO.guardC rfl rfl rfl rfl (fun g8 => ?_) (fun g8 => ?_)
    ·have g8p := of_decide_eq_true g8
     refine XO.fieldAddr rfl fa_87_2 rfl ?_; refine XO.guardT rfl rfl (g8) rfl ?_; refine XO.loadO 0 rfl rfl ty_9 rfl rfl rfl ?_; refine XO.guardT rfl rfl (g8) rfl ?_; refine XO.eqlS rfl rfl rfl ?_; refine XO.pickT rfl (g8) rfl rfl ?_; refine XO.buildArr Try.underlying113 ty_4 ze_113 rfl rfl rfl ?_; refine XO.alloc ze_113 rfl (fun b4 => ?_); refine XO.storeO 0 rfl rfl rfl rfl ty_113 rfl rfl rfl rfl rfl ?_; refine XO.nil ?_; refine join_next (b4, false, false, decide (s = [])) (prov_cons (rfl) (prov_cons (rfl) (prov_cons (rfl) prov_nil))) (⟨rfl, by simp_all, by simp_all, by simp_all⟩) (by repeat (first | exact List.Sublist.refl _ | apply List.Sublist.cons_cons | apply List.Sublist.cons)) hleJ1
    ·have g8p := of_decide_eq_false g8
     refine XO.guardF rfl rfl (g8) rfl rfl ?_; refine XO.guardF rfl rfl (g8) rfl rfl ?_; refine XO.pickF rfl (g8) rfl rfl ?_; refine XO.buildArr Try.underlying113 ty_4 ze_113 rfl rfl rfl ?_; refine XO.alloc ze_113 rfl (fun b4 => ?_); refine XO.storeO 0 rfl rfl rfl rfl ty_113 rfl rfl rfl rfl rfl ?_; refine XO.nil ?_; refine join_next (b4, false, false, false) (prov_cons (rfl) (prov_cons (rfl) (prov_cons (rfl) prov_nil))) (⟨rfl, by simp_all, by simp_all, by simp_all⟩) (by repeat (first | exact List.Sublist.refl _ | apply List.Sublist.cons_cons | apply List.Sublist.cons)) hleJ1
 ·rintro ⟨b4, u1, u2, u3⟩ Hl _ hleK1 ⟨rfl, h1, h2, h3⟩; replace hs := hs.mono hleK1
  try dsimp only at h1 h2 h3⊢ 
  refine XC.seq ?_; refine XC.seq ?_; refine XC.region ?_; refine XO.fieldAddr rfl fa_87_0 rfl ?_; refine XO.loadO 1 rfl rfl ty_3 rfl rfl rfl ?_; refine XO.lss rfl rfl rfl ?_; refine XO.move rfl rfl ?_; refine XO.guardC rfl rfl rfl rfl (fun g9 => ?_) (fun g9 => ?_)
  ·have g9p := of_decide_eq_false g9
   refine XO.fieldAddr rfl fa_87_0 rfl ?_; refine XO.guardT rfl rfl (g9) rfl ?_; refine XO.loadO 1 rfl rfl ty_3 rfl rfl rfl ?_; refine XO.guardT rfl rfl (g9) rfl ?_; refine XO.gtr rfl rfl rfl ?_; refine XO.pickF rfl (g9) rfl rfl ?_; refine XO.move rfl rfl ?_; refine XO.guardC rfl rfl rfl rfl (fun g10 => ?_) (fun g10 => ?_)
   ·have g10p := of_decide_eq_false g10
    refine XO.fieldAddr rfl fa_87_0 rfl ?_; refine XO.guardT rfl rfl (g10) rfl ?_; refine XO.loadO 1 rfl rfl ty_3 rfl rfl rfl ?_; refine XO.guardT rfl rfl (g10) rfl ?_
    have hk3 : k = 1 ∨ k = 2 ∨ k = 3 := by omega
    rcases hk3 with rfl | rfl | rfl
    ·skip
     refine XO.indexArr rfl rfl Try.underlying113 ty_4 (by decide) (by decide) rfl ?_; refine XO.guardT rfl rfl (g10) rfl ?_; refine XO.loadO 0 rfl rfl ty_4 rfl rfl rfl ?_; refine XO.guardT rfl rfl (g10) rfl ?_; refine XO.notB rfl rfl ?_; refine XO.pickF rfl (g10) rfl rfl ?_; refine XO.nil ?_; refine XC.seq2 ?_; refine XC.condB rfl (fun c0_11 => ?_) (fun c0_11 => ?_)
     ·refine XC.seq ?_; refine XC.region ?_; refine XO.assign rfl rfl ?_; refine XO.assign rfl rfl ?_; refine XO.nil ?_; refine XC.seq2 ?_; refine XC.ret ?_; refine seqX_ret ?_; refine ⟨rfl, _, [], rfl, (by repeat (first | exact List.Sublist.refl _ | apply List.Sublist.cons)), RetR.mk ?_⟩
      exact fd_no (bfalse fun h => by have h9 := (formed1.1 h); simp_all)
     ·refine XC.skip ?_; refine XC.seq2 ?_; refine XC.seq ?_; refine XC.seq ?_; refine XC.region ?_; refine XO.fieldAddr rfl fa_87_0 rfl ?_; refine XO.loadO 1 rfl rfl ty_3 rfl rfl rfl ?_; refine XO.lss rfl rfl rfl ?_; refine XO.nil ?_; refine XC.seq2 ?_; refine XC.condT rfl (rfl) ?_; refine XC.seq ?_; refine XC.region ?_; refine XO.assign rfl rfl ?_; refine XO.assign rfl rfl ?_; refine XO.nil ?_; refine XC.seq2 ?_; refine XC.ret ?_; refine seqX_ret ?_; refine ⟨rfl, _, [], rfl, (by repeat (first | exact List.Sublist.refl _ | apply List.Sublist.cons)), RetR.mk ?_⟩
      exact fd_yes (formed1.2 (h1.1 (by simp_all))) (by rw [depthV]; rfl)
    ·skip
     refine XO.indexArr rfl rfl Try.underlying113 ty_4 (by decide) (by decide) rfl ?_; refine XO.guardT rfl rfl (g10) rfl ?_; refine XO.loadO 0 rfl rfl ty_4 rfl rfl rfl ?_; refine XO.guardT rfl rfl (g10) rfl ?_; refine XO.notB rfl rfl ?_; refine XO.pickF rfl (g10) rfl rfl ?_; refine XO.nil ?_; refine XC.seq2 ?_; refine XC.condB rfl (fun c0_12 => ?_) (fun c0_12 => ?_)
     ·refine XC.seq ?_; refine XC.region ?_; refine XO.assign rfl rfl ?_; refine XO.assign rfl rfl ?_; refine XO.nil ?_; refine XC.seq2 ?_; refine XC.ret ?_; refine seqX_ret ?_; refine ⟨rfl, _, [], rfl, (by repeat (first | exact List.Sublist.refl _ | apply List.Sublist.cons)), RetR.mk ?_⟩
      exact fd_no (bfalse fun h => by have h9 := (formed2.1 h); simp_all)
     ·refine XC.skip ?_; refine XC.seq2 ?_; refine XC.seq ?_; refine XC.seq ?_; refine XC.region ?_; refine XO.fieldAddr rfl fa_87_0 rfl ?_; refine XO.loadO 1 rfl rfl ty_3 rfl rfl rfl ?_; refine XO.lss rfl rfl rfl ?_; refine XO.nil ?_; refine XC.seq2 ?_; refine XC.condT rfl (rfl) ?_; refine XC.seq ?_; refine XC.region ?_; refine XO.assign rfl rfl ?_; refine XO.assign rfl rfl ?_; refine XO.nil ?_; refine XC.seq2 ?_; refine XC.ret ?_; refine seqX_ret ?_; refine ⟨rfl, _, [], rfl, (by repeat (first | exact List.Sublist.refl _ | apply List.Sublist.cons)), RetR.mk ?_⟩
      exact fd_yes (formed2.2 (h2.1 (by simp_all))) (by rw [depthV]; rfl)
    ·skip
     refine XO.indexArr rfl rfl Try.underlying113 ty_4 (by decide) (by decide) rfl ?_; refine XO.guardT rfl rfl (g10) rfl ?_; refine XO.loadO 0 rfl rfl ty_4 rfl rfl rfl ?_; refine XO.guardT rfl rfl (g10) rfl ?_; refine XO.notB rfl rfl ?_; refine XO.pickF rfl (g10) rfl rfl ?_; refine XO.nil ?_; refine XC.seq2 ?_; refine XC.condB rfl (fun c0_13 => ?_) (fun c0_13 => ?_)
     ·refine XC.seq ?_; refine XC.region ?_; refine XO.assign rfl rfl ?_; refine XO.assign rfl rfl ?_; refine XO.nil ?_; refine XC.seq2 ?_; refine XC.ret ?_; refine seqX_ret ?_; refine ⟨rfl, _, [], rfl, (by repeat (first | exact List.Sublist.refl _ | apply List.Sublist.cons)), RetR.mk ?_⟩
      exact fd_no (bfalse fun h => by have h9 := (formed3.1 h); simp_all)
     ·refine XC.skip ?_; refine XC.seq2 ?_; refine XC.seq ?_; refine XC.seq ?_; refine XC.region ?_; refine XO.fieldAddr rfl fa_87_0 rfl ?_; refine XO.loadO 1 rfl rfl ty_3 rfl rfl rfl ?_; refine XO.lss rfl rfl rfl ?_; refine XO.nil ?_; refine XC.seq2 ?_; refine XC.condF rfl (rfl) ?_; refine XC.skip ?_; refine XC.seq2 ?_; refine XC.seq ?_; refine XC.seq ?_; refine XC.region ?_; refine XO.fieldAddr rfl fa_87_3 rfl ?_; refine XO.loadO 1 rfl rfl ty_85 rfl rfl rfl ?_; refine XO.lenS (ts := #[]) rfl Try.underlying85 rfl ?_; refine XO.move rfl rfl ?_; refine XO.nil ?_; refine XC.seq2 ?_; refine XC.block ?_; refine XC.keep [2, 57, 55, 56] rfl ?_; refine XC.loop (base := [(55, _), (56, _)]) (fun ζ : Nat => [(2, .int .i64 ((depthL (l.take ζ) : Nat) : Int)), (57, .int .i64 (ζ : Nat))]) (fun ζ Hl own => ζ ≤ l.length ∧ rest = own ∧ (formedL (l.take ζ) = true)) (fun ζ => l.length - ζ) 0 (prov_cons (rfl) (prov_cons (rfl) (prov_cons (rfl) (prov_cons (rfl) prov_nil)))) (by repeat (first | exact List.Sublist.refl _ | apply List.Sublist.cons_cons | apply List.Sublist.cons)) ⟨Nat.zero_le _, rfl, rfl⟩ ?_; rintro i Hl0 _ hle0 ⟨hki, rfl, hfo⟩; replace hs := hs.mono hle0
      try dsimp only at ⊢
      refine XC.seq ?_; refine XC.region ?_; refine XO.lss rfl rfl rfl ?_; refine XO.nil ?_; refine XC.seq2 ?_; refine XC.seq ?_; refine XC.cond rfl (fun c2_14 => ?_) (fun c2_14 => ?_)
      ·refine XC.skip ?_; refine XC.seq2 ?_; refine XC.seq ?_; refine XC.block ?_; refine XC.seq ?_; refine XC.region ?_; refine XO.indexN rfl hs rfl Try.underlying85 ty_87 (by omega) rfl ?_; rintro eb59 eo59 _ x59 hx59 hR59 hp59; obtain ⟨k59, n59, s59, l59⟩ := x59; obtain ⟨a59, c59, rfl, hd59⟩ := valR_iff.1 hR59; refine XO.loadH rfl (by assumption) ty_87 rfl rfl rfl ?_; refine XO.alloc ze_87 rfl (fun b6 => ?_); refine XO.storeO 0 rfl rfl rfl rfl ty_87 rfl rfl rfl rfl rfl ?_; refine XO.nil ?_; refine XC.seq2 ?_; refine XC.seq ?_; refine XC.region ?_
       have hwx := wsz_mem (List.mem_of_getElem? hx59)
       have hwt := wsz_take (l := l) i
       refine XO.loadO 0 rfl rfl ty_87 rfl rfl rfl ?_
       have hcall16 := ih (wszV (.mk k59 n59 s59 l59)) (by omega) k59 n59 s59 l59 a59 c59 _ (Nat.le_refl _) (by omega) hd59
       refine XO.callV rfl hcall16 rfl ?_; refine XO.move rfl rfl ?_; refine XO.extract rfl rfl rfl ?_; refine XO.extract rfl rfl rfl ?_; refine XO.assign rfl rfl ?_; refine XO.assign rfl rfl ?_; refine XO.nil ?_; refine XC.seq2 ?_; refine XC.seq ?_; refine XC.seq ?_; refine XC.region ?_; refine XO.move rfl rfl ?_; refine XO.notB rfl rfl ?_; refine XO.nil ?_; refine XC.seq2 ?_; refine XC.condB rfl (fun c3_17 => ?_) (fun c3_17 => ?_)
       ·refine XC.seq ?_; refine XC.region ?_; refine XO.assign rfl rfl ?_; refine XO.assign rfl rfl ?_; refine XO.nil ?_; refine XC.seq2 ?_; refine XC.ret ?_; refine seqX_ret ?_; refine blockR ?_; refine seqX_ret ?_; refine loopX_ret ?_; refine blockR ?_; refine seqX_ret ?_; refine ⟨rfl, _, [], rfl, (by repeat (first | exact List.Sublist.refl _ | apply List.Sublist.cons)), RetR.mk ?_⟩
        exact fd_no (bfalse fun h => by have h9 := formedL_iff.1 (formed3.1 h).2 _ (List.mem_of_getElem? hx59); simp_all)
       ·have hfx : formedB (.mk k59 n59 s59 l59) = true := by simpa using c3_17
        refine XC.skip ?_; refine XC.seq2 ?_; refine XC.region ?_; refine XO.move rfl rfl ?_; refine XO.move rfl rfl ?_; refine XO.maxI (c := ((depthL (l.take (i + 1)) : Nat) : Int)) rfl rfl (by rw [dl_max hx59]; unfold fdV; rw [if_pos hfx]; split <;> omega) rfl ?_; refine XO.assign rfl rfl ?_; refine XO.nil ?_; refine blockN ?_; refine XC.seq2 ?_; refine XC.region ?_; refine XO.add rfl rfl (wrap_i64 (by omega) (by omega)) rfl ?_; refine XO.move rfl rfl ?_; refine XO.nil ?_; refine loop_next (i + 1) (by show l.length - (i + 1) < l.length - i; omega) (prov_cons (rfl) (prov_cons (rfl) (prov_cons (rfl) (prov_cons (rfl) prov_nil)))) (⟨by show i + 1 ≤ l.length; omega, rfl, fl_yes hx59 hfo (by simp_all)⟩) (by repeat (first | exact List.Sublist.refl _ | apply List.Sublist.cons_cons | apply List.Sublist.cons)) (hle0)
      ·obtain rfl : i = l.length := by omega
       rw [List.take_length] at hfo ⊢
       have hdw := depthL_wsz (l := l) (fun x _ => depth_wsz x)
       refine XC.exit ?_; refine seqX_exit ?_; refine loopX_exit ?_; refine blockHit rfl ?_; refine XC.seq2 ?_; refine XC.seq ?_; refine XC.region ?_; refine XO.move rfl rfl ?_; refine XO.add rfl rfl (wrap_i64 (by omega) (by omega)) rfl ?_; refine XO.assign rfl rfl ?_; refine XO.assign rfl rfl ?_; refine XO.nil ?_; refine XC.seq2 ?_; refine XC.ret ?_; refine ⟨rfl, _, [], rfl, (by repeat (first | exact List.Sublist.refl _ | apply List.Sublist.cons)), RetR.mk ?_⟩
       exact fd_yes (formed3.2 ⟨h3.1 (by simp_all), hfo⟩) (by rw [depthV, if_pos rfl]; omega)
   ·have g10p := of_decide_eq_true g10
    refine XO.guardF rfl rfl (g10) rfl rfl ?_; refine XO.guardF rfl rfl (g10) rfl rfl ?_; refine XO.guardF rfl rfl (g10) rfl rfl ?_; refine XO.guardF rfl rfl (g10) rfl rfl ?_; refine XO.pickT rfl (g10) rfl rfl ?_; refine XO.nil ?_; refine XC.seq2 ?_; refine XC.condT rfl (rfl) ?_; refine XC.seq ?_; refine XC.region ?_; refine XO.assign rfl rfl ?_; refine XO.assign rfl rfl ?_; refine XO.nil ?_; refine XC.seq2 ?_; refine XC.ret ?_; refine seqX_ret ?_; refine ⟨rfl, _, [], rfl, (by repeat (first | exact List.Sublist.refl _ | apply List.Sublist.cons)), RetR.mk ?_⟩
    exact fd_no (formed0 (by omega))
  ·have g9p := of_decide_eq_true g9
   refine XO.guardF rfl rfl (g9) rfl rfl ?_; refine XO.guardF rfl rfl (g9) rfl rfl ?_; refine XO.pickT rfl (g9) rfl rfl ?_; refine XO.move rfl rfl ?_; refine XO.guardF rfl rfl (rfl) rfl rfl ?_; refine XO.guardF rfl rfl (rfl) rfl rfl ?_; refine XO.guardF rfl rfl (rfl) rfl rfl ?_; refine XO.guardF rfl rfl (rfl) rfl rfl ?_; refine XO.guardF rfl rfl (rfl) rfl rfl ?_; refine XO.pickT rfl (rfl) rfl rfl ?_; refine XO.nil ?_; refine XC.seq2 ?_; refine XC.condT rfl (rfl) ?_; refine XC.seq ?_; refine XC.region ?_; refine XO.assign rfl rfl ?_; refine XO.assign rfl rfl ?_; refine XO.nil ?_; refine XC.seq2 ?_; refine XC.ret ?_; refine seqX_ret ?_; refine ⟨rfl, _, [], rfl, (by repeat (first | exact List.Sublist.refl _ | apply List.Sublist.cons)), RetR.mk ?_⟩
   exact fd_no (formed0 (by omega))
theorem check_fn (k n : Int) (s : List UInt8) (l : List Val) (a : Option Addr) (c : Nat) (H : Hp) (hw : wszV (.mk k n s l) ≤ 1000000) (hs : SlR valR H a c l) : FnC Try.prog 66 #[.agg ⟨[.int .i64 k, .int .i64 n, .string (bsOf s), .slice a l.length c]⟩] H [] (RetR (fun v _ _ => v = .int .i64 (chkV (.mk k n s l)))) := by
 refine FnC.intro (args := [.agg ⟨[.int .i64 k, .int .i64 n, .string (bsOf s), .slice a l.length c]⟩]) Try.func66 rfl rfl Try.ntmps66 rfl rfl rfl fun G rest => ?_
 refine XC.seq ?_; refine XC.region ?_; refine XO.box rfl rfl rfl (fun b1 => ?_); refine XO.assign rfl rfl ?_; refine XO.nil ?_; refine XC.seq2 ?_; refine XC.seq ?_; refine XC.region ?_; refine XO.loadO 0 rfl rfl ty_87 rfl rfl rfl ?_
 have hcall := formed_all 1000000 k n s l a c _ hw (Nat.le_refl _) hs
 refine XO.callV rfl hcall rfl ?_; refine XO.move rfl rfl ?_; refine XO.extract rfl rfl rfl ?_; refine XO.extract rfl rfl rfl ?_; refine XO.assign rfl rfl ?_; refine XO.assign rfl rfl ?_; refine XO.nil ?_; refine XC.seq2 ?_; refine XC.seq ?_; refine XC.block ?_; refine XC.seq ?_; refine XC.region ?_; refine XO.move rfl rfl ?_; refine XO.notB rfl rfl ?_; refine XO.assign rfl rfl ?_; refine XO.nil ?_; refine XC.seq2 ?_; refine XC.condB rfl (fun c0_2 => ?_) (fun c0_2 => ?_)
 ·have hf : formedB (.mk k n s l) = false := by simpa using c0_2
  refine XC.seq ?_; refine XC.region ?_; refine XO.assign rfl rfl ?_; refine XO.nil ?_; refine XC.seq2 ?_; refine XC.ret ?_; refine blockR ?_; refine seqX_ret ?_; refine ⟨rfl, _, [], rfl, (by repeat (first | exact List.Sublist.refl _ | apply List.Sublist.cons)), RetR.mk ?_⟩
  exact congrArg (Value.int .i64) (chk_1 hf).symm
 ·have hf : formedB (.mk k n s l) = true := by simpa using c0_2
  have hfd := fd_eq hf
  refine XC.seq ?_; refine XC.region ?_; refine XO.move rfl rfl ?_; refine XO.gtr rfl rfl rfl ?_; refine XO.assign rfl rfl ?_; refine XO.nil ?_; refine XC.seq2 ?_; refine XC.cond rfl (fun c1_3 => ?_) (fun c1_3 => ?_)
  ·refine XC.seq ?_; refine XC.region ?_; refine XO.assign rfl rfl ?_; refine XO.nil ?_; refine XC.seq2 ?_; refine XC.ret ?_; refine blockR ?_; refine seqX_ret ?_; refine ⟨rfl, _, [], rfl, (by repeat (first | exact List.Sublist.refl _ | apply List.Sublist.cons)), RetR.mk ?_⟩
   exact congrArg (Value.int .i64) (chk_2 hf (by omega)).symm
  ·refine XC.skip ?_; refine blockN ?_; refine XC.seq2 ?_; refine XC.seq ?_; refine XC.region ?_; refine XO.assign rfl rfl ?_; refine XO.nil ?_; refine XC.seq2 ?_; refine XC.ret ?_; refine ⟨rfl, _, [], rfl, (by repeat (first | exact List.Sublist.refl _ | apply List.Sublist.cons)), RetR.mk ?_⟩
   exact congrArg (Value.int .i64) (chk_0 hf (by omega)).symm
theorem rformed_all : ∀ (m : Nat) (k n : Int) (s : List UInt8) (l : List Val) (a : Option Addr) (c : Nat) (H : Hp), wszV (.mk k n s l) ≤ m → m ≤ 1000000 → SlR valR H a c l → FnC Try.prog 76 #[.agg ⟨[.int .i64 k, .int .i64 n, .string (bsOf s), .slice a l.length c]⟩] H [] (RetR (fun v _ _ => v = .bool (formedB (.mk k n s l)))) := by
 intro m
 refine Nat.strongRecOn m ?_
 clear m
 intro m ih k n s l a c H hw hm hs
 have hwl := wsz_len (l := l)
 rw [wszV] at hw
 refine FnC.intro (args := [.agg ⟨[.int .i64 k, .int .i64 n, .string (bsOf s), .slice a l.length c]⟩]) Try.func76 rfl rfl Try.ntmps76 rfl rfl rfl fun G rest => ?_
 refine XC.seq ?_; refine XC.region ?_; refine XO.box rfl rfl rfl (fun b1 => ?_); refine XO.assign rfl rfl ?_; refine XO.nil ?_; refine XC.seq2 ?_; refine XC.seq ?_; refine XC.seq ?_; refine XC.region ?_; refine XO.fieldAddr rfl fa_87_0 rfl ?_; refine XO.loadO 0 rfl rfl ty_3 rfl rfl rfl ?_; refine XO.nil ?_; refine XC.seq2 ?_; refine XC.block ?_; refine XC.seq ?_; refine XC.region ?_; refine XO.eql rfl rfl rfl ?_; refine XO.assign rfl rfl ?_; refine XO.nil ?_; refine XC.seq2 ?_; refine XC.cond rfl (fun c0_1 => ?_) (fun c0_1 => ?_)
 ·obtain rfl : k = 1 := by omega
  refine XC.seq ?_; refine XC.region ?_; refine XO.fieldAddr rfl fa_87_2 rfl ?_; refine XO.loadO 0 rfl rfl ty_9 rfl rfl rfl ?_; refine XO.eqlS rfl rfl rfl ?_; refine XO.move rfl rfl ?_; refine XO.guardC rfl rfl rfl rfl (fun g2 => ?_) (fun g2 => ?_)
  ·have g2p := of_decide_eq_true g2
   refine XO.fieldAddr rfl fa_87_3 rfl ?_; refine XO.guardT rfl rfl (g2) rfl ?_; refine XO.loadO 0 rfl rfl ty_85 rfl rfl rfl ?_; refine XO.guardT rfl rfl (g2) rfl ?_; refine XO.lenS (ts := #[]) rfl Try.underlying85 rfl ?_; refine XO.guardT rfl rfl (g2) rfl ?_; refine XO.eql rfl rfl rfl ?_; refine XO.pickT rfl (g2) rfl rfl ?_; refine XO.assign rfl rfl ?_; refine XO.nil ?_; refine XC.seq2 ?_; refine XC.ret ?_; refine blockR ?_; refine seqX_ret ?_; refine ⟨rfl, _, [], rfl, (by repeat (first | exact List.Sublist.refl _ | apply List.Sublist.cons)), RetR.mk ?_⟩
   first | exact congrArg Value.bool (Bool.eq_iff_iff.2 (by rw [formed1]; simp_all)) | exact congrArg Value.bool (bfalse (by rw [formed1]; simp_all)).symm
  ·have g2p := of_decide_eq_false g2
   refine XO.guardF rfl rfl (g2) rfl rfl ?_; refine XO.guardF rfl rfl (g2) rfl rfl ?_; refine XO.guardF rfl rfl (g2) rfl rfl ?_; refine XO.pickF rfl (g2) rfl rfl ?_; refine XO.assign rfl rfl ?_; refine XO.nil ?_; refine XC.seq2 ?_; refine XC.ret ?_; refine blockR ?_; refine seqX_ret ?_; refine ⟨rfl, _, [], rfl, (by repeat (first | exact List.Sublist.refl _ | apply List.Sublist.cons)), RetR.mk ?_⟩
   first | exact congrArg Value.bool (Bool.eq_iff_iff.2 (by rw [formed1]; simp_all)) | exact congrArg Value.bool (bfalse (by rw [formed1]; simp_all)).symm
 ·refine XC.seq ?_; refine XC.region ?_; refine XO.eql rfl rfl rfl ?_; refine XO.assign rfl rfl ?_; refine XO.nil ?_; refine XC.seq2 ?_; refine XC.cond rfl (fun c1_3 => ?_) (fun c1_3 => ?_)
  ·obtain rfl : k = 2 := by omega
   refine XC.seq ?_; refine XC.region ?_; refine XO.fieldAddr rfl fa_87_1 rfl ?_; refine XO.loadO 0 rfl rfl ty_3 rfl rfl rfl ?_; refine XO.eql rfl rfl rfl ?_; refine XO.move rfl rfl ?_; refine XO.guardC rfl rfl rfl rfl (fun g4 => ?_) (fun g4 => ?_)
   ·have g4p := of_decide_eq_true g4
    refine XO.fieldAddr rfl fa_87_3 rfl ?_; refine XO.guardT rfl rfl (g4) rfl ?_; refine XO.loadO 0 rfl rfl ty_85 rfl rfl rfl ?_; refine XO.guardT rfl rfl (g4) rfl ?_; refine XO.lenS (ts := #[]) rfl Try.underlying85 rfl ?_; refine XO.guardT rfl rfl (g4) rfl ?_; refine XO.eql rfl rfl rfl ?_; refine XO.pickT rfl (g4) rfl rfl ?_; refine XO.assign rfl rfl ?_; refine XO.nil ?_; refine XC.seq2 ?_; refine XC.ret ?_; refine blockR ?_; refine seqX_ret ?_; refine ⟨rfl, _, [], rfl, (by repeat (first | exact List.Sublist.refl _ | apply List.Sublist.cons)), RetR.mk ?_⟩
    first | exact congrArg Value.bool (Bool.eq_iff_iff.2 (by rw [formed2]; simp_all)) | exact congrArg Value.bool (bfalse (by rw [formed2]; simp_all)).symm
   ·have g4p := of_decide_eq_false g4
    refine XO.guardF rfl rfl (g4) rfl rfl ?_; refine XO.guardF rfl rfl (g4) rfl rfl ?_; refine XO.guardF rfl rfl (g4) rfl rfl ?_; refine XO.pickF rfl (g4) rfl rfl ?_; refine XO.assign rfl rfl ?_; refine XO.nil ?_; refine XC.seq2 ?_; refine XC.ret ?_; refine blockR ?_; refine seqX_ret ?_; refine ⟨rfl, _, [], rfl, (by repeat (first | exact List.Sublist.refl _ | apply List.Sublist.cons)), RetR.mk ?_⟩
    first | exact congrArg Value.bool (Bool.eq_iff_iff.2 (by rw [formed2]; simp_all)) | exact congrArg Value.bool (bfalse (by rw [formed2]; simp_all)).symm
  ·refine XC.seq ?_; refine XC.region ?_; refine XO.eql rfl rfl rfl ?_; refine XO.assign rfl rfl ?_; refine XO.nil ?_; refine XC.seq2 ?_; refine XC.cond rfl (fun c2_5 => ?_) (fun c2_5 => ?_)
   ·obtain rfl : k = 3 := by omega
    refine XC.seq ?_; refine XC.seq ?_; refine XC.region ?_; refine XO.assign rfl rfl ?_; refine XO.nil ?_; refine XC.seq2 ?_; refine XC.block ?_; refine XC.keep [3, 1] rfl ?_; refine XC.loop (base := [(1, _)]) (fun ζ : Nat => [(3, .int .i64 (ζ : Nat))]) (fun ζ Hl own => ζ ≤ l.length ∧ (b1, .cells 87 [.int .i64 3, .int .i64 n, .string (bsOf s), .slice a l.length c]) :: rest = own ∧ (formedL (l.take ζ) = true)) (fun ζ => l.length - ζ) 0 (prov_cons (rfl) (prov_cons (rfl) prov_nil)) (by repeat (first | exact List.Sublist.refl _ | apply List.Sublist.cons_cons | apply List.Sublist.cons)) ⟨Nat.zero_le _, rfl, rfl⟩ ?_; rintro i Hl0 _ hle0 ⟨hki, rfl, hfo⟩; replace hs := hs.mono hle0
    try dsimp only at ⊢
    refine XC.seq ?_; refine XC.seq ?_; refine XC.region ?_; refine XO.move rfl rfl ?_; refine XO.fieldAddr rfl fa_87_3 rfl ?_; refine XO.loadO 0 rfl rfl ty_85 rfl rfl rfl ?_; refine XO.lenS (ts := #[]) rfl Try.underlying85 rfl ?_; refine XO.lss rfl rfl rfl ?_; refine XO.nil ?_; refine XC.seq2 ?_; refine XC.cond rfl (fun c3_6 => ?_) (fun c3_6 => ?_)
    ·refine XC.skip ?_; refine XC.seq2 ?_; refine XC.seq ?_; refine XC.block ?_; refine XC.seq ?_; refine XC.region ?_; refine XO.fieldAddr rfl fa_87_3 rfl ?_; refine XO.loadO 0 rfl rfl ty_85 rfl rfl rfl ?_; refine XO.move rfl rfl ?_; refine XO.indexN rfl hs rfl Try.underlying85 ty_87 (by omega) rfl ?_; rintro eb40 eo40 _ x40 hx40 hR40 hp40; obtain ⟨k40, n40, s40, l40⟩ := x40; obtain ⟨a40, c40, rfl, hd40⟩ := valR_iff.1 hR40; refine XO.loadH rfl (by assumption) ty_87 rfl rfl rfl ?_
     have hwx := wsz_mem (List.mem_of_getElem? hx40)
     have hcall := ih (wszV (.mk k40 n40 s40 l40)) (by omega) k40 n40 s40 l40 a40 c40 _ (Nat.le_refl _) (by omega) hd40
     refine XO.callV rfl hcall rfl ?_; refine XO.notB rfl rfl ?_; refine XO.nil ?_; refine XC.seq2 ?_; refine XC.condB rfl (fun c4_9 => ?_) (fun c4_9 => ?_)
     ·refine XC.seq ?_; refine XC.region ?_; refine XO.assign rfl rfl ?_; refine XO.nil ?_; refine XC.seq2 ?_; refine XC.ret ?_; refine blockR ?_; refine seqX_ret ?_; refine loopX_ret ?_; refine blockR ?_; refine seqX_ret ?_; refine blockR ?_; refine seqX_ret ?_; refine ⟨rfl, _, [], rfl, (by repeat (first | exact List.Sublist.refl _ | apply List.Sublist.cons)), RetR.mk ?_⟩
      exact congrArg Value.bool (bfalse fun h => by have h9 := formedL_iff.1 (formed3.1 h).2 _ (List.mem_of_getElem? hx40); simp_all).symm
     ·refine XC.skip ?_; refine blockN ?_; refine XC.seq2 ?_; refine XC.region ?_; refine XO.move rfl rfl ?_; refine XO.add rfl rfl (wrap_i64 (by omega) (by omega)) rfl ?_; refine XO.assign rfl rfl ?_; refine XO.nil ?_; refine loop_next (i + 1) (by show l.length - (i + 1) < l.length - i; omega) (prov_cons (rfl) (prov_cons (rfl) prov_nil)) (⟨by show i + 1 ≤ l.length; omega, rfl, fl_yes hx40 hfo (by simp_all)⟩) (by repeat (first | exact List.Sublist.refl _ | apply List.Sublist.cons_cons | apply List.Sublist.cons)) (hle0)
    ·obtain rfl : i = l.length := by omega
     rw [List.take_length] at hfo
     refine XC.exit ?_; refine seqX_exit ?_; refine loopX_exit ?_; refine blockHit rfl ?_; refine XC.seq2 ?_; refine XC.seq ?_; refine XC.region ?_; refine XO.fieldAddr rfl fa_87_1 rfl ?_; refine XO.loadO 0 rfl rfl ty_3 rfl rfl rfl ?_; refine XO.eql rfl rfl rfl ?_; refine XO.move rfl rfl ?_; refine XO.guardC rfl rfl rfl rfl (fun g10 => ?_) (fun g10 => ?_)
     ·have g10p := of_decide_eq_true g10
      refine XO.fieldAddr rfl fa_87_2 rfl ?_; refine XO.guardT rfl rfl (g10) rfl ?_; refine XO.loadO 0 rfl rfl ty_9 rfl rfl rfl ?_; refine XO.guardT rfl rfl (g10) rfl ?_; refine XO.eqlS rfl rfl rfl ?_; refine XO.pickT rfl (g10) rfl rfl ?_; refine XO.assign rfl rfl ?_; refine XO.nil ?_; refine XC.seq2 ?_; refine XC.ret ?_; refine blockR ?_; refine seqX_ret ?_; refine ⟨rfl, _, [], rfl, (by repeat (first | exact List.Sublist.refl _ | apply List.Sublist.cons)), RetR.mk ?_⟩
      first | exact congrArg Value.bool (Bool.eq_iff_iff.2 (by rw [formed3]; simp_all)) | exact congrArg Value.bool (bfalse (by rw [formed3]; simp_all)).symm
     ·have g10p := of_decide_eq_false g10
      refine XO.guardF rfl rfl (g10) rfl rfl ?_; refine XO.guardF rfl rfl (g10) rfl rfl ?_; refine XO.pickF rfl (g10) rfl rfl ?_; refine XO.assign rfl rfl ?_; refine XO.nil ?_; refine XC.seq2 ?_; refine XC.ret ?_; refine blockR ?_; refine seqX_ret ?_; refine ⟨rfl, _, [], rfl, (by repeat (first | exact List.Sublist.refl _ | apply List.Sublist.cons)), RetR.mk ?_⟩
      first | exact congrArg Value.bool (Bool.eq_iff_iff.2 (by rw [formed3]; simp_all)) | exact congrArg Value.bool (bfalse (by rw [formed3]; simp_all)).symm
   ·refine XC.skip ?_; refine blockN ?_; refine XC.seq2 ?_; refine XC.seq ?_; refine XC.region ?_; refine XO.assign rfl rfl ?_; refine XO.nil ?_; refine XC.seq2 ?_; refine XC.ret ?_; refine ⟨rfl, _, [], rfl, (by repeat (first | exact List.Sublist.refl _ | apply List.Sublist.cons)), RetR.mk ?_⟩
    exact congrArg Value.bool (formed0 ⟨by omega, by omega, by omega⟩).symm
theorem depth_all : ∀ (m : Nat) (k n : Int) (s : List UInt8) (l : List Val) (a : Option Addr) (c : Nat) (H : Hp), wszV (.mk k n s l) ≤ m → m ≤ 1000000 → SlR valR H a c l → FnC Try.prog 77 #[.agg ⟨[.int .i64 k, .int .i64 n, .string (bsOf s), .slice a l.length c]⟩] H [] (RetR (fun v _ _ => v = .int .i64 (depthV (.mk k n s l) : Nat))) := by
 intro m
 refine Nat.strongRecOn m ?_
 clear m
 intro m ih k n s l a c H hw hm hs
 have hwl := wsz_len (l := l)
 rw [wszV] at hw
 refine FnC.intro (args := [.agg ⟨[.int .i64 k, .int .i64 n, .string (bsOf s), .slice a l.length c]⟩]) Try.func77 rfl rfl Try.ntmps77 rfl rfl rfl fun G rest => ?_
 refine XC.seq ?_; refine XC.region ?_; refine XO.box rfl rfl rfl (fun b1 => ?_); refine XO.assign rfl rfl ?_; refine XO.nil ?_; refine XC.seq2 ?_; refine XC.seq ?_; refine XC.seq ?_; refine XC.region ?_; refine XO.fieldAddr rfl fa_87_0 rfl ?_; refine XO.loadO 0 rfl rfl ty_3 rfl rfl rfl ?_; refine XO.neq rfl rfl rfl ?_; refine XO.nil ?_; refine XC.seq2 ?_; refine XC.cond rfl (fun c0_1 => ?_) (fun c0_1 => ?_)
 ·refine XC.seq ?_; refine XC.region ?_; refine XO.assign rfl rfl ?_; refine XO.nil ?_; refine XC.seq2 ?_; refine XC.ret ?_; refine seqX_ret ?_; refine ⟨rfl, _, [], rfl, (by repeat (first | exact List.Sublist.refl _ | apply List.Sublist.cons)), RetR.mk ?_⟩
  exact congrArg (Value.int .i64) (by rw [depthV, if_neg (by omega)]; rfl)
 ·obtain rfl : k = 3 := by omega
  refine XC.skip ?_; refine XC.seq2 ?_; refine XC.seq ?_; refine XC.region ?_; refine XO.assign rfl rfl ?_; refine XO.nil ?_; refine XC.seq2 ?_; refine XC.seq ?_; refine XC.seq ?_; refine XC.region ?_; refine XO.assign rfl rfl ?_; refine XO.nil ?_; refine XC.seq2 ?_; refine XC.block ?_; refine XC.keep [3, 4, 1] rfl ?_; refine XC.loop (base := [(1, _)]) (fun ζ : Nat => [(3, .int .i64 ((depthL (l.take ζ) : Nat) : Int)), (4, .int .i64 (ζ : Nat))]) (fun ζ Hl own => ζ ≤ l.length ∧ (b1, .cells 87 [.int .i64 3, .int .i64 n, .string (bsOf s), .slice a l.length c]) :: rest = own) (fun ζ => l.length - ζ) 0 (prov_cons (rfl) (prov_cons (rfl) (prov_cons (rfl) prov_nil))) (by repeat (first | exact List.Sublist.refl _ | apply List.Sublist.cons_cons | apply List.Sublist.cons)) ⟨Nat.zero_le _, rfl⟩ ?_; rintro i Hl0 _ hle0 ⟨hki, rfl⟩; replace hs := hs.mono hle0
  try dsimp only at ⊢
  refine XC.seq ?_; refine XC.seq ?_; refine XC.region ?_; refine XO.move rfl rfl ?_; refine XO.fieldAddr rfl fa_87_3 rfl ?_; refine XO.loadO 0 rfl rfl ty_85 rfl rfl rfl ?_; refine XO.lenS (ts := #[]) rfl Try.underlying85 rfl ?_; refine XO.lss rfl rfl rfl ?_; refine XO.nil ?_; refine XC.seq2 ?_; refine XC.cond rfl (fun c1_2 => ?_) (fun c1_2 => ?_)
  ·refine XC.skip ?_; refine XC.seq2 ?_; refine XC.seq ?_; refine XC.block ?_; refine XC.region ?_; refine XO.move rfl rfl ?_; refine XO.fieldAddr rfl fa_87_3 rfl ?_; refine XO.loadO 0 rfl rfl ty_85 rfl rfl rfl ?_; refine XO.move rfl rfl ?_; refine XO.indexN rfl hs rfl Try.underlying85 ty_87 (by omega) rfl ?_; rintro eb19 eo19 _ x19 hx19 hR19 hp19; obtain ⟨k19, n19, s19, l19⟩ := x19; obtain ⟨a19, c19, rfl, hd19⟩ := valR_iff.1 hR19; refine XO.loadH rfl (by assumption) ty_87 rfl rfl rfl ?_
   have hwx := wsz_mem (List.mem_of_getElem? hx19)
   have hcall := ih (wszV (.mk k19 n19 s19 l19)) (by omega) k19 n19 s19 l19 a19 c19 _ (Nat.le_refl _) (by omega) hd19
   refine XO.callV rfl hcall rfl ?_; refine XO.maxI (c := ((depthL (l.take (i + 1)) : Nat) : Int)) rfl rfl (by rw [dl_max hx19]; split <;> omega) rfl ?_; refine XO.assign rfl rfl ?_; refine XO.nil ?_; refine blockN ?_; refine XC.seq2 ?_; refine XC.region ?_; refine XO.move rfl rfl ?_; refine XO.add rfl rfl (wrap_i64 (by omega) (by omega)) rfl ?_; refine XO.assign rfl rfl ?_; refine XO.nil ?_; refine loop_next (i + 1) (by show l.length - (i + 1) < l.length - i; omega) (prov_cons (rfl) (prov_cons (rfl) (prov_cons (rfl) prov_nil))) (⟨by show i + 1 ≤ l.length; omega, rfl⟩) (by repeat (first | exact List.Sublist.refl _ | apply List.Sublist.cons_cons | apply List.Sublist.cons)) (hle0)
  ·obtain rfl : i = l.length := by omega
   rw [List.take_length]
   have hdw := depthL_wsz (l := l) (fun x _ => depth_wsz x)
   refine XC.exit ?_; refine seqX_exit ?_; refine loopX_exit ?_; refine blockHit rfl ?_; refine XC.seq2 ?_; refine XC.seq ?_; refine XC.region ?_; refine XO.move rfl rfl ?_; refine XO.add rfl rfl (wrap_i64 (by omega) (by omega)) rfl ?_; refine XO.assign rfl rfl ?_; refine XO.nil ?_; refine XC.seq2 ?_; refine XC.ret ?_; refine ⟨rfl, _, [], rfl, (by repeat (first | exact List.Sublist.refl _ | apply List.Sublist.cons)), RetR.mk ?_⟩
   exact congrArg (Value.int .i64) (by rw [depthV, if_pos rfl]; omega)
theorem rcheck_fn (k n : Int) (s : List UInt8) (l : List Val) (a : Option Addr) (c : Nat) (H : Hp) (hw : wszV (.mk k n s l) ≤ 1000000) (hs : SlR valR H a c l) : FnC Try.prog 68 #[.agg ⟨[.int .i64 k, .int .i64 n, .string (bsOf s), .slice a l.length c]⟩] H [] (RetR (fun v _ _ => v = .int .i64 (chkV (.mk k n s l)))) := by
 refine FnC.intro (args := [.agg ⟨[.int .i64 k, .int .i64 n, .string (bsOf s), .slice a l.length c]⟩]) Try.func68 rfl rfl Try.ntmps68 rfl rfl rfl fun G rest => ?_
 refine XC.seq ?_; refine XC.region ?_; refine XO.box rfl rfl rfl (fun b1 => ?_); refine XO.assign rfl rfl ?_; refine XO.nil ?_; refine XC.seq2 ?_; refine XC.seq ?_; refine XC.seq ?_; refine XC.region ?_; refine XO.loadO 0 rfl rfl ty_87 rfl rfl rfl ?_
 have hcall := rformed_all 1000000 k n s l a c _ hw (Nat.le_refl _) hs
 refine XO.callV rfl hcall rfl ?_; refine XO.notB rfl rfl ?_; refine XO.nil ?_; refine XC.seq2 ?_; refine XC.condB rfl (fun c0_2 => ?_) (fun c0_2 => ?_)
 ·have hf : formedB (.mk k n s l) = false := by simpa using c0_2
  refine XC.seq ?_; refine XC.region ?_; refine XO.assign rfl rfl ?_; refine XO.nil ?_; refine XC.seq2 ?_; refine XC.ret ?_; refine seqX_ret ?_; refine ⟨rfl, _, [], rfl, (by repeat (first | exact List.Sublist.refl _ | apply List.Sublist.cons)), RetR.mk ?_⟩
  exact congrArg (Value.int .i64) (chk_1 hf).symm
 ·have hf : formedB (.mk k n s l) = true := by simpa using c0_2
  refine XC.skip ?_; refine XC.seq2 ?_; refine XC.seq ?_; refine XC.seq ?_; refine XC.region ?_; refine XO.loadO 0 rfl rfl ty_87 rfl rfl rfl ?_
  have hcall := depth_all 1000000 k n s l a c _ hw (Nat.le_refl _) hs
  refine XO.callV rfl hcall rfl ?_; refine XO.gtr rfl rfl rfl ?_; refine XO.nil ?_; refine XC.seq2 ?_; refine XC.cond rfl (fun c1_4 => ?_) (fun c1_4 => ?_)
  ·refine XC.seq ?_; refine XC.region ?_; refine XO.assign rfl rfl ?_; refine XO.nil ?_; refine XC.seq2 ?_; refine XC.ret ?_; refine seqX_ret ?_; refine ⟨rfl, _, [], rfl, (by repeat (first | exact List.Sublist.refl _ | apply List.Sublist.cons)), RetR.mk ?_⟩
   exact congrArg (Value.int .i64) (chk_2 hf (by omega)).symm
  ·refine XC.skip ?_; refine XC.seq2 ?_; refine XC.seq ?_; refine XC.region ?_; refine XO.assign rfl rfl ?_; refine XO.nil ?_; refine XC.seq2 ?_; refine XC.ret ?_; refine ⟨rfl, _, [], rfl, (by repeat (first | exact List.Sublist.refl _ | apply List.Sublist.cons)), RetR.mk ?_⟩
   exact congrArg (Value.int .i64) (chk_0 hf (by omega)).symm
theorem uns_fn (n : Int) (hn : -9223372036854775808 ≤ n ∧ n ≤ 9223372036854775807) (H : Hp) : FnC Try.prog 73 #[.int .i64 n] H [] (RetR (fun v _ _ => v = .int .u64 (unsV n : Nat))) := by
 refine FnC.intro (args := [.int .i64 n]) Try.func73 rfl rfl Try.ntmps73 rfl rfl rfl fun G rest => ?_
 refine XC.seq ?_; refine XC.region ?_; refine XO.assign rfl rfl ?_; refine XO.nil ?_; refine XC.seq2 ?_; refine XC.seq ?_; refine XC.region ?_; refine XO.move rfl rfl ?_; refine XO.convI rfl Try.underlying3 Try.underlying108 (wrap_u64_mod _) rfl ?_; refine XO.shl rfl rfl (by omega) rfl ?_; refine XO.move rfl rfl ?_; refine XO.shr rfl rfl (by omega) rfl ?_; refine XO.convI rfl Try.underlying3 Try.underlying108 rfl rfl ?_; refine XO.bxor rfl rfl rfl ?_; refine XO.assign rfl rfl ?_; refine XO.nil ?_; refine XC.seq2 ?_; refine XC.ret ?_; refine ⟨rfl, _, [], rfl, (by repeat (first | exact List.Sublist.refl _ | apply List.Sublist.cons)), RetR.mk ?_⟩
 exact congrArg (Value.int .u64) (uns_bits hn)
end Go.Proofs

/- Walks that are alike in other seats, in this seat's numbers. -/
set_option autoImplicit false
set_option linter.unusedVariables false
set_option linter.unusedSimpArgs false
namespace Go.Proofs
open Go.XL

theorem by_5 : Nat.ble (Try.prog.bytesOf 5) 4096 = true := by kernel_rfl
theorem ty_5 : tyF Try.prog 5 1 false = true := by kernel_rfl
theorem ze_5 : zeroC Try.prog 5 = some [.int .u8 0] := by kernel_rfl
theorem runs_fn (n : Int) (hn : -9223372036854775808 ≤ n ∧ n ≤ 9223372036854775807) (H : Hp) : FnC Try.prog 79 #[.int .i64 n] H [] (RetR (fun v _ _ => v = .int .u64 (unsV n : Nat))) := by
 refine FnC.intro (args := [.int .i64 n]) Try.func79 rfl rfl Try.ntmps79 rfl rfl rfl fun G rest => ?_
 refine XC.seq ?_; refine XC.region ?_; refine XO.assign rfl rfl ?_; refine XO.nil ?_; refine XC.seq2 ?_; refine XC.seq ?_; refine XC.seq ?_; refine XC.region ?_; refine XO.move rfl rfl ?_; refine XO.geq rfl rfl rfl ?_; refine XO.nil ?_; refine XC.seq2 ?_; refine XC.cond rfl (fun c0_1 => ?_) (fun c0_1 => ?_)
 ·refine XC.seq ?_; refine XC.region ?_; refine XO.move rfl rfl ?_; refine XO.convI rfl Try.underlying3 Try.underlying108 (wrap_u64 (by omega) (by omega)) rfl ?_; refine XO.mul rfl rfl (wrap_u64 (by omega) (by omega)) rfl ?_; refine XO.assign rfl rfl ?_; refine XO.nil ?_; refine XC.seq2 ?_; refine XC.ret ?_; refine seqX_ret ?_; refine ⟨rfl, _, [], rfl, (by repeat (first | exact List.Sublist.refl _ | apply List.Sublist.cons)), RetR.mk ?_⟩
  exact congrArg (Value.int .u64) (by unfold unsV; rw [if_pos (by omega)]; omega)
 ·refine XC.skip ?_; refine XC.seq2 ?_; refine XC.seq ?_; refine XC.region ?_; refine XO.move rfl rfl ?_; refine XO.add rfl rfl (wrap_i64 (by omega) (by omega)) rfl ?_; refine XO.neg rfl (wrap_i64 (by omega) (by omega)) rfl ?_; refine XO.convI rfl Try.underlying3 Try.underlying108 (wrap_u64 (by omega) (by omega)) rfl ?_; refine XO.mul rfl rfl (wrap_u64 (by omega) (by omega)) rfl ?_; refine XO.add rfl rfl (wrap_u64 (by omega) (by omega)) rfl ?_; refine XO.assign rfl rfl ?_; refine XO.nil ?_; refine XC.seq2 ?_; refine XC.ret ?_; refine ⟨rfl, _, [], rfl, (by repeat (first | exact List.Sublist.refl _ | apply List.Sublist.cons)), RetR.mk ?_⟩
  exact congrArg (Value.int .u64) (by unfold unsV; rw [if_neg (by omega)]; omega)
theorem rnum_all : ∀ (u : Nat) (H : Hp), u < 18446744073709551616 → FnC Try.prog 78 #[.int .u64 (u : Nat)] H [] (RetR fun v H2 _ => ∃ a c, v = .slice a (numL u).length c ∧ SlR u8R H2 a c (numL u)) := by
 intro u
 refine Nat.strongRecOn u ?_
 clear u
 intro u ih H hu
 refine FnC.intro (args := [.int .u64 (u : Nat)]) Try.func78 rfl rfl Try.ntmps78 rfl rfl rfl fun G rest => ?_
 refine XC.seq ?_; refine XC.region ?_; refine XO.assign rfl rfl ?_; refine XO.nil ?_; refine XC.seq2 ?_; refine XC.seq ?_; refine XC.seq ?_; refine XC.region ?_; refine XO.move rfl rfl ?_; refine XO.lss rfl rfl rfl ?_; refine XO.nil ?_; refine XC.seq2 ?_; refine XC.cond rfl (fun c0_1 => ?_) (fun c0_1 => ?_)
 ·refine XC.seq ?_; refine XC.region ?_; refine XO.move rfl rfl ?_; refine XO.convI (c := (((UInt8.ofNat u).toNat : Nat) : Int)) rfl Try.underlying108 Try.underlying5 (by rw [ofNat_toNat (by omega)]; exact wrap_u8 (by omega) (by omega)) rfl ?_; refine XO.buildSlice rfl Try.underlying44 ty_5 ze_5 rfl rfl rfl (fun b7 => ?_); refine XO.publish 0 rfl rfl rfl (fun HP7 oP7 hleP7 hbP7 hoP7 => ?_)
  have hsl7 := SlR.lit (ρ := u8R) (l := [UInt8.ofNat u]) hbP7 hoP7 (RowsR.one1 rfl)
  refine XO.assign rfl rfl ?_; refine XO.nil ?_; refine XC.seq2 ?_; refine XC.ret ?_; refine seqX_ret ?_; refine ⟨rfl, _, [], rfl, (by repeat (first | exact List.Sublist.refl _ | apply List.Sublist.cons)), RetR.mk ?_⟩
  have e : numL u = [UInt8.ofNat u] := by rw [numL, dif_pos (by omega)]
  rw [e]
  exact ⟨_, _, rfl, by assumption⟩
 ·refine XC.skip ?_; refine XC.seq2 ?_; refine XC.seq ?_; refine XC.region ?_; refine XO.move rfl rfl ?_; refine XO.rem (c := ((u % 128 : Nat) : Int)) rfl rfl (by decide) (rem_nn (by omega)) rfl ?_; refine XO.add (c := ((u % 128 + 128 : Nat) : Int)) rfl rfl ((wrap_u64 (by omega) (by omega)).trans (by omega)) rfl ?_; refine XO.convI (c := (((UInt8.ofNat (u % 128 + 128)).toNat : Nat) : Int)) rfl Try.underlying108 Try.underlying5 (by rw [ofNat_toNat (by omega)]; exact wrap_u8 (by omega) (by omega)) rfl ?_; refine XO.buildRow (ρ := u8R) (l := [UInt8.ofNat (u % 128 + 128)]) rfl Try.underlying44 ty_5 ze_5 rfl rfl rfl (RowsR.one1 rfl) rfl (fun p12 a12 c12 hacc12 => ?_); refine XO.move rfl rfl ?_; refine XO.quo (c := ((u / 128 : Nat) : Int)) rfl rfl (by decide) (by rw [Int.tdiv_eq_ediv_of_nonneg (by omega)]; exact (wrap_u64 (by omega) (by omega)).trans (by omega)) rfl ?_
  have hcall15 := ih (u / 128) (by omega) H (by omega)
  refine XO.callH rfl hcall15 rfl ?_; rintro _ HN15 hleN15 ⟨aN15, cN15, rfl, hN15⟩; replace hacc12 := hacc12.mono hleN15
  have hnl := numL_10 (u := u / 128) (by omega)
  refine XO.appendA 0 rfl rfl hacc12 rfl rfl hN15 rfl Try.underlying44 ty_5 ze_5 rfl by_5 (by simp; omega) rfl (fun p16 a16 c16 hacc16 => ?_); refine XO.publishA 0 rfl hacc16 rfl (fun HQ9 hleQ9 hsQ9 => ?_); replace hN15 := hN15.mono hleQ9; refine XO.assign rfl rfl ?_; refine XO.nil ?_; refine XC.seq2 ?_; refine XC.ret ?_; refine ⟨rfl, _, [], rfl, (by repeat (first | exact List.Sublist.refl _ | apply List.Sublist.cons)), RetR.mk ?_⟩
  have e : numL u = [UInt8.ofNat (u % 128 + 128)] ++ numL (u / 128) := by rw [numL, dif_neg (by omega)]; rfl
  rw [e]
  exact ⟨_, _, rfl, by assumption⟩
end Go.Proofs

/- Walks that are alike in other seats, in this seat's numbers. -/
set_option autoImplicit false
set_option linter.unusedVariables false
set_option linter.unusedSimpArgs false
namespace Go.Proofs
open Go.XL

theorem bf_87 : structF Try.prog 87 = some [(0, 1), (1, 1), (2, 1), (3, 1)] := by kernel_rfl
theorem bk_87 : structK Try.prog 87 = true := by kernel_rfl
theorem list_fn (a : Option Addr) (c : Nat) (l : List Val) (H : Hp) : FnC Try.prog 61 #[.slice a l.length c] H [] (RetR (fun v _ _ => v = .agg ⟨[.int .i64 3, .int .i64 0, .string (bsOf []), .slice a l.length c]⟩)) := by
 refine FnC.introC (args := [.slice a l.length c]) Try.func61 rfl rfl Try.ntmps61 rfl rfl rfl fun G rest => ?_
 refine XC.seq ?_; refine XC.region ?_; refine XO.alloc ze_87 rfl (fun b2 => ?_); refine XO.nil ?_; refine XC.seq2 ?_; refine XC.seq ?_; refine XC.region ?_; refine XO.move rfl rfl ?_; refine XO.build bk_87 bf_87 ze_87 rfl rfl rfl ?_; refine XO.storeO 0 rfl rfl rfl rfl ty_87 rfl rfl rfl rfl rfl ?_; refine XO.nil ?_; refine XC.seq2 ?_; refine XC.ret ?_; refine ⟨rfl, _, [], (resC_cell 0 rfl rfl ty_87 rfl rfl resC_nil), (by repeat (first | exact List.Sublist.refl _ | apply List.Sublist.cons)), RetR.mk ?_⟩
 rfl
theorem int_fn (n : Int) (H : Hp) : FnC Try.prog 62 #[.int .i64 n] H [] (RetR (fun v _ _ => v = .agg ⟨[.int .i64 1, .int .i64 n, .string (bsOf []), .slice none 0 0]⟩)) := by
 refine FnC.introC (args := [.int .i64 n]) Try.func62 rfl rfl Try.ntmps62 rfl rfl rfl fun G rest => ?_
 refine XC.seq ?_; refine XC.region ?_; refine XO.alloc ze_87 rfl (fun b2 => ?_); refine XO.nil ?_; refine XC.seq2 ?_; refine XC.seq ?_; refine XC.region ?_; refine XO.move rfl rfl ?_; refine XO.build bk_87 bf_87 ze_87 rfl rfl rfl ?_; refine XO.storeO 0 rfl rfl rfl rfl ty_87 rfl rfl rfl rfl rfl ?_; refine XO.nil ?_; refine XC.seq2 ?_; refine XC.ret ?_; refine ⟨rfl, _, [], (resC_cell 0 rfl rfl ty_87 rfl rfl resC_nil), (by repeat (first | exact List.Sublist.refl _ | apply List.Sublist.cons)), RetR.mk ?_⟩
 rfl
theorem text_fn (s : List UInt8) (H : Hp) : FnC Try.prog 64 #[.string (bsOf s)] H [] (RetR (fun v _ _ => v = .agg ⟨[.int .i64 2, .int .i64 0, .string (bsOf s), .slice none 0 0]⟩)) := by
 refine FnC.introC (args := [.string (bsOf s)]) Try.func64 rfl rfl Try.ntmps64 rfl rfl rfl fun G rest => ?_
 refine XC.seq ?_; refine XC.region ?_; refine XO.alloc ze_87 rfl (fun b2 => ?_); refine XO.nil ?_; refine XC.seq2 ?_; refine XC.seq ?_; refine XC.region ?_; refine XO.move rfl rfl ?_; refine XO.build bk_87 bf_87 ze_87 rfl rfl rfl ?_; refine XO.storeO 0 rfl rfl rfl rfl ty_87 rfl rfl rfl rfl rfl ?_; refine XO.nil ?_; refine XC.seq2 ?_; refine XC.ret ?_; refine ⟨rfl, _, [], (resC_cell 0 rfl rfl ty_87 rfl rfl resC_nil), (by repeat (first | exact List.Sublist.refl _ | apply List.Sublist.cons)), RetR.mk ?_⟩
 rfl
theorem num_fn (po : Nat × SObj) (ao : Option Addr) (co : Nat) (l0 : List UInt8) (u : Nat) (H : Hp) (hacc : AccB H po ao co l0) (hu : u < 18446744073709551616) (hl : l0.length ≤ 100000000) : FnC Try.prog 72 #[.slice ao l0.length co, .int .u64 (u : Nat)] H [po] (RetR (fun v H2 own => ∃ po2 a2 c2, own = [po2] ∧ v = .slice a2 (l0 ++ numL u).length c2 ∧ AccB H2 po2 a2 c2 (l0 ++ numL u))) := by
 refine FnC.intro (args := [.slice ao l0.length co, .int .u64 (u : Nat)]) Try.func72 rfl rfl Try.ntmps72 rfl rfl rfl fun G rest => ?_
 have hnu := numL_10 (u := u) hu
 refine XC.seq ?_; refine XC.region ?_; refine XO.assign rfl rfl ?_; refine XO.nil ?_; refine XC.seq2 ?_; refine XC.seq ?_; refine XC.block ?_; refine XC.keep [0, 1] rfl ?_; refine XC.loop (base := []) (fun ζ : Nat × (Nat) × (List UInt8) × ((Nat × SObj) × Option Addr × Nat) => [(0, .slice ζ.2.2.2.2.1 (ζ.2.2.1).length ζ.2.2.2.2.2), (1, .int .u64 (ζ.2.1 : Nat))]) (fun ζ Hl own => ζ.2.2.2.1 :: rest = own ∧ Acc u8R 5 Hl ζ.2.2.2.1 ζ.2.2.2.2.1 ζ.2.2.2.2.2 (ζ.2.2.1) ∧ (ζ.2.2.1 ++ numL ζ.2.1 = l0 ++ numL u) ∧ (ζ.2.1 < 18446744073709551616)) (fun ζ => ζ.2.1) (0, u, l0, (po, ao, co)) (prov_cons (rfl) (prov_cons (rfl) prov_nil)) (by repeat (first | exact List.Sublist.refl _ | apply List.Sublist.cons_cons | apply List.Sublist.cons)) ⟨rfl, hacc, rfl, hu⟩ ?_; rintro ⟨q, w, o, ⟨po, ao, co⟩⟩ Hl0 _ hle0 ⟨rfl, hacco, hwo, hwu⟩
 try dsimp only at hacco hwo hwu ⊢
 have hlo : o.length ≤ l0.length + 10 := by have := congrArg List.length hwo; rw [List.length_append, List.length_append] at this; omega
 refine XC.seq ?_; refine XC.seq ?_; refine XC.region ?_; refine XO.move rfl rfl ?_; refine XO.geq rfl rfl rfl ?_; refine XO.nil ?_; refine XC.seq2 ?_; refine XC.cond rfl (fun c0_1 => ?_) (fun c0_1 => ?_)
 ·refine XC.skip ?_; refine XC.seq2 ?_; refine XC.seq ?_; refine XC.block ?_; refine XC.region ?_; refine XO.move rfl rfl ?_; refine XO.move rfl rfl ?_; refine XO.convI (c := ((w % 256 : Nat) : Int)) rfl Try.underlying108 Try.underlying5 (by rw [wrap_u8_mod]; omega) rfl ?_; refine XO.bor rfl rfl rfl ?_
  rw [or_bits]
  refine XO.buildSlice rfl Try.underlying44 ty_5 ze_5 rfl rfl rfl (fun b13 => ?_); refine XO.publish 0 rfl rfl rfl (fun HP13 oP13 hleP13 hbP13 hoP13 => ?_)
  have hsl13 := SlR.lit (ρ := u8R) (l := [UInt8.ofNat (w % 128 + 128)]) hbP13 hoP13 (RowsR.one1 rfl)
  replace hacco := hacco.mono hleP13; replace hle0 := hle0.trans hleP13; refine XO.appendA 0 rfl rfl hacco rfl rfl hsl13 rfl Try.underlying44 ty_5 ze_5 rfl by_5 (by simp; omega) rfl (fun p14 a14 c14 hacc14 => ?_); refine XO.assign rfl rfl ?_; refine XO.nil ?_; refine blockN ?_; refine XC.seq2 ?_; refine XC.region ?_; refine XO.move rfl rfl ?_; refine XO.shr rfl rfl (by decide) rfl ?_
  rw [shr7]
  refine XO.assign rfl rfl ?_; refine XO.nil ?_; refine loop_next ((q, w / 128, o ++ [UInt8.ofNat (w % 128 + 128)], (p14, a14, c14))) (by show w / 128 < w; omega) (prov_cons (by first | rfl) (prov_cons (rfl) prov_nil)) (⟨rfl, by first | (exact hacc14), (numL_yes (by omega) o).trans hwo, by (try dsimp only); omega⟩) (by repeat (first | exact List.Sublist.refl _ | apply List.Sublist.cons_cons | apply List.Sublist.cons)) (hle0)
 ·rw [numL_last (by omega)] at hwo
  refine XC.exit ?_; refine seqX_exit ?_; refine loopX_exit ?_; refine blockHit rfl ?_; refine XC.seq2 ?_; refine XC.seq ?_; refine XC.region ?_; refine XO.move rfl rfl ?_; refine XO.move rfl rfl ?_; refine XO.convI (c := (((UInt8.ofNat w).toNat : Nat) : Int)) rfl Try.underlying108 Try.underlying5 (by rw [ofNat_toNat (by omega)]; exact wrap_u8 (by omega) (by omega)) rfl ?_; refine XO.buildSlice rfl Try.underlying44 ty_5 ze_5 rfl rfl rfl (fun b18 => ?_); refine XO.publish 0 rfl rfl rfl (fun HP18 oP18 hleP18 hbP18 hoP18 => ?_)
  have hsl18 := SlR.lit (ρ := u8R) (l := [UInt8.ofNat w]) hbP18 hoP18 (RowsR.one1 rfl)
  replace hacco := hacco.mono hleP18; replace hle0 := hle0.trans hleP18; refine XO.appendA 0 rfl rfl hacco rfl rfl hsl18 rfl Try.underlying44 ty_5 ze_5 rfl by_5 (by simp; omega) rfl (fun p19 a19 c19 hacc19 => ?_); refine XO.assign rfl rfl ?_; refine XO.nil ?_; refine XC.seq2 ?_; refine XC.ret ?_; refine ⟨rfl, _, [_], rfl, (by repeat (first | exact List.Sublist.refl _ | apply List.Sublist.cons)), RetR.mk ?_⟩
  rw [← hwo]
  exact ⟨_, _, _, rfl, rfl, by assumption⟩
end Go.Proofs

/- Walks that are alike in other seats, in this seat's numbers. -/
set_option autoImplicit false
set_option linter.unusedVariables false
set_option linter.unusedSimpArgs false
namespace Go.Proofs
open Go.XL

theorem w1_fn (n : Int) (s : List UInt8) (l : List Val) (a : Option Addr) (c : Nat) (hn : -9223372036854775808 ≤ n ∧ n ≤ 9223372036854775807) (po : Nat × SObj) (ao : Option Addr) (co : Nat) (l0 : List UInt8) (H : Hp) (hacc : AccB H po ao co l0) (hl0 : l0.length ≤ 60000000) : FnC Try.prog 71 #[.slice ao l0.length co, .agg ⟨[.int .i64 1, .int .i64 n, .string (bsOf s), .slice a l.length c]⟩] H [po] (RetR (fun v H2 own => ∃ po2 a2 c2, own = [po2] ∧ v = .slice a2 (l0 ++ encV (.mk 1 n s l)).length c2 ∧ AccB H2 po2 a2 c2 (l0 ++ encV (.mk 1 n s l)))) := by
 refine FnC.intro (args := [.slice ao l0.length co, .agg ⟨[.int .i64 1, .int .i64 n, .string (bsOf s), .slice a l.length c]⟩]) Try.func71 rfl rfl Try.ntmps71 rfl rfl rfl fun G rest => ?_
 have hu := uns_lt2 hn
 refine XC.seq ?_; refine XC.region ?_; refine XO.box rfl rfl rfl (fun b3 => ?_); refine XO.perm (List.Perm.swap _ _ _) ?_; refine XO.assign rfl rfl ?_; refine XO.nil ?_; refine XC.seq2 ?_; refine XC.seq ?_; refine XC.keep [0, 3] rfl ?_
 apply XC.drawQ (fun _ => True) trivial [2] (FOl (fun j => [l0, l0 ++ [1]].getD j []) ao co) (FOl_mono _ _ _) 5 [eqF _, slF u8R [1], anyF, eqF _, eqF _] follows (by kernel_rfl) ⟨eqF_mono _, slF_mono _ _, anyF_mono, eqF_mono _, eqF_mono _, trivial⟩ (by kernel_rfl) (FOl_0 hacc) ?steps1 ?tail1
 case steps1 =>
  refine stepsQ_cons rfl ?_ ?_
  ·intro X e HD hleD _
   replace hacc := hacc.mono hleD; refine withP_nil rfl ?_
   intro hfa
   refine XO.move rfl rfl ?_; refine XO.nil ?_
   exact stepQV_ok trivial (rfl) (foQ_no rfl)
  refine stepsQ_cons rfl ?_ ?_
  ·intro X e HD hleD _
   replace hacc := hacc.mono hleD; refine withP_nil rfl ?_
   intro hfa
   refine XO.buildSlice rfl Try.underlying44 ty_5 ze_5 rfl rfl rfl (fun b6 => ?_); refine XO.publish 0 rfl rfl rfl (fun HP6 oP6 hleP6 hbP6 hoP6 => ?_)
   have hsl6 := SlR.lit (ρ := u8R) (l := [1]) hbP6 hoP6 (RowsR.one1 rfl)
   replace hacc := hacc.mono hleP6; refine XO.nil ?_
   exact stepQV_ok trivial (⟨_, rfl, hsl6⟩) (foQ_no rfl)
  refine stepsQ_cons rfl ?_ ?_
  ·intro X e HD hleD _
   replace hacc := hacc.mono hleD; refine withP_cons rfl rfl ?_; rintro _ rfl; refine withP_cons rfl rfl ?_; rintro _ ⟨bs6, rfl, hsl6⟩; refine withP_nil rfl ?_
   intro hfa
   have hfa0 := (factQ_0 rfl hfa).1 rfl
   refine XO.appendA 0 rfl rfl hfa0 rfl rfl hsl6 rfl Try.underlying44 ty_5 ze_5 rfl by_5 (by simp; omega) rfl (fun p7 a7 c7 hacc7 => ?_); refine XO.nil ?_
   exact stepQV_ok trivial (trivial) (foQ_mod rfl (by exact FOl_s hacc7))
  refine stepsQ_cons rfl ?_ ?_
  ·intro X e HD hleD _
   replace hacc := hacc.mono hleD; refine withP_nil rfl ?_
   intro hfa
   refine XO.fieldAddr rfl fa_87_1 rfl ?_; refine XO.nil ?_
   exact stepQV_ok trivial (rfl) (foQ_no rfl)
  refine stepsQ_cons rfl ?_ ?_
  ·intro X e HD hleD _
   replace hacc := hacc.mono hleD; refine withP_cons rfl rfl ?_; rintro _ rfl; refine withP_nil rfl ?_
   intro hfa
   refine XO.loadO 1 rfl rfl ty_3 rfl rfl rfl ?_; refine XO.nil ?_
   exact stepQV_ok trivial (rfl) (foQ_no rfl)
  exact stepsQ_end rfl
 case tail1 =>
  intro HD hleD _
  replace hacc := hacc.mono hleD; refine withP_cons rfl rfl ?_; rintro _ rfl; refine withP_cons rfl rfl ?_; rintro _ ⟨bs6, rfl, hsl6⟩; refine withP_cons rfl rfl ?_; rintro _ _; refine withP_cons rfl rfl ?_; rintro _ rfl; refine withP_cons rfl rfl ?_; rintro _ rfl; refine withP_nil rfl ?_
  intro e he
  have hfb := lastQ_s rfl he rfl rfl
  obtain ⟨a7, c7, hv7, hacc7⟩ := hfb.2 (by decide)
  subst hv7
  refine XO.callV rfl (uns_fn n hn _) rfl ?_
  have hcall := num_fn e a7 c7 (l0 ++ [1]) (unsV n) _ hacc7 (by omega) (by simp; omega)
  refine XO.callF 0 rfl hcall rfl rfl ?_; rintro _ HN11 _ hleN11 ⟨p11, a11, c11, rfl, rfl, hacc11⟩; refine ⟨_, rfl, ?_⟩; replace hacc := hacc.mono hleN11; replace hsl6 := hsl6.mono hleN11; refine XO.assign rfl rfl ?_; refine XO.nil ?_; refine XC.seq2 ?_; refine XC.ret ?_; refine ⟨rfl, _, [_], rfl, (by repeat (first | exact List.Sublist.refl _ | apply List.Sublist.cons_cons | apply List.Sublist.cons)), RetR.mk ?_⟩
  rw [encV1, ← List.append_assoc]
  exact ⟨_, _, _, rfl, rfl, by assumption⟩
theorem w2_fn (n : Int) (s : List UInt8) (l : List Val) (a : Option Addr) (c : Nat) (po : Nat × SObj) (ao : Option Addr) (co : Nat) (l0 : List UInt8) (H : Hp) (hacc : AccB H po ao co l0) (hl0 : l0.length + s.length ≤ 60000000) : FnC Try.prog 74 #[.slice ao l0.length co, .agg ⟨[.int .i64 2, .int .i64 n, .string (bsOf s), .slice a l.length c]⟩] H [po] (RetR (fun v H2 own => ∃ po2 a2 c2, own = [po2] ∧ v = .slice a2 (l0 ++ encV (.mk 2 n s l)).length c2 ∧ AccB H2 po2 a2 c2 (l0 ++ encV (.mk 2 n s l)))) := by
 refine FnC.intro (args := [.slice ao l0.length co, .agg ⟨[.int .i64 2, .int .i64 n, .string (bsOf s), .slice a l.length c]⟩]) Try.func74 rfl rfl Try.ntmps74 rfl rfl rfl fun G rest => ?_
 have hnl := numL_10 (u := s.length) (by omega)
 refine XC.seq ?_; refine XC.region ?_; refine XO.box rfl rfl rfl (fun b3 => ?_); refine XO.perm (List.Perm.swap _ _ _) ?_; refine XO.assign rfl rfl ?_; refine XO.nil ?_; refine XC.seq2 ?_; refine XC.seq ?_; refine XC.keep [0, 3] rfl ?_
 apply XC.drawQ (fun _ => True) trivial [2, 7] (FOl (fun j => [l0, l0 ++ [2], (l0 ++ [2]) ++ numL s.length].getD j []) ao co) (FOl_mono _ _ _) 10 [eqF _, slF u8R [2], anyF, eqF _, eqF _, eqF _, eqF _, anyF, eqF _, eqF _] follows (by kernel_rfl) ⟨eqF_mono _, slF_mono _ _, anyF_mono, eqF_mono _, eqF_mono _, eqF_mono _, eqF_mono _, anyF_mono, eqF_mono _, eqF_mono _, trivial⟩ (by kernel_rfl) (FOl_0 hacc) ?steps1 ?tail1
 case steps1 =>
  refine stepsQ_cons rfl ?_ ?_
  ·intro X e HD hleD _
   replace hacc := hacc.mono hleD; refine withP_nil rfl ?_
   intro hfa
   refine XO.move rfl rfl ?_; refine XO.nil ?_
   exact stepQV_ok trivial (rfl) (foQ_no rfl)
  refine stepsQ_cons rfl ?_ ?_
  ·intro X e HD hleD _
   replace hacc := hacc.mono hleD; refine withP_nil rfl ?_
   intro hfa
   refine XO.buildSlice rfl Try.underlying44 ty_5 ze_5 rfl rfl rfl (fun b6 => ?_); refine XO.publish 0 rfl rfl rfl (fun HP6 oP6 hleP6 hbP6 hoP6 => ?_)
   have hsl6 := SlR.lit (ρ := u8R) (l := [2]) hbP6 hoP6 (RowsR.one1 rfl)
   replace hacc := hacc.mono hleP6; refine XO.nil ?_
   exact stepQV_ok trivial (⟨_, rfl, hsl6⟩) (foQ_no rfl)
  refine stepsQ_cons rfl ?_ ?_
  ·intro X e HD hleD _
   replace hacc := hacc.mono hleD; refine withP_cons rfl rfl ?_; rintro _ rfl; refine withP_cons rfl rfl ?_; rintro _ ⟨bs6, rfl, hsl6⟩; refine withP_nil rfl ?_
   intro hfa
   have hfa0 := (factQ_0 rfl hfa).1 rfl
   refine XO.appendA 0 rfl rfl hfa0 rfl rfl hsl6 rfl Try.underlying44 ty_5 ze_5 rfl by_5 (by simp; omega) rfl (fun p7 a7 c7 hacc7 => ?_); refine XO.nil ?_
   exact stepQV_ok trivial (trivial) (foQ_mod rfl (by exact FOl_s hacc7))
  refine stepsQ_cons rfl ?_ ?_
  ·intro X e HD hleD _
   replace hacc := hacc.mono hleD; refine withP_nil rfl ?_
   intro hfa
   refine XO.fieldAddr rfl fa_87_2 rfl ?_; refine XO.nil ?_
   exact stepQV_ok trivial (rfl) (foQ_no rfl)
  refine stepsQ_cons rfl ?_ ?_
  ·intro X e HD hleD _
   replace hacc := hacc.mono hleD; refine withP_cons rfl rfl ?_; rintro _ rfl; refine withP_nil rfl ?_
   intro hfa
   refine XO.loadO 1 rfl rfl ty_9 rfl rfl rfl ?_; refine XO.nil ?_
   exact stepQV_ok trivial (rfl) (foQ_no rfl)
  refine stepsQ_cons rfl ?_ ?_
  ·intro X e HD hleD _
   replace hacc := hacc.mono hleD; refine withP_cons rfl rfl ?_; rintro _ rfl; refine withP_nil rfl ?_
   intro hfa
   refine XO.lenStr rfl Try.underlying9 (by omega) rfl ?_; refine XO.nil ?_
   exact stepQV_ok trivial (rfl) (foQ_no rfl)
  refine stepsQ_cons rfl ?_ ?_
  ·intro X e HD hleD _
   replace hacc := hacc.mono hleD; refine withP_cons rfl rfl ?_; rintro _ rfl; refine withP_nil rfl ?_
   intro hfa
   refine XO.convI (c := ((s.length : Nat) : Int)) rfl Try.underlying3 Try.underlying108 (wrap_u64 (by omega) (by omega)) rfl ?_; refine XO.nil ?_
   exact stepQV_ok trivial (rfl) (foQ_no rfl)
  refine stepsQ_cons rfl ?_ ?_
  ·intro X e HD hleD _
   replace hacc := hacc.mono hleD; refine withP_cons rfl rfl ?_; rintro _ _; refine withP_cons rfl rfl ?_; rintro _ rfl; refine withP_nil rfl ?_
   intro hfa
   have hfb := factQ_s rfl hfa rfl rfl
   obtain ⟨a7, c7, hv7, hfa0⟩ := hfb.2 (by decide)
   subst hv7
   have hcall := num_fn e a7 c7 (l0 ++ [2]) s.length _ hfa0 (by omega) (by simp; omega)
   refine XO.callF 0 rfl hcall rfl rfl ?_; rintro _ HN12 _ hleN12 ⟨p12, a12, c12, rfl, rfl, hacc12⟩; refine ⟨_, rfl, ?_⟩; replace hacc := hacc.mono hleN12; refine XO.nil ?_
   exact stepQV_ok trivial (trivial) (foQ_mod rfl (by exact FOl_s hacc12))
  refine stepsQ_cons rfl ?_ ?_
  ·intro X e HD hleD _
   replace hacc := hacc.mono hleD; refine withP_nil rfl ?_
   intro hfa
   refine XO.fieldAddr rfl fa_87_2 rfl ?_; refine XO.nil ?_
   exact stepQV_ok trivial (rfl) (foQ_no rfl)
  refine stepsQ_cons rfl ?_ ?_
  ·intro X e HD hleD _
   replace hacc := hacc.mono hleD; refine withP_cons rfl rfl ?_; rintro _ rfl; refine withP_nil rfl ?_
   intro hfa
   refine XO.loadO 1 rfl rfl ty_9 rfl rfl rfl ?_; refine XO.nil ?_
   exact stepQV_ok trivial (rfl) (foQ_no rfl)
  exact stepsQ_end rfl
 case tail1 =>
  intro HD hleD _
  replace hacc := hacc.mono hleD; refine withP_cons rfl rfl ?_; rintro _ rfl; refine withP_cons rfl rfl ?_; rintro _ ⟨bs6, rfl, hsl6⟩; refine withP_cons rfl rfl ?_; rintro _ _; refine withP_cons rfl rfl ?_; rintro _ rfl; refine withP_cons rfl rfl ?_; rintro _ rfl; refine withP_cons rfl rfl ?_; rintro _ rfl; refine withP_cons rfl rfl ?_; rintro _ rfl; refine withP_cons rfl rfl ?_; rintro _ _; refine withP_cons rfl rfl ?_; rintro _ rfl; refine withP_cons rfl rfl ?_; rintro _ rfl; refine withP_nil rfl ?_
  intro e he
  have hfb := lastQ_s rfl he rfl rfl
  obtain ⟨a12, c12, hv12, hacc12⟩ := hfb.2 (by decide)
  subst hv12
  refine XO.appendS 0 rfl rfl hacc12 rfl rfl Try.underlying44 Try.underlying9 ty_5 ze_5 rfl by_5 (by simp; omega) rfl (fun p15 a15 c15 hacc15 => ?_); refine XO.assign rfl rfl ?_; refine XO.nil ?_; refine XC.seq2 ?_; refine XC.ret ?_; refine ⟨rfl, _, [_], rfl, (by repeat (first | exact List.Sublist.refl _ | apply List.Sublist.cons_cons | apply List.Sublist.cons)), RetR.mk ?_⟩
  rw [encV2, ← List.append_assoc, ← List.append_assoc]
  exact ⟨_, _, _, rfl, rfl, by assumption⟩
/-- what the writer of lists does with values up to a size -/
def W3 (bw b1 m : Nat) : Prop := ∀ (n : Int) (s : List UInt8) (l : List Val) (a : Option Addr) (c : Nat) (po : Nat × SObj) (ao : Option Addr) (co : Nat) (l0 : List UInt8) (H : Hp), wszV (.mk 3 n s l) ≤ m → m ≤ 1000000 → formedB (.mk 3 n s l) = true → Fit (.mk 3 n s l) → l0.length + wszV (.mk 3 n s l) ≤ 50000000 → WrH H bw b1 → SlR valR H a c l → AccB H po ao co l0 →
 FnC Try.prog 75 #[.slice ao l0.length co, .agg ⟨[.int .i64 3, .int .i64 n, .string (bsOf s), .slice a l.length c]⟩, .pointer (some ⟨b1, 0, none⟩)] H [po] (RetR (fun v H2 own => ∃ po2 a2 c2, own = [po2] ∧ v = .slice a2 (l0 ++ encV (.mk 3 n s l)).length c2 ∧ AccB H2 po2 a2 c2 (l0 ++ encV (.mk 3 n s l))))
theorem wr_any {bw b1 m : Nat} (ih : W3 bw b1 m) {k n : Int} {s : List UInt8} {l : List Val} {a : Option Addr} {c : Nat} {po : Nat × SObj} {ao : Option Addr} {co : Nat} {l0 : List UInt8} {H : Hp} (hw : wszV (.mk k n s l) ≤ m) (hm : m ≤ 1000000) (hf : formedB (.mk k n s l) = true) (hfit : Fit (.mk k n s l)) (hl : l0.length + wszV (.mk k n s l) ≤ 50000000) (hW : WrH H bw b1) (hs : SlR valR H a c l) (hacc : AccB H po ao co l0) :
  FnV Try.prog (wfun b1 k) [.slice ao l0.length co, .agg ⟨[.int .i64 k, .int .i64 n, .string (bsOf s), .slice a l.length c]⟩] H [po] (RetR (fun v H2 own => ∃ po2 a2 c2, own = [po2] ∧ v = .slice a2 (l0 ++ encV (.mk k n s l)).length c2 ∧ AccB H2 po2 a2 c2 (l0 ++ encV (.mk k n s l)))) := by
 obtain ⟨f1, f2, f3, f4⟩ := hfit.of
 rcases formed_kind hf with rfl | rfl | rfl
 ·exact FnV.of_fn (cap := []) (args := [_, _]) (w1_fn n s l a c f1 po ao co l0 H hacc (by omega))
 ·exact FnV.of_fn (cap := []) (args := [_, _]) (w2_fn n s l a c po ao co l0 H hacc (by rw [wszV] at hl; omega))
 ·exact FnV.of_fn (cap := [_]) (args := [_, _]) (ih n s l a c po ao co l0 H hw hm hf hfit hl hW hs hacc)
end Go.Proofs

/- Walks that are alike in other seats, in this seat's numbers. -/
set_option autoImplicit false
set_option linter.unusedVariables false
set_option linter.unusedSimpArgs false
namespace Go.Proofs
open Go.XL

theorem ty_97 : tyF Try.prog 97 1 false = true := by kernel_rfl
theorem ty_99 : tyF Try.prog 99 1 true = true := by kernel_rfl
theorem fa_99_0 : fieldF Try.prog 99 0 = some 0 := by kernel_rfl
theorem ty_100 : tyF Try.prog 100 1 false = true := by kernel_rfl
theorem w3_all (bw b1 : Nat) : ∀ m, W3 bw b1 m := by
 intro m
 refine Nat.strongRecOn m ?_
 clear m
 intro m ih n s l a c po ao co l0 H hw hm hf hfit hl hWr hs hacc
 obtain ⟨f1, f2, f3, f4⟩ := hfit.of
 have hfl := formedL_iff.1 (formed3.1 hf).2
 have hnl := numL_10 (u := l.length) (by omega)
 rw [wszV] at hw hl
 have hwl := wsz_len (l := l)
 refine FnC.intro (args := [.slice ao l0.length co, .agg ⟨[.int .i64 3, .int .i64 n, .string (bsOf s), .slice a l.length c]⟩, .pointer (some ⟨b1, 0, none⟩)]) Try.func75 rfl rfl Try.ntmps75 rfl rfl rfl fun G rest => ?_
 refine XC.seq ?_; refine XC.region ?_; refine XO.box rfl rfl rfl (fun b4 => ?_); refine XO.perm (List.Perm.swap _ _ _) ?_; refine XO.assign rfl rfl ?_; refine XO.nil ?_; refine XC.seq2 ?_; refine XC.seq ?_; refine XC.keep [0, 2, 4] rfl ?_
 apply XC.drawQ (fun _ => True) trivial [2] (FOl (fun j => [l0, l0 ++ [3]].getD j []) ao co) (FOl_mono _ _ _) 7 [eqF _, slF u8R [3], anyF, eqF _, eqF _, eqF _, eqF _] follows (by kernel_rfl) ⟨eqF_mono _, slF_mono _ _, anyF_mono, eqF_mono _, eqF_mono _, eqF_mono _, eqF_mono _, trivial⟩ (by kernel_rfl) (FOl_0 hacc) ?steps1 ?tail1
 case steps1 =>
  refine stepsQ_cons rfl ?_ ?_
  ·intro X e HD hleD _
   replace hacc := hacc.mono hleD; replace hs := hs.mono hleD; replace hWr := hWr.mono hleD; refine withP_nil rfl ?_
   intro hfa
   refine XO.move rfl rfl ?_; refine XO.nil ?_
   exact stepQV_ok trivial (rfl) (foQ_no rfl)
  refine stepsQ_cons rfl ?_ ?_
  ·intro X e HD hleD _
   replace hacc := hacc.mono hleD; replace hs := hs.mono hleD; replace hWr := hWr.mono hleD; refine withP_nil rfl ?_
   intro hfa
   refine XO.buildSlice rfl Try.underlying44 ty_5 ze_5 rfl rfl rfl (fun b9 => ?_); refine XO.publish 0 rfl rfl rfl (fun HP9 oP9 hleP9 hbP9 hoP9 => ?_)
   have hsl9 := SlR.lit (ρ := u8R) (l := [3]) hbP9 hoP9 (RowsR.one1 rfl)
   replace hacc := hacc.mono hleP9; replace hs := hs.mono hleP9; replace hWr := hWr.mono hleP9; refine XO.nil ?_
   exact stepQV_ok trivial (⟨_, rfl, hsl9⟩) (foQ_no rfl)
  refine stepsQ_cons rfl ?_ ?_
  ·intro X e HD hleD _
   replace hacc := hacc.mono hleD; replace hs := hs.mono hleD; replace hWr := hWr.mono hleD; refine withP_cons rfl rfl ?_; rintro _ rfl; refine withP_cons rfl rfl ?_; rintro _ ⟨bs9, rfl, hsl9⟩; refine withP_nil rfl ?_
   intro hfa
   have hfa0 := (factQ_0 rfl hfa).1 rfl
   refine XO.appendA 0 rfl rfl hfa0 rfl rfl hsl9 rfl Try.underlying44 ty_5 ze_5 rfl by_5 (by simp; omega) rfl (fun p10 a10 c10 hacc10 => ?_); refine XO.nil ?_
   exact stepQV_ok trivial (trivial) (foQ_mod rfl (by exact FOl_s hacc10))
  refine stepsQ_cons rfl ?_ ?_
  ·intro X e HD hleD _
   replace hacc := hacc.mono hleD; replace hs := hs.mono hleD; replace hWr := hWr.mono hleD; refine withP_nil rfl ?_
   intro hfa
   refine XO.fieldAddr rfl fa_87_3 rfl ?_; refine XO.nil ?_
   exact stepQV_ok trivial (rfl) (foQ_no rfl)
  refine stepsQ_cons rfl ?_ ?_
  ·intro X e HD hleD _
   replace hacc := hacc.mono hleD; replace hs := hs.mono hleD; replace hWr := hWr.mono hleD; refine withP_cons rfl rfl ?_; rintro _ rfl; refine withP_nil rfl ?_
   intro hfa
   refine XO.loadO 1 rfl rfl ty_85 rfl rfl rfl ?_; refine XO.nil ?_
   exact stepQV_ok trivial (rfl) (foQ_no rfl)
  refine stepsQ_cons rfl ?_ ?_
  ·intro X e HD hleD _
   replace hacc := hacc.mono hleD; replace hs := hs.mono hleD; replace hWr := hWr.mono hleD; refine withP_cons rfl rfl ?_; rintro _ rfl; refine withP_nil rfl ?_
   intro hfa
   refine XO.lenS (ts := #[]) rfl Try.underlying85 rfl ?_; refine XO.nil ?_
   exact stepQV_ok trivial (rfl) (foQ_no rfl)
  refine stepsQ_cons rfl ?_ ?_
  ·intro X e HD hleD _
   replace hacc := hacc.mono hleD; replace hs := hs.mono hleD; replace hWr := hWr.mono hleD; refine withP_cons rfl rfl ?_; rintro _ rfl; refine withP_nil rfl ?_
   intro hfa
   refine XO.convI (c := ((l.length : Nat) : Int)) rfl Try.underlying3 Try.underlying108 (wrap_u64 (by omega) (by omega)) rfl ?_; refine XO.nil ?_
   exact stepQV_ok trivial (rfl) (foQ_no rfl)
  exact stepsQ_end rfl
 case tail1 =>
  intro HD hleD _
  replace hacc := hacc.mono hleD; replace hs := hs.mono hleD; replace hWr := hWr.mono hleD; refine withP_cons rfl rfl ?_; rintro _ rfl; refine withP_cons rfl rfl ?_; rintro _ ⟨bs9, rfl, hsl9⟩; refine withP_cons rfl rfl ?_; rintro _ _; refine withP_cons rfl rfl ?_; rintro _ rfl; refine withP_cons rfl rfl ?_; rintro _ rfl; refine withP_cons rfl rfl ?_; rintro _ rfl; refine withP_cons rfl rfl ?_; rintro _ rfl; refine withP_nil rfl ?_
  intro e he
  have hfb := lastQ_s rfl he rfl rfl
  obtain ⟨a10, c10, hv10, hacc10⟩ := hfb.2 (by decide)
  subst hv10
  have hcall := num_fn e a10 c10 (l0 ++ [3]) l.length _ hacc10 (by omega) (by simp; omega)
  refine XO.callF 0 rfl hcall rfl rfl ?_; rintro _ HN15 _ hleN15 ⟨p15, a15, c15, rfl, rfl, hacc15⟩; refine ⟨_, rfl, ?_⟩; replace hacc := hacc.mono hleN15; replace hs := hs.mono hleN15; replace hWr := hWr.mono hleN15; replace hsl9 := hsl9.mono hleN15; refine XO.assign rfl rfl ?_; refine XO.nil ?_; refine XC.seq2 ?_; refine XC.seq ?_; refine XC.seq ?_; refine XC.region ?_; refine XO.fieldAddr rfl fa_87_3 rfl ?_; refine XO.loadO 1 rfl rfl ty_85 rfl rfl rfl ?_; refine XO.lenS (ts := #[]) rfl Try.underlying85 rfl ?_; refine XO.move rfl rfl ?_; refine XO.nil ?_; refine XC.seq2 ?_; refine XC.block ?_; refine XC.keep [0, 19, 2, 17, 18] rfl ?_; refine XC.loop (base := [(2, _), (17, _), (18, _)]) (fun ζ : Nat × ((Nat × SObj) × Option Addr × Nat) => [(0, .slice ζ.2.2.1 (((l0 ++ [3]) ++ numL l.length) ++ encL (l.take (ζ.1))).length ζ.2.2.2), (19, .int .i64 (ζ.1 : Nat))]) (fun ζ Hl own => ζ.1 ≤ l.length ∧ ζ.2.1 :: rest = own ∧ Acc u8R 5 Hl ζ.2.1 ζ.2.2.1 ζ.2.2.2 (((l0 ++ [3]) ++ numL l.length) ++ encL (l.take (ζ.1)))) (fun ζ => l.length - ζ.1) (0, (p15, a15, c15)) (prov_cons (by show _ = some (Value.slice _ (_ ++ encL (l.take 0)).length _); rw [show encL (l.take 0) = [] from rfl, List.append_nil]; rfl) (prov_cons (rfl) (prov_cons (rfl) (prov_cons (rfl) (prov_cons (rfl) prov_nil))))) (by repeat (first | exact List.Sublist.refl _ | apply List.Sublist.cons_cons | apply List.Sublist.cons)) ⟨Nat.zero_le _, rfl, (by rw [show encL (l.take 0) = [] from rfl, List.append_nil]; exact hacc15)⟩ ?_; rintro ⟨i, ⟨po, ao, co⟩⟩ Hl0 _ hle0 ⟨hki, rfl, hacco⟩; replace hs := hs.mono hle0; replace hWr := hWr.mono hle0; replace hsl9 := hsl9.mono hle0
  try dsimp only at hki hacco ⊢
  refine XC.seq ?_; refine XC.region ?_; refine XO.lss rfl rfl rfl ?_; refine XO.nil ?_; refine XC.seq2 ?_; refine XC.seq ?_; refine XC.cond rfl (fun c0_4 => ?_) (fun c0_4 => ?_)
  ·refine XC.skip ?_; refine XC.seq2 ?_; refine XC.seq ?_; refine XC.block ?_; refine XC.seq ?_; refine XC.region ?_; refine XO.indexN rfl hs rfl Try.underlying85 ty_87 (by omega) rfl ?_; rintro eb21 eo21 _ x21 hx21 hR21 hp21; obtain ⟨k21, n21, s21, l21⟩ := x21; obtain ⟨a21, c21, rfl, hd21⟩ := valR_iff.1 hR21; refine XO.loadH rfl (by assumption) ty_87 rfl rfl rfl ?_; refine XO.alloc ze_87 rfl (fun b7 => ?_); refine XO.storeO 0 rfl rfl rfl rfl ty_87 rfl rfl rfl rfl rfl ?_; refine XO.nil ?_; refine XC.seq2 ?_; refine XC.keep [0, 2, 7, 17, 18, 19] rfl ?_
   have hfx := hfl _ (List.mem_of_getElem? hx21)
   have hk3 := formed_kind hfx
   have hWp := hWr.p
   have hWa := hWr.at hk3
   have hwx := wsz_mem (List.mem_of_getElem? hx21)
   apply XC.draw 9 [eqF _, eqF _, eqF _, eqF _, eqF _, eqF _, eqF _, eqF _, eqF _] follows (by kernel_rfl) (by kernel_rfl) ⟨eqF_mono _, eqF_mono _, eqF_mono _, eqF_mono _, eqF_mono _, eqF_mono _, eqF_mono _, eqF_mono _, eqF_mono _, trivial⟩ ?steps6 ?tail6
   case steps6 =>
    refine stepsK_cons rfl ?_ ?_
    ·intro X
     refine withPreds_nil rfl ?_; refine XO.loadH rfl (by assumption) ty_100 rfl rfl rfl ?_; refine XO.nil ?_
     exact stepQ_ok rfl (rfl)
    refine stepsK_cons rfl ?_ ?_
    ·intro X
     refine withPreds_nil rfl ?_; refine XO.fieldAddr rfl fa_87_0 rfl ?_; refine XO.nil ?_
     exact stepQ_ok rfl (rfl)
    refine stepsK_cons rfl ?_ ?_
    ·intro X
     refine withPreds_cons rfl rfl ?_; rintro _ rfl; refine withPreds_nil rfl ?_; refine XO.loadO 0 rfl rfl ty_3 rfl rfl rfl ?_; refine XO.nil ?_
     exact stepQ_ok rfl (rfl)
    refine stepsK_cons rfl ?_ ?_
    ·intro X
     refine withPreds_cons rfl rfl ?_; rintro _ rfl; refine withPreds_nil rfl ?_; refine XO.nilCheckP rfl rfl ?_; refine XO.nil ?_
     exact stepQ_ok rfl (rfl)
    refine stepsK_cons rfl ?_ ?_
    ·intro X
     refine withPreds_cons rfl rfl ?_; rintro _ rfl; refine withPreds_cons rfl rfl ?_; rintro _ rfl; refine withPreds_nil rfl ?_; refine XO.indexArr rfl rfl Try.underlying106 ty_99 (by omega) (by omega) rfl ?_; refine XO.nil ?_
     exact stepQ_ok rfl (rfl)
    refine stepsK_cons rfl ?_ ?_
    ·intro X
     refine withPreds_cons rfl rfl ?_; rintro _ rfl; refine withPreds_nil rfl ?_; refine XO.fieldAddr rfl fa_99_0 rfl ?_; refine XO.nil ?_
     exact stepQ_ok rfl (rfl)
    refine stepsK_cons rfl ?_ ?_
    ·intro X
     refine withPreds_cons rfl rfl ?_; rintro _ rfl; refine withPreds_nil rfl ?_; refine XO.loadHF rfl (by assumption) ty_97 rfl rfl rfl ?_; refine XO.nil ?_
     exact stepQ_ok rfl (rfl)
    refine stepsK_cons rfl ?_ ?_
    ·intro X
     refine withPreds_nil rfl ?_; refine XO.move rfl rfl ?_; refine XO.nil ?_
     exact stepQ_ok rfl (rfl)
    refine stepsK_cons rfl ?_ ?_
    ·intro X
     refine withPreds_nil rfl ?_; refine XO.loadO 0 rfl rfl ty_87 rfl rfl rfl ?_; refine XO.nil ?_
     exact stepQ_ok rfl (rfl)
    exact stepsD_end rfl
   case tail6 =>
    refine withPreds_cons rfl rfl ?_; rintro _ rfl; refine withPreds_cons rfl rfl ?_; rintro _ rfl; refine withPreds_cons rfl rfl ?_; rintro _ rfl; refine withPreds_cons rfl rfl ?_; rintro _ rfl; refine withPreds_cons rfl rfl ?_; rintro _ rfl; refine withPreds_cons rfl rfl ?_; rintro _ rfl; refine withPreds_cons rfl rfl ?_; rintro _ rfl; refine withPreds_cons rfl rfl ?_; rintro _ rfl; refine withPreds_cons rfl rfl ?_; rintro _ rfl; refine withPreds_nil rfl ?_
    have hcall := wr_any (ih (wszV (.mk k21 n21 s21 l21)) (by omega)) (Nat.le_refl _) (by omega) hfx (f4 _ (List.mem_of_getElem? hx21)) (by have h9 := wsz_take (l := l) (i + 1); rw [take_snoc hx21, wszL_snoc] at h9; have h8 := encL_wsz (l := l.take i) (fun x hx => f4 x (List.mem_of_mem_take hx)); simp only [List.length_append, List.length_cons, List.length_nil]; omega) hWr hd21 hacco
    refine XO.callVal [_] rfl trivial rfl hcall rfl rfl ?_; rintro _ HN32 _ hleN32 ⟨p32, a32, c32, rfl, rfl, hacc32⟩; replace hs := hs.mono hleN32; replace hWr := hWr.mono hleN32; replace hsl9 := hsl9.mono hleN32; replace hacco := hacco.mono hleN32; replace hp21 := hp21.mono hleN32; replace hd21 := hd21.mono hleN32; replace hle0 := hle0.trans hleN32; refine XO.assign rfl rfl ?_; refine XO.nil ?_; refine blockN ?_; refine XC.seq2 ?_; refine XC.region ?_; refine XO.add rfl rfl (wrap_i64 (by omega) (by omega)) rfl ?_; refine XO.move rfl rfl ?_; refine XO.nil ?_; refine loop_next ((i + 1, (p32, a32, c32))) (by show l.length - (i + 1) < l.length - i; omega) (prov_cons (by first | rfl | (rw [take_snoc hx21, encL_snoc, ← List.append_assoc]; rfl)) (prov_cons (rfl) (prov_cons (rfl) (prov_cons (rfl) (prov_cons (rfl) prov_nil))))) (⟨by show i + 1 ≤ l.length; omega, rfl, by first | (exact hacc32) | (rw [take_snoc hx21, encL_snoc, ← List.append_assoc]; exact hacc32)⟩) (by repeat (first | exact List.Sublist.refl _ | apply List.Sublist.cons_cons | apply List.Sublist.cons)) (hle0)
  ·obtain rfl : i = l.length := by omega
   rw [List.take_length] at hacco ⊢
   refine XC.exit ?_; refine seqX_exit ?_; refine loopX_exit ?_; refine blockHit rfl ?_; refine XC.seq2 ?_; refine XC.seq ?_; refine XC.region ?_; refine XO.move rfl rfl ?_; refine XO.assign rfl rfl ?_; refine XO.nil ?_; refine XC.seq2 ?_; refine XC.ret ?_; refine ⟨rfl, _, [_], rfl, (by repeat (first | exact List.Sublist.refl _ | apply List.Sublist.cons_cons | apply List.Sublist.cons)), RetR.mk ?_⟩
   rw [encV3, ← List.append_assoc, ← List.append_assoc]
   exact ⟨_, _, _, rfl, rfl, by assumption⟩
theorem write_all {bw b1 : Nat} {k n : Int} {s : List UInt8} {l : List Val} {a : Option Addr} {c : Nat} {po : Nat × SObj} {ao : Option Addr} {co : Nat} {l0 : List UInt8} {H : Hp} (hm : wszV (.mk k n s l) ≤ 1000000) (hf : formedB (.mk k n s l) = true) (hfit : Fit (.mk k n s l)) (hl : l0.length + wszV (.mk k n s l) ≤ 50000000) (hW : WrH H bw b1) (hs : SlR valR H a c l) (hacc : AccB H po ao co l0) :
  FnV Try.prog (wfun b1 k) [.slice ao l0.length co, .agg ⟨[.int .i64 k, .int .i64 n, .string (bsOf s), .slice a l.length c]⟩] H [po] (RetR (fun v H2 own => ∃ po2 a2 c2, own = [po2] ∧ v = .slice a2 (l0 ++ encV (.mk k n s l)).length c2 ∧ AccB H2 po2 a2 c2 (l0 ++ encV (.mk k n s l)))) := wr_any (w3_all bw b1 1000000) hm (Nat.le_refl _) hf hfit hl hW hs hacc
end Go.Proofs

/- Walks that are alike in other seats, in this seat's numbers. -/
set_option autoImplicit false
set_option linter.unusedVariables false
set_option linter.unusedSimpArgs false
namespace Go.Proofs
open Go.XL

theorem ze_100 : zeroC Try.prog 100 = some [.pointer none] := by kernel_rfl
theorem ze_106 : zeroC Try.prog 106 = some [.nilFunc, .nilFunc, .nilFunc, .nilFunc] := by kernel_rfl
theorem newWriter_fn (H : Hp) : FnC Try.prog 67 #[] H [] (RetR (fun v H2 _ => ∃ bw b1, v = .pointer (some ⟨bw, 0, none⟩) ∧ WrH H2 bw b1)) := by
 refine FnC.intro (args := []) Try.func67 rfl rfl Try.ntmps67 rfl rfl rfl fun G rest => ?_
 refine XC.seq ?_; refine XC.region ?_; refine XO.assign rfl rfl ?_; refine XO.nil ?_; refine XC.seq2 ?_; refine XC.seq ?_; refine XC.region ?_; refine XO.buildArr Try.underlying106 ty_99 ze_106 rfl rfl rfl ?_; refine XO.box rfl rfl rfl (fun b3 => ?_); refine XO.alloc ze_100 rfl (fun b1 => ?_); refine XO.storeO 0 rfl rfl rfl rfl ty_100 rfl rfl rfl rfl rfl ?_; refine XO.nil ?_; refine XC.seq2 ?_; refine XC.seq ?_; refine XC.region ?_; refine XO.loadO 0 rfl rfl ty_100 rfl rfl rfl ?_; refine XO.nilCheckP rfl rfl ?_; refine XO.indexArr rfl rfl Try.underlying106 ty_99 (by first | decide | omega) (by first | decide | omega) rfl ?_; refine XO.fieldAddr rfl fa_99_0 rfl ?_; refine XO.storeO 1 rfl rfl rfl rfl ty_97 rfl rfl rfl rfl rfl ?_; refine XO.nil ?_; refine XC.seq2 ?_; refine XC.seq ?_; refine XC.region ?_; refine XO.loadO 0 rfl rfl ty_100 rfl rfl rfl ?_; refine XO.nilCheckP rfl rfl ?_; refine XO.indexArr rfl rfl Try.underlying106 ty_99 (by first | decide | omega) (by first | decide | omega) rfl ?_; refine XO.fieldAddr rfl fa_99_0 rfl ?_; refine XO.storeO 1 rfl rfl rfl rfl ty_97 rfl rfl rfl rfl rfl ?_; refine XO.nil ?_; refine XC.seq2 ?_; refine XC.seq ?_; refine XC.region ?_; refine XO.loadO 0 rfl rfl ty_100 rfl rfl rfl ?_; refine XO.makeFunc rfl rfl ?_; refine XO.nilCheckP rfl rfl ?_; refine XO.indexArr rfl rfl Try.underlying106 ty_99 (by first | decide | omega) (by first | decide | omega) rfl ?_; refine XO.fieldAddr rfl fa_99_0 rfl ?_; refine XO.storeO 1 rfl rfl rfl rfl ty_97 rfl rfl rfl rfl rfl ?_; refine XO.nil ?_; refine XC.seq2 ?_; refine XC.seq ?_; refine XC.region ?_; refine XO.loadO 0 rfl rfl ty_100 rfl rfl rfl ?_; refine XO.assign rfl rfl ?_; refine XO.publish 0 rfl rfl rfl (fun HK1 oK1 hleK1 hbK1 hoK1 => ?_)
 have hp1 := PtH.of_is hbK1 hoK1
 refine XO.publish 0 rfl rfl rfl (fun HK3 oK3 hleK3 hbK3 hoK3 => ?_)
 have hp3 := PtH.of_is hbK3 hoK3
 replace hp1 := hp1.mono hleK3; refine XO.nil ?_; refine XC.seq2 ?_; refine XC.ret ?_; refine ⟨rfl, _, [], rfl, (by repeat (first | exact List.Sublist.refl _ | apply List.Sublist.cons)), RetR.mk ?_⟩
 exact ⟨b3, b1, rfl, hp1, pt_at hp3 1 rfl, pt_at hp3 2 rfl, pt_at hp3 3 rfl⟩
end Go.Proofs

/- Walks that are alike in other seats, in this seat's numbers. -/
set_option autoImplicit false
set_option linter.unusedVariables false
set_option linter.unusedSimpArgs false
namespace Go.Proofs
open Go.XL

theorem enc_fn (k n : Int) (s : List UInt8) (l : List Val) (a : Option Addr) (c : Nat) (H : Hp) (hw : wszV (.mk k n s l) ≤ 1000000) (hf : Fit (.mk k n s l)) (hs : SlR valR H a c l) : FnC Try.prog 58 #[.agg ⟨[.int .i64 k, .int .i64 n, .string (bsOf s), .slice a l.length c]⟩] H [] (RetR (fun v H2 _ => EncR (.mk k n s l) H2 v)) := by
 refine FnC.intro (args := [.agg ⟨[.int .i64 k, .int .i64 n, .string (bsOf s), .slice a l.length c]⟩]) Try.func58 rfl rfl Try.ntmps58 rfl rfl rfl fun G rest => ?_
 refine XC.seq ?_; refine XC.region ?_; refine XO.box rfl rfl rfl (fun b1 => ?_); refine XO.assign rfl rfl ?_; refine XO.assign rfl rfl ?_; refine XO.nil ?_; refine XC.seq2 ?_; refine XC.seq ?_; refine XC.seq ?_; refine XC.region ?_; refine XO.loadO 0 rfl rfl ty_87 rfl rfl rfl ?_
 have hcall := check_fn k n s l a c _ hw hs
 refine XO.callV rfl hcall rfl ?_; refine XO.assign rfl rfl ?_; refine XO.nil ?_; refine XC.seq2 ?_; refine XC.seq ?_; refine XC.region ?_; refine XO.move rfl rfl ?_; refine XO.neq rfl rfl rfl ?_; refine XO.nil ?_; refine XC.seq2 ?_; refine XC.cond rfl (fun c0_2 => ?_) (fun c0_2 => ?_)
 ·have hch : chkV (.mk k n s l) ≠ 0 := c0_2
  refine XC.seq ?_; refine XC.region ?_; refine XO.move rfl rfl ?_; refine XO.assign rfl rfl ?_; refine XO.assign rfl rfl ?_; refine XO.nil ?_; refine XC.seq2 ?_; refine XC.ret ?_; refine seqX_ret ?_; refine ⟨rfl, _, [], rfl, (by repeat (first | exact List.Sublist.refl _ | apply List.Sublist.cons)), RetR.mk ?_⟩
  exact enc_no hch
 ·have hch : chkV (.mk k n s l) = 0 := by omega
  refine XC.skip ?_; refine XC.seq2 ?_; refine XC.seq ?_; refine XC.keep [1] rfl ?_
  have hfm := chk0_formed hch
  have hk3 := formed_kind hfm
  apply XC.drawG (fun _ => True) trivial 8 [fun v H => ∃ bw b1, v = .pointer (some ⟨bw, 0, none⟩) ∧ WrH H bw b1, eqF _, eqF _, fun v H => ∃ bw b1, v = .pointer (some ⟨bw, 0, none⟩) ∧ WrH H bw b1, fun v H => ∃ bw b1, v = .pointer (some ⟨bw, 0 + k.toNat * 1, none⟩) ∧ WrH H bw b1, fun v H => ∃ bw b1, v = .pointer (some ⟨bw, 0 + k.toNat * 1 + 0, none⟩) ∧ WrH H bw b1, fun v H => ∃ bw b1, v = wfun b1 k ∧ WrH H bw b1, eqF _] follows (by kernel_rfl) (by kernel_rfl) ⟨fun _ _ _ hle ⟨bw, b1, h1, h2⟩ => ⟨bw, b1, h1, h2.mono hle⟩, eqF_mono _, eqF_mono _, fun _ _ _ hle ⟨bw, b1, h1, h2⟩ => ⟨bw, b1, h1, h2.mono hle⟩, fun _ _ _ hle ⟨bw, b1, h1, h2⟩ => ⟨bw, b1, h1, h2.mono hle⟩, fun _ _ _ hle ⟨bw, b1, h1, h2⟩ => ⟨bw, b1, h1, h2.mono hle⟩, fun _ _ _ hle ⟨bw, b1, h1, h2⟩ => ⟨bw, b1, h1, h2.mono hle⟩, eqF_mono _, trivial⟩ ?steps3 ?tail3
  case steps3 =>
   refine stepsD_cons rfl ?_ ?_
   ·intro X HD hleD _
    replace hs := hs.mono hleD; refine withPreds_nil rfl ?_; refine XO.callH rfl (newWriter_fn _) rfl ?_; rintro _ HN10 hleN10 ⟨bw10, b110, rfl, hW10⟩; replace hs := hs.mono hleN10; refine XO.nil ?_
    exact stepQ_ok trivial (⟨_, _, rfl, hW10⟩)
   refine stepsD_cons rfl ?_ ?_
   ·intro X HD hleD _
    replace hs := hs.mono hleD; refine withPreds_nil rfl ?_; refine XO.fieldAddr rfl fa_87_0 rfl ?_; refine XO.nil ?_
    exact stepQ_ok trivial (rfl)
   refine stepsD_cons rfl ?_ ?_
   ·intro X HD hleD _
    replace hs := hs.mono hleD; refine withPreds_cons rfl rfl ?_; rintro _ rfl; refine withPreds_nil rfl ?_; refine XO.loadO 0 rfl rfl ty_3 rfl rfl rfl ?_; refine XO.nil ?_
    exact stepQ_ok trivial (rfl)
   refine stepsD_cons rfl ?_ ?_
   ·intro X HD hleD _
    replace hs := hs.mono hleD; refine withPreds_cons rfl rfl ?_; rintro _ ⟨bw0, b0, rfl, hW0⟩; refine withPreds_nil rfl ?_; refine XO.nilCheckP rfl rfl ?_; refine XO.nil ?_
    exact stepQ_ok trivial (⟨_, _, rfl, hW0⟩)
   refine stepsD_cons rfl ?_ ?_
   ·intro X HD hleD _
    replace hs := hs.mono hleD; refine withPreds_cons rfl rfl ?_; rintro _ ⟨bw3, b3, rfl, hW3⟩; refine withPreds_cons rfl rfl ?_; rintro _ rfl; refine withPreds_nil rfl ?_; refine XO.indexArr rfl rfl Try.underlying106 ty_99 (by omega) (by omega) rfl ?_; refine XO.nil ?_
    exact stepQ_ok trivial (⟨_, _, rfl, hW3⟩)
   refine stepsD_cons rfl ?_ ?_
   ·intro X HD hleD _
    replace hs := hs.mono hleD; refine withPreds_cons rfl rfl ?_; rintro _ ⟨bw4, b4, rfl, hW4⟩; refine withPreds_nil rfl ?_; refine XO.fieldAddr rfl fa_99_0 rfl ?_; refine XO.nil ?_
    exact stepQ_ok trivial (⟨_, _, rfl, hW4⟩)
   refine stepsD_cons rfl ?_ ?_
   ·intro X HD hleD _
    replace hs := hs.mono hleD; refine withPreds_cons rfl rfl ?_; rintro _ ⟨bw5, b5, rfl, hW5⟩; refine withPreds_nil rfl ?_
    have hWa := hW5.at hk3
    refine XO.loadHF rfl hWa ty_97 rfl rfl rfl ?_; refine XO.nil ?_
    exact stepQ_ok trivial (⟨_, _, rfl, hW5⟩)
   refine stepsD_cons rfl ?_ ?_
   ·intro X HD hleD _
    replace hs := hs.mono hleD; refine withPreds_nil rfl ?_; refine XO.loadO 0 rfl rfl ty_87 rfl rfl rfl ?_; refine XO.nil ?_
    exact stepQ_ok trivial (rfl)
   exact stepsD_end rfl
  case tail3 =>
   intro HD hleD _
   replace hs := hs.mono hleD; refine withPreds_cons rfl rfl ?_; rintro _ ⟨bw0, b0, rfl, hW0⟩; refine withPreds_cons rfl rfl ?_; rintro _ rfl; refine withPreds_cons rfl rfl ?_; rintro _ rfl; refine withPreds_cons rfl rfl ?_; rintro _ ⟨bw3, b3, rfl, hW3⟩; refine withPreds_cons rfl rfl ?_; rintro _ ⟨bw4, b4, rfl, hW4⟩; refine withPreds_cons rfl rfl ?_; rintro _ ⟨bw5, b5, rfl, hW5⟩; refine withPreds_cons rfl rfl ?_; rintro _ ⟨bw6, b6, rfl, hW6⟩; refine withPreds_cons rfl rfl ?_; rintro _ rfl; refine withPreds_nil rfl ?_; refine XO.open0 (σ := []) (fun b0 => ?_)
   have hcall := write_all (l0 := []) hw hfm hf (by simp; omega) hW6 hs (Acc.nil u8R 5 _ b0)
   refine XO.callVal (ownF := [(b0, .nothing)]) [] rfl trivial rfl hcall rfl rfl ?_; rintro _ HN18 _ hleN18 ⟨p18, a18, c18, rfl, rfl, hacc18⟩; replace hs := hs.mono hleN18; refine XO.publishA 0 rfl hacc18 rfl (fun HQ18 hleQ18 hsQ18 => ?_); replace hs := hs.mono hleQ18; refine XO.assign rfl rfl ?_; refine XO.assign rfl rfl ?_; refine XO.nil ?_; refine XC.seq2 ?_; refine XC.ret ?_; refine ⟨rfl, _, [], rfl, (by repeat (first | exact List.Sublist.refl _ | apply List.Sublist.cons)), RetR.mk ?_⟩
   exact enc_yes hch hsQ18
end Go.Proofs

/- Walks that are alike in other seats, in this seat's numbers. -/
set_option autoImplicit false
set_option linter.unusedVariables false
set_option linter.unusedSimpArgs false
namespace Go.Proofs
open Go.XL

theorem renc_all : ∀ (m : Nat) (k n : Int) (s : List UInt8) (l : List Val) (a : Option Addr) (c : Nat) (H : Hp), wszV (.mk k n s l) ≤ m → m ≤ 1000000 → Fit (.mk k n s l) → SlR valR H a c l → FnC Try.prog 69 #[.agg ⟨[.int .i64 k, .int .i64 n, .string (bsOf s), .slice a l.length c]⟩] H [] (RetR (fun v H2 _ => ∃ a c, v = .slice a (encV (.mk k n s l)).length c ∧ SlR u8R H2 a c (encV (.mk k n s l)))) := by
 intro m
 refine Nat.strongRecOn m ?_
 clear m
 intro m ih k n s l a c H hw hm hfit hs
 have hwe := enc_wsz _ hfit
 obtain ⟨f1, f2, f3, f4⟩ := hfit.of
 have hwl := wsz_len (l := l)
 have hnl := numL_10 (u := l.length) (by omega)
 have hns := numL_10 (u := s.length) (by omega)
 have hnu := numL_10 (u := unsV n) (uns_lt2 f1)
 have hnu0 := uns_lt2 f1
 rw [wszV] at hw hwe
 refine FnC.intro (args := [.agg ⟨[.int .i64 k, .int .i64 n, .string (bsOf s), .slice a l.length c]⟩]) Try.func69 rfl rfl Try.ntmps69 rfl rfl rfl fun G rest => ?_
 refine XC.seq ?_; refine XC.region ?_; refine XO.box rfl rfl rfl (fun b1 => ?_); refine XO.assign rfl rfl ?_; refine XO.nil ?_; refine XC.seq2 ?_; refine XC.seq ?_; refine XC.seq ?_; refine XC.region ?_; refine XO.fieldAddr rfl fa_87_0 rfl ?_; refine XO.loadO 0 rfl rfl ty_3 rfl rfl rfl ?_; refine XO.nil ?_; refine XC.seq2 ?_; refine XC.block ?_; refine XC.seq ?_; refine XC.region ?_; refine XO.eql rfl rfl rfl ?_; refine XO.assign rfl rfl ?_; refine XO.nil ?_; refine XC.seq2 ?_; refine XC.cond rfl (fun c0_1 => ?_) (fun c0_1 => ?_)
 ·obtain rfl : k = 1 := by omega
  refine XC.seq ?_; refine XC.region ?_; refine XO.buildRow (ρ := u8R) (l := [1]) rfl Try.underlying44 ty_5 ze_5 rfl rfl rfl (RowsR.one1 rfl) rfl (fun p9 a9 c9 hacc9 => ?_); refine XO.fieldAddr rfl fa_87_1 rfl ?_; refine XO.loadO 1 rfl rfl ty_3 rfl rfl rfl ?_; refine XO.callV rfl (runs_fn n f1 _) rfl ?_; refine XO.callH rfl (rnum_all _ _ (by omega)) rfl ?_; rintro _ HN13 hleN13 ⟨aN13, cN13, rfl, hN13⟩; replace hs := hs.mono hleN13; replace hacc9 := hacc9.mono hleN13; refine XO.appendA 0 rfl rfl hacc9 rfl rfl hN13 rfl Try.underlying44 ty_5 ze_5 rfl by_5 (by simp; omega) rfl (fun p14 a14 c14 hacc14 => ?_); refine XO.publishA 0 rfl hacc14 rfl (fun HQ5 hleQ5 hsQ5 => ?_); replace hs := hs.mono hleQ5; replace hN13 := hN13.mono hleQ5; refine XO.assign rfl rfl ?_; refine XO.nil ?_; refine XC.seq2 ?_; refine XC.ret ?_; refine blockR ?_; refine seqX_ret ?_; refine ⟨rfl, _, [], rfl, (by repeat (first | exact List.Sublist.refl _ | apply List.Sublist.cons)), RetR.mk ?_⟩
  rw [encV1]
  exact ⟨_, _, rfl, by assumption⟩
 ·refine XC.seq ?_; refine XC.region ?_; refine XO.eql rfl rfl rfl ?_; refine XO.assign rfl rfl ?_; refine XO.nil ?_; refine XC.seq2 ?_; refine XC.cond rfl (fun c1_6 => ?_) (fun c1_6 => ?_)
  ·obtain rfl : k = 2 := by omega
   refine XC.seq ?_; refine XC.keep [1] rfl ?_; refine XC.open0 0 ?_
   apply XC.drawQ (fun _ => True) trivial [0, 6] (FOl (fun j => [[], [2], [2] ++ numL s.length].getD j []) none 0) (FOl_mono _ _ _) 9 [anyF, eqF _, eqF _, eqF _, eqF _, fun v H => ∃ a c, v = .slice a (numL s.length).length c ∧ SlR u8R H a c (numL s.length), anyF, eqF _, eqF _] follows (by kernel_rfl) ⟨anyF_mono, eqF_mono _, eqF_mono _, eqF_mono _, eqF_mono _, fun _ _ _ hle ⟨a, c, h1, h2⟩ => ⟨a, c, h1, h2.mono hle⟩, anyF_mono, eqF_mono _, eqF_mono _, trivial⟩ (by kernel_rfl) (FOl_0 (Acc.nil _ _ _ _)) ?steps7 ?tail7
   case steps7 =>
    refine stepsQ_cons rfl ?_ ?_
    ·intro X e HD hleD _
     replace hs := hs.mono hleD; refine withP_nil rfl ?_
     intro hfa
     skip
     refine XO.buildRow (ρ := u8R) (l := [2]) rfl Try.underlying44 ty_5 ze_5 rfl rfl rfl (RowsR.one1 rfl) rfl (fun p17 a17 c17 hacc17 => ?_); refine XO.lose (.cons_cons _ (.cons _ (.refl _))) ?_; refine XO.nil ?_
     exact stepQV_ok trivial (trivial) (foQ_mod rfl (by exact FOl_s hacc17))
    refine stepsQ_cons rfl ?_ ?_
    ·intro X e HD hleD _
     replace hs := hs.mono hleD; refine withP_nil rfl ?_
     intro hfa
     refine XO.fieldAddr rfl fa_87_2 rfl ?_; refine XO.nil ?_
     exact stepQV_ok trivial (rfl) (foQ_no rfl)
    refine stepsQ_cons rfl ?_ ?_
    ·intro X e HD hleD _
     replace hs := hs.mono hleD; refine withP_cons rfl rfl ?_; rintro _ rfl; refine withP_nil rfl ?_
     intro hfa
     refine XO.loadO 1 rfl rfl ty_9 rfl rfl rfl ?_; refine XO.nil ?_
     exact stepQV_ok trivial (rfl) (foQ_no rfl)
    refine stepsQ_cons rfl ?_ ?_
    ·intro X e HD hleD _
     replace hs := hs.mono hleD; refine withP_cons rfl rfl ?_; rintro _ rfl; refine withP_nil rfl ?_
     intro hfa
     refine XO.lenStr rfl Try.underlying9 (by omega) rfl ?_; refine XO.nil ?_
     exact stepQV_ok trivial (rfl) (foQ_no rfl)
    refine stepsQ_cons rfl ?_ ?_
    ·intro X e HD hleD _
     replace hs := hs.mono hleD; refine withP_cons rfl rfl ?_; rintro _ rfl; refine withP_nil rfl ?_
     intro hfa
     refine XO.convI (c := ((s.length : Nat) : Int)) rfl Try.underlying3 Try.underlying108 (wrap_u64 (by omega) (by omega)) rfl ?_; refine XO.nil ?_
     exact stepQV_ok trivial (rfl) (foQ_no rfl)
    refine stepsQ_cons rfl ?_ ?_
    ·intro X e HD hleD _
     replace hs := hs.mono hleD; refine withP_cons rfl rfl ?_; rintro _ rfl; refine withP_nil rfl ?_
     intro hfa
     refine XO.callH rfl (rnum_all _ _ (by omega)) rfl ?_; rintro _ HN22 hleN22 ⟨aN22, cN22, rfl, hN22⟩; replace hs := hs.mono hleN22; refine XO.nil ?_
     exact stepQV_ok trivial (⟨_, _, rfl, hN22⟩) (foQ_no rfl)
    refine stepsQ_cons rfl ?_ ?_
    ·intro X e HD hleD _
     replace hs := hs.mono hleD; refine withP_cons rfl rfl ?_; rintro _ _; refine withP_cons rfl rfl ?_; rintro _ ⟨a22, c22, rfl, h22⟩; refine withP_nil rfl ?_
     intro hfa
     have hfb := factQ_s rfl hfa rfl rfl
     obtain ⟨a17, c17, hv17, hfa0⟩ := hfb.2 (by decide)
     subst hv17
     refine XO.appendA 0 rfl rfl hfa0 rfl rfl h22 rfl Try.underlying44 ty_5 ze_5 rfl by_5 (by simp; omega) rfl (fun p23 a23 c23 hacc23 => ?_); refine XO.nil ?_
     exact stepQV_ok trivial (trivial) (foQ_mod rfl (by exact FOl_s hacc23))
    refine stepsQ_cons rfl ?_ ?_
    ·intro X e HD hleD _
     replace hs := hs.mono hleD; refine withP_nil rfl ?_
     intro hfa
     refine XO.fieldAddr rfl fa_87_2 rfl ?_; refine XO.nil ?_
     exact stepQV_ok trivial (rfl) (foQ_no rfl)
    refine stepsQ_cons rfl ?_ ?_
    ·intro X e HD hleD _
     replace hs := hs.mono hleD; refine withP_cons rfl rfl ?_; rintro _ rfl; refine withP_nil rfl ?_
     intro hfa
     refine XO.loadO 1 rfl rfl ty_9 rfl rfl rfl ?_; refine XO.nil ?_
     exact stepQV_ok trivial (rfl) (foQ_no rfl)
    exact stepsQ_end rfl
   case tail7 =>
    intro HD hleD _
    replace hs := hs.mono hleD; refine withP_cons rfl rfl ?_; rintro _ _; refine withP_cons rfl rfl ?_; rintro _ rfl; refine withP_cons rfl rfl ?_; rintro _ rfl; refine withP_cons rfl rfl ?_; rintro _ rfl; refine withP_cons rfl rfl ?_; rintro _ rfl; refine withP_cons rfl rfl ?_; rintro _ ⟨a22, c22, rfl, h22⟩; refine withP_cons rfl rfl ?_; rintro _ _; refine withP_cons rfl rfl ?_; rintro _ rfl; refine withP_cons rfl rfl ?_; rintro _ rfl; refine withP_nil rfl ?_
    intro e he
    have hfb := lastQ_s rfl he rfl rfl
    obtain ⟨a23, c23, hv23, hacc23⟩ := hfb.2 (by decide)
    subst hv23
    refine XO.appendS 0 rfl rfl hacc23 rfl rfl Try.underlying44 Try.underlying9 ty_5 ze_5 rfl by_5 (by simp; omega) rfl (fun p26 a26 c26 hacc26 => ?_); refine XO.publishA 0 rfl hacc26 rfl (fun HQ12 hleQ12 hsQ12 => ?_); replace hs := hs.mono hleQ12; refine XO.assign rfl rfl ?_; refine XO.nil ?_; refine XC.seq2 ?_; refine XC.ret ?_; refine blockR ?_; refine seqX_ret ?_; refine ⟨rfl, _, [], rfl, (by repeat (first | exact List.Sublist.refl _ | apply List.Sublist.cons)), RetR.mk ?_⟩
    rw [encV2]
    exact ⟨_, _, rfl, by assumption⟩
  ·refine XC.skip ?_; refine blockN ?_; refine XC.seq2 ?_; refine XC.seq ?_; refine XC.region ?_; refine XO.buildRow (ρ := u8R) (l := [3]) rfl Try.underlying44 ty_5 ze_5 rfl rfl rfl (RowsR.one1 rfl) rfl (fun p27 a27 c27 hacc27 => ?_); refine XO.fieldAddr rfl fa_87_3 rfl ?_; refine XO.loadO 1 rfl rfl ty_85 rfl rfl rfl ?_; refine XO.lenS (ts := #[]) rfl Try.underlying85 rfl ?_; refine XO.convI (c := ((l.length : Nat) : Int)) rfl Try.underlying3 Try.underlying108 (wrap_u64 (by omega) (by omega)) rfl ?_; refine XO.callH rfl (rnum_all _ _ (by omega)) rfl ?_; rintro _ HN32 hleN32 ⟨aN32, cN32, rfl, hN32⟩; replace hs := hs.mono hleN32; replace hacc27 := hacc27.mono hleN32; refine XO.appendA 0 rfl rfl hacc27 rfl rfl hN32 rfl Try.underlying44 ty_5 ze_5 rfl by_5 (by simp; omega) rfl (fun p33 a33 c33 hacc33 => ?_); refine XO.assign rfl rfl ?_; refine XO.nil ?_; refine XC.seq2 ?_; refine XC.seq ?_; refine XC.seq ?_; refine XC.region ?_; refine XO.assign rfl rfl ?_; refine XO.nil ?_; refine XC.seq2 ?_; refine XC.block ?_; refine XC.keep [3, 4, 1] rfl ?_; refine XC.loop (base := [(1, _)]) (fun ζ : Nat × ((Nat × SObj) × Option Addr × Nat) => [(3, .slice ζ.2.2.1 (([3] ++ numL l.length) ++ encL (l.take (ζ.1))).length ζ.2.2.2), (4, .int .i64 (ζ.1 : Nat))]) (fun ζ Hl own => ζ.1 ≤ l.length ∧ ζ.2.1 :: (b1, .cells 87 [.int .i64 k, .int .i64 n, .string (bsOf s), .slice a l.length c]) :: rest = own ∧ Acc u8R 5 Hl ζ.2.1 ζ.2.2.1 ζ.2.2.2 (([3] ++ numL l.length) ++ encL (l.take (ζ.1)))) (fun ζ => l.length - ζ.1) (0, (p33, a33, c33)) (prov_cons (by show _ = some (Value.slice _ (_ ++ encL (l.take 0)).length _); rw [show encL (l.take 0) = [] from rfl, List.append_nil]; rfl) (prov_cons (rfl) (prov_cons (rfl) prov_nil))) (by repeat (first | exact List.Sublist.refl _ | apply List.Sublist.cons_cons | apply List.Sublist.cons)) ⟨Nat.zero_le _, rfl, (by rw [show encL (l.take 0) = [] from rfl, List.append_nil]; exact hacc33)⟩ ?_; rintro ⟨i, ⟨po, ao, co⟩⟩ Hl0 _ hle0 ⟨hki, rfl, hacco⟩; replace hs := hs.mono hle0; replace hN32 := hN32.mono hle0
   try dsimp only at hki hacco ⊢
   refine XC.seq ?_; refine XC.seq ?_; refine XC.region ?_; refine XO.move rfl rfl ?_; refine XO.fieldAddr rfl fa_87_3 rfl ?_; refine XO.loadO 1 rfl rfl ty_85 rfl rfl rfl ?_; refine XO.lenS (ts := #[]) rfl Try.underlying85 rfl ?_; refine XO.lss rfl rfl rfl ?_; refine XO.nil ?_; refine XC.seq2 ?_; refine XC.cond rfl (fun c2_16 => ?_) (fun c2_16 => ?_)
   ·refine XC.skip ?_; refine XC.seq2 ?_; refine XC.seq ?_; refine XC.block ?_; refine XC.region ?_; refine XO.move rfl rfl ?_; refine XO.fieldAddr rfl fa_87_3 rfl ?_; refine XO.loadO 1 rfl rfl ty_85 rfl rfl rfl ?_; refine XO.move rfl rfl ?_; refine XO.indexN rfl hs rfl Try.underlying85 ty_87 (by omega) rfl ?_; rintro eb45 eo45 _ x45 hx45 hR45 hp45; obtain ⟨k45, n45, s45, l45⟩ := x45; obtain ⟨a45, c45, rfl, hd45⟩ := valR_iff.1 hR45; refine XO.loadH rfl (by assumption) ty_87 rfl rfl rfl ?_
    have hwx := wsz_mem (List.mem_of_getElem? hx45)
    have h7 := wsz_take (l := l) (i + 1)
    rw [take_snoc hx45, wszL_snoc] at h7
    have h8 := encL_wsz (l := l.take i) (fun x hx => f4 x (List.mem_of_mem_take hx))
    have h9 := enc_wsz _ (f4 _ (List.mem_of_getElem? hx45))
    have hcall := ih (wszV (.mk k45 n45 s45 l45)) (by omega) k45 n45 s45 l45 a45 c45 _ (Nat.le_refl _) (by omega) (f4 _ (List.mem_of_getElem? hx45)) hd45
    refine XO.callH rfl hcall rfl ?_; rintro _ HN47 hleN47 ⟨aN47, cN47, rfl, hN47⟩; replace hs := hs.mono hleN47; replace hN32 := hN32.mono hleN47; replace hacco := hacco.mono hleN47; replace hp45 := hp45.mono hleN47; replace hd45 := hd45.mono hleN47; replace hle0 := hle0.trans hleN47; refine XO.appendA 0 rfl rfl hacco rfl rfl hN47 rfl Try.underlying44 ty_5 ze_5 rfl by_5 (by simp only [List.length_append, List.length_cons, List.length_nil]; omega) rfl (fun p48 a48 c48 hacc48 => ?_); refine XO.assign rfl rfl ?_; refine XO.nil ?_; refine blockN ?_; refine XC.seq2 ?_; refine XC.region ?_; refine XO.move rfl rfl ?_; refine XO.add rfl rfl (wrap_i64 (by omega) (by omega)) rfl ?_; refine XO.assign rfl rfl ?_; refine XO.nil ?_; refine loop_next ((i + 1, (p48, a48, c48))) (by show l.length - (i + 1) < l.length - i; omega) (prov_cons (by first | rfl | (rw [take_snoc hx45, encL_snoc, ← List.append_assoc]; rfl)) (prov_cons (rfl) (prov_cons (rfl) prov_nil))) (⟨by show i + 1 ≤ l.length; omega, rfl, by first | (exact hacc48) | (rw [take_snoc hx45, encL_snoc, ← List.append_assoc]; exact hacc48)⟩) (by repeat (first | exact List.Sublist.refl _ | apply List.Sublist.cons_cons | apply List.Sublist.cons)) (hle0)
   ·obtain rfl : i = l.length := by omega
    rw [List.take_length] at hacco ⊢
    refine XC.exit ?_; refine seqX_exit ?_; refine loopX_exit ?_; refine blockHit rfl ?_; refine XC.seq2 ?_; refine XC.seq ?_; refine XC.region ?_; refine XO.move rfl rfl ?_; refine XO.publishA 0 rfl hacco rfl (fun HQ20 hleQ20 hsQ20 => ?_); replace hs := hs.mono hleQ20; replace hN32 := hN32.mono hleQ20; replace hle0 := hle0.trans hleQ20; refine XO.assign rfl rfl ?_; refine XO.nil ?_; refine XC.seq2 ?_; refine XC.ret ?_; refine ⟨rfl, _, [], rfl, (by repeat (first | exact List.Sublist.refl _ | apply List.Sublist.cons)), RetR.mk ?_⟩
    rw [encV, if_neg (by omega), if_neg (by omega)]
    exact ⟨_, _, rfl, by assumption⟩
theorem renc_fn (k n : Int) (s : List UInt8) (l : List Val) (a : Option Addr) (c : Nat) (H : Hp) (hw : wszV (.mk k n s l) ≤ 1000000) (hf : Fit (.mk k n s l)) (hs : SlR valR H a c l) : FnC Try.prog 60 #[.agg ⟨[.int .i64 k, .int .i64 n, .string (bsOf s), .slice a l.length c]⟩] H [] (RetR (fun v H2 _ => EncR (.mk k n s l) H2 v)) := by
 refine FnC.intro (args := [.agg ⟨[.int .i64 k, .int .i64 n, .string (bsOf s), .slice a l.length c]⟩]) Try.func60 rfl rfl Try.ntmps60 rfl rfl rfl fun G rest => ?_
 refine XC.seq ?_; refine XC.region ?_; refine XO.box rfl rfl rfl (fun b1 => ?_); refine XO.assign rfl rfl ?_; refine XO.assign rfl rfl ?_; refine XO.nil ?_; refine XC.seq2 ?_; refine XC.seq ?_; refine XC.region ?_; refine XO.loadO 0 rfl rfl ty_87 rfl rfl rfl ?_
 have hcall := rcheck_fn k n s l a c _ hw hs
 refine XO.callV rfl hcall rfl ?_; refine XO.assign rfl rfl ?_; refine XO.nil ?_; refine XC.seq2 ?_; refine XC.seq ?_; refine XC.seq ?_; refine XC.region ?_; refine XO.move rfl rfl ?_; refine XO.neq rfl rfl rfl ?_; refine XO.nil ?_; refine XC.seq2 ?_; refine XC.cond rfl (fun c0_2 => ?_) (fun c0_2 => ?_)
 ·have hch : chkV (.mk k n s l) ≠ 0 := c0_2
  refine XC.seq ?_; refine XC.region ?_; refine XO.move rfl rfl ?_; refine XO.assign rfl rfl ?_; refine XO.assign rfl rfl ?_; refine XO.nil ?_; refine XC.seq2 ?_; refine XC.ret ?_; refine seqX_ret ?_; refine ⟨rfl, _, [], rfl, (by repeat (first | exact List.Sublist.refl _ | apply List.Sublist.cons)), RetR.mk ?_⟩
  exact enc_no hch
 ·have hch : chkV (.mk k n s l) = 0 := by omega
  refine XC.skip ?_; refine XC.seq2 ?_; refine XC.seq ?_; refine XC.region ?_; refine XO.loadO 0 rfl rfl ty_87 rfl rfl rfl ?_
  have hcall := renc_all 1000000 k n s l a c _ hw (by omega) hf hs
  refine XO.callH rfl hcall rfl ?_; rintro _ HN11 hleN11 ⟨aN11, cN11, rfl, hN11⟩; replace hs := hs.mono hleN11; refine XO.assign rfl rfl ?_; refine XO.assign rfl rfl ?_; refine XO.nil ?_; refine XC.seq2 ?_; refine XC.ret ?_; refine ⟨rfl, _, [], rfl, (by repeat (first | exact List.Sublist.refl _ | apply List.Sublist.cons)), RetR.mk ?_⟩
  exact enc_yes hch hN11
end Go.Proofs

/- Walks that are alike in other seats, in this seat's numbers. -/
set_option autoImplicit false
set_option linter.unusedVariables false
set_option linter.unusedSimpArgs false
namespace Go.Proofs
open Go.XL

theorem nan_fn (x : Int) (H : Hp) : FnC Try.prog 59 #[.int .i64 x] H [] (RetR (fun v _ _ => v = .bool false)) := by
 refine FnC.intro (args := [.int .i64 x]) Try.func59 rfl rfl Try.ntmps59 rfl rfl rfl fun G rest => ?_
 refine XC.seq ?_; refine XC.region ?_; refine XO.assign rfl rfl ?_; refine XO.nil ?_; refine XC.seq2 ?_; refine XC.seq ?_; refine XC.region ?_; refine XO.move rfl rfl ?_; refine XO.move rfl rfl ?_; refine XO.neq rfl rfl rfl ?_; refine XO.assign rfl rfl ?_; refine XO.nil ?_; refine XC.seq2 ?_; refine XC.ret ?_; refine ⟨rfl, _, [], rfl, (by repeat (first | exact List.Sublist.refl _ | apply List.Sublist.cons)), RetR.mk ?_⟩
 exact congrArg Value.bool (decide_eq_false (fun h => h rfl))
theorem cmp_fn (x y : Int) (H : Hp) : FnC Try.prog 49 #[.int .i64 x, .int .i64 y] H [] (RetR (fun v _ _ => v = .int .i64 (sgn x y))) := by
 refine FnC.intro (args := [.int .i64 x, .int .i64 y]) Try.func49 rfl rfl Try.ntmps49 rfl rfl rfl fun G rest => ?_
 refine XC.seq ?_; refine XC.region ?_; refine XO.assign rfl rfl ?_; refine XO.nil ?_; refine XC.seq2 ?_; refine XC.seq ?_; refine XC.region ?_; refine XO.move rfl rfl ?_; refine XO.callV rfl (nan_fn x _) rfl ?_; refine XO.assign rfl rfl ?_; refine XO.nil ?_; refine XC.seq2 ?_; refine XC.seq ?_; refine XC.region ?_; refine XO.move rfl rfl ?_; refine XO.callV rfl (nan_fn y _) rfl ?_; refine XO.assign rfl rfl ?_; refine XO.nil ?_; refine XC.seq2 ?_; refine XC.seq ?_; refine XC.seq ?_; refine XC.region ?_; refine XO.move rfl rfl ?_; refine XO.nil ?_; refine XC.seq2 ?_; refine XC.condF rfl (rfl) ?_; refine XC.skip ?_; refine XC.seq2 ?_; refine XC.seq ?_; refine XC.seq ?_; refine XC.region ?_; refine XO.move rfl rfl ?_; refine XO.nil ?_; refine XC.seq2 ?_; refine XC.condF rfl (rfl) ?_; refine XC.skip ?_; refine XC.seq2 ?_; refine XC.seq ?_; refine XC.seq ?_; refine XC.region ?_; refine XO.move rfl rfl ?_; refine XO.move rfl rfl ?_; refine XO.lss rfl rfl rfl ?_; refine XO.nil ?_; refine XC.seq2 ?_; refine XC.cond rfl (fun c3_3 => ?_) (fun c3_3 => ?_)
 ·refine XC.seq ?_; refine XC.region ?_; refine XO.assign rfl rfl ?_; refine XO.nil ?_; refine XC.seq2 ?_; refine XC.ret ?_; refine seqX_ret ?_; refine ⟨rfl, _, [], rfl, (by repeat (first | exact List.Sublist.refl _ | apply List.Sublist.cons)), RetR.mk ?_⟩
  first | exact congrArg (Value.int .i64) (sgn_lt (by assumption)).symm | exact congrArg (Value.int .i64) (sgn_gt (by assumption)).symm | exact congrArg (Value.int .i64) (sgn_eq (by assumption) (by assumption)).symm
 ·refine XC.skip ?_; refine XC.seq2 ?_; refine XC.seq ?_; refine XC.seq ?_; refine XC.region ?_; refine XO.move rfl rfl ?_; refine XO.move rfl rfl ?_; refine XO.gtr rfl rfl rfl ?_; refine XO.nil ?_; refine XC.seq2 ?_; refine XC.cond rfl (fun c4_4 => ?_) (fun c4_4 => ?_)
  ·refine XC.seq ?_; refine XC.region ?_; refine XO.assign rfl rfl ?_; refine XO.nil ?_; refine XC.seq2 ?_; refine XC.ret ?_; refine seqX_ret ?_; refine ⟨rfl, _, [], rfl, (by repeat (first | exact List.Sublist.refl _ | apply List.Sublist.cons)), RetR.mk ?_⟩
   first | exact congrArg (Value.int .i64) (sgn_lt (by assumption)).symm | exact congrArg (Value.int .i64) (sgn_gt (by assumption)).symm | exact congrArg (Value.int .i64) (sgn_eq (by assumption) (by assumption)).symm
  ·refine XC.skip ?_; refine XC.seq2 ?_; refine XC.seq ?_; refine XC.region ?_; refine XO.assign rfl rfl ?_; refine XO.nil ?_; refine XC.seq2 ?_; refine XC.ret ?_; refine ⟨rfl, _, [], rfl, (by repeat (first | exact List.Sublist.refl _ | apply List.Sublist.cons)), RetR.mk ?_⟩
   first | exact congrArg (Value.int .i64) (sgn_lt (by assumption)).symm | exact congrArg (Value.int .i64) (sgn_gt (by assumption)).symm | exact congrArg (Value.int .i64) (sgn_eq (by assumption) (by assumption)).symm
theorem compare_fn (a b : Option Addr) (c d : Nat) (l m : List Int) (H : Hp) (hs : SlR (intR .i64) H a c l) (ht : SlR (intR .i64) H b d m) (hl : l.length < 9223372036854775808) (hm : m.length < 9223372036854775808) : FnC Try.prog 34 #[.slice a l.length c, .slice b m.length d] H [] (RetR (fun v _ _ => v = .int .i64 (cmpL l m))) := by
 refine FnC.intro (args := [.slice a l.length c, .slice b m.length d]) Try.func34 rfl rfl Try.ntmps34 rfl rfl rfl fun G rest => ?_
 refine XC.seq ?_; refine XC.region ?_; refine XO.assign rfl rfl ?_; refine XO.nil ?_; refine XC.seq2 ?_; refine XC.seq ?_; refine XC.seq ?_; refine XC.region ?_; refine XO.move rfl rfl ?_; refine XO.lenS (ts := #[]) rfl Try.underlying23 rfl ?_; refine XO.move rfl rfl ?_; refine XO.nil ?_; refine XC.seq2 ?_; refine XC.block ?_; refine XC.keep [11, 0, 1, 9, 10] rfl ?_; refine XC.loop (base := [(0, _), (1, _), (9, _), (10, _)]) (fun ζ : Nat => [(11, .int .i64 (ζ : Nat))]) (fun ζ Hl own => ζ ≤ l.length ∧ rest = own ∧ (cmpL l m = cmpL (l.drop (ζ)) (m.drop (ζ)))) (fun ζ => l.length - ζ) 0 (prov_cons (rfl) (prov_cons (rfl) (prov_cons (rfl) (prov_cons (rfl) (prov_cons (rfl) prov_nil))))) (by repeat (first | exact List.Sublist.refl _ | apply List.Sublist.cons_cons | apply List.Sublist.cons)) ⟨Nat.zero_le _, rfl, rfl⟩ ?_; rintro k Hl0 _ hle0 ⟨hkk, rfl, hc⟩; replace hs := hs.mono hle0; replace ht := ht.mono hle0
 try dsimp only at ⊢
 refine XC.seq ?_; refine XC.region ?_; refine XO.lss rfl rfl rfl ?_; refine XO.nil ?_; refine XC.seq2 ?_; refine XC.seq ?_; refine XC.cond rfl (fun c0_1 => ?_) (fun c0_1 => ?_)
 ·refine XC.skip ?_; refine XC.seq2 ?_; refine XC.seq ?_; refine XC.block ?_; refine XC.seq ?_; refine XC.region ?_; refine XO.move rfl rfl ?_; refine XO.indexN rfl hs rfl Try.underlying23 ty_3 (by omega) rfl ?_; rintro eb14 eo14 _ x14 hx14 rfl hp14; refine XO.loadH rfl (by assumption) ty_3 rfl rfl rfl ?_; refine XO.assign rfl rfl ?_; refine XO.assign rfl rfl ?_; refine XO.nil ?_; refine XC.seq2 ?_; refine XC.seq ?_; refine XC.seq ?_; refine XC.region ?_; refine XO.move rfl rfl ?_; refine XO.move rfl rfl ?_; refine XO.lenS (ts := #[]) rfl Try.underlying23 rfl ?_; refine XO.geq rfl rfl rfl ?_; refine XO.nil ?_; refine XC.seq2 ?_; refine XC.cond rfl (fun c1_3 => ?_) (fun c1_3 => ?_)
  ·refine XC.seq ?_; refine XC.region ?_; refine XO.assign rfl rfl ?_; refine XO.nil ?_; refine XC.seq2 ?_; refine XC.ret ?_; refine seqX_ret ?_; refine blockR ?_; refine seqX_ret ?_; refine loopX_ret ?_; refine blockR ?_; refine seqX_ret ?_; refine ⟨rfl, _, [], rfl, (by repeat (first | exact List.Sublist.refl _ | apply List.Sublist.cons)), RetR.mk ?_⟩
   first | exact congrArg (Value.int .i64) (cmp_long hc hx14 (by omega)) | exact congrArg (Value.int .i64) (cmp_ne hc hx14 hx22 (by assumption)) | exact congrArg (Value.int .i64) (by rw [hce, if_pos (by omega)]) | exact congrArg (Value.int .i64) (by rw [hce, if_neg (by omega)])
  ·refine XC.skip ?_; refine XC.seq2 ?_; refine XC.seq ?_; refine XC.region ?_; refine XO.move rfl rfl ?_; refine XO.move rfl rfl ?_; refine XO.indexN rfl ht rfl Try.underlying23 ty_3 (by omega) rfl ?_; rintro eb22 eo22 _ x22 hx22 rfl hp22; refine XO.loadH rfl (by assumption) ty_3 rfl rfl rfl ?_; refine XO.assign rfl rfl ?_; refine XO.nil ?_; refine XC.seq2 ?_; refine XC.seq ?_; refine XC.region ?_; refine XO.move rfl rfl ?_; refine XO.move rfl rfl ?_; refine XO.callV rfl (cmp_fn x14 x22 _) rfl ?_; refine XO.assign rfl rfl ?_; refine XO.nil ?_; refine XC.seq2 ?_; refine XC.seq ?_; refine XC.region ?_; refine XO.move rfl rfl ?_; refine XO.neq rfl rfl rfl ?_; refine XO.nil ?_; refine XC.seq2 ?_; refine XC.cond rfl (fun c2_6 => ?_) (fun c2_6 => ?_)
   ·refine XC.seq ?_; refine XC.region ?_; refine XO.move rfl rfl ?_; refine XO.assign rfl rfl ?_; refine XO.nil ?_; refine XC.seq2 ?_; refine XC.ret ?_; refine blockR ?_; refine seqX_ret ?_; refine loopX_ret ?_; refine blockR ?_; refine seqX_ret ?_; refine ⟨rfl, _, [], rfl, (by repeat (first | exact List.Sublist.refl _ | apply List.Sublist.cons)), RetR.mk ?_⟩
    first | exact congrArg (Value.int .i64) (cmp_long hc hx14 (by omega)) | exact congrArg (Value.int .i64) (cmp_ne hc hx14 hx22 (by assumption)) | exact congrArg (Value.int .i64) (by rw [hce, if_pos (by omega)]) | exact congrArg (Value.int .i64) (by rw [hce, if_neg (by omega)])
   ·refine XC.skip ?_; refine blockN ?_; refine XC.seq2 ?_; refine XC.region ?_; refine XO.add rfl rfl (wrap_i64 (by omega) (by omega)) rfl ?_; refine XO.move rfl rfl ?_; refine XO.nil ?_; refine loop_next (k + 1) (by show l.length - (k + 1) < l.length - k; omega) (prov_cons (rfl) (prov_cons (rfl) (prov_cons (rfl) (prov_cons (rfl) (prov_cons (rfl) prov_nil))))) (⟨by show k + 1 ≤ l.length; omega, rfl, cmp_eq hc hx14 hx22 (by omega)⟩) (by repeat (first | exact List.Sublist.refl _ | apply List.Sublist.cons_cons | apply List.Sublist.cons)) (hle0)
 ·obtain rfl : k = l.length := by omega
  have hce := cmp_end hc (Nat.le_refl _)
  refine XC.exit ?_; refine seqX_exit ?_; refine loopX_exit ?_; refine blockHit rfl ?_; refine XC.seq2 ?_; refine XC.seq ?_; refine XC.seq ?_; refine XC.region ?_; refine XO.move rfl rfl ?_; refine XO.lenS (ts := #[]) rfl Try.underlying23 rfl ?_; refine XO.move rfl rfl ?_; refine XO.lenS (ts := #[]) rfl Try.underlying23 rfl ?_; refine XO.lss rfl rfl rfl ?_; refine XO.nil ?_; refine XC.seq2 ?_; refine XC.cond rfl (fun c3_7 => ?_) (fun c3_7 => ?_)
  ·refine XC.seq ?_; refine XC.region ?_; refine XO.assign rfl rfl ?_; refine XO.nil ?_; refine XC.seq2 ?_; refine XC.ret ?_; refine seqX_ret ?_; refine ⟨rfl, _, [], rfl, (by repeat (first | exact List.Sublist.refl _ | apply List.Sublist.cons)), RetR.mk ?_⟩
   first | exact congrArg (Value.int .i64) (cmp_long hc hx14 (by omega)) | exact congrArg (Value.int .i64) (cmp_ne hc hx14 hx22 (by assumption)) | exact congrArg (Value.int .i64) (by rw [hce, if_pos (by omega)]) | exact congrArg (Value.int .i64) (by rw [hce, if_neg (by omega)])
  ·refine XC.skip ?_; refine XC.seq2 ?_; refine XC.seq ?_; refine XC.region ?_; refine XO.assign rfl rfl ?_; refine XO.nil ?_; refine XC.seq2 ?_; refine XC.ret ?_; refine ⟨rfl, _, [], rfl, (by repeat (first | exact List.Sublist.refl _ | apply List.Sublist.cons)), RetR.mk ?_⟩
   first | exact congrArg (Value.int .i64) (cmp_long hc hx14 (by omega)) | exact congrArg (Value.int .i64) (cmp_ne hc hx14 hx22 (by assumption)) | exact congrArg (Value.int .i64) (by rw [hce, if_pos (by omega)]) | exact congrArg (Value.int .i64) (by rw [hce, if_neg (by omega)])
end Go.Proofs

/- Walks that are alike in other seats, in this seat's numbers. -/
set_option autoImplicit false
set_option linter.unusedVariables false
set_option linter.unusedSimpArgs false
namespace Go.Proofs
open Go.XL

theorem or_fn (a : Option Addr) (c : Nat) (l : List Int) (H : Hp) (hs : SlR (intR .i64) H a c l) (hl : l.length < 9223372036854775808) : FnC Try.prog 46 #[.slice a l.length c] H [] (RetR (fun v _ _ => v = .int .i64 (orL l))) := by
 refine FnC.intro (args := [.slice a l.length c]) Try.func46 rfl rfl Try.ntmps46 rfl rfl rfl fun G rest => ?_
 refine XC.seq ?_; refine XC.region ?_; refine XO.assign rfl rfl ?_; refine XO.nil ?_; refine XC.seq2 ?_; refine XC.seq ?_; refine XC.region ?_; refine XO.assign rfl rfl ?_; refine XO.nil ?_; refine XC.seq2 ?_; refine XC.seq ?_; refine XC.seq ?_; refine XC.region ?_; refine XO.move rfl rfl ?_; refine XO.lenS (ts := #[]) rfl Try.underlying23 rfl ?_; refine XO.move rfl rfl ?_; refine XO.nil ?_; refine XC.seq2 ?_; refine XC.block ?_; refine XC.keep [8, 3, 6, 7] rfl ?_; refine XC.loop (base := [(3, _), (6, _), (7, _)]) (fun ζ : Nat => [(8, .int .i64 (ζ : Nat))]) (fun ζ Hl own => ζ ≤ l.length ∧ rest = own ∧ (∀ y ∈ l.take ζ, ¬ (y ≠ 0))) (fun ζ => l.length - ζ) 0 (prov_cons (rfl) (prov_cons (rfl) (prov_cons (rfl) (prov_cons (rfl) prov_nil)))) (by repeat (first | exact List.Sublist.refl _ | apply List.Sublist.cons_cons | apply List.Sublist.cons)) ⟨Nat.zero_le _, rfl, by simp⟩ ?_; rintro k Hl0 _ hle0 ⟨hkk, rfl, hno⟩; replace hs := hs.mono hle0
 try dsimp only at ⊢
 refine XC.seq ?_; refine XC.region ?_; refine XO.lss rfl rfl rfl ?_; refine XO.nil ?_; refine XC.seq2 ?_; refine XC.seq ?_; refine XC.cond rfl (fun c0_1 => ?_) (fun c0_1 => ?_)
 ·refine XC.skip ?_; refine XC.seq2 ?_; refine XC.seq ?_; refine XC.block ?_; refine XC.seq ?_; refine XC.region ?_; refine XO.indexN rfl hs rfl Try.underlying23 ty_3 (by omega) rfl ?_; rintro eb10 eo10 _ x10 hx10 rfl hp10; refine XO.loadH rfl (by assumption) ty_3 rfl rfl rfl ?_; refine XO.assign rfl rfl ?_; refine XO.nil ?_; refine XC.seq2 ?_; refine XC.seq ?_; refine XC.region ?_; refine XO.move rfl rfl ?_; refine XO.move rfl rfl ?_; refine XO.neq rfl rfl rfl ?_; refine XO.nil ?_; refine XC.seq2 ?_; refine XC.cond rfl (fun c1_3 => ?_) (fun c1_3 => ?_)
  ·refine XC.seq ?_; refine XC.region ?_; refine XO.move rfl rfl ?_; refine XO.assign rfl rfl ?_; refine XO.nil ?_; refine XC.seq2 ?_; refine XC.ret ?_; refine blockR ?_; refine seqX_ret ?_; refine loopX_ret ?_; refine blockR ?_; refine seqX_ret ?_; refine ⟨rfl, _, [], rfl, (by repeat (first | exact List.Sublist.refl _ | apply List.Sublist.cons)), RetR.mk ?_⟩
   first | exact congrArg (Value.int .i64) (or_at hno hx10 (by omega)) | exact congrArg (Value.int .i64) (or_no hno)
  ·refine XC.skip ?_; refine blockN ?_; refine XC.seq2 ?_; refine XC.region ?_; refine XO.add rfl rfl (wrap_i64 (by omega) (by omega)) rfl ?_; refine XO.move rfl rfl ?_; refine XO.nil ?_; refine loop_next (k + 1) (by show l.length - (k + 1) < l.length - k; omega) (prov_cons (rfl) (prov_cons (rfl) (prov_cons (rfl) (prov_cons (rfl) prov_nil)))) (⟨by show k + 1 ≤ l.length; omega, rfl, all_snoc hno hx10 (by omega)⟩) (by repeat (first | exact List.Sublist.refl _ | apply List.Sublist.cons_cons | apply List.Sublist.cons)) (hle0)
 ·obtain rfl : k = l.length := by omega
  rw [List.take_length] at hno
  refine XC.exit ?_; refine seqX_exit ?_; refine loopX_exit ?_; refine blockHit rfl ?_; refine XC.seq2 ?_; refine XC.seq ?_; refine XC.region ?_; refine XO.move rfl rfl ?_; refine XO.assign rfl rfl ?_; refine XO.nil ?_; refine XC.seq2 ?_; refine XC.ret ?_; refine ⟨rfl, _, [], rfl, (by repeat (first | exact List.Sublist.refl _ | apply List.Sublist.cons)), RetR.mk ?_⟩
  first | exact congrArg (Value.int .i64) (or_at hno hx10 (by omega)) | exact congrArg (Value.int .i64) (or_no hno)
theorem index_fn (a : Option Addr) (c : Nat) (l : List Int) (g : Value) (q : Int → Prop) (H : Hp) (hs : SlR (intR .i64) H a c l) (hl : l.length < 9223372036854775808) (hg : ∀ x ∈ l, FnV Try.prog g [.int .i64 x] H [] (RetR fun u _ _ => ∃ b : Bool, u = .bool b ∧ (b = true ↔ q x))) : FnC Try.prog 65 #[.slice a l.length c, g] H [] (RetR (fun v _ _ => ∃ i : Int, v = .int .i64 i ∧ (0 ≤ i ↔ ∃ x ∈ l, q x))) := by
 refine FnC.intro (args := [.slice a l.length c, g]) Try.func65 rfl rfl Try.ntmps65 rfl rfl rfl fun G rest => ?_
 refine XC.seq ?_; refine XC.region ?_; refine XO.assign rfl rfl ?_; refine XO.nil ?_; refine XC.seq2 ?_; refine XC.seq ?_; refine XC.seq ?_; refine XC.region ?_; refine XO.move rfl rfl ?_; refine XO.lenS (ts := #[]) rfl Try.underlying23 rfl ?_; refine XO.move rfl rfl ?_; refine XO.nil ?_; refine XC.seq2 ?_; refine XC.block ?_; refine XC.keep [8, 0, 1, 7] rfl ?_; refine XC.loop (base := [(0, _), (1, _), (7, _)]) (fun ζ : Nat => [(8, .int .i64 (ζ : Nat))]) (fun ζ Hl own => ζ ≤ l.length ∧ rest = own ∧ (∀ x ∈ l.take ζ, ¬ q x) ∧ (H = Hl)) (fun ζ => l.length - ζ) 0 (prov_cons (rfl) (prov_cons (rfl) (prov_cons (rfl) (prov_cons (rfl) prov_nil)))) (by repeat (first | exact List.Sublist.refl _ | apply List.Sublist.cons_cons | apply List.Sublist.cons)) ⟨Nat.zero_le _, rfl, by simp, rfl⟩ ?_; rintro k Hl0 _ hle0 ⟨hkk, rfl, hno, hHl⟩; replace hs := hs.mono hle0
 try dsimp only at ⊢
 subst hHl
 refine XC.seq ?_; refine XC.region ?_; refine XO.lss rfl rfl rfl ?_; refine XO.nil ?_; refine XC.seq2 ?_; refine XC.seq ?_; refine XC.cond rfl (fun c0_1 => ?_) (fun c0_1 => ?_)
 ·refine XC.skip ?_; refine XC.seq2 ?_; refine XC.seq ?_; refine XC.block ?_; refine XC.seq ?_; refine XC.region ?_; refine XO.move rfl rfl ?_; refine XO.assign rfl rfl ?_; refine XO.nil ?_; refine XC.seq2 ?_; refine XC.seq ?_; refine XC.region ?_; refine XO.move rfl rfl ?_; refine XO.move rfl rfl ?_; refine XO.move rfl rfl ?_; refine XO.indexN rfl hs rfl Try.underlying23 ty_3 (by omega) rfl ?_; rintro eb14 eo14 _ x14 hx14 rfl hp14; refine XO.loadH rfl (by assumption) ty_3 rfl rfl rfl ?_; refine XO.callValK rfl trivial rfl (hg x14 (List.mem_of_getElem? hx14)) rfl ?_; rintro _ ⟨bq, rfl, hqq⟩; refine XO.nil ?_; refine XC.seq2 ?_; refine XC.condB rfl (fun c1_4 => ?_) (fun c1_4 => ?_)
  ·refine XC.seq ?_; refine XC.region ?_; refine XO.move rfl rfl ?_; refine XO.assign rfl rfl ?_; refine XO.nil ?_; refine XC.seq2 ?_; refine XC.ret ?_; refine blockR ?_; refine seqX_ret ?_; refine loopX_ret ?_; refine blockR ?_; refine seqX_ret ?_; refine ⟨rfl, _, [], rfl, (by repeat (first | exact List.Sublist.refl _ | apply List.Sublist.cons)), RetR.mk ?_⟩
   exact ⟨_, rfl, ⟨fun _ => ⟨x14, List.mem_of_getElem? hx14, hqq.1 (by assumption)⟩, fun _ => by omega⟩⟩
  ·refine XC.skip ?_; refine blockN ?_; refine XC.seq2 ?_; refine XC.region ?_; refine XO.add rfl rfl (wrap_i64 (by omega) (by omega)) rfl ?_; refine XO.move rfl rfl ?_; refine XO.nil ?_; refine loop_next (k + 1) (by show l.length - (k + 1) < l.length - k; omega) (prov_cons (rfl) (prov_cons (rfl) (prov_cons (rfl) (prov_cons (rfl) prov_nil)))) (⟨by show k + 1 ≤ l.length; omega, rfl, all_snoc hno hx14 (fun h => by simp_all), rfl⟩) (by repeat (first | exact List.Sublist.refl _ | apply List.Sublist.cons_cons | apply List.Sublist.cons)) (hle0)
 ·obtain rfl : k = l.length := by omega
  rw [List.take_length] at hno
  refine XC.exit ?_; refine seqX_exit ?_; refine loopX_exit ?_; refine blockHit rfl ?_; refine XC.seq2 ?_; refine XC.seq ?_; refine XC.region ?_; refine XO.assign rfl rfl ?_; refine XO.nil ?_; refine XC.seq2 ?_; refine XC.ret ?_; refine ⟨rfl, _, [], rfl, (by repeat (first | exact List.Sublist.refl _ | apply List.Sublist.cons)), RetR.mk ?_⟩
  exact ⟨-1, rfl, ⟨fun h => absurd h (by decide), fun ⟨x, hx, hq⟩ => absurd hq (hno x hx)⟩⟩
theorem containsF_fn (a : Option Addr) (c : Nat) (l : List Int) (g : Value) (q : Int → Prop) (H : Hp) (hs : SlR (intR .i64) H a c l) (hl : l.length < 9223372036854775808) (hg : ∀ x ∈ l, FnV Try.prog g [.int .i64 x] H [] (RetR fun u _ _ => ∃ b : Bool, u = .bool b ∧ (b = true ↔ q x))) : FnC Try.prog 53 #[.slice a l.length c, g] H [] (RetR (fun v _ _ => ∃ b : Bool, v = .bool b ∧ (b = true ↔ ∃ x ∈ l, q x))) := by
 refine FnC.intro (args := [.slice a l.length c, g]) Try.func53 rfl rfl Try.ntmps53 rfl rfl rfl fun G rest => ?_
 refine XC.seq ?_; refine XC.region ?_; refine XO.assign rfl rfl ?_; refine XO.nil ?_; refine XC.seq2 ?_; refine XC.seq ?_; refine XC.region ?_; refine XO.move rfl rfl ?_; refine XO.move rfl rfl ?_; refine XO.callK rfl (index_fn _ _ _ _ _ _ hs hl hg) rfl ?_; rintro _ ⟨iX, rfl, hX⟩; refine XO.geq rfl rfl rfl ?_; refine XO.assign rfl rfl ?_; refine XO.nil ?_; refine XC.seq2 ?_; refine XC.ret ?_; refine ⟨rfl, _, [], rfl, (by repeat (first | exact List.Sublist.refl _ | apply List.Sublist.cons)), RetR.mk ?_⟩
 exact ⟨_, rfl, by rw [decide_eq_true_iff]; exact hX⟩
end Go.Proofs

/- An interface is asked whether it is nil. No statement of the program stands here. -/
set_option autoImplicit false
set_option linter.unusedSimpArgs false
set_option linter.unusedVariables false
namespace Go.XL
section
variable {C : Ctx} {ops : Array Oper} {Q : Exit → St → Prop} {rest : List Oper} {env : Env} {df : List Deferred} {H : Hp} {own : Own} {dst : Option Tmp} {ty : TypeId} {pos : String} {af : Array Edge}
theorem XO.eqlNilI {x : Operand} {t : TypeId} {v : Value} {ms : Array (String × TypeId)} {b : Bool} (hx : ev env x = some v) (hv : (v = .nilIface ∧ b = true) ∨ (∃ t2 u, v = .iface t2 u ∧ b = false)) (ht : C.P.underlying t = some (.interface ms)) (hd : dstOk C.N dst = true) (h : XO C ops Q rest ⟨putE dst (.bool b) env, df, H, own⟩) {yt : TypeId} :
  XO C ops Q (⟨dst, .binOp .eql t x (.const .nilIface) yt, ty, pos, af, none⟩ :: rest) ⟨env, df, H, own⟩ := by
 refine XO.pure rfl rfl hd (fun ρ ha w => ?_) h
 have hy : ρ (.const .nilIface) = .nilIface := ha (.const .nilIface) _ rfl
 have hgd : ∀ w, (eqGuard .eql t x (.const .nilIface) v .nilIface).run C.P w = .ok () w := by
  intro w
  rcases hv with ⟨rfl, rfl⟩ | ⟨t2, u, rfl, rfl⟩
  ·cases x <;> rfl
  ·rfl
 have hbin : (binOp .eql t v .nilIface).run C.P w = .ok (.bool b) w := by
  have e1 : binOp .eql t v .nilIface = (do Pure.pure (Value.bool (← Op.equal t v .nilIface)) : Sem Value) := by
   rcases hv with ⟨rfl, rfl⟩ | ⟨t2, u, rfl, rfl⟩ <;> rfl
  have hv2 : (v = .nilIface ∧ (!b) = false) ∨ (∃ t2 u, v = .iface t2 u ∧ (!b) = true) := by
   rcases hv with ⟨h1, rfl⟩ | ⟨t2, u, h1, rfl⟩
   ·exact .inl ⟨h1, rfl⟩
   ·exact .inr ⟨t2, u, h1, rfl⟩
  rw [e1, Sem.run_bind, equal_nilI hv2 ht]
  cases b <;> rfl
 simp only [execOp, ha _ _ hx, hy, Sem.run_bind, hgd]
 simp only [Result.andThen, hbin]
 rfl
/-- A function value is called; it gives back no block, the published heap may grow. -/
theorem XO.callVH {x : Operand} {xs : List Operand} {ts : Array TypeId} {v : Value} {vs : List Value} {R : Value → Hp → Own → Prop} (hx : ev env x = some v) (hnf : match x with | .func _ => False | _ => True)
  (hxs : evs env xs = some vs) (hf : FnV C.P v vs H [] (RetR R)) (hd : dstOk C.N dst = true)
  (h : ∀ u H' o, Le H H' → R u H' o → XO C ops Q rest ⟨putE dst u env, df, H', own⟩) :
  XO C ops Q (⟨dst, .call { callee := .value x, args := xs.toArray, argTypes := ts }, ty, pos, af, none⟩ :: rest) ⟨env, df, H, own⟩ :=
 XO.callVal0 (l := []) (ownF := []) (rst := own) hx hnf hxs hf hd rfl (fun u H' own' hle hR => ⟨H', own, hle, Le.refl _, by simp, h u H' own' hle hR⟩) (fun _ _ _ _ hR => hR.elim)
end
end Go.XL

/- Boxes: facts about one card, in plain Lean. -/
set_option autoImplicit false
set_option linter.unusedVariables false
set_option linter.unusedSimpArgs false
namespace Go.Proofs
open Go.XL
abbrev PN : List PanicEntry := [{ v := .iface 32 (.int .i64 340), recovered := false }]
theorem all_y {l : List Int} {m : Int} {b : Bool} (h : 1 ≤ l.length ∧ l.length ≤ 64) (hq : b = true ↔ ∃ x ∈ l, ¬ (0 ≤ x ∧ x ≤ m)) : (!b) = decide (keysP l m) := by
  cases b with
  | true =>
    obtain ⟨x, hx, hn⟩ := hq.1 rfl
    exact (decide_eq_false fun h2 => hn (h2.2 x hx)).symm
  | false =>
    refine (decide_eq_true ⟨h, fun x hx => Decidable.byContradiction fun hn => ?_⟩).symm
    exact Bool.noConfusion (hq.2 ⟨x, hx, hn⟩)
theorem all_n {l : List Int} {m : Int} (h : ¬ (1 ≤ l.length ∧ l.length ≤ 64)) : false = decide (keysP l m) := (decide_eq_false fun h2 => h h2.1).symm
theorem sel_ok {s : Card} (h : okC s) : (0 : Int) = selC s := (if_pos h).symm
theorem sel_no {s : Card} (h : ¬ okC s) : (340 : Int) = selC s := (if_neg h).symm
theorem card_y {s t : Card} (hs : s.D.length = 32) (ht : t.D.length = 32) (h1 : s.R = t.R) (h2 : s.E = t.E) (h3 : s.J = t.J) (h4 : s.C = t.C) : decide (n32 s.D = n32 t.D) = decide (s = t) := by
 refine decide_eq_decide.2 ⟨fun h => ?_, fun h => by rw [h]⟩
 have h5 := n32_inj hs ht h
 cases s; cases t; simp only at h1 h2 h3 h4 h5; subst h1; subst h2; subst h3; subst h4; subst h5; rfl
def plcL (s : Card) : List Int := [s.R, s.E, s.J]
theorem plc_R {s t : Card} (h : s.R ≠ t.R) : decide (s.R < t.R) = decide (cmpL (plcL s) (plcL t) < 0) := by
 unfold plcL; rw [cmpL, if_neg (fun e => h (sgn_0.1 e))]; exact decide_eq_decide.2 sgn_neg.symm
theorem plc_E {s t : Card} (h : ¬ s.R ≠ t.R) (h2 : s.E ≠ t.E) : decide (s.E < t.E) = decide (cmpL (plcL s) (plcL t) < 0) := by
 unfold plcL; rw [cmpL, if_pos (sgn_0.2 (Decidable.not_not.1 h)), cmpL, if_neg (fun e => h2 (sgn_0.1 e))]; exact decide_eq_decide.2 sgn_neg.symm
theorem plc_J {s t : Card} (h : ¬ s.R ≠ t.R) (h2 : ¬ s.E ≠ t.E) : decide (s.J < t.J) = decide (cmpL (plcL s) (plcL t) < 0) := by
 unfold plcL; rw [cmpL, if_pos (sgn_0.2 (Decidable.not_not.1 h)), cmpL, if_pos (sgn_0.2 (Decidable.not_not.1 h2)), cmpL]
 by_cases h3 : sgn s.J t.J = 0
 ·rw [if_pos h3]; have := sgn_0.1 h3; rw [decide_eq_false (by omega)]; rfl
 ·rw [if_neg h3]; exact decide_eq_decide.2 sgn_neg.symm
theorem plc_same {s t : Card} : plcL s = plcL t ↔ ¬ cmpL (plcL s) (plcL t) < 0 ∧ ¬ cmpL (plcL t) (plcL s) < 0 := by
 rw [← cmp_0 (a := plcL s) (b := plcL t)]
 have := cmp_anti (plcL s) (plcL t)
 omega
theorem place_2 {s t : Card} (h : ¬ cmpL (plcL s) (plcL t) < 0) : decide (¬ cmpL (plcL t) (plcL s) < 0) = decide (plcL s = plcL t) := decide_eq_decide.2 ⟨fun h2 => plc_same.2 ⟨h, h2⟩, fun h2 => (plc_same.1 h2).2⟩
theorem place_1 {s t : Card} (h : ¬ ¬ cmpL (plcL s) (plcL t) < 0) : false = decide (plcL s = plcL t) := (decide_eq_false fun h2 => h (plc_same.1 h2).1).symm
theorem form_int (n : Int) : formedB (intV n) = true := formed1.2 ⟨rfl, rfl⟩
theorem form_ints : ∀ l : List Int, formedL (l.map intV) = true
 | [] => rfl
 | x :: l => by rw [List.map_cons, formedL, form_int, form_ints l]; rfl
theorem dep_ints : ∀ l : List Int, depthL (l.map intV) = 0
 | [] => rfl
 | x :: l => by rw [List.map_cons, depthL, dep_ints l]; rfl
theorem val_formed (s : Card) : formedB (valC s) = true := by
 unfold valC
 refine formed3.2 ⟨⟨rfl, rfl⟩, ?_⟩
 have h1 : formedB (.mk 3 0 [] (s.C.map intV)) = true := formed3.2 ⟨⟨rfl, rfl⟩, form_ints _⟩
 have h2 : formedB (.mk 2 0 s.D []) = true := formed2.2 ⟨rfl, rfl⟩
 simp only [formedL, form_int, h1, h2, Bool.and_self]
theorem val_depth (s : Card) : depthV (valC s) = 2 := by
 have h0 := dep_ints s.C
 have e1 : ∀ n, depthV (intV n) = 0 := fun n => rfl
 unfold valC
 simp only [depthV, depthL, if_true, e1, h0]
 rfl
theorem val_chk (s : Card) : chkV (valC s) = 0 := chk_0 (val_formed s) (by rw [val_depth]; decide)
theorem wsz_ints : ∀ l : List Int, wszL (l.map intV) = 20 * l.length
  | [] => rfl
  | x :: l => by
    rw [List.map_cons, wszL, wsz_ints l, List.length_cons]
    have : wszV (intV x) = 20 := rfl
    omega
theorem val_wsz {s : Card} (h : s.C.length ≤ 64) (hD : s.D.length = 32) : wszV (valC s) ≤ 1000000 := by
 unfold valC
 have e1 : ∀ n, wszV (intV n) = 20 := fun n => rfl
 have e2 := wsz_ints s.C
 simp only [wszV, wszL, e1, e2, List.length_nil, hD]
 omega
theorem okC_rng {s : Card} (h : okC s) : (0 ≤ s.R ∧ s.R ≤ 7) ∧ (0 ≤ s.E ∧ s.E ≤ 4095) ∧ (0 ≤ s.J ∧ s.J ≤ 255) ∧ (1 ≤ s.C.length ∧ s.C.length ≤ 64) ∧ ∀ x ∈ s.C, 0 ≤ x ∧ x ≤ 1073741788 := ⟨h.1.1.1, h.1.1.2, h.1.2, h.2.1, h.2.2⟩
theorem fit_int {n : Int} (h : -9223372036854775808 ≤ n ∧ n ≤ 9223372036854775807) : Fit (intV n) := .mk _ _ _ _ h (by decide) (by decide) (fun x hx => by cases hx)
theorem val_fit {s : Card} (h : okC s) (hD : s.D.length = 32) : Fit (valC s) := by
 obtain ⟨h1, h2, h3, h4, h5⟩ := okC_rng h
 refine .mk _ _ _ _ (by decide) (by decide) (show (5 : Nat) < 2 ^ 63 by decide) fun x hx => ?_
 simp only [List.mem_cons, List.not_mem_nil, or_false] at hx
 rcases hx with rfl | rfl | rfl | rfl | rfl
 ·exact fit_int (by omega)
 ·exact fit_int (by omega)
 ·exact fit_int (by omega)
 ·refine .mk _ _ _ _ (by decide) (by decide) (by rw [List.length_map]; omega) fun x hx => ?_
  obtain ⟨n, hn, rfl⟩ := List.mem_map.1 hx
  have := h5 n hn
  exact fit_int (by omega)
 ·exact .mk _ _ _ _ (by decide) (by omega) (by decide) (fun x hx => by cases hx)
theorem map_intV_inj : ∀ {l m : List Int}, l.map intV = m.map intV → l = m
  | [], [], _ => rfl
  | [], _ :: _, h => by cases h
  | _ :: _, [], h => by cases h
  | x :: l, y :: m, h => by
    simp only [List.map_cons, List.cons.injEq, intV, Val.mk.injEq] at h
    rw [map_intV_inj h.2, h.1.2.1]
/-- different cards have different texts -/
theorem text_inj {s t : Card} (hs : okC s) (ht : okC t) (hD : s.D.length = 32) (hE : t.D.length = 32) (h : textC s = textC t) : s = t := by
 unfold textC at h
 have e1 : eB (valC s) = encV (valC s) := by unfold eB; rw [if_pos (val_chk s)]
 have e2 : eB (valC t) = encV (valC t) := by unfold eB; rw [if_pos (val_chk t)]
 rw [e1, e2] at h
 have h3 := valP_to 16 (valC s) [] (val_formed s) (by rw [val_depth]; decide) (val_fit hs hD)
 have h4 := valP_to 16 (valC t) [] (val_formed t) (by rw [val_depth]; decide) (val_fit ht hE)
 rw [List.append_nil] at h3 h4
 rw [h, h4] at h3
 have h5 : valC t = valC s := by simpa using h3
 obtain ⟨r, e, j, C, D⟩ := s; obtain ⟨r', e', j', C', D'⟩ := t
 simp only [valC, intV, Val.mk.injEq, List.cons.injEq, true_and, and_true] at h5
 obtain ⟨g1, g2, g3, g4, g5⟩ := h5
 subst g1; subst g2; subst g3; subst g5
 rw [map_intV_inj g4]
/-- the order of cards -/
def ordC (s t : Card) : Int := orL [cmpL (plcL s) (plcL t), cmpB (textC s) (textC t)]
/-- texts as they are handed back -/
def TxtU (s : Card) (H : Hp) (v : Value) : Prop := ∃ a c, v = .slice a (textC s).length c ∧ SlR u8R H a c (textC s)
end Go.Proofs
