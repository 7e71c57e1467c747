/- The law GraphOne: it returns true, whatever the input, and what it was handed reads as before. No condition. -/
import Derived.Test.YtbfleiickdobnaaRcE2
import Derived.Test.YtbfleiickdobnaaXLn
import Derived.Test.YtbfleiickdobnaaRcE
import Derived.Test.YtbfleiickdobnaaRows
import Derived.WalkKit
import Derived.ProofKit
import Derived.OpenShut
import Derived.ShutString
import Derived.ChangeOld
import Derived.Below
set_option autoImplicit false
set_option linter.unusedVariables false
set_option linter.unusedSimpArgs false
namespace Go.Proofs.Ytbfleiickdobnaa
open Go.XL



set_option maxRecDepth 100000 in
set_option maxHeartbeats 1600000 in
theorem graphOne_fn (a : Option Addr) (c : Nat) (m : Tb) (H : Hp) (hs : SlR tbR H a c m) (hl : m.length < 9223372036854775808) : FnC Try.prog 5 #[.slice a m.length c] H [] (RetR (fun v _ _ => v = .bool true)) := by
  refine FnC.intro (args := [.slice a m.length c]) Try.func5 rfl rfl Try.ntmps5 rfl rfl rfl fun G rest => ?_
  refine XC.seq ?_
  refine XC.region ?_
  refine XO.assign rfl rfl ?_
  refine XO.nil ?_
  refine XC.seq2 ?_
  refine XC.seq ?_
  refine XC.seq ?_
  refine XC.region ?_
  refine XO.callV rfl (sane37 _) rfl ?_
  refine XO.notB rfl rfl ?_
  refine XO.nil ?_
  refine XC.seq2 ?_
  refine XC.condF rfl (rfl) ?_
  refine XC.skip ?_
  refine XC.seq2 ?_
  refine XC.seq ?_
  refine XC.seq ?_
  refine XC.region ?_
  refine XO.move rfl rfl ?_
  refine XO.callV rfl (small_fn _ _ m _ hs hl) rfl ?_
  refine XO.not rfl rfl ?_
  refine XO.nil ?_
  refine XC.seq2 ?_
  refine XC.cond rfl (fun c1_3 => ?_) (fun c1_3 => ?_)
  · refine XC.seq ?_
    refine XC.region ?_
    refine XO.assign rfl rfl ?_
    refine XO.nil ?_
    refine XC.seq2 ?_
    refine XC.ret ?_
    refine seqX_ret ?_
    refine ⟨rfl, _, [], rfl, (by repeat (first | exact List.Sublist.refl _ | apply List.Sublist.cons)), RetR.mk ?_⟩
    first | rfl | exact congrArg Value.bool (decide_eq_true (by rw [cuA_no (by assumption), cuB_no (by assumption)]; rfl))
  · have hsm : smallG m := Decidable.not_not.1 (by assumption)
    have hck := hsm.2.2.1
    have hok := chk_eq0.1 hck
    have hlm := hsm.1
    have hwm := hsm.2.2.2
    have hwm16 := okG_wide hok
    obtain ⟨f1, f2, f3, f4⟩ := one_facts hsm
    refine XC.skip ?_
    refine XC.seq2 ?_
    refine XC.seq ?_
    refine XC.region ?_
    refine XO.move rfl rfl ?_
    have hcall22 := tree_u _ _ m _ hs (by omega)
    refine XO.callH rfl hcall22 rfl ?_
    rintro _ HT22 hleT22 ⟨a22, c22, h22, rfl⟩
    replace hs := hs.mono hleT22
    refine XO.move rfl rfl ?_
    refine XO.extract rfl rfl rfl ?_
    refine XO.extract rfl rfl rfl ?_
    refine XO.extract rfl rfl rfl ?_
    refine XO.assign rfl rfl ?_
    refine XO.assign rfl rfl ?_
    refine XO.assign rfl rfl ?_
    refine XO.nil ?_
    refine XC.seq2 ?_
    refine XC.seq ?_
    refine XC.region ?_
    refine XO.move rfl rfl ?_
    have hcall28 := cut_u _ _ m _ hs (by omega)
    refine XO.callH rfl hcall28 rfl ?_
    rintro _ HT28 hleT28 ⟨a28, c28, b28, d28, h28, i28, rfl⟩
    replace hs := hs.mono hleT28
    replace h22 := h22.mono hleT28
    refine XO.move rfl rfl ?_
    refine XO.extract rfl rfl rfl ?_
    refine XO.extract rfl rfl rfl ?_
    refine XO.extract rfl rfl rfl ?_
    refine XO.extract rfl rfl rfl ?_
    refine XO.assign rfl rfl ?_
    refine XO.assign rfl rfl ?_
    refine XO.assign rfl rfl ?_
    refine XO.assign rfl rfl ?_
    refine XO.nil ?_
    refine XC.seq2 ?_
    refine XC.seq ?_
    refine XC.region ?_
    have q1 := trL_len (m := m)
    refine XO.move rfl rfl ?_
    refine XO.lenS (ts := #[]) rfl Try.underlying22 rfl ?_
    refine XO.move rfl rfl ?_
    refine XO.callV rfl (judges_fn _ _ m _ hs hl) rfl ?_
    refine XO.add (c := ((m.length + wideM m : Nat) : Int)) rfl rfl ((wrap_i64 (by omega) (by omega)).trans (by omega)) rfl ?_
    refine XO.assign rfl rfl ?_
    refine XO.nil ?_
    refine XC.seq2 ?_
    refine XC.join (base := [(0, _), (6, _), (7, _), (8, _), (10, _)]) (fun ζ : Unit => []) (fun ζ Hl own => rest = own) (prov_cons (rfl) (prov_cons (rfl) (prov_cons (rfl) (prov_cons (rfl) (prov_cons (rfl) prov_nil))))) (fun hleJ8 => ?_) ?_
    · skip
      refine XC.seq ?_
      refine XC.region ?_
      refine XO.move rfl rfl ?_
      refine XO.neq rfl rfl rfl ?_
      refine XO.move rfl rfl ?_
      refine XO.guardT rfl rfl (decide_eq_false (by omega)) rfl ?_
      refine XO.move rfl rfl ?_
      refine XO.guardT rfl rfl (decide_eq_false (by omega)) rfl ?_
      refine XO.neq rfl rfl rfl ?_
      refine XO.pickF rfl (decide_eq_false (by omega)) rfl rfl ?_
      refine XO.move rfl rfl ?_
      refine XO.guardT rfl rfl (decide_eq_false (by omega)) rfl ?_
      refine XO.move rfl rfl ?_
      refine XO.guardT rfl rfl (decide_eq_false (by omega)) rfl ?_
      refine XO.move rfl rfl ?_
      refine XO.guardT rfl rfl (decide_eq_false (by omega)) rfl ?_
      refine XO.eqlB rfl rfl Try.underlying4 rfl ?_
      refine XO.pickF rfl (decide_eq_false (by omega)) rfl rfl ?_
      refine XO.move rfl rfl ?_
      refine XO.guardT rfl rfl (f1) rfl ?_
      refine XO.move rfl rfl ?_
      refine XO.guardT rfl rfl (f1) rfl ?_
      refine XO.move rfl rfl ?_
      refine XO.guardT rfl rfl (f1) rfl ?_
      refine XO.lenS (ts := #[]) rfl Try.underlying25 rfl ?_
      refine XO.guardT rfl rfl (f1) rfl ?_
      refine XO.move rfl rfl ?_
      refine XO.guardT rfl rfl (f1) rfl ?_
      refine XO.sub rfl rfl (wrap_i64 (by omega) (by omega)) rfl ?_
      refine XO.guardT rfl rfl (f1) rfl ?_
      refine XO.geq rfl rfl rfl ?_
      refine XO.guardT rfl rfl (f1) rfl ?_
      refine XO.neqB rfl rfl Try.underlying4 rfl ?_
      refine XO.pickF rfl (f1) rfl rfl ?_
      refine XO.move rfl rfl ?_
      refine XO.guardT rfl rfl (f2) rfl ?_
      refine XO.move rfl rfl ?_
      refine XO.guardT rfl rfl (f2) rfl ?_
      refine XO.gtr rfl rfl rfl ?_
      refine XO.guardT rfl rfl (f2) rfl ?_
      refine XO.move rfl rfl ?_
      refine XO.guardC rfl rfl rfl rfl (fun g9 => ?_) (fun g9 => ?_)
      · have g9p := of_decide_eq_true g9
        refine XO.move rfl rfl ?_
        refine XO.guardT rfl rfl (g9) rfl ?_
        refine XO.lenS (ts := #[]) rfl Try.underlying25 rfl ?_
        refine XO.guardT rfl rfl (g9) rfl ?_
        refine XO.move rfl rfl ?_
        refine XO.guardT rfl rfl (g9) rfl ?_
        refine XO.sub rfl rfl (wrap_i64 (by omega) (by omega)) rfl ?_
        refine XO.guardT rfl rfl (g9) rfl ?_
        refine XO.gtr rfl rfl rfl ?_
        refine XO.guardT rfl rfl (f2) rfl ?_
        refine XO.pickT rfl (g9) rfl rfl ?_
        refine XO.pickF rfl (f2) rfl rfl ?_
        refine XO.move rfl rfl ?_
        refine XO.guardT rfl rfl (decide_eq_false (by omega)) rfl ?_
        refine XO.move rfl rfl ?_
        refine XO.guardT rfl rfl (decide_eq_false (by omega)) rfl ?_
        refine XO.eql rfl rfl rfl ?_
        refine XO.guardT rfl rfl (decide_eq_false (by omega)) rfl ?_
        refine XO.move rfl rfl ?_
        refine XO.guardC rfl rfl rfl rfl (fun g10 => ?_) (fun g10 => ?_)
        · have g10p := of_decide_eq_true g10
          refine XO.move rfl rfl ?_
          refine XO.guardT rfl rfl (g10) rfl ?_
          refine XO.lenS (ts := #[]) rfl Try.underlying25 rfl ?_
          refine XO.guardT rfl rfl (g10) rfl ?_
          refine XO.gtr rfl rfl rfl ?_
          refine XO.guardT rfl rfl (decide_eq_false (by omega)) rfl ?_
          refine XO.pickT rfl (g10) rfl rfl ?_
          refine XO.pickF rfl (decide_eq_false (by omega)) rfl rfl ?_
          refine XO.nil ?_
          refine XC.seq2 ?_
          refine XC.condF rfl (decide_eq_false (by omega)) ?_
          refine XC.skip ?_
          refine join_next () (prov_cons (rfl) (prov_cons (rfl) (prov_cons (rfl) (prov_cons (rfl) (prov_cons (rfl) prov_nil))))) (rfl) (by repeat (first | exact List.Sublist.refl _ | apply List.Sublist.cons_cons | apply List.Sublist.cons)) hleJ8
        · have g10p := of_decide_eq_false g10
          refine XO.guardF rfl rfl (g10) rfl rfl ?_
          refine XO.guardF rfl rfl (g10) rfl rfl ?_
          refine XO.guardT rfl rfl (decide_eq_false (by omega)) rfl ?_
          refine XO.pickF rfl (g10) rfl rfl ?_
          refine XO.pickF rfl (decide_eq_false (by omega)) rfl rfl ?_
          refine XO.nil ?_
          refine XC.seq2 ?_
          refine XC.condF rfl (rfl) ?_
          refine XC.skip ?_
          refine join_next () (prov_cons (rfl) (prov_cons (rfl) (prov_cons (rfl) (prov_cons (rfl) (prov_cons (rfl) prov_nil))))) (rfl) (by repeat (first | exact List.Sublist.refl _ | apply List.Sublist.cons_cons | apply List.Sublist.cons)) hleJ8
      · have g9p := of_decide_eq_false g9
        refine XO.guardF rfl rfl (g9) rfl rfl ?_
        refine XO.guardF rfl rfl (g9) rfl rfl ?_
        refine XO.guardF rfl rfl (g9) rfl rfl ?_
        refine XO.guardF rfl rfl (g9) rfl rfl ?_
        refine XO.guardT rfl rfl (f2) rfl ?_
        refine XO.pickF rfl (g9) rfl rfl ?_
        refine XO.pickF rfl (f2) rfl rfl ?_
        refine XO.move rfl rfl ?_
        refine XO.guardT rfl rfl (rfl) rfl ?_
        refine XO.move rfl rfl ?_
        refine XO.guardT rfl rfl (rfl) rfl ?_
        refine XO.eql rfl rfl rfl ?_
        refine XO.guardT rfl rfl (rfl) rfl ?_
        refine XO.move rfl rfl ?_
        refine XO.guardC rfl rfl rfl rfl (fun g11 => ?_) (fun g11 => ?_)
        · have g11p := of_decide_eq_true g11
          refine XO.move rfl rfl ?_
          refine XO.guardT rfl rfl (g11) rfl ?_
          refine XO.lenS (ts := #[]) rfl Try.underlying25 rfl ?_
          refine XO.guardT rfl rfl (g11) rfl ?_
          refine XO.gtr rfl rfl rfl ?_
          refine XO.guardT rfl rfl (rfl) rfl ?_
          refine XO.pickT rfl (g11) rfl rfl ?_
          refine XO.pickF rfl (rfl) rfl rfl ?_
          refine XO.nil ?_
          refine XC.seq2 ?_
          refine XC.condF rfl (decide_eq_false (by omega)) ?_
          refine XC.skip ?_
          refine join_next () (prov_cons (rfl) (prov_cons (rfl) (prov_cons (rfl) (prov_cons (rfl) (prov_cons (rfl) prov_nil))))) (rfl) (by repeat (first | exact List.Sublist.refl _ | apply List.Sublist.cons_cons | apply List.Sublist.cons)) hleJ8
        · have g11p := of_decide_eq_false g11
          refine XO.guardF rfl rfl (g11) rfl rfl ?_
          refine XO.guardF rfl rfl (g11) rfl rfl ?_
          refine XO.guardT rfl rfl (rfl) rfl ?_
          refine XO.pickF rfl (g11) rfl rfl ?_
          refine XO.pickF rfl (rfl) rfl rfl ?_
          refine XO.nil ?_
          refine XC.seq2 ?_
          refine XC.condF rfl (rfl) ?_
          refine XC.skip ?_
          refine join_next () (prov_cons (rfl) (prov_cons (rfl) (prov_cons (rfl) (prov_cons (rfl) (prov_cons (rfl) prov_nil))))) (rfl) (by repeat (first | exact List.Sublist.refl _ | apply List.Sublist.cons_cons | apply List.Sublist.cons)) hleJ8
    · rintro _ Hl _ hleK8 ⟨rfl⟩
      replace hs := hs.mono hleK8
      replace h22 := h22.mono hleK8
      replace h28 := h28.mono hleK8
      replace i28 := i28.mono hleK8
      refine XC.seq ?_
      refine XC.seq ?_
      refine XC.region ?_
      refine XO.move rfl rfl ?_
      refine XO.not rfl rfl ?_
      refine XO.nil ?_
      refine XC.seq2 ?_
      refine XC.cond rfl (fun c3_12 => ?_) (fun c3_12 => ?_)
      · have q2 := cuA_len (m := m)
        have q3 := cuB_len (m := m)
        refine XC.seq ?_
        refine XC.region ?_
        refine XO.move rfl rfl ?_
        refine XO.lenS (ts := #[]) rfl Try.underlying29 rfl ?_
        refine XO.move rfl rfl ?_
        refine XO.lenS (ts := #[]) rfl Try.underlying29 rfl ?_
        refine XO.add rfl rfl (wrap_i64 (by omega) (by omega)) rfl ?_
        refine XO.eql rfl rfl rfl ?_
        refine XO.assign rfl rfl ?_
        refine XO.nil ?_
        refine XC.seq2 ?_
        refine XC.ret ?_
        refine seqX_ret ?_
        refine ⟨rfl, _, [], rfl, (by repeat (first | exact List.Sublist.refl _ | apply List.Sublist.cons)), RetR.mk ?_⟩
        first | rfl | exact congrArg Value.bool (decide_eq_true (by rw [cuA_no (by assumption), cuB_no (by assumption)]; rfl))
      · have hcu : cuP m := Decidable.not_not.1 (by assumption)
        obtain ⟨e1, e2, e3, e4, e5⟩ := cut_facts hsm hcu
        have q2 := cuA_len (m := m)
        have q3 := cuB_len (m := m)
        refine XC.skip ?_
        refine XC.seq2 ?_
        refine XC.seq ?_
        refine XC.seq ?_
        refine XC.region ?_
        refine XO.move rfl rfl ?_
        refine XO.move rfl rfl ?_
        refine XO.lenS (ts := #[]) rfl Try.underlying22 rfl ?_
        refine XO.callV rfl (rising_fn _ _ (cuA m) m.length _ h28 (by omega) e1) rfl ?_
        refine XO.notB rfl rfl ?_
        refine XO.move rfl rfl ?_
        refine XO.guardT rfl rfl (rfl) rfl ?_
        refine XO.move rfl rfl ?_
        refine XO.guardT rfl rfl (rfl) rfl ?_
        refine XO.move rfl rfl ?_
        refine XO.guardT rfl rfl (rfl) rfl ?_
        refine XO.callV rfl (judges_fn _ _ m _ hs hl) rfl ?_
        refine XO.guardT rfl rfl (rfl) rfl ?_
        refine XO.callV rfl (rising_fn _ _ (cuB m) (wideM m) _ i28 (by omega) e2) rfl ?_
        refine XO.guardT rfl rfl (rfl) rfl ?_
        refine XO.notB rfl rfl ?_
        refine XO.pickF rfl (rfl) rfl rfl ?_
        refine XO.move rfl rfl ?_
        refine XO.guardT rfl rfl (rfl) rfl ?_
        refine XO.move rfl rfl ?_
        refine XO.guardT rfl rfl (rfl) rfl ?_
        refine XO.lenS (ts := #[]) rfl Try.underlying29 rfl ?_
        refine XO.guardT rfl rfl (rfl) rfl ?_
        refine XO.move rfl rfl ?_
        refine XO.guardT rfl rfl (rfl) rfl ?_
        refine XO.lenS (ts := #[]) rfl Try.underlying29 rfl ?_
        refine XO.guardT rfl rfl (rfl) rfl ?_
        refine XO.add rfl rfl (wrap_i64 (by omega) (by omega)) rfl ?_
        refine XO.guardT rfl rfl (rfl) rfl ?_
        refine XO.move rfl rfl ?_
        refine XO.guardT rfl rfl (rfl) rfl ?_
        refine XO.geq rfl rfl rfl ?_
        refine XO.pickF rfl (rfl) rfl rfl ?_
        refine XO.move rfl rfl ?_
        refine XO.guardT rfl rfl (decide_eq_false (by omega)) rfl ?_
        refine XO.move rfl rfl ?_
        refine XO.guardT rfl rfl (decide_eq_false (by omega)) rfl ?_
        refine XO.callV rfl (has_fn _ _ (cuA m) _ h28 (by omega) 0) rfl ?_
        refine XO.guardT rfl rfl (decide_eq_false (by omega)) rfl ?_
        refine XO.not rfl rfl ?_
        refine XO.pickF rfl (decide_eq_false (by omega)) rfl rfl ?_
        refine XO.nil ?_
        refine XC.seq2 ?_
        refine XC.condF rfl (decide_eq_false (fun h => h e4)) ?_
        refine XC.skip ?_
        refine XC.seq2 ?_
        refine XC.seq ?_
        refine XC.seq ?_
        refine XC.region ?_
        refine XO.move rfl rfl ?_
        refine XO.lenS (ts := #[]) rfl Try.underlying22 rfl ?_
        refine XO.move rfl rfl ?_
        refine XO.nil ?_
        refine XC.seq2 ?_
        refine XC.block ?_
        refine XC.keep [114, 6, 7, 112, 113] rfl ?_
        refine XC.loop (base := [(6, _), (7, _), (112, _), (113, _)]) (fun ζ : Nat => [(114, .int .i64 (ζ : Nat))]) (fun ζ Hl own => ζ ≤ m.length ∧ rest = own) (fun ζ => m.length - ζ) 0 (prov_cons (rfl) (prov_cons (rfl) (prov_cons (rfl) (prov_cons (rfl) (prov_cons (rfl) prov_nil))))) (by repeat (first | exact List.Sublist.refl _ | apply List.Sublist.cons_cons | apply List.Sublist.cons)) ⟨Nat.zero_le _, rfl⟩ ?_
        rintro i Hl0 _ hle0 ⟨hki, rfl⟩
        replace hs := hs.mono hle0
        replace h22 := h22.mono hle0
        replace h28 := h28.mono hle0
        replace i28 := i28.mono hle0
        try dsimp only at ⊢
        refine XC.seq ?_
        refine XC.region ?_
        refine XO.lss rfl rfl rfl ?_
        refine XO.nil ?_
        refine XC.seq2 ?_
        refine XC.seq ?_
        refine XC.cond rfl (fun c5_17 => ?_) (fun c5_17 => ?_)
        · refine XC.skip ?_
          refine XC.seq2 ?_
          refine XC.seq ?_
          refine XC.block ?_
          refine XC.seq ?_
          refine XC.region ?_
          refine XO.move rfl rfl ?_
          refine XO.indexN rfl hs rfl Try.underlying22 ty_40 (by omega) rfl ?_
          rintro eb117 eo117 _ x117 hx117 ⟨ax117, cx117, rfl, hd117⟩ hp117
          refine XO.loadH rfl (by assumption) ty_40 rfl rfl rfl ?_
          refine XO.assign rfl rfl ?_
          refine XO.assign rfl rfl ?_
          refine XO.nil ?_
          refine XC.seq2 ?_
          refine XC.seq ?_
          refine XC.region ?_
          have hwx := (hok.2 _ (List.mem_of_getElem? hx117)).2
          refine XO.move rfl rfl ?_
          refine XO.lenS (ts := #[]) rfl Try.underlying40 rfl ?_
          refine XO.move rfl rfl ?_
          refine XO.nil ?_
          refine XC.seq2 ?_
          refine XC.block ?_
          refine XC.keep [121, 6, 7, 11, 112, 113, 114, 119, 120] rfl ?_
          refine XC.loop (base := [(6, _), (7, _), (11, _), (112, _), (113, _), (114, _), (119, _), (120, _)]) (fun ζ : Nat => [(121, .int .i64 (ζ : Nat))]) (fun ζ Hl own => ζ ≤ x117.length ∧ rest = own) (fun ζ => x117.length - ζ) 0 (prov_cons (rfl) (prov_cons (rfl) (prov_cons (rfl) (prov_cons (rfl) (prov_cons (rfl) (prov_cons (rfl) (prov_cons (rfl) (prov_cons (rfl) (prov_cons (rfl) prov_nil))))))))) (by repeat (first | exact List.Sublist.refl _ | apply List.Sublist.cons_cons | apply List.Sublist.cons)) ⟨Nat.zero_le _, rfl⟩ ?_
          rintro j Hl1 _ hle1 ⟨hkj, rfl⟩
          replace hs := hs.mono hle1
          replace h22 := h22.mono hle1
          replace h28 := h28.mono hle1
          replace i28 := i28.mono hle1
          replace hp117 := hp117.mono hle1
          replace hd117 := hd117.mono hle1
          replace hle0 := hle0.trans hle1
          try dsimp only at ⊢
          refine XC.seq ?_
          refine XC.region ?_
          refine XO.lss rfl rfl rfl ?_
          refine XO.nil ?_
          refine XC.seq2 ?_
          refine XC.seq ?_
          refine XC.cond rfl (fun c6_19 => ?_) (fun c6_19 => ?_)
          · refine XC.skip ?_
            refine XC.seq2 ?_
            refine XC.seq ?_
            refine XC.block ?_
            refine XC.seq ?_
            refine XC.region ?_
            refine XO.move rfl rfl ?_
            refine XO.indexN rfl (by assumption) rfl Try.underlying40 ty_4 (by omega) rfl ?_
            rintro eb124 eo124 _ x124 hx124 rfl hp124
            refine XO.loadH rfl (by assumption) ty_4 rfl rfl rfl ?_
            refine XO.assign rfl rfl ?_
            refine XO.assign rfl rfl ?_
            refine XO.nil ?_
            refine XC.seq2 ?_
            refine XC.seq ?_
            refine XC.region ?_
            refine XO.move rfl rfl ?_
            refine XO.move rfl rfl ?_
            refine XO.guardC rfl rfl rfl rfl (fun g21 => ?_) (fun g21 => ?_)
            · have g21p := g21
              refine XO.move rfl rfl ?_
              refine XO.guardT rfl rfl (g21) rfl ?_
              refine XO.move rfl rfl ?_
              refine XO.guardT rfl rfl (g21) rfl ?_
              refine XO.callV rfl (has_fn _ _ (cuA m) _ h28 (by omega) ((i : Nat) : Int)) rfl ?_
              refine XO.guardT rfl rfl (g21) rfl ?_
              refine XO.move rfl rfl ?_
              refine XO.guardT rfl rfl (g21) rfl ?_
              refine XO.move rfl rfl ?_
              refine XO.guardT rfl rfl (g21) rfl ?_
              refine XO.callV rfl (has_fn _ _ (cuB m) _ i28 (by omega) ((j : Nat) : Int)) rfl ?_
              refine XO.guardT rfl rfl (g21) rfl ?_
              refine XO.neqB rfl rfl Try.underlying4 rfl ?_
              refine XO.pickT rfl (g21) rfl rfl ?_
              refine XO.nil ?_
              refine XC.seq2 ?_
              refine XC.condF rfl (by have h5 := e5 _ _ _ _ hx117 hx124 (by assumption); simp [h5]) ?_
              refine XC.skip ?_
              refine blockN ?_
              refine XC.seq2 ?_
              refine XC.region ?_
              refine XO.add rfl rfl (wrap_i64 (by omega) (by omega)) rfl ?_
              refine XO.move rfl rfl ?_
              refine XO.nil ?_
              refine loop_next (j + 1) (by show x117.length - (j + 1) < x117.length - j; omega) (prov_cons (rfl) (prov_cons (rfl) (prov_cons (rfl) (prov_cons (rfl) (prov_cons (rfl) (prov_cons (rfl) (prov_cons (rfl) (prov_cons (rfl) (prov_cons (rfl) prov_nil))))))))) (⟨by show j + 1 ≤ x117.length; omega, rfl⟩) (by repeat (first | exact List.Sublist.refl _ | apply List.Sublist.cons_cons | apply List.Sublist.cons)) (hle1)
            · have g21p := g21
              refine XO.guardF rfl rfl (g21) rfl rfl ?_
              refine XO.guardF rfl rfl (g21) rfl rfl ?_
              refine XO.guardF rfl rfl (g21) rfl rfl ?_
              refine XO.guardF rfl rfl (g21) rfl rfl ?_
              refine XO.guardF rfl rfl (g21) rfl rfl ?_
              refine XO.guardF rfl rfl (g21) rfl rfl ?_
              refine XO.pickF rfl (g21) rfl rfl ?_
              refine XO.nil ?_
              refine XC.seq2 ?_
              refine XC.condF rfl (rfl) ?_
              refine XC.skip ?_
              refine blockN ?_
              refine XC.seq2 ?_
              refine XC.region ?_
              refine XO.add rfl rfl (wrap_i64 (by omega) (by omega)) rfl ?_
              refine XO.move rfl rfl ?_
              refine XO.nil ?_
              refine loop_next (j + 1) (by show x117.length - (j + 1) < x117.length - j; omega) (prov_cons (rfl) (prov_cons (rfl) (prov_cons (rfl) (prov_cons (rfl) (prov_cons (rfl) (prov_cons (rfl) (prov_cons (rfl) (prov_cons (rfl) (prov_cons (rfl) prov_nil))))))))) (⟨by show j + 1 ≤ x117.length; omega, rfl⟩) (by repeat (first | exact List.Sublist.refl _ | apply List.Sublist.cons_cons | apply List.Sublist.cons)) (hle1)
          · refine XC.exit ?_
            refine seqX_exit ?_
            refine loopX_exit ?_
            refine blockHit rfl ?_
            refine blockN ?_
            refine XC.seq2 ?_
            refine XC.region ?_
            refine XO.add rfl rfl (wrap_i64 (by omega) (by omega)) rfl ?_
            refine XO.move rfl rfl ?_
            refine XO.nil ?_
            refine loop_next (i + 1) (by show m.length - (i + 1) < m.length - i; omega) (prov_cons (rfl) (prov_cons (rfl) (prov_cons (rfl) (prov_cons (rfl) (prov_cons (rfl) prov_nil))))) (⟨by show i + 1 ≤ m.length; omega, rfl⟩) (by repeat (first | exact List.Sublist.refl _ | apply List.Sublist.cons_cons | apply List.Sublist.cons)) (hle0)
        · refine XC.exit ?_
          refine seqX_exit ?_
          refine loopX_exit ?_
          refine blockHit rfl ?_
          refine XC.seq2 ?_
          refine XC.seq ?_
          refine XC.region ?_
          refine XO.assign rfl rfl ?_
          refine XO.nil ?_
          refine XC.seq2 ?_
          refine XC.ret ?_
          refine ⟨rfl, _, [], rfl, (by repeat (first | exact List.Sublist.refl _ | apply List.Sublist.cons)), RetR.mk ?_⟩
          first | rfl | exact congrArg Value.bool (decide_eq_true (by rw [cuA_no (by assumption), cuB_no (by assumption)]; rfl))

namespace graphOne
open Go.ChangeShapes Go.WideShapes Go.ChangeAt Go.RowKit
open Go.ChangeMaps (open_string shut_string)
theorem own : ownKnob Try.prog.godebug = none := by kernel_rfl
theorem laidOut : laidOutB Try.prog = true := by kernel_rfl
set_option maxRecDepth 100000 in
theorem lifted (os : Os) (started : os.Started) (H : Type) (enc : TypeId × Value → H) :
    ReturnsInHanded {} Try.checked os 5 .any (Rows.graphOneSpec.pre6 enc Try.prog Try.f5 Rows.graphOneRow.domain false) (Rows.graphOneSpec.post enc Try.prog Try.f5 false true false false) := by
  refine returnsInHanded_of_change (C := Try.checked) own started (by kernel_rfl) Try.func5
    (ChangeSpec.witness6 (enc := enc) (C := Try.checked) false ⟨#[], #[.slice none 0 0], []⟩ 8 (by kernel_rfl) (by kernel_rfl) (by kernel_rfl) (by kernel_rfl)) ?_
  intro W base args ds gs before hval0 hW hcnd _
  have hval : ∀ (j : Nat) t v, Try.f5.params[j]? = some t → args[j]? = some v → Value.okWide Try.prog W .any base t v := hval0
  have hW' := hW
  obtain ⟨p, q, hA0, hV, rfl, hfz, hnd⟩ := hW
  have hA : DataW.TrodAll enc Try.prog W 0 (fun _ => true) true Try.f5.params.toList args.toList ds p := hA0
  rw [Try.params5] at hA hval
  obtain ⟨v0, vs0, d0, ds0, p0, q0, hargs, rfl, rfl, h0, r0⟩ := trodAll_cons hA
  obtain ⟨rfl, rfl, rfl⟩ := trodAll_nil r0
  obtain rfl : args = #[v0] := by cases args; simp_all
  obtain ⟨rfl, rfl⟩ := trodVars_none hV
  obtain ⟨a0, len0, cap0, rfl⟩ := okWide_slice Try.underlying22 (hval 0 22 v0 rfl rfl)
  have k0 := h0
  have lt0 : ∀ x ∈ p0, x.block < W.heap.size := by obtain ⟨m, hm⟩ := k0; exact DataW.trod_lt m _ _ _ hm
  obtain ⟨fuel0, hf0⟩ := h0
  obtain ⟨l0, ⟨aa0, cc0, hcs0, hs0⟩, hw0⟩ := opens_tb enc W 0 _ _ fuel0 _ _ hf0
  simp [Value.cells] at hcs0
  obtain ⟨rfl, rfl, rfl⟩ := hcs0
  clear hA0 hval0
  refine (graphOne_fn _ _ l0 (hpOf W) hs0 (by have := hw0.1; unfold maxLen at this; omega)).below.mono fun e W' ⟨he, bel⟩ => ?_
  subst he
  exact ⟨_, rfl, _, _, _, [], _, [], hW', trodAll_mk1 (shut_bool Try.underlying4 _), (trodAll_cons_mk (Below.trod laidOut (by kernel_rfl) (of_decide_eq_true (by kernel_rfl)) k0 bel lt0) trodAll_mk0), rfl, bel.frame _, fun h => by cases h⟩
theorem over : Rows.graphOneRow.holds Try.pinned (OpenSpec.ofChange Rows.graphOneSpec) :=
  OpenClaim.holds_of_wide 5 Try.f5 rfl rfl rfl rfl rfl rfl rfl ⟨rfl, rfl, rfl, rfl, rfl⟩ rfl rfl rfl rfl rfl (by kernel_rfl) Try.func5 (by kernel_rfl)
    (of_decide_eq_true (by kernel_rfl)) (by unfold Func.isWrapper; first | (rw [if_pos (by decide +kernel)]; kernel_rfl) | (rw [if_neg (by decide +kernel)]; exact ⟨rfl, rfl⟩))
    (fun os started H enc _ => lifted os started H enc)
/-- The given statement. -/
theorem proved : Rows.GraphOneSaid := over
#print axioms proved
end graphOne
end Go.Proofs.Ytbfleiickdobnaa
