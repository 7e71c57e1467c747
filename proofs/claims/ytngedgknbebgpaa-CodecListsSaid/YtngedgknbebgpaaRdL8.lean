/- The law CodecLists: it returns true, whatever the input, and what it was handed reads as before. No condition. -/
import Derived.Test.YtngedgknbebgpaaB7
import Derived.Test.YtngedgknbebgpaaB2
import Derived.Test.YtngedgknbebgpaaRows
import Derived.WalkKit
import Derived.ProofKit
import Derived.OpenShut
import Derived.ShutString
import Derived.ChangeOld
import Derived.Below
set_option autoImplicit false
set_option linter.unusedVariables false
set_option linter.unusedSimpArgs false
namespace Go.Proofs.Ytngedgknbebgpaa
open Go.XL



set_option maxRecDepth 100000 in
set_option maxHeartbeats 1600000 in
theorem codecLists_fn (a : Option Addr) (c : Nat) (l : List Val) (H : Hp) (hs : SlR valR H a c l) (hf : ∀ x ∈ l, Fit x) (hl : l.length < 9223372036854775808) : FnC Try.prog 8 #[.slice a l.length c] H [] (RetR (fun v _ _ => v = .bool true)) := by
  refine FnC.intro (args := [.slice a l.length c]) Try.func8 rfl rfl Try.ntmps8 rfl rfl rfl fun G rest => ?_
  refine XC.seq ?_
  refine XC.region ?_
  refine XO.assign rfl rfl ?_
  refine XO.nil ?_
  refine XC.seq2 ?_
  refine XC.seq ?_
  refine XC.seq ?_
  refine XC.region ?_
  refine XO.callV rfl (sane01 _) rfl ?_
  refine XO.notB rfl rfl ?_
  refine XO.nil ?_
  refine XC.seq2 ?_
  refine XC.condF rfl (rfl) ?_
  refine XC.skip ?_
  refine XC.seq2 ?_
  refine XC.seq ?_
  refine XC.seq ?_
  refine XC.region ?_
  refine XO.move rfl rfl ?_
  have hcall := few_fn _ _ l _ hs hf hl
  refine XO.callK rfl hcall rfl ?_
  rintro _ ⟨bf, rfl, hfew⟩
  refine XO.notB rfl rfl ?_
  refine XO.move rfl rfl ?_
  refine XO.guardC rfl rfl rfl rfl (fun g3 => ?_) (fun g3 => ?_)
  · have g3p := g3
    obtain rfl : bf = true := by simpa using g3
    replace hfew := hfew rfl
    refine XO.move rfl rfl ?_
    refine XO.guardT rfl rfl (g3) rfl ?_
    refine XO.lenS (ts := #[]) rfl Try.underlying22 rfl ?_
    refine XO.guardT rfl rfl (g3) rfl ?_
    refine XO.gtr rfl rfl rfl ?_
    refine XO.pickF rfl (g3) rfl rfl ?_
    refine XO.nil ?_
    refine XC.seq2 ?_
    refine XC.cond rfl (fun c1_4 => ?_) (fun c1_4 => ?_)
    · refine XC.seq ?_
      refine XC.region ?_
      refine XO.assign rfl rfl ?_
      refine XO.nil ?_
      refine XC.seq2 ?_
      refine XC.ret ?_
      refine seqX_ret ?_
      refine ⟨rfl, _, [], rfl, (by repeat (first | exact List.Sublist.refl _ | apply List.Sublist.cons)), RetR.mk ?_⟩
      first | rfl | exact congrArg Value.bool (decide_eq_true hbad) | exact congrArg Value.bool (decide_eq_true (by omega)) | exact congrArg Value.bool (decide_eq_true (eB_list_drop hok0 rfl))
    · have hlen : l.length ≤ 20 := by omega
      have hwl := w_list hfew hlen
      have hfl := fit_list hf hl
      have hwL : wszL l ≤ 1000000 := by rw [wszV] at hwl; omega
      refine XC.skip ?_
      refine XC.seq2 ?_
      refine XC.seq ?_
      refine XC.region ?_
      refine XO.assign rfl rfl ?_
      refine XO.nil ?_
      refine XC.seq2 ?_
      refine XC.seq ?_
      refine XC.region ?_
      refine XO.assign rfl rfl ?_
      refine XO.nil ?_
      refine XC.seq2 ?_
      refine XC.seq ?_
      refine XC.region ?_
      refine XO.assign rfl rfl ?_
      refine XO.nil ?_
      refine XC.seq2 ?_
      refine XC.seq ?_
      refine XC.seq ?_
      refine XC.region ?_
      refine XO.move rfl rfl ?_
      refine XO.lenS (ts := #[]) rfl Try.underlying22 rfl ?_
      refine XO.move rfl rfl ?_
      refine XO.nil ?_
      refine XC.seq2 ?_
      refine XC.block ?_
      refine XC.keep [3, 4, 5, 31, 0, 29, 30] rfl ?_
      refine XC.open0 0 ?_
      refine XC.open0 0 ?_
      refine XC.loop (base := [(0, _), (29, _), (30, _)]) (fun ζ : Nat × ((Nat × SObj) × Option Addr × Nat) × ((Nat × SObj) × Option Addr × Nat) => [(3, .slice ζ.2.1.2.1 (encL (l.take ζ.1)).length ζ.2.1.2.2), (4, .slice ζ.2.2.2.1 (zerosV (ζ.1)).length ζ.2.2.2.2), (5, .int .i64 ((encL (l.take ζ.1)).length : Nat)), (31, .int .i64 (ζ.1 : Nat))]) (fun ζ Hl own => ζ.1 ≤ l.length ∧ ζ.2.2.1 :: ζ.2.1.1 :: rest = own ∧ Acc u8R 5 Hl ζ.2.1.1 ζ.2.1.2.1 ζ.2.1.2.2 (encL (l.take ζ.1)) ∧ Acc valR 24 Hl ζ.2.2.1 ζ.2.2.2.1 ζ.2.2.2.2 (zerosV (ζ.1)) ∧ (∀ x ∈ l.take (ζ.1), chkV x = 0)) (fun ζ => l.length - ζ.1) (0, ((0, .nothing), none, 0), ((0, .nothing), none, 0)) (prov_cons (rfl) (prov_cons (rfl) (prov_cons (rfl) (prov_cons (rfl) (prov_cons (rfl) (prov_cons (rfl) (prov_cons (rfl) prov_nil))))))) (by repeat (first | exact List.Sublist.refl _ | apply List.Sublist.cons_cons | apply List.Sublist.cons)) ⟨Nat.zero_le _, rfl, Acc.nil _ _ _ _, Acc.nil _ _ _ _, by simp⟩ ?_
      rintro ⟨i, ⟨pw, aw, cw⟩, ⟨pz, az, cz⟩⟩ Hl0 _ hle0 ⟨hki, rfl, haccw, haccz, hall⟩
      replace hs := hs.mono hle0
      try dsimp only at hki haccw haccz hall ⊢
      refine XC.seq ?_
      refine XC.region ?_
      refine XO.lss rfl rfl rfl ?_
      refine XO.nil ?_
      refine XC.seq2 ?_
      refine XC.seq ?_
      refine XC.cond rfl (fun c2_5 => ?_) (fun c2_5 => ?_)
      · refine XC.skip ?_
        refine XC.seq2 ?_
        refine XC.seq ?_
        refine XC.block ?_
        refine XC.seq ?_
        refine XC.region ?_
        refine XO.indexN rfl hs rfl Try.underlying22 ty_24 (by omega) rfl ?_
        rintro eb33 eo33 _ x33 hx33 hR33 hp33
        obtain ⟨k33, n33, s33, l33⟩ := x33
        obtain ⟨a33, c33, rfl, hd33⟩ := valR_iff.1 hR33
        refine XO.loadH rfl (by assumption) ty_24 rfl rfl rfl ?_
        refine XO.alloc ze_24 rfl (fun b7 => ?_)
        refine XO.storeO 0 rfl rfl rfl rfl ty_24 rfl rfl rfl rfl rfl ?_
        refine XO.nil ?_
        refine XC.seq2 ?_
        refine XC.seq ?_
        refine XC.region ?_
        have hmx := List.mem_of_getElem? hx33
        have hwx : wszV (.mk k33 n33 s33 l33) ≤ 1000000 := by have := hfew _ hmx; omega
        have hfx := hf _ hmx
        have hel : (encL (l.take i)).length ≤ 1000000 := by
          have h1 := encL_wsz (l := l.take i) (fun x hx => hf x (List.mem_of_mem_take hx))
          have h2 := wsz_take (l := l) i
          omega
        have heb := eB_len hfx hwx
        have hzl := len_zeros i
        refine XO.loadO 0 rfl rfl ty_24 rfl rfl rfl ?_
        refine XO.callH rfl (enc_fn k33 n33 s33 l33 a33 c33 _ hwx hfx hd33) rfl ?_
        rintro _ HN37 hleN37 ⟨aN37, cN37, hN37, rfl⟩
        replace hs := hs.mono hleN37
        replace haccw := haccw.mono hleN37
        replace haccz := haccz.mono hleN37
        replace hp33 := hp33.mono hleN37
        replace hd33 := hd33.mono hleN37
        replace hle0 := hle0.trans hleN37
        refine XO.move rfl rfl ?_
        refine XO.extract rfl rfl rfl ?_
        refine XO.extract rfl rfl rfl ?_
        refine XO.assign rfl rfl ?_
        refine XO.assign rfl rfl ?_
        refine XO.nil ?_
        refine XC.seq2 ?_
        refine XC.seq ?_
        refine XC.region ?_
        refine XO.loadO 0 rfl rfl ty_24 rfl rfl rfl ?_
        refine XO.callV rfl (size_fn k33 n33 s33 l33 a33 c33 _ hwx hfx hd33) rfl ?_
        refine XO.move rfl rfl ?_
        refine XO.extract rfl rfl rfl ?_
        refine XO.extract rfl rfl rfl ?_
        refine XO.assign rfl rfl ?_
        refine XO.assign rfl rfl ?_
        refine XO.nil ?_
        refine XC.seq2 ?_
        refine XC.seq ?_
        refine XC.seq ?_
        refine XC.region ?_
        refine XO.move rfl rfl ?_
        refine XO.move rfl rfl ?_
        refine XO.neq rfl rfl rfl ?_
        refine XO.move rfl rfl ?_
        refine XO.guardT rfl rfl (decide_eq_false (fun h => h rfl)) rfl ?_
        refine XO.move rfl rfl ?_
        refine XO.guardT rfl rfl (decide_eq_false (fun h => h rfl)) rfl ?_
        refine XO.eql rfl rfl rfl ?_
        refine XO.guardT rfl rfl (decide_eq_false (fun h => h rfl)) rfl ?_
        refine XO.move rfl rfl ?_
        refine XO.guardC rfl rfl rfl rfl (fun g9 => ?_) (fun g9 => ?_)
        · have g9p := of_decide_eq_true g9
          refine XO.move rfl rfl ?_
          refine XO.guardT rfl rfl (g9) rfl ?_
          refine XO.move rfl rfl ?_
          refine XO.guardT rfl rfl (g9) rfl ?_
          refine XO.lenS (ts := #[]) rfl Try.underlying27 rfl ?_
          refine XO.guardT rfl rfl (g9) rfl ?_
          refine XO.neq rfl rfl rfl ?_
          refine XO.guardT rfl rfl (decide_eq_false (fun h => h rfl)) rfl ?_
          refine XO.pickT rfl (g9) rfl rfl ?_
          refine XO.pickF rfl (decide_eq_false (fun h => h rfl)) rfl rfl ?_
          refine XO.nil ?_
          refine XC.seq2 ?_
          refine XC.condF rfl (decide_eq_false (fun h => h rfl)) ?_
          refine XC.skip ?_
          refine XC.seq2 ?_
          refine XC.seq ?_
          refine XC.seq ?_
          refine XC.region ?_
          refine XO.move rfl rfl ?_
          refine XO.neq rfl rfl rfl ?_
          refine XO.nil ?_
          refine XC.seq2 ?_
          refine XC.cond rfl (fun c4_10 => ?_) (fun c4_10 => ?_)
          · have hbad := chk_list_no (List.mem_of_getElem? hx33) c4_10
            refine XC.seq ?_
            refine XC.region ?_
            refine XO.move rfl rfl ?_
            refine XO.callV rfl (list_fn _ _ _ _) rfl ?_
            refine XO.callH rfl (enc_fn 3 0 [] l a c _ hwl hfl hs) rfl ?_
            rintro _ HN63 hleN63 ⟨aN63, cN63, hN63, rfl⟩
            replace hs := hs.mono hleN63
            replace haccw := haccw.mono hleN63
            replace haccz := haccz.mono hleN63
            replace hp33 := hp33.mono hleN63
            replace hd33 := hd33.mono hleN63
            replace hN37 := hN37.mono hleN63
            replace hle0 := hle0.trans hleN63
            refine XO.move rfl rfl ?_
            refine XO.extract rfl rfl rfl ?_
            refine XO.extract rfl rfl rfl ?_
            refine XO.assign rfl rfl ?_
            refine XO.assign rfl rfl ?_
            refine XO.nil ?_
            refine XC.seq2 ?_
            refine XC.seq ?_
            refine XC.region ?_
            refine XO.move rfl rfl ?_
            refine XO.neq rfl rfl rfl ?_
            refine XO.assign rfl rfl ?_
            refine XO.nil ?_
            refine XC.seq2 ?_
            refine XC.ret ?_
            refine seqX_ret ?_
            refine blockR ?_
            refine seqX_ret ?_
            refine loopX_ret ?_
            refine blockR ?_
            refine seqX_ret ?_
            refine ⟨rfl, _, [], rfl, (by repeat (first | exact List.Sublist.refl _ | apply List.Sublist.cons)), RetR.mk ?_⟩
            first | rfl | exact congrArg Value.bool (decide_eq_true hbad) | exact congrArg Value.bool (decide_eq_true (by omega)) | exact congrArg Value.bool (decide_eq_true (eB_list_drop hok0 rfl))
          · have hck33 : chkV (.mk k33 n33 s33 l33) = 0 := by omega
            refine XC.skip ?_
            refine XC.seq2 ?_
            refine XC.seq ?_
            refine XC.region ?_
            refine XO.move rfl rfl ?_
            refine XO.move rfl rfl ?_
            refine XO.appendA 2 rfl rfl haccw rfl rfl hN37 rfl Try.underlying27 ty_5 ze_5 rfl by_5 (by omega) rfl (fun p70 a70 c70 hacc70 => ?_)
            refine XO.assign rfl rfl ?_
            refine XO.nil ?_
            refine XC.seq2 ?_
            refine XC.seq ?_
            refine XC.region ?_
            refine XO.move rfl rfl ?_
            refine XO.callV rfl (int_fn _ _) rfl ?_
            refine XO.buildSlice rfl Try.underlying22 ty_24 ze_24 rfl rfl rfl (fun b73 => ?_)
            refine XO.publish 0 rfl rfl rfl (fun HP73 hoP73 hleP73 hbP73 hsoP73 => ?_)
            replace hs := hs.mono hleP73
            replace haccz := haccz.mono hleP73
            replace hp33 := hp33.mono hleP73
            replace hd33 := hd33.mono hleP73
            replace hN37 := hN37.mono hleP73
            replace hacc70 := hacc70.mono hleP73
            replace hle0 := hle0.trans hleP73
            have hsl73 := SlR.lit (ρ := valR) (l := [.mk 1 0 [] []]) hbP73 hsoP73 (RowsR.one1 (valR_iff.2 ⟨none, 0, rfl, SlR.nil0 _ _⟩))
            refine XO.appendA 1 rfl rfl haccz rfl rfl hsl73 rfl Try.underlying22 ty_24 ze_24 rfl by_24 (by simp only [List.length_cons, List.length_nil]; omega) rfl (fun p74 a74 c74 hacc74 => ?_)
            refine XO.assign rfl rfl ?_
            refine XO.nil ?_
            refine XC.seq2 ?_
            refine XC.region ?_
            refine XO.move rfl rfl ?_
            refine XO.move rfl rfl ?_
            refine XO.add (c := (((encL (l.take i)).length + (eB (.mk k33 n33 s33 l33)).length : Nat) : Int)) rfl rfl ((wrap_i64 (by omega) (by omega)).trans (by omega)) rfl ?_
            refine XO.assign rfl rfl ?_
            refine XO.nil ?_
            refine blockN ?_
            refine XC.seq2 ?_
            refine XC.region ?_
            refine XO.add rfl rfl (wrap_i64 (by omega) (by omega)) rfl ?_
            refine XO.move rfl rfl ?_
            refine XO.nil ?_
            refine loop_next ((i + 1, (p70, a70, c70), (p74, a74, c74))) (by show l.length - (i + 1) < l.length - i; omega) (prov_cons (by first | rfl | (rw [take_snoc hx33, encL_snoc, ← eB_enc hck33]; rfl)) (prov_cons (by first | rfl | (rw [zeros_snoc]; rfl)) (prov_cons (provI rfl (by rw [take_snoc hx33, encL_snoc, List.length_append, ← eB_enc hck33])) (prov_cons (rfl) (prov_cons (rfl) (prov_cons (rfl) (prov_cons (rfl) prov_nil))))))) (⟨by show i + 1 ≤ l.length; omega, rfl, by first | (exact hacc70) | (rw [take_snoc hx33, encL_snoc, ← eB_enc hck33]; exact hacc70), by first | (exact hacc74) | (rw [zeros_snoc]; exact hacc74), all_snocP (p := fun x => chkV x = 0) hall hx33 hck33⟩) (by repeat (first | exact List.Sublist.refl _ | apply List.Sublist.cons_cons | apply List.Sublist.cons)) (hle0)
        · have g9p := of_decide_eq_false g9
          refine XO.guardF rfl rfl (g9) rfl rfl ?_
          refine XO.guardF rfl rfl (g9) rfl rfl ?_
          refine XO.guardF rfl rfl (g9) rfl rfl ?_
          refine XO.guardT rfl rfl (decide_eq_false (fun h => h rfl)) rfl ?_
          refine XO.pickF rfl (g9) rfl rfl ?_
          refine XO.pickF rfl (decide_eq_false (fun h => h rfl)) rfl rfl ?_
          refine XO.nil ?_
          refine XC.seq2 ?_
          refine XC.condF rfl (rfl) ?_
          refine XC.skip ?_
          refine XC.seq2 ?_
          refine XC.seq ?_
          refine XC.seq ?_
          refine XC.region ?_
          refine XO.move rfl rfl ?_
          refine XO.neq rfl rfl rfl ?_
          refine XO.nil ?_
          refine XC.seq2 ?_
          refine XC.cond rfl (fun c4_17 => ?_) (fun c4_17 => ?_)
          · have hbad := chk_list_no (List.mem_of_getElem? hx33) c4_17
            refine XC.seq ?_
            refine XC.region ?_
            refine XO.move rfl rfl ?_
            refine XO.callV rfl (list_fn _ _ _ _) rfl ?_
            refine XO.callH rfl (enc_fn 3 0 [] l a c _ hwl hfl hs) rfl ?_
            rintro _ HN63 hleN63 ⟨aN63, cN63, hN63, rfl⟩
            replace hs := hs.mono hleN63
            replace haccw := haccw.mono hleN63
            replace haccz := haccz.mono hleN63
            replace hp33 := hp33.mono hleN63
            replace hd33 := hd33.mono hleN63
            replace hN37 := hN37.mono hleN63
            replace hle0 := hle0.trans hleN63
            refine XO.move rfl rfl ?_
            refine XO.extract rfl rfl rfl ?_
            refine XO.extract rfl rfl rfl ?_
            refine XO.assign rfl rfl ?_
            refine XO.assign rfl rfl ?_
            refine XO.nil ?_
            refine XC.seq2 ?_
            refine XC.seq ?_
            refine XC.region ?_
            refine XO.move rfl rfl ?_
            refine XO.neq rfl rfl rfl ?_
            refine XO.assign rfl rfl ?_
            refine XO.nil ?_
            refine XC.seq2 ?_
            refine XC.ret ?_
            refine seqX_ret ?_
            refine blockR ?_
            refine seqX_ret ?_
            refine loopX_ret ?_
            refine blockR ?_
            refine seqX_ret ?_
            refine ⟨rfl, _, [], rfl, (by repeat (first | exact List.Sublist.refl _ | apply List.Sublist.cons)), RetR.mk ?_⟩
            first | rfl | exact congrArg Value.bool (decide_eq_true hbad) | exact congrArg Value.bool (decide_eq_true (by omega)) | exact congrArg Value.bool (decide_eq_true (eB_list_drop hok0 rfl))
          · have hck33 : chkV (.mk k33 n33 s33 l33) = 0 := by omega
            refine XC.skip ?_
            refine XC.seq2 ?_
            refine XC.seq ?_
            refine XC.region ?_
            refine XO.move rfl rfl ?_
            refine XO.move rfl rfl ?_
            refine XO.appendA 2 rfl rfl haccw rfl rfl hN37 rfl Try.underlying27 ty_5 ze_5 rfl by_5 (by omega) rfl (fun p70 a70 c70 hacc70 => ?_)
            refine XO.assign rfl rfl ?_
            refine XO.nil ?_
            refine XC.seq2 ?_
            refine XC.seq ?_
            refine XC.region ?_
            refine XO.move rfl rfl ?_
            refine XO.callV rfl (int_fn _ _) rfl ?_
            refine XO.buildSlice rfl Try.underlying22 ty_24 ze_24 rfl rfl rfl (fun b73 => ?_)
            refine XO.publish 0 rfl rfl rfl (fun HP73 hoP73 hleP73 hbP73 hsoP73 => ?_)
            replace hs := hs.mono hleP73
            replace haccz := haccz.mono hleP73
            replace hp33 := hp33.mono hleP73
            replace hd33 := hd33.mono hleP73
            replace hN37 := hN37.mono hleP73
            replace hacc70 := hacc70.mono hleP73
            replace hle0 := hle0.trans hleP73
            have hsl73 := SlR.lit (ρ := valR) (l := [.mk 1 0 [] []]) hbP73 hsoP73 (RowsR.one1 (valR_iff.2 ⟨none, 0, rfl, SlR.nil0 _ _⟩))
            refine XO.appendA 1 rfl rfl haccz rfl rfl hsl73 rfl Try.underlying22 ty_24 ze_24 rfl by_24 (by simp only [List.length_cons, List.length_nil]; omega) rfl (fun p74 a74 c74 hacc74 => ?_)
            refine XO.assign rfl rfl ?_
            refine XO.nil ?_
            refine XC.seq2 ?_
            refine XC.region ?_
            refine XO.move rfl rfl ?_
            refine XO.move rfl rfl ?_
            refine XO.add (c := (((encL (l.take i)).length + (eB (.mk k33 n33 s33 l33)).length : Nat) : Int)) rfl rfl ((wrap_i64 (by omega) (by omega)).trans (by omega)) rfl ?_
            refine XO.assign rfl rfl ?_
            refine XO.nil ?_
            refine blockN ?_
            refine XC.seq2 ?_
            refine XC.region ?_
            refine XO.add rfl rfl (wrap_i64 (by omega) (by omega)) rfl ?_
            refine XO.move rfl rfl ?_
            refine XO.nil ?_
            refine loop_next ((i + 1, (p70, a70, c70), (p74, a74, c74))) (by show l.length - (i + 1) < l.length - i; omega) (prov_cons (by first | rfl | (rw [take_snoc hx33, encL_snoc, ← eB_enc hck33]; rfl)) (prov_cons (by first | rfl | (rw [zeros_snoc]; rfl)) (prov_cons (provI rfl (by rw [take_snoc hx33, encL_snoc, List.length_append, ← eB_enc hck33])) (prov_cons (rfl) (prov_cons (rfl) (prov_cons (rfl) (prov_cons (rfl) prov_nil))))))) (⟨by show i + 1 ≤ l.length; omega, rfl, by first | (exact hacc70) | (rw [take_snoc hx33, encL_snoc, ← eB_enc hck33]; exact hacc70), by first | (exact hacc74) | (rw [zeros_snoc]; exact hacc74), all_snocP (p := fun x => chkV x = 0) hall hx33 hck33⟩) (by repeat (first | exact List.Sublist.refl _ | apply List.Sublist.cons_cons | apply List.Sublist.cons)) (hle0)
      · obtain rfl : i = l.length := by omega
        rw [List.take_length] at haccw hall ⊢
        refine XC.exit ?_
        refine seqX_exit ?_
        refine loopX_exit ?_
        refine blockHit rfl ?_
        refine XC.seq2 ?_
        refine XC.seq ?_
        refine XC.region ?_
        refine XO.move rfl rfl ?_
        refine XO.callV rfl (list_fn _ _ _ _) rfl ?_
        refine XO.callH rfl (enc_fn 3 0 [] l a c _ hwl hfl hs) rfl ?_
        rintro _ HN82 hleN82 ⟨aN82, cN82, hN82, rfl⟩
        replace hs := hs.mono hleN82
        replace haccw := haccw.mono hleN82
        replace haccz := haccz.mono hleN82
        replace hle0 := hle0.trans hleN82
        refine XO.move rfl rfl ?_
        refine XO.extract rfl rfl rfl ?_
        refine XO.extract rfl rfl rfl ?_
        refine XO.assign rfl rfl ?_
        refine XO.assign rfl rfl ?_
        refine XO.nil ?_
        refine XC.seq2 ?_
        refine XC.seq ?_
        refine XC.seq ?_
        refine XC.region ?_
        refine XO.move rfl rfl ?_
        refine XO.neq rfl rfl rfl ?_
        refine XO.nil ?_
        refine XC.seq2 ?_
        refine XC.cond rfl (fun c5_26 => ?_) (fun c5_26 => ?_)
        · have hl2 := chk_list hall
          refine XC.seq ?_
          refine XC.region ?_
          refine XO.move rfl rfl ?_
          refine XO.eql rfl rfl rfl ?_
          refine XO.assign rfl rfl ?_
          refine XO.nil ?_
          refine XC.seq2 ?_
          refine XC.ret ?_
          refine seqX_ret ?_
          refine ⟨rfl, _, [], rfl, (by repeat (first | exact List.Sublist.refl _ | apply List.Sublist.cons)), RetR.mk ?_⟩
          first | rfl | exact congrArg Value.bool (decide_eq_true hbad) | exact congrArg Value.bool (decide_eq_true (by omega)) | exact congrArg Value.bool (decide_eq_true (eB_list_drop hok0 rfl))
        · have hok0 : chkV (.mk 3 0 [] l) = 0 := by omega
          have hcn := hN82.le
          have heqL := eB_list_len hok0
          have hez := eB_zeros l.length
          have hnl := numL_10 (u := l.length) (by omega)
          have hnp := numL_pos l.length
          have hel := encL_wsz hf
          refine XC.skip ?_
          refine XC.seq2 ?_
          refine XC.seq ?_
          refine XC.region ?_
          refine XO.publishA 0 rfl haccz rfl (fun HQ27 hleQ27 hsQ27 => ?_)
          replace hs := hs.mono hleQ27
          replace haccw := haccw.mono hleQ27
          replace hN82 := hN82.mono hleQ27
          replace hle0 := hle0.trans hleQ27
          refine XO.move rfl rfl ?_
          refine XO.callV rfl (list_fn _ _ _ _) rfl ?_
          refine XO.callV rfl (size_fn 3 0 [] (zerosV l.length) _ _ _ (w_zeros hlen) (fit_zeros hlen) (by assumption)) rfl ?_
          refine XO.move rfl rfl ?_
          refine XO.extract rfl rfl rfl ?_
          refine XO.extract rfl rfl rfl ?_
          refine XO.assign rfl rfl ?_
          refine XO.assign rfl rfl ?_
          refine XO.nil ?_
          refine XC.seq2 ?_
          refine XC.seq ?_
          refine XC.region ?_
          refine XO.publishA 0 rfl haccw rfl (fun HQ30 hleQ30 hsQ30 => ?_)
          replace hs := hs.mono hleQ30
          replace hN82 := hN82.mono hleQ30
          replace hsQ27 := hsQ27.mono hleQ30
          replace hle0 := hle0.trans hleQ30
          refine XO.move rfl rfl ?_
          refine XO.lenS (ts := #[]) rfl Try.underlying27 rfl ?_
          refine XO.move rfl rfl ?_
          refine XO.lenS (ts := #[]) rfl Try.underlying27 rfl ?_
          refine XO.sub (c := (((1 + (numL l.length).length) : Nat) : Int)) rfl rfl ((wrap_i64 (by omega) (by omega)).trans (by omega)) rfl ?_
          refine XO.assign rfl rfl ?_
          refine XO.nil ?_
          refine XC.seq2 ?_
          refine XC.seq ?_
          refine XC.keep [0, 3, 5, 14, 16, 17, 18] rfl ?_
          apply XC.drawH (fun _ => True) trivial [] (by decide) (fun _ _ _ _ => True) (fun _ _ _ _ _ _ h => h) 25 [eqF _, eqF _, eqF _, eqF _, eqF _, eqF _, eqF _, eqF _, eqF _, eqF _, eqF _, eqF _, eqF _, eqF _, eqF _, eqF _, eqF _, eqF _, eqF _, eqF _, eqF _, fun v H => ∃ a c, v = .slice a ((eB (.mk 3 0 [] l)).drop (1 + (numL l.length).length)).length c ∧ SlR u8R H a c ((eB (.mk 3 0 [] l)).drop (1 + (numL l.length).length)), eqF _, eqF _, eqF _] follows (by kernel_rfl) ⟨eqF_mono _, eqF_mono _, eqF_mono _, eqF_mono _, eqF_mono _, eqF_mono _, eqF_mono _, eqF_mono _, eqF_mono _, eqF_mono _, eqF_mono _, eqF_mono _, eqF_mono _, eqF_mono _, eqF_mono _, eqF_mono _, eqF_mono _, eqF_mono _, eqF_mono _, eqF_mono _, eqF_mono _, fun _ _ _ hle ⟨a, c, h1, h2⟩ => ⟨a, c, h1, h2.mono hle⟩, eqF_mono _, eqF_mono _, eqF_mono _, trivial⟩ (by decide) ?steps32 ?tail32
          case steps32 =>
            refine stepsH_cons rfl ?_ ?_
            · intro X ext HD hleD _
              replace hs := hs.mono hleD
              replace hN82 := hN82.mono hleD
              replace hsQ27 := hsQ27.mono hleD
              replace hsQ30 := hsQ30.mono hleD
              replace hle0 := hle0.trans hleD
              refine withP_nil rfl ?_
              refine XO.move rfl rfl ?_
              refine XO.nil ?_
              exact stepQN_ok rfl trivial (rfl)
            refine stepsH_cons rfl ?_ ?_
            · intro X ext HD hleD _
              replace hs := hs.mono hleD
              replace hN82 := hN82.mono hleD
              replace hsQ27 := hsQ27.mono hleD
              replace hsQ30 := hsQ30.mono hleD
              replace hle0 := hle0.trans hleD
              refine withP_cons rfl rfl ?_
              rintro _ rfl
              refine withP_nil rfl ?_
              refine XO.eql rfl rfl rfl ?_
              refine XO.nil ?_
              exact stepQN_ok rfl trivial (rfl)
            refine stepsH_cons rfl ?_ ?_
            · intro X ext HD hleD _
              replace hs := hs.mono hleD
              replace hN82 := hN82.mono hleD
              replace hsQ27 := hsQ27.mono hleD
              replace hsQ30 := hsQ30.mono hleD
              replace hle0 := hle0.trans hleD
              refine withP_cons rfl rfl ?_
              rintro _ rfl
              refine withP_nil rfl ?_
              refine XO.move rfl rfl ?_
              refine XO.nil ?_
              exact stepQN_ok rfl trivial (rfl)
            refine stepsH_cons rfl ?_ ?_
            · intro X ext HD hleD _
              replace hs := hs.mono hleD
              replace hN82 := hN82.mono hleD
              replace hsQ27 := hsQ27.mono hleD
              replace hsQ30 := hsQ30.mono hleD
              replace hle0 := hle0.trans hleD
              refine withP_cons rfl rfl ?_
              rintro _ rfl
              refine withP_nil rfl ?_
              refine XO.guardT rfl rfl (decide_eq_true (chk_zeros _)) rfl ?_
              refine XO.move rfl rfl ?_
              refine XO.nil ?_
              exact stepQN_ok rfl trivial (rfl)
            refine stepsH_cons rfl ?_ ?_
            · intro X ext HD hleD _
              replace hs := hs.mono hleD
              replace hN82 := hN82.mono hleD
              replace hsQ27 := hsQ27.mono hleD
              replace hsQ30 := hsQ30.mono hleD
              replace hle0 := hle0.trans hleD
              refine withP_cons rfl rfl ?_
              rintro _ rfl
              refine withP_cons rfl rfl ?_
              rintro _ rfl
              refine withP_nil rfl ?_
              refine XO.guardT rfl rfl (decide_eq_true (chk_zeros _)) rfl ?_
              refine XO.lenS (ts := #[]) rfl Try.underlying27 rfl ?_
              refine XO.nil ?_
              exact stepQN_ok rfl trivial (rfl)
            refine stepsH_cons rfl ?_ ?_
            · intro X ext HD hleD _
              replace hs := hs.mono hleD
              replace hN82 := hN82.mono hleD
              replace hsQ27 := hsQ27.mono hleD
              replace hsQ30 := hsQ30.mono hleD
              replace hle0 := hle0.trans hleD
              refine withP_cons rfl rfl ?_
              rintro _ rfl
              refine withP_nil rfl ?_
              refine XO.guardT rfl rfl (decide_eq_true (chk_zeros _)) rfl ?_
              refine XO.move rfl rfl ?_
              refine XO.nil ?_
              exact stepQN_ok rfl trivial (rfl)
            refine stepsH_cons rfl ?_ ?_
            · intro X ext HD hleD _
              replace hs := hs.mono hleD
              replace hN82 := hN82.mono hleD
              replace hsQ27 := hsQ27.mono hleD
              replace hsQ30 := hsQ30.mono hleD
              replace hle0 := hle0.trans hleD
              refine withP_cons rfl rfl ?_
              rintro _ rfl
              refine withP_nil rfl ?_
              refine XO.guardT rfl rfl (decide_eq_true (chk_zeros _)) rfl ?_
              refine XO.move rfl rfl ?_
              refine XO.nil ?_
              exact stepQN_ok rfl trivial (rfl)
            refine stepsH_cons rfl ?_ ?_
            · intro X ext HD hleD _
              replace hs := hs.mono hleD
              replace hN82 := hN82.mono hleD
              replace hsQ27 := hsQ27.mono hleD
              replace hsQ30 := hsQ30.mono hleD
              replace hle0 := hle0.trans hleD
              refine withP_cons rfl rfl ?_
              rintro _ rfl
              refine withP_cons rfl rfl ?_
              rintro _ rfl
              refine withP_nil rfl ?_
              refine XO.guardT rfl rfl (decide_eq_true (chk_zeros _)) rfl ?_
              refine XO.lenS (ts := #[]) rfl Try.underlying22 rfl ?_
              refine XO.nil ?_
              exact stepQN_ok rfl trivial (rfl)
            refine stepsH_cons rfl ?_ ?_
            · intro X ext HD hleD _
              replace hs := hs.mono hleD
              replace hN82 := hN82.mono hleD
              replace hsQ27 := hsQ27.mono hleD
              replace hsQ30 := hsQ30.mono hleD
              replace hle0 := hle0.trans hleD
              refine withP_cons rfl rfl ?_
              rintro _ rfl
              refine withP_cons rfl rfl ?_
              rintro _ rfl
              refine withP_nil rfl ?_
              refine XO.guardT rfl rfl (decide_eq_true (chk_zeros _)) rfl ?_
              refine XO.mul rfl rfl (wrap_i64 (by omega) (by omega)) rfl ?_
              refine XO.nil ?_
              exact stepQN_ok rfl trivial (rfl)
            refine stepsH_cons rfl ?_ ?_
            · intro X ext HD hleD _
              replace hs := hs.mono hleD
              replace hN82 := hN82.mono hleD
              replace hsQ27 := hsQ27.mono hleD
              replace hsQ30 := hsQ30.mono hleD
              replace hle0 := hle0.trans hleD
              refine withP_cons rfl rfl ?_
              rintro _ rfl
              refine withP_cons rfl rfl ?_
              rintro _ rfl
              refine withP_cons rfl rfl ?_
              rintro _ rfl
              refine withP_nil rfl ?_
              refine XO.guardT rfl rfl (decide_eq_true (chk_zeros _)) rfl ?_
              refine XO.sub rfl rfl (wrap_i64 (by omega) (by omega)) rfl ?_
              refine XO.nil ?_
              exact stepQN_ok rfl trivial (rfl)
            refine stepsH_cons rfl ?_ ?_
            · intro X ext HD hleD _
              replace hs := hs.mono hleD
              replace hN82 := hN82.mono hleD
              replace hsQ27 := hsQ27.mono hleD
              replace hsQ30 := hsQ30.mono hleD
              replace hle0 := hle0.trans hleD
              refine withP_cons rfl rfl ?_
              rintro _ rfl
              refine withP_nil rfl ?_
              refine XO.guardT rfl rfl (decide_eq_true (chk_zeros _)) rfl ?_
              refine XO.move rfl rfl ?_
              refine XO.nil ?_
              exact stepQN_ok rfl trivial (rfl)
            refine stepsH_cons rfl ?_ ?_
            · intro X ext HD hleD _
              replace hs := hs.mono hleD
              replace hN82 := hN82.mono hleD
              replace hsQ27 := hsQ27.mono hleD
              replace hsQ30 := hsQ30.mono hleD
              replace hle0 := hle0.trans hleD
              refine withP_cons rfl rfl ?_
              rintro _ rfl
              refine withP_cons rfl rfl ?_
              rintro _ rfl
              refine withP_cons rfl rfl ?_
              rintro _ rfl
              refine withP_nil rfl ?_
              refine XO.guardT rfl rfl (decide_eq_true (chk_zeros _)) rfl ?_
              refine XO.add rfl rfl (wrap_i64 (by omega) (by omega)) rfl ?_
              refine XO.nil ?_
              exact stepQN_ok rfl trivial (rfl)
            refine stepsH_cons rfl ?_ ?_
            · intro X ext HD hleD _
              replace hs := hs.mono hleD
              replace hN82 := hN82.mono hleD
              replace hsQ27 := hsQ27.mono hleD
              replace hsQ30 := hsQ30.mono hleD
              replace hle0 := hle0.trans hleD
              refine withP_cons rfl rfl ?_
              rintro _ rfl
              refine withP_cons rfl rfl ?_
              rintro _ rfl
              refine withP_cons rfl rfl ?_
              rintro _ rfl
              refine withP_nil rfl ?_
              refine XO.guardT rfl rfl (decide_eq_true (chk_zeros _)) rfl ?_
              refine XO.eql rfl rfl rfl ?_
              refine XO.nil ?_
              exact stepQN_ok rfl trivial (rfl)
            refine stepsH_cons rfl ?_ ?_
            · intro X ext HD hleD _
              replace hs := hs.mono hleD
              replace hN82 := hN82.mono hleD
              replace hsQ27 := hsQ27.mono hleD
              replace hsQ30 := hsQ30.mono hleD
              replace hle0 := hle0.trans hleD
              refine withP_cons rfl rfl ?_
              rintro _ rfl
              refine withP_cons rfl rfl ?_
              rintro _ rfl
              refine withP_nil rfl ?_
              refine XO.pickT rfl (decide_eq_true (chk_zeros _)) rfl rfl ?_
              refine XO.nil ?_
              exact stepQN_ok rfl trivial (rfl)
            refine stepsH_cons rfl ?_ ?_
            · intro X ext HD hleD _
              replace hs := hs.mono hleD
              replace hN82 := hN82.mono hleD
              replace hsQ27 := hsQ27.mono hleD
              replace hsQ30 := hsQ30.mono hleD
              replace hle0 := hle0.trans hleD
              refine withP_cons rfl rfl ?_
              rintro _ rfl
              refine withP_nil rfl ?_
              refine XO.move rfl rfl ?_
              refine XO.nil ?_
              exact stepQN_ok rfl trivial (rfl)
            refine stepsH_cons rfl ?_ ?_
            · intro X ext HD hleD _
              replace hs := hs.mono hleD
              replace hN82 := hN82.mono hleD
              replace hsQ27 := hsQ27.mono hleD
              replace hsQ30 := hsQ30.mono hleD
              replace hle0 := hle0.trans hleD
              refine withP_cons rfl rfl ?_
              rintro _ rfl
              refine withP_nil rfl ?_
              refine XO.guardT rfl rfl (decide_eq_true (by omega)) rfl ?_
              refine XO.move rfl rfl ?_
              refine XO.nil ?_
              exact stepQN_ok rfl trivial (rfl)
            refine stepsH_cons rfl ?_ ?_
            · intro X ext HD hleD _
              replace hs := hs.mono hleD
              replace hN82 := hN82.mono hleD
              replace hsQ27 := hsQ27.mono hleD
              replace hsQ30 := hsQ30.mono hleD
              replace hle0 := hle0.trans hleD
              refine withP_cons rfl rfl ?_
              rintro _ rfl
              refine withP_cons rfl rfl ?_
              rintro _ rfl
              refine withP_nil rfl ?_
              refine XO.guardT rfl rfl (decide_eq_true (by omega)) rfl ?_
              refine XO.geq rfl rfl rfl ?_
              refine XO.nil ?_
              exact stepQN_ok rfl trivial (rfl)
            refine stepsH_cons rfl ?_ ?_
            · intro X ext HD hleD _
              replace hs := hs.mono hleD
              replace hN82 := hN82.mono hleD
              replace hsQ27 := hsQ27.mono hleD
              replace hsQ30 := hsQ30.mono hleD
              replace hle0 := hle0.trans hleD
              refine withP_cons rfl rfl ?_
              rintro _ rfl
              refine withP_cons rfl rfl ?_
              rintro _ rfl
              refine withP_nil rfl ?_
              refine XO.pickT rfl (decide_eq_true (by omega)) rfl rfl ?_
              refine XO.nil ?_
              exact stepQN_ok rfl trivial (rfl)
            refine stepsH_cons rfl ?_ ?_
            · intro X ext HD hleD _
              replace hs := hs.mono hleD
              replace hN82 := hN82.mono hleD
              replace hsQ27 := hsQ27.mono hleD
              replace hsQ30 := hsQ30.mono hleD
              replace hle0 := hle0.trans hleD
              refine withP_cons rfl rfl ?_
              rintro _ rfl
              refine withP_nil rfl ?_
              refine XO.move rfl rfl ?_
              refine XO.nil ?_
              exact stepQN_ok rfl trivial (rfl)
            refine stepsH_cons rfl ?_ ?_
            · intro X ext HD hleD _
              replace hs := hs.mono hleD
              replace hN82 := hN82.mono hleD
              replace hsQ27 := hsQ27.mono hleD
              replace hsQ30 := hsQ30.mono hleD
              replace hle0 := hle0.trans hleD
              refine withP_cons rfl rfl ?_
              rintro _ rfl
              refine withP_nil rfl ?_
              refine XO.guardT rfl rfl (decide_eq_true (by omega)) rfl ?_
              refine XO.move rfl rfl ?_
              refine XO.nil ?_
              exact stepQN_ok rfl trivial (rfl)
            refine stepsH_cons rfl ?_ ?_
            · intro X ext HD hleD _
              replace hs := hs.mono hleD
              replace hN82 := hN82.mono hleD
              replace hsQ27 := hsQ27.mono hleD
              replace hsQ30 := hsQ30.mono hleD
              replace hle0 := hle0.trans hleD
              refine withP_cons rfl rfl ?_
              rintro _ rfl
              refine withP_nil rfl ?_
              refine XO.guardT rfl rfl (decide_eq_true (by omega)) rfl ?_
              refine XO.move rfl rfl ?_
              refine XO.nil ?_
              exact stepQN_ok rfl trivial (rfl)
            refine stepsH_cons rfl ?_ ?_
            · intro X ext HD hleD _
              replace hs := hs.mono hleD
              replace hN82 := hN82.mono hleD
              replace hsQ27 := hsQ27.mono hleD
              replace hsQ30 := hsQ30.mono hleD
              replace hle0 := hle0.trans hleD
              refine withP_cons rfl rfl ?_
              rintro _ rfl
              refine withP_cons rfl rfl ?_
              rintro _ rfl
              refine withP_cons rfl rfl ?_
              rintro _ rfl
              refine withP_nil rfl ?_
              refine XO.guardT rfl rfl (decide_eq_true (by omega)) rfl ?_
              refine XO.slice (lo' := (((1 + (numL l.length).length) : Nat) : Int)) (hi' := ((eB (.mk 3 0 [] l)).length : Int)) (m' := (cN82 : Int)) rfl hN82 (ev?_some rfl) ev?_none ev?_none (by simp) (by omega) (by omega) (by omega) (by omega) (by omega) Try.underlying27 ty_5 rfl (fun as121 ls121 hls121 hss121 => ?_)
              obtain rfl : ls121 = (eB (.mk 3 0 [] l)).drop (1 + (numL l.length).length) := by first | (rw [hls121]; simp only [Int.toNat_natCast, Nat.add_sub_cancel_left]; done) | (rw [hls121]; simp; done) | (rw [hls121]; simp; rw [List.take_of_length_le (by simp)]; done) | (rw [hls121]; simp only [Int.toNat_natCast]; exact List.take_of_length_le (by rw [List.length_drop]; omega))
              refine XO.nil ?_
              exact stepQN_ok rfl trivial (⟨_, _, rfl, hss121⟩)
            refine stepsH_cons rfl ?_ ?_
            · intro X ext HD hleD _
              replace hs := hs.mono hleD
              replace hN82 := hN82.mono hleD
              replace hsQ27 := hsQ27.mono hleD
              replace hsQ30 := hsQ30.mono hleD
              replace hle0 := hle0.trans hleD
              refine withP_cons rfl rfl ?_
              rintro _ ⟨a121, c121, rfl, h121⟩
              refine withP_cons rfl rfl ?_
              rintro _ rfl
              refine withP_nil rfl ?_
              refine XO.guardT rfl rfl (decide_eq_true (by omega)) rfl ?_
              refine XO.b2s rfl h121 Try.underlying27 Try.underlying5 Try.underlying9 rfl ?_
              refine XO.nil ?_
              exact stepQN_ok rfl trivial (rfl)
            refine stepsH_cons rfl ?_ ?_
            · intro X ext HD hleD _
              replace hs := hs.mono hleD
              replace hN82 := hN82.mono hleD
              replace hsQ27 := hsQ27.mono hleD
              replace hsQ30 := hsQ30.mono hleD
              replace hle0 := hle0.trans hleD
              refine withP_cons rfl rfl ?_
              rintro _ rfl
              refine withP_nil rfl ?_
              refine XO.guardT rfl rfl (decide_eq_true (by omega)) rfl ?_
              refine XO.move rfl rfl ?_
              refine XO.nil ?_
              exact stepQN_ok rfl trivial (rfl)
            refine stepsH_cons rfl ?_ ?_
            · intro X ext HD hleD _
              replace hs := hs.mono hleD
              replace hN82 := hN82.mono hleD
              replace hsQ27 := hsQ27.mono hleD
              replace hsQ30 := hsQ30.mono hleD
              replace hle0 := hle0.trans hleD
              refine withP_cons rfl rfl ?_
              rintro _ rfl
              refine withP_cons rfl rfl ?_
              rintro _ rfl
              refine withP_nil rfl ?_
              refine XO.guardT rfl rfl (decide_eq_true (by omega)) rfl ?_
              refine XO.b2s rfl hsQ30 Try.underlying27 Try.underlying5 Try.underlying9 rfl ?_
              refine XO.nil ?_
              exact stepQN_ok rfl trivial (rfl)
            exact stepsH_end rfl
          case tail32 =>
            intro HD hleD _
            replace hs := hs.mono hleD
            replace hN82 := hN82.mono hleD
            replace hsQ27 := hsQ27.mono hleD
            replace hsQ30 := hsQ30.mono hleD
            replace hle0 := hle0.trans hleD
            refine withP_cons rfl rfl ?_
            rintro _ rfl
            refine withP_cons rfl rfl ?_
            rintro _ rfl
            refine withP_cons rfl rfl ?_
            rintro _ rfl
            refine withP_cons rfl rfl ?_
            rintro _ rfl
            refine withP_cons rfl rfl ?_
            rintro _ rfl
            refine withP_cons rfl rfl ?_
            rintro _ rfl
            refine withP_cons rfl rfl ?_
            rintro _ rfl
            refine withP_cons rfl rfl ?_
            rintro _ rfl
            refine withP_cons rfl rfl ?_
            rintro _ rfl
            refine withP_cons rfl rfl ?_
            rintro _ rfl
            refine withP_cons rfl rfl ?_
            rintro _ rfl
            refine withP_cons rfl rfl ?_
            rintro _ rfl
            refine withP_cons rfl rfl ?_
            rintro _ rfl
            refine withP_cons rfl rfl ?_
            rintro _ rfl
            refine withP_cons rfl rfl ?_
            rintro _ rfl
            refine withP_cons rfl rfl ?_
            rintro _ rfl
            refine withP_cons rfl rfl ?_
            rintro _ rfl
            refine withP_cons rfl rfl ?_
            rintro _ rfl
            refine withP_cons rfl rfl ?_
            rintro _ rfl
            refine withP_cons rfl rfl ?_
            rintro _ rfl
            refine withP_cons rfl rfl ?_
            rintro _ rfl
            refine withP_cons rfl rfl ?_
            rintro _ ⟨a121, c121, rfl, h121⟩
            refine withP_cons rfl rfl ?_
            rintro _ rfl
            refine withP_cons rfl rfl ?_
            rintro _ rfl
            refine withP_cons rfl rfl ?_
            rintro _ rfl
            refine withP_nil rfl ?_
            refine withEnts_nil ?_
            refine XO.guardT rfl rfl (decide_eq_true (by omega)) rfl ?_
            refine XO.eqlS rfl rfl rfl ?_
            refine XO.pickT rfl (decide_eq_true (by omega)) rfl rfl ?_
            refine XO.assign rfl rfl ?_
            refine XO.nil ?_
            refine XC.seq2 ?_
            refine XC.ret ?_
            refine ⟨rfl, _, [], rfl, (by repeat (first | exact List.Sublist.refl _ | apply List.Sublist.cons)), RetR.mk ?_⟩
            first | rfl | exact congrArg Value.bool (decide_eq_true hbad) | exact congrArg Value.bool (decide_eq_true (by omega)) | exact congrArg Value.bool (decide_eq_true (eB_list_drop hok0 rfl))
  · have g3p := g3
    refine XO.guardF rfl rfl (g3) rfl rfl ?_
    refine XO.guardF rfl rfl (g3) rfl rfl ?_
    refine XO.pickT rfl (g3) rfl rfl ?_
    refine XO.nil ?_
    refine XC.seq2 ?_
    refine XC.condT rfl (rfl) ?_
    refine XC.seq ?_
    refine XC.region ?_
    refine XO.assign rfl rfl ?_
    refine XO.nil ?_
    refine XC.seq2 ?_
    refine XC.ret ?_
    refine seqX_ret ?_
    refine ⟨rfl, _, [], rfl, (by repeat (first | exact List.Sublist.refl _ | apply List.Sublist.cons)), RetR.mk ?_⟩
    first | rfl | exact congrArg Value.bool (decide_eq_true hbad) | exact congrArg Value.bool (decide_eq_true (by omega)) | exact congrArg Value.bool (decide_eq_true (eB_list_drop hok0 rfl))

namespace codecLists
open Go.ChangeShapes Go.WideShapes Go.ChangeAt Go.RowKit
open Go.ChangeMaps (open_string shut_string)
theorem own : ownKnob Try.prog.godebug = none := by kernel_rfl
theorem laidOut : laidOutB Try.prog = true := by kernel_rfl
set_option maxRecDepth 100000 in
theorem lifted (os : Os) (started : os.Started) (H : Type) (enc : TypeId × Value → H) :
    ReturnsInHanded {} Try.checked os 8 .any (Rows.codecListsSpec.pre6 enc Try.prog Try.f8 Rows.codecListsRow.domain false) (Rows.codecListsSpec.post enc Try.prog Try.f8 false true false false) := by
  refine returnsInHanded_of_change (C := Try.checked) own started (by kernel_rfl) Try.func8
    (ChangeSpec.witness6 (enc := enc) (C := Try.checked) false ⟨#[], #[.slice none 0 0], []⟩ 8 (by kernel_rfl) (by kernel_rfl) (by kernel_rfl) (by kernel_rfl)) ?_
  intro W base args ds gs before hval0 hW hcnd _
  have hval : ∀ (j : Nat) t v, Try.f8.params[j]? = some t → args[j]? = some v → Value.okWide Try.prog W .any base t v := hval0
  have hW' := hW
  obtain ⟨p, q, hA0, hV, rfl, hfz, hnd⟩ := hW
  have hA : DataW.TrodAll enc Try.prog W 0 (fun _ => true) true Try.f8.params.toList args.toList ds p := hA0
  rw [Try.params8] at hA hval
  obtain ⟨v0, vs0, d0, ds0, p0, q0, hargs, rfl, rfl, h0, r0⟩ := trodAll_cons hA
  obtain ⟨rfl, rfl, rfl⟩ := trodAll_nil r0
  obtain rfl : args = #[v0] := by cases args; simp_all
  obtain ⟨rfl, rfl⟩ := trodVars_none hV
  obtain ⟨a0, len0, cap0, rfl⟩ := okWide_slice Try.underlying22 (hval 0 22 v0 rfl rfl)
  have k0 := h0
  have lt0 : ∀ x ∈ p0, x.block < W.heap.size := by obtain ⟨m, hm⟩ := k0; exact DataW.trod_lt m _ _ _ hm
  obtain ⟨fuel0, hf0⟩ := h0
  obtain ⟨l0, ⟨aa0, cc0, hcs0, hs0⟩, hw0⟩ := opens_vals enc W 0 _ _ fuel0 _ _ hf0
  simp [Value.cells] at hcs0
  obtain ⟨rfl, rfl, rfl⟩ := hcs0
  clear hA0 hval0
  refine (codecLists_fn _ _ l0 (hpOf W) hs0 hw0.2 (by have := hw0.1; unfold maxLen at this; omega)).below.mono fun e W' ⟨he, bel⟩ => ?_
  subst he
  exact ⟨_, rfl, _, _, _, [], _, [], hW', trodAll_mk1 (shut_bool Try.underlying4 _), (trodAll_cons_mk (Below.trod laidOut (by kernel_rfl) (of_decide_eq_true (by kernel_rfl)) k0 bel lt0) trodAll_mk0), rfl, bel.frame _, fun h => by cases h⟩
theorem over : Rows.codecListsRow.holds Try.pinned (OpenSpec.ofChange Rows.codecListsSpec) :=
  OpenClaim.holds_of_wide 8 Try.f8 rfl rfl rfl rfl rfl rfl rfl ⟨rfl, rfl, rfl, rfl, rfl⟩ rfl rfl rfl rfl rfl (by kernel_rfl) Try.func8 (by kernel_rfl)
    (of_decide_eq_true (by kernel_rfl)) (by unfold Func.isWrapper; first | (rw [if_pos (by decide +kernel)]; kernel_rfl) | (rw [if_neg (by decide +kernel)]; exact ⟨rfl, rfl⟩))
    (fun os started H enc _ => lifted os started H enc)
/-- The given statement. -/
theorem proved : Rows.CodecListsSaid := over
#print axioms proved
end codecLists
end Go.Proofs.Ytngedgknbebgpaa
