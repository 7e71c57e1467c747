/- The law SharesAltered: it returns true, whatever the input, and what it was handed reads as before. No condition. -/
import Derived.Test.YtdiknopliedddaaRaO2
import Derived.Test.YtdiknopliedddaaRaY
import Derived.Test.YtdiknopliedddaaXLn
import Derived.Test.YtdiknopliedddaaRows
import Derived.WalkKit
import Derived.ProofKit
import Derived.OpenShut
import Derived.ShutString
import Derived.ChangeOld
import Derived.Below
set_option autoImplicit false
set_option linter.unusedVariables false
set_option linter.unusedSimpArgs false
namespace Go.Proofs.Ytdiknopliedddaa
open Go.XL



set_option maxRecDepth 100000 in
set_option maxHeartbeats 1600000 in
theorem sharesAltered_fn (s : Int) (a : Option Addr) (c : Nat) (l : List Int) (i v : Int) (H : Hp) (hs : SlR (intR .i64) H a c l) (hi0 : 0 ≤ i) (hi1 : i ≤ 255) : FnC Try.prog 12 #[.int .i64 s, .slice a l.length c, .int .u8 i, .int .i64 v] H [] (RetR fun v _ _ => v = .bool true) := by
  refine FnC.intro (args := [.int .i64 s, .slice a l.length c, .int .u8 i, .int .i64 v]) Try.func12 rfl rfl Try.ntmps12 rfl rfl rfl fun G rest => ?_
  refine XC.seq ?_
  refine XC.region ?_
  refine XO.assign rfl rfl ?_
  refine XO.nil ?_
  refine XC.seq2 ?_
  refine XC.seq ?_
  refine XC.seq ?_
  refine XC.region ?_
  refine XO.callV rfl (sane33 _) rfl ?_
  refine XO.notB rfl rfl ?_
  refine XO.nil ?_
  refine XC.seq2 ?_
  refine XC.condF rfl (rfl) ?_
  refine XC.skip ?_
  refine XC.seq2 ?_
  refine XC.seq ?_
  refine XC.region ?_
  refine XO.move rfl rfl ?_
  refine XO.lenS (ts := #[]) rfl Try.underlying29 rfl ?_
  refine XO.add (c := IntKind.i64.wrap ((l.length : Int) + 1)) rfl rfl rfl rfl ?_
  generalize hn : IntKind.i64.wrap ((l.length : Int) + 1) = n
  refine XO.assign rfl rfl ?_
  refine XO.nil ?_
  refine XC.seq2 ?_
  refine XC.seq ?_
  refine XC.region ?_
  refine XO.move rfl rfl ?_
  refine XO.move rfl rfl ?_
  refine XO.move rfl rfl ?_
  refine XO.callH rfl (deal_fn _ _ _ _ _ _ hs) rfl ?_
  rintro _ HD25 hleD25 ⟨aD25, cD25, rfl, hsD25⟩
  replace hs := hs.mono hleD25
  refine XO.move rfl rfl ?_
  refine XO.extract rfl rfl rfl ?_
  refine XO.extract rfl rfl rfl ?_
  refine XO.assign rfl rfl ?_
  refine XO.assign rfl rfl ?_
  refine XO.nil ?_
  refine XC.seq2 ?_
  refine XC.seq ?_
  refine XC.seq ?_
  refine XC.region ?_
  refine XO.move rfl rfl ?_
  refine XO.neq rfl rfl rfl ?_
  refine XO.move rfl rfl ?_
  refine XO.guardC rfl rfl rfl rfl (fun g4 => ?_) (fun g4 => ?_)
  · have g4p := of_decide_eq_false g4
    refine XO.move rfl rfl ?_
    refine XO.guardT rfl rfl (g4) rfl ?_
    refine XO.lss rfl rfl rfl ?_
    refine XO.pickF rfl (g4) rfl rfl ?_
    refine XO.move rfl rfl ?_
    refine XO.guardC rfl rfl rfl rfl (fun g5 => ?_) (fun g5 => ?_)
    · have g5p := of_decide_eq_false g5
      refine XO.move rfl rfl ?_
      refine XO.guardT rfl rfl (g5) rfl ?_
      refine XO.geq rfl rfl rfl ?_
      refine XO.pickF rfl (g5) rfl rfl ?_
      refine XO.nil ?_
      refine XC.seq2 ?_
      refine XC.cond rfl (fun c1_6 => ?_) (fun c1_6 => ?_)
      · refine XC.seq ?_
        refine XC.region ?_
        refine XO.assign rfl rfl ?_
        refine XO.nil ?_
        refine XC.seq2 ?_
        refine XC.ret ?_
        refine seqX_ret ?_
        refine ⟨rfl, _, [], rfl, (by repeat (first | exact List.Sublist.refl _ | apply List.Sublist.cons)), RetR.mk ?_⟩
        rfl
      · have hE : dealE s l n = 0 := by omega
        have hDB := dealE_ok hE
        have hlt : l.length < 24 := by unfold DB at hDB; omega
        obtain rfl : n = (l.length : Int) + 1 := by rw [← hn]; exact wrap_i64 (by omega) (by omega)
        have e2 : dealR s l ((l.length : Int) + 1) = dealL (s :: l) (l.length + 1) := (deal_ok (n := l.length + 1) hDB).2
        unfold DB at hDB
        obtain ⟨q, hq⟩ : ∃ q : Nat, i % ((l.length : Int) + 1) = q := ⟨(i % ((l.length : Int) + 1)).toNat, by have := Int.emod_nonneg i (show ((l.length : Int) + 1) ≠ 0 by omega); omega⟩
        have hql : q < l.length + 1 := by have := Int.emod_lt_of_pos i (show 0 < ((l.length : Int) + 1) by omega); omega
        have halt := altered (s := s) (v := v) (more := l) (n := l.length + 1) (i := q) (by omega) (by omega) (by omega) rfl hql (by omega) (by omega)
        refine XC.skip ?_
        refine XC.seq2 ?_
        refine XC.seq ?_
        refine XC.seq ?_
        refine XC.region ?_
        refine XO.move rfl rfl ?_
        refine XO.lenS (ts := #[]) rfl Try.underlying42 rfl ?_
        refine XO.move rfl rfl ?_
        refine XO.neq rfl rfl rfl ?_
        refine XO.nil ?_
        refine XC.seq2 ?_
        refine XC.condF rfl (decide_eq_false (by rw [e2, dealL_len]; omega)) ?_
        refine XC.skip ?_
        refine XC.seq2 ?_
        refine XC.seq ?_
        refine XC.region ?_
        refine XO.move rfl rfl ?_
        refine XO.convI rfl Try.underlying5 Try.underlying3 (wrap_i64 (by omega) (by omega)) rfl ?_
        refine XO.move rfl rfl ?_
        refine XO.rem rfl rfl (by omega) (rem_nn (by omega)) rfl ?_
        rw [hq]
        refine XO.assign rfl rfl ?_
        refine XO.nil ?_
        refine XC.seq2 ?_
        refine XC.seq ?_
        refine XC.region ?_
        refine XO.buildRow (ρ := ptR) (l := []) rfl Try.underlying42 ty_52 ze_52 rfl rfl rfl rfl rfl (fun p46 a46 c46 hacc46 => ?_)
        refine XO.move rfl rfl ?_
        refine XO.appendA 0 rfl rfl hacc46 rfl rfl hsD25 rfl Try.underlying42 ty_52 ze_52 rfl by_52 (by have := dealR_len s l ((l.length : Int) + 1); simp; omega) rfl (fun p48 a48 c48 hacc48 => ?_)
        simp only [List.nil_append] at hacc48 ⊢
        rw [e2] at hacc48 hsD25 ⊢
        obtain rfl := hacc48.addr (by rw [dealL_len]; omega)
        refine XO.assign rfl rfl ?_
        refine XO.nil ?_
        refine XC.seq2 ?_
        refine XC.seq ?_
        refine XC.region ?_
        refine XO.move rfl rfl ?_
        refine XO.move rfl rfl ?_
        refine XO.move rfl rfl ?_
        refine XO.indexE rfl rfl Try.underlying42 ty_52 (by omega) (by rw [dealL_len]; omega) rfl ?_
        refine XO.fieldAddr rfl fa_52_1 rfl ?_
        refine XO.storeAF (ρ := ptR) (k := (q : Int).toNat) (u := ⟨(q : Int) + 1, v⟩) 0 rfl rfl rfl hacc48 (by rw [Int.toNat_natCast]; exact dealL_get hql) rfl rfl rfl (fun c1 h => by cases h; exact ⟨_, rfl, rfl⟩) ty_3 rfl (fun pA haccA => ?_)
        rw [Int.toNat_natCast] at haccA
        refine XO.nil ?_
        refine XC.seq2 ?_
        refine XC.seq ?_
        refine XC.region ?_
        refine XO.move rfl rfl ?_
        refine XO.publishA 0 rfl haccA rfl (fun HQ11 hleQ11 hsQ11 => ?_)
        replace hs := hs.mono hleQ11
        replace hsD25 := hsD25.mono hleQ11
        have hcall := recover_fn _ _ _ _ hsQ11 (by rw [List.length_set, dealL_len]; omega)
        rw [List.length_set] at hcall
        refine XO.callV rfl hcall rfl ?_
        refine XO.move rfl rfl ?_
        refine XO.extract rfl rfl rfl ?_
        refine XO.extract rfl rfl rfl ?_
        refine XO.assign rfl rfl ?_
        refine XO.assign rfl rfl ?_
        refine XO.nil ?_
        refine XC.seq2 ?_
        refine XC.seq ?_
        refine XC.region ?_
        refine XO.move rfl rfl ?_
        refine XO.eql rfl rfl rfl ?_
        refine XO.move rfl rfl ?_
        refine XO.guardT rfl rfl (decide_eq_true halt.1) rfl ?_
        refine XO.move rfl rfl ?_
        refine XO.guardT rfl rfl (decide_eq_true halt.1) rfl ?_
        refine XO.move rfl rfl ?_
        refine XO.guardT rfl rfl (decide_eq_true halt.1) rfl ?_
        refine XO.eql rfl rfl rfl ?_
        refine XO.guardT rfl rfl (decide_eq_true halt.1) rfl ?_
        refine XO.move rfl rfl ?_
        refine XO.guardT rfl rfl (decide_eq_true halt.1) rfl ?_
        refine XO.move rfl rfl ?_
        refine XO.guardT rfl rfl (decide_eq_true halt.1) rfl ?_
        refine XO.move rfl rfl ?_
        refine XO.guardT rfl rfl (decide_eq_true halt.1) rfl ?_
        refine XO.indexN (i := q) rfl hsD25 rfl Try.underlying42 ty_52 (by rw [dealL_len]; omega) rfl ?_
        rintro eb68 eo68 _ x68 hx68 rfl hp68
        refine XO.guardT rfl rfl (decide_eq_true halt.1) rfl ?_
        refine XO.fieldAddr rfl fa_52_1 rfl ?_
        refine XO.guardT rfl rfl (decide_eq_true halt.1) rfl ?_
        refine XO.loadHF rfl (by assumption) ty_3 rfl rfl rfl ?_
        refine XO.guardT rfl rfl (decide_eq_true halt.1) rfl ?_
        refine XO.eql rfl rfl rfl ?_
        refine XO.guardT rfl rfl (decide_eq_true halt.1) rfl ?_
        refine XO.eqlB rfl rfl Try.underlying4 rfl ?_
        refine XO.pickT rfl (decide_eq_true halt.1) rfl rfl ?_
        refine XO.assign rfl rfl ?_
        refine XO.nil ?_
        refine XC.seq2 ?_
        refine XC.ret ?_
        refine ⟨rfl, _, [], rfl, (by repeat (first | exact List.Sublist.refl _ | apply List.Sublist.cons)), RetR.mk ?_⟩
        exact congrArg Value.bool (by have hv : x68.Y = _ := congrArg Pt.Y (Option.some.inj (hx68.symm.trans (dealL_get hql))); rw [hv]; simp [halt.2])
    · have g5p := of_decide_eq_true g5
      refine XO.guardF rfl rfl (g5) rfl rfl ?_
      refine XO.pickT rfl (g5) rfl rfl ?_
      refine XO.nil ?_
      refine XC.seq2 ?_
      refine XC.condT rfl (rfl) ?_
      refine XC.seq ?_
      refine XC.region ?_
      refine XO.assign rfl rfl ?_
      refine XO.nil ?_
      refine XC.seq2 ?_
      refine XC.ret ?_
      refine seqX_ret ?_
      refine ⟨rfl, _, [], rfl, (by repeat (first | exact List.Sublist.refl _ | apply List.Sublist.cons)), RetR.mk ?_⟩
      rfl
  · have g4p := of_decide_eq_true g4
    refine XO.guardF rfl rfl (g4) rfl rfl ?_
    refine XO.pickT rfl (g4) rfl rfl ?_
    refine XO.move rfl rfl ?_
    refine XO.guardF rfl rfl (rfl) rfl rfl ?_
    refine XO.guardF rfl rfl (rfl) rfl rfl ?_
    refine XO.pickT rfl (rfl) rfl rfl ?_
    refine XO.nil ?_
    refine XC.seq2 ?_
    refine XC.condT rfl (rfl) ?_
    refine XC.seq ?_
    refine XC.region ?_
    refine XO.assign rfl rfl ?_
    refine XO.nil ?_
    refine XC.seq2 ?_
    refine XC.ret ?_
    refine seqX_ret ?_
    refine ⟨rfl, _, [], rfl, (by repeat (first | exact List.Sublist.refl _ | apply List.Sublist.cons)), RetR.mk ?_⟩
    rfl

namespace sharesAltered
open Go.ChangeShapes Go.WideShapes Go.ChangeAt Go.RowKit
open Go.ChangeMaps (open_string shut_string)
theorem own : ownKnob Try.prog.godebug = none := by kernel_rfl
theorem laidOut : laidOutB Try.prog = true := by kernel_rfl
set_option maxRecDepth 100000 in
theorem lifted (os : Os) (started : os.Started) (H : Type) (enc : TypeId × Value → H) :
    ReturnsInHanded {} Try.checked os 12 .any (Rows.sharesAlteredSpec.pre6 enc Try.prog Try.f12 Rows.sharesAlteredRow.domain false) (Rows.sharesAlteredSpec.post enc Try.prog Try.f12 false true false false) := by
  refine returnsInHanded_of_change (C := Try.checked) own started (by kernel_rfl) Try.func12
    (ChangeSpec.witness6 (enc := enc) (C := Try.checked) false ⟨#[], #[.int .i64 0, .slice none 0 0, .int .u8 0, .int .i64 0], []⟩ 8 (by kernel_rfl) (by kernel_rfl) (by kernel_rfl) (by kernel_rfl)) ?_
  intro W base args ds gs before hval0 hW hcnd _
  have hval : ∀ (j : Nat) t v, Try.f12.params[j]? = some t → args[j]? = some v → Value.okWide Try.prog W .any base t v := hval0
  have hW' := hW
  obtain ⟨p, q, hA0, hV, rfl, hfz, hnd⟩ := hW
  have hA : DataW.TrodAll enc Try.prog W 0 (fun _ => true) true Try.f12.params.toList args.toList ds p := hA0
  rw [Try.params12] at hA hval
  obtain ⟨v0, vs0, d0, ds0, p0, q0, hargs, rfl, rfl, h0, r0⟩ := trodAll_cons hA
  obtain ⟨v1, vs1, d1, ds1, p1, q1, rfl, rfl, rfl, h1, r1⟩ := trodAll_cons r0
  obtain ⟨v2, vs2, d2, ds2, p2, q2, rfl, rfl, rfl, h2, r2⟩ := trodAll_cons r1
  obtain ⟨v3, vs3, d3, ds3, p3, q3, rfl, rfl, rfl, h3, r3⟩ := trodAll_cons r2
  obtain ⟨rfl, rfl, rfl⟩ := trodAll_nil r3
  obtain rfl : args = #[v0, v1, v2, v3] := by cases args; simp_all
  obtain ⟨rfl, rfl⟩ := trodVars_none hV
  obtain ⟨a0, rfl, rfl, rfl, w0⟩ := open_int Try.underlying3 (hval 0 3 v0 rfl rfl) h0
  obtain ⟨a1, len1, cap1, rfl⟩ := okWide_slice Try.underlying29 (hval 1 29 v1 rfl rfl)
  have k1 := h1
  have lt1 : ∀ x ∈ p1, x.block < W.heap.size := by obtain ⟨m, hm⟩ := k1; exact DataW.trod_lt m _ _ _ hm
  obtain ⟨fuel1, hf1⟩ := h1
  obtain ⟨l1, ⟨aa1, cc1, hcs1, hs1⟩, hw1⟩ := opens_ints enc W 0 _ _ fuel1 _ _ hf1
  simp [Value.cells] at hcs1
  obtain ⟨rfl, rfl, rfl⟩ := hcs1
  obtain ⟨a2, rfl, rfl, rfl, w2⟩ := open_int Try.underlying5 (hval 2 5 v2 rfl rfl) h2
  obtain ⟨a3, rfl, rfl, rfl, w3⟩ := open_int Try.underlying3 (hval 3 3 v3 rfl rfl) h3
  clear hA0 hval0
  refine (sharesAltered_fn a0 _ _ _ a2 a3 (hpOf W) hs1 (wf_u8 w2).1 (wf_u8 w2).2).below.mono fun e W' ⟨he, bel⟩ => ?_
  subst he
  exact ⟨_, rfl, _, _, _, [], _, [], hW', trodAll_mk1 (shut_bool Try.underlying4 _), (trodAll_cons_mk (shut_int Try.underlying3 w0) (trodAll_cons_mk (Below.trod laidOut (by kernel_rfl) (of_decide_eq_true (by kernel_rfl)) k1 bel lt1) (trodAll_cons_mk (shut_int Try.underlying5 w2) (trodAll_cons_mk (shut_int Try.underlying3 w3) trodAll_mk0)))), rfl, bel.frame _, fun h => by cases h⟩
theorem over : Rows.sharesAlteredRow.holds Try.pinned (OpenSpec.ofChange Rows.sharesAlteredSpec) :=
  OpenClaim.holds_of_wide 12 Try.f12 rfl rfl rfl rfl rfl rfl rfl ⟨rfl, rfl, rfl, rfl, rfl⟩ rfl rfl rfl rfl rfl (by kernel_rfl) Try.func12 (by kernel_rfl)
    (of_decide_eq_true (by kernel_rfl)) (by unfold Func.isWrapper; first | (rw [if_pos (by decide +kernel)]; kernel_rfl) | (rw [if_neg (by decide +kernel)]; exact ⟨rfl, rfl⟩))
    (fun os started H enc _ => lifted os started H enc)
/-- The given statement. -/
theorem proved : Rows.SharesAlteredSaid := over
#print axioms proved
end sharesAltered
end Go.Proofs.Ytdiknopliedddaa
