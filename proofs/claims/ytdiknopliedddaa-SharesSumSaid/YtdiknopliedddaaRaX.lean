/- The walks of the functions of the shares: what each of them computes, at any input. -/
import Derived.Test.YtdiknopliedddaaRaV
import Derived.Test.YtdiknopliedddaaRaS4
set_option autoImplicit false
set_option linter.unusedVariables false
set_option linter.unusedSimpArgs false
namespace Go.Proofs
open Go.XL

theorem bf_52 : structF Try.prog 52 = some [(0, 1), (1, 1)] := by kernel_rfl
theorem bk_52 : structK Try.prog 52 = true := by kernel_rfl
theorem by_3 : Nat.ble (Try.prog.bytesOf 3) 4096 = true := by kernel_rfl
theorem by_4 : Nat.ble (Try.prog.bytesOf 4) 4096 = true := by kernel_rfl
theorem by_52 : Nat.ble (Try.prog.bytesOf 52) 4096 = true := by kernel_rfl
theorem ty_29 : tyF Try.prog 29 1 false = true := by kernel_rfl
theorem ty_4 : tyF Try.prog 4 1 false = true := by kernel_rfl
theorem ty_42 : tyF Try.prog 42 1 false = true := by kernel_rfl
theorem ze_4 : zeroC Try.prog 4 = some [.bool false] := by kernel_rfl
theorem ze_52 : zeroC Try.prog 52 = some [.int .i64 0, .int .i64 0] := by kernel_rfl

theorem values_fn (a : Option Addr) (c n : Nat) (m : Int) (H : Hp) : FnC Try.prog 42 #[.slice a n c, .int .i64 m] H [] (RetR fun v H _ => ∃ b1 b2, v = .func (.func 48) #[] #[.pointer (some ⟨b1, 0, none⟩), .pointer (some ⟨b2, 0, none⟩)] ∧ PtH H b1 0 [.int .i64 m] ∧ PtH H b2 0 [.slice a n c]) := by
  refine FnC.intro (args := [.slice a n c, .int .i64 m]) Try.func42 rfl rfl Try.ntmps42 rfl rfl rfl fun G rest => ?_
  refine XC.seq ?_
  refine XC.region ?_
  refine XO.box rfl rfl rfl (fun b2 => ?_)
  refine XO.box rfl rfl rfl (fun b3 => ?_)
  refine XO.assign rfl rfl ?_
  refine XO.nil ?_
  refine XC.seq2 ?_
  refine XC.seq ?_
  refine XC.region ?_
  refine XO.makeFunc rfl rfl ?_
  refine XO.publish 0 rfl rfl rfl (fun HA o1 hle1 hb1 ho1 => ?_)
  refine XO.publish 0 rfl rfl rfl (fun HB o2 hle2 hb2 ho2 => ?_)
  refine XO.assign rfl rfl ?_
  refine XO.nil ?_
  refine XC.seq2 ?_
  refine XC.ret ?_
  refine ⟨rfl, _, [], rfl, (by repeat (first | exact List.Sublist.refl _ | apply List.Sublist.cons)), RetR.mk ?_⟩
  exact ⟨_, _, rfl, (PtH.of_is hb1 ho1).mono hle2, PtH.of_is hb2 ho2⟩

theorem values_seq (a : Option Addr) (c n : Nat) (l : List Int) (H : Hp) (b1 b2 : Nat) (hs : SlR (intR .i64) H a c l) (hl : l.length < 4611686018427387904) (hn : n ≤ 24) (h1 : PtH H b1 0 [.int .i64 (n : Nat)]) (h2 : PtH H b2 0 [.slice a l.length c]) : SeqC Try.prog 48 [.pointer (some ⟨b1, 0, none⟩), .pointer (some ⟨b2, 0, none⟩)] H [] (fun p : Pt => [.agg ⟨[.int .i64 p.X, .int .i64 p.Y]⟩]) (dealL l n) := by
  intro yv J K ownY hy hJ0
  refine FnC.intro (args := [yv, .pointer (some ⟨b1, 0, none⟩), .pointer (some ⟨b2, 0, none⟩)]) Try.func48 rfl rfl Try.ntmps48 rfl rfl rfl fun G rest => ?_
  refine XC.seq ?_
  refine XC.region ?_
  refine XO.assign rfl rfl ?_
  refine XO.nil ?_
  refine XC.seq2 ?_
  refine XC.block ?_
  refine XC.keep [4, 0, 1, 2] rfl ?_
  refine XC.loop (base := [(0, _), (1, _), (2, _)]) (fun k : Nat => [(4, .int .i64 ((k : Nat) + 1))]) (fun k Hl own => k ≤ n ∧ Le H Hl ∧ ∃ oy, oy ++ rest = own ∧ J (dealL l k) Hl oy) (fun k => n - k) 0 (prov_cons (rfl) (prov_cons (rfl) (prov_cons (rfl) (prov_cons (rfl) prov_nil)))) (List.Sublist.refl _) ⟨Nat.zero_le _, Le.refl _, ownY, rfl, hJ0⟩ ?_
  rintro k Hl _ hle ⟨hk, hH, oy, rfl, hJ⟩
  replace hs := hs.mono hH
  replace h1 := h1.mono hH
  replace h2 := h2.mono hH
  refine XC.seq ?_
  refine XC.seq ?_
  refine XC.region ?_
  refine XO.move rfl rfl ?_
  refine XO.loadH rfl h1 ty_3 rfl rfl rfl ?_
  refine XO.leq rfl rfl rfl ?_
  refine XO.move rfl rfl ?_
  refine XO.guardC rfl rfl rfl rfl (fun g2 => ?_) (fun g2 => ?_)
  · have g2p := of_decide_eq_true g2
    refine XO.move rfl rfl ?_
    refine XO.guardT rfl rfl (g2) rfl ?_
    refine XO.move rfl rfl ?_
    refine XO.guardT rfl rfl (g2) rfl ?_
    refine XO.loadH rfl h2 ty_29 rfl rfl rfl ?_
    refine XO.guardT rfl rfl (g2) rfl ?_
    refine XO.move rfl rfl ?_
    refine XO.guardT rfl rfl (g2) rfl ?_
    refine XO.callV rfl (value_fn _ _ _ _ _ (by assumption) (by omega)) rfl ?_
    refine XO.guardT rfl rfl (g2) rfl ?_
    refine XO.build bk_52 bf_52 ze_52 rfl rfl rfl ?_
    refine XO.guardT rfl rfl (g2) rfl ?_
    obtain ⟨post, hpost⟩ := deal_split (poly := l) (show k < n by omega)
    refine XO.callVal [] (ownF := oy) (rst := rest) rfl trivial rfl (hy _ _ post hpost Hl oy hH hJ) rfl rfl ?_
    rintro u HY oy2 hleY hR
    rw [← dealL_succ] at hR
    rcases hR with ⟨rfl, hJ2⟩ | ⟨rfl, hK2⟩
    · have hH2 := hH.trans hleY
      refine XO.pickT rfl (g2) rfl rfl ?_
      refine XO.nil ?_
      refine XC.seq2 ?_
      refine XC.condT rfl (rfl) ?_
      refine XC.skip ?_
      refine XC.seq2 ?_
      refine XC.seq ?_
      refine XC.block ?_
      refine XC.skip ?_
      refine blockN ?_
      refine XC.seq2 ?_
      refine XC.region ?_
      refine XO.move rfl rfl ?_
      refine XO.add rfl rfl (wrap_i64 (by omega) (by omega)) rfl ?_
      refine XO.assign rfl rfl ?_
      refine XO.nil ?_
      refine loop_next (k + 1) (by omega) (prov_cons (provI rfl (by omega)) (prov_cons (rfl) (prov_cons (rfl) (prov_cons (rfl) prov_nil)))) (⟨by omega, hH2, oy2, rfl, hJ2⟩) (by repeat (first | exact List.Sublist.refl _ | apply List.Sublist.cons)) (hle.trans hleY)
    · have hH2 := hH.trans hleY
      refine XO.pickT rfl (g2) rfl rfl ?_
      refine XO.nil ?_
      refine XC.seq2 ?_
      refine XC.condF rfl (rfl) ?_
      refine XC.exit ?_
      refine seqX_exit ?_
      refine loopX_exit ?_
      refine blockHit rfl ?_
      exact ⟨rfl, _, oy2, rfl, (by repeat (first | exact List.Sublist.refl _ | apply List.Sublist.cons)), RetR.mk ⟨rfl, [], oy2, rfl, .inr hK2⟩⟩
  · have g2p := of_decide_eq_false g2
    obtain rfl : k = n := by omega
    refine XO.guardF rfl rfl (g2) rfl rfl ?_
    refine XO.guardF rfl rfl (g2) rfl rfl ?_
    refine XO.guardF rfl rfl (g2) rfl rfl ?_
    refine XO.guardF rfl rfl (g2) rfl rfl ?_
    refine XO.guardF rfl rfl (g2) rfl rfl ?_
    refine XO.guardF rfl rfl (g2) rfl rfl ?_
    refine XO.pickF rfl (g2) rfl rfl ?_
    refine XO.nil ?_
    refine XC.seq2 ?_
    refine XC.condF rfl (rfl) ?_
    refine XC.exit ?_
    refine seqX_exit ?_
    refine loopX_exit ?_
    refine blockHit rfl ?_
    exact ⟨rfl, _, oy, rfl, (by repeat (first | exact List.Sublist.refl _ | apply List.Sublist.cons)), RetR.mk ⟨rfl, [], oy, rfl, .inl hJ⟩⟩

theorem appendSeq_fn (f : FuncId) (cap : List Value) (xs : List Pt) (H : Hp) (hseq : SeqC Try.prog f cap H [] (fun p : Pt => [.agg ⟨[.int .i64 p.X, .int .i64 p.Y]⟩]) xs) (hx : xs.length ≤ 1073741823) : FnC Try.prog 47 #[.slice none 0 0, .func (.func f) #[] cap.toArray] H [] (RetR fun v H _ => ∃ a c, v = .slice a xs.length c ∧ SlR ptR H a c xs) := by
  refine FnC.intro (args := [.slice none 0 0, .func (.func f) #[] cap.toArray]) Try.func47 rfl rfl Try.ntmps47 rfl rfl rfl fun G rest => ?_
  refine XC.seq ?_
  refine XC.region ?_
  refine XO.box rfl rfl rfl (fun b2 => ?_)
  refine XO.assign rfl rfl ?_
  refine XO.nil ?_
  refine XC.seq2 ?_
  refine XC.seq ?_
  refine XC.seq ?_
  refine XC.region ?_
  refine XO.move rfl rfl ?_
  refine XO.nil ?_
  refine XC.seq2 ?_
  refine XC.block ?_
  refine XC.keep [2, 6] rfl ?_
  refine XC.open0 0 ?_
  refine XC.rangeFunc (enc := fun p : Pt => [.agg ⟨[.int .i64 p.X, .int .i64 p.Y]⟩]) rfl (hseq) (fun _ => rfl) rfl rfl (fun pre Hl own => ∃ p a c, p :: (b2, .cells 42 [.slice a pre.length c]) :: rest = own ∧ Acc ptR 52 Hl p a c pre) (fun _ _ _ => False) (⟨(0, .nothing), none, 0, rfl, Acc.nil _ _ _ _⟩) (.inl rfl) ?_ ?_ ?_
  · rintro G lp hd1 hd2 hrec pre x post hxs Hl ownL hleL ⟨p, a, c, rfl, hacc⟩
    have hlen : pre.length + 1 ≤ xs.length := by rw [hxs]; simp
    refine XC.region ?_
    refine XO.alloc ze_52 rfl (fun b5 => ?_)
    refine XO.storeO 0 rfl rfl rfl rfl ty_52 rfl rfl rfl rfl rfl ?_
    refine XO.nil ?_
    refine assignN ?_
    refine XC.block ?_
    refine XC.region ?_
    refine XO.loadO 2 rfl rfl ty_42 rfl rfl rfl ?_
    refine XO.loadO 0 rfl rfl ty_52 rfl rfl rfl ?_
    refine XO.buildSlice rfl Try.underlying42 ty_52 ze_52 rfl rfl rfl (fun b10 => ?_)
    refine XO.publish 0 rfl rfl rfl (fun HP10 oP10 hleP10 hbP10 hoP10 => ?_)
    have hsl10 := SlR.lit (ρ := ptR) (l := [⟨_, _⟩]) hbP10 hoP10 (RowsR.one1 rfl)
    replace hacc := hacc.mono hleP10
    refine XO.appendA 1 rfl rfl hacc rfl rfl hsl10 rfl Try.underlying42 ty_52 ze_52 rfl by_52 (by simp; omega) rfl (fun p11 a11 c11 hacc11 => ?_)
    refine XO.storeO 2 rfl rfl rfl rfl ty_42 rfl rfl rfl rfl rfl ?_
    refine XO.nil ?_
    refine blockN ?_
    refine ⟨rfl, (p11 :: (b2, .cells 42 [.slice a11 (pre ++ [x]).length c11]) :: rest), (by repeat (first | exact List.Sublist.refl _ | apply List.Sublist.cons)), ?_⟩
    exact ⟨p11, a11, c11, rfl, hacc11⟩
  · rintro Hl ownL hleL ⟨p, a, c, rfl, hacc⟩
    refine blockN ?_
    refine XC.seq2 ?_
    refine XC.seq ?_
    refine XC.region ?_
    refine XO.loadO 1 rfl rfl ty_42 rfl rfl rfl ?_
    refine XO.publishA 0 rfl hacc rfl (fun HQ2 hleQ2 hsQ2 => ?_)
    refine XO.assign rfl rfl ?_
    refine XO.nil ?_
    refine XC.seq2 ?_
    refine XC.ret ?_
    refine ⟨rfl, _, [], rfl, (by repeat (first | exact List.Sublist.refl _ | apply List.Sublist.cons)), RetR.mk ?_⟩
    exact ⟨_, _, rfl, (by assumption)⟩
  · rintro c Hl ownL hleL hK
    exact hK.elim

theorem collect_fn (f : FuncId) (cap : List Value) (xs : List Pt) (H : Hp) (hseq : SeqC Try.prog f cap H [] (fun p : Pt => [.agg ⟨[.int .i64 p.X, .int .i64 p.Y]⟩]) xs) (hx : xs.length ≤ 1073741823) : FnC Try.prog 41 #[.func (.func f) #[] cap.toArray] H [] (RetR fun v H _ => ∃ a c, v = .slice a xs.length c ∧ SlR ptR H a c xs) := by
  refine FnC.intro (args := [.func (.func f) #[] cap.toArray]) Try.func41 rfl rfl Try.ntmps41 rfl rfl rfl fun G rest => ?_
  refine XC.seq ?_
  refine XC.region ?_
  refine XO.assign rfl rfl ?_
  refine XO.nil ?_
  refine XC.seq2 ?_
  refine XC.seq ?_
  refine XC.region ?_
  refine XO.move rfl rfl ?_
  refine XO.callH rfl (appendSeq_fn _ _ _ _ hseq hx) rfl ?_
  rintro _ HC4 hleC4 ⟨aC4, cC4, rfl, hsC4⟩
  refine XO.assign rfl rfl ?_
  refine XO.nil ?_
  refine XC.seq2 ?_
  refine XC.ret ?_
  refine ⟨rfl, _, [], rfl, (by repeat (first | exact List.Sublist.refl _ | apply List.Sublist.cons)), RetR.mk ?_⟩
  exact ⟨_, _, rfl, (by assumption)⟩

theorem deal_fn (s : Int) (a : Option Addr) (c : Nat) (l : List Int) (n : Int) (H : Hp) (hs : SlR (intR .i64) H a c l) : FnC Try.prog 31 #[.int .i64 s, .slice a l.length c, .int .i64 n] H [] (RetR fun v H _ => ∃ a c, v = .tuple #[.slice a (dealR s l n).length c, .int .i64 (dealE s l n)] ∧ SlR ptR H a c (dealR s l n)) := by
  refine FnC.intro (args := [.int .i64 s, .slice a l.length c, .int .i64 n]) Try.func31 rfl rfl Try.ntmps31 rfl rfl rfl fun G rest => ?_
  refine XC.seq ?_
  refine XC.region ?_
  refine XO.assign rfl rfl ?_
  refine XO.assign rfl rfl ?_
  refine XO.nil ?_
  refine XC.seq2 ?_
  refine XC.seq ?_
  refine XC.seq ?_
  refine XC.region ?_
  refine XO.move rfl rfl ?_
  refine XO.lss rfl rfl rfl ?_
  refine XO.move rfl rfl ?_
  refine XO.guardC rfl rfl rfl rfl (fun g1 => ?_) (fun g1 => ?_)
  · have g1p := of_decide_eq_false g1
    refine XO.move rfl rfl ?_
    refine XO.guardT rfl rfl (g1) rfl ?_
    refine XO.geq rfl rfl rfl ?_
    refine XO.pickF rfl (g1) rfl rfl ?_
    refine XO.move rfl rfl ?_
    refine XO.guardC rfl rfl rfl rfl (fun g2 => ?_) (fun g2 => ?_)
    · have g2p := of_decide_eq_false g2
      refine XO.move rfl rfl ?_
      refine XO.guardT rfl rfl (g2) rfl ?_
      refine XO.lss rfl rfl rfl ?_
      refine XO.pickF rfl (g2) rfl rfl ?_
      refine XO.move rfl rfl ?_
      refine XO.guardC rfl rfl rfl rfl (fun g3 => ?_) (fun g3 => ?_)
      · have g3p := of_decide_eq_false g3
        refine XO.move rfl rfl ?_
        refine XO.guardT rfl rfl (g3) rfl ?_
        refine XO.gtr rfl rfl rfl ?_
        refine XO.pickF rfl (g3) rfl rfl ?_
        refine XO.move rfl rfl ?_
        refine XO.guardC rfl rfl rfl rfl (fun g4 => ?_) (fun g4 => ?_)
        · have g4p := of_decide_eq_false g4
          refine XO.move rfl rfl ?_
          refine XO.guardT rfl rfl (g4) rfl ?_
          refine XO.lenS (ts := #[]) rfl Try.underlying29 rfl ?_
          refine XO.guardT rfl rfl (g4) rfl ?_
          refine XO.move rfl rfl ?_
          refine XO.guardT rfl rfl (g4) rfl ?_
          refine XO.geq rfl rfl rfl ?_
          refine XO.pickF rfl (g4) rfl rfl ?_
          refine XO.nil ?_
          refine XC.seq2 ?_
          refine XC.cond rfl (fun c0_5 => ?_) (fun c0_5 => ?_)
          · refine XC.seq ?_
            refine XC.region ?_
            refine XO.assign rfl rfl ?_
            refine XO.assign rfl rfl ?_
            refine XO.nil ?_
            refine XC.seq2 ?_
            refine XC.ret ?_
            refine seqX_ret ?_
            refine ⟨rfl, _, [], rfl, (by repeat (first | exact List.Sublist.refl _ | apply List.Sublist.cons)), RetR.mk ?_⟩
            exact deal_bad (s := s) (more := l) (n := n) (by unfold DB; omega)
          · obtain ⟨m, rfl⟩ : ∃ m : Nat, n = m := ⟨n.toNat, by omega⟩
            obtain ⟨e1, e2⟩ := deal_ok (s := s) (more := l) (n := m) (by unfold DB; omega)
            refine XC.skip ?_
            refine XC.seq2 ?_
            refine XC.seq ?_
            refine XC.region ?_
            refine XO.move rfl rfl ?_
            refine XO.buildRow (ρ := (intR .i64)) (l := [_]) rfl Try.underlying29 ty_3 ze_3 rfl rfl rfl (RowsR.one1 rfl) rfl (fun p30 a30 c30 hacc30 => ?_)
            refine XO.move rfl rfl ?_
            refine XO.appendA 0 rfl rfl hacc30 rfl rfl hs rfl Try.underlying29 ty_3 ze_3 rfl by_3 (by simp; omega) rfl (fun p32 a32 c32 hacc32 => ?_)
            refine XO.assign rfl rfl ?_
            refine XO.nil ?_
            refine XC.seq2 ?_
            refine XC.seq ?_
            refine XC.region ?_
            refine XO.move rfl rfl ?_
            refine XO.move rfl rfl ?_
            refine XO.publishA 0 rfl hacc32 rfl (fun HQ8 hleQ8 hsQ8 => ?_)
            replace hs := hs.mono hleQ8
            refine XO.callH rfl (values_fn _ _ _ _ _) rfl ?_
            rintro _ HV hleV ⟨bv1, bv2, rfl, hpv1, hpv2⟩
            replace hs := hs.mono hleV
            replace hsQ8 := hsQ8.mono hleV
            refine XO.callH rfl (collect_fn _ _ (dealL ([s] ++ l) m) _ (values_seq _ _ _ _ _ _ _ (by assumption) (by simp; omega) (by omega) hpv1 hpv2) (by rw [dealL_len]; omega)) rfl ?_
            rintro _ HC36 hleC36 ⟨aC36, cC36, rfl, hsC36⟩
            replace hs := hs.mono hleC36
            replace hsQ8 := hsQ8.mono hleC36
            replace hpv1 := hpv1.mono hleC36
            replace hpv2 := hpv2.mono hleC36
            refine XO.assign rfl rfl ?_
            refine XO.assign rfl rfl ?_
            refine XO.nil ?_
            refine XC.seq2 ?_
            refine XC.ret ?_
            refine ⟨rfl, _, [], rfl, (by repeat (first | exact List.Sublist.refl _ | apply List.Sublist.cons)), RetR.mk ?_⟩
            rw [e1, e2]
            exact ⟨_, _, rfl, (by assumption)⟩
        · have g4p := of_decide_eq_true g4
          refine XO.guardF rfl rfl (g4) rfl rfl ?_
          refine XO.guardF rfl rfl (g4) rfl rfl ?_
          refine XO.guardF rfl rfl (g4) rfl rfl ?_
          refine XO.pickT rfl (g4) rfl rfl ?_
          refine XO.nil ?_
          refine XC.seq2 ?_
          refine XC.condT rfl (rfl) ?_
          refine XC.seq ?_
          refine XC.region ?_
          refine XO.assign rfl rfl ?_
          refine XO.assign rfl rfl ?_
          refine XO.nil ?_
          refine XC.seq2 ?_
          refine XC.ret ?_
          refine seqX_ret ?_
          refine ⟨rfl, _, [], rfl, (by repeat (first | exact List.Sublist.refl _ | apply List.Sublist.cons)), RetR.mk ?_⟩
          exact deal_bad (s := s) (more := l) (n := n) (by unfold DB; omega)
      · have g3p := of_decide_eq_true g3
        refine XO.guardF rfl rfl (g3) rfl rfl ?_
        refine XO.pickT rfl (g3) rfl rfl ?_
        refine XO.move rfl rfl ?_
        refine XO.guardF rfl rfl (rfl) rfl rfl ?_
        refine XO.guardF rfl rfl (rfl) rfl rfl ?_
        refine XO.guardF rfl rfl (rfl) rfl rfl ?_
        refine XO.guardF rfl rfl (rfl) rfl rfl ?_
        refine XO.pickT rfl (rfl) rfl rfl ?_
        refine XO.nil ?_
        refine XC.seq2 ?_
        refine XC.condT rfl (rfl) ?_
        refine XC.seq ?_
        refine XC.region ?_
        refine XO.assign rfl rfl ?_
        refine XO.assign rfl rfl ?_
        refine XO.nil ?_
        refine XC.seq2 ?_
        refine XC.ret ?_
        refine seqX_ret ?_
        refine ⟨rfl, _, [], rfl, (by repeat (first | exact List.Sublist.refl _ | apply List.Sublist.cons)), RetR.mk ?_⟩
        exact deal_bad (s := s) (more := l) (n := n) (by unfold DB; omega)
    · have g2p := of_decide_eq_true g2
      refine XO.guardF rfl rfl (g2) rfl rfl ?_
      refine XO.pickT rfl (g2) rfl rfl ?_
      refine XO.move rfl rfl ?_
      refine XO.guardF rfl rfl (rfl) rfl rfl ?_
      refine XO.guardF rfl rfl (rfl) rfl rfl ?_
      refine XO.pickT rfl (rfl) rfl rfl ?_
      refine XO.move rfl rfl ?_
      refine XO.guardF rfl rfl (rfl) rfl rfl ?_
      refine XO.guardF rfl rfl (rfl) rfl rfl ?_
      refine XO.guardF rfl rfl (rfl) rfl rfl ?_
      refine XO.guardF rfl rfl (rfl) rfl rfl ?_
      refine XO.pickT rfl (rfl) rfl rfl ?_
      refine XO.nil ?_
      refine XC.seq2 ?_
      refine XC.condT rfl (rfl) ?_
      refine XC.seq ?_
      refine XC.region ?_
      refine XO.assign rfl rfl ?_
      refine XO.assign rfl rfl ?_
      refine XO.nil ?_
      refine XC.seq2 ?_
      refine XC.ret ?_
      refine seqX_ret ?_
      refine ⟨rfl, _, [], rfl, (by repeat (first | exact List.Sublist.refl _ | apply List.Sublist.cons)), RetR.mk ?_⟩
      exact deal_bad (s := s) (more := l) (n := n) (by unfold DB; omega)
  · have g1p := of_decide_eq_true g1
    refine XO.guardF rfl rfl (g1) rfl rfl ?_
    refine XO.pickT rfl (g1) rfl rfl ?_
    refine XO.move rfl rfl ?_
    refine XO.guardF rfl rfl (rfl) rfl rfl ?_
    refine XO.guardF rfl rfl (rfl) rfl rfl ?_
    refine XO.pickT rfl (rfl) rfl rfl ?_
    refine XO.move rfl rfl ?_
    refine XO.guardF rfl rfl (rfl) rfl rfl ?_
    refine XO.guardF rfl rfl (rfl) rfl rfl ?_
    refine XO.pickT rfl (rfl) rfl rfl ?_
    refine XO.move rfl rfl ?_
    refine XO.guardF rfl rfl (rfl) rfl rfl ?_
    refine XO.guardF rfl rfl (rfl) rfl rfl ?_
    refine XO.guardF rfl rfl (rfl) rfl rfl ?_
    refine XO.guardF rfl rfl (rfl) rfl rfl ?_
    refine XO.pickT rfl (rfl) rfl rfl ?_
    refine XO.nil ?_
    refine XC.seq2 ?_
    refine XC.condT rfl (rfl) ?_
    refine XC.seq ?_
    refine XC.region ?_
    refine XO.assign rfl rfl ?_
    refine XO.assign rfl rfl ?_
    refine XO.nil ?_
    refine XC.seq2 ?_
    refine XC.ret ?_
    refine seqX_ret ?_
    refine ⟨rfl, _, [], rfl, (by repeat (first | exact List.Sublist.refl _ | apply List.Sublist.cons)), RetR.mk ?_⟩
    exact deal_bad (s := s) (more := l) (n := n) (by unfold DB; omega)

theorem rdeal_fn (s : Int) (a : Option Addr) (c : Nat) (l : List Int) (n : Int) (H : Hp) (hs : SlR (intR .i64) H a c l) : FnC Try.prog 32 #[.int .i64 s, .slice a l.length c, .int .i64 n] H [] (RetR fun v H _ => ∃ a c, v = .tuple #[.slice a (dealR s l n).length c, .int .i64 (dealE s l n)] ∧ SlR ptR H a c (dealR s l n)) := by
  refine FnC.intro (args := [.int .i64 s, .slice a l.length c, .int .i64 n]) Try.func32 rfl rfl Try.ntmps32 rfl rfl rfl fun G rest => ?_
  refine XC.seq ?_
  refine XC.region ?_
  refine XO.assign rfl rfl ?_
  refine XO.assign rfl rfl ?_
  refine XO.nil ?_
  refine XC.seq2 ?_
  refine XC.seq ?_
  refine XC.seq ?_
  refine XC.region ?_
  refine XO.move rfl rfl ?_
  refine XO.lss rfl rfl rfl ?_
  refine XO.move rfl rfl ?_
  refine XO.guardC rfl rfl rfl rfl (fun g1 => ?_) (fun g1 => ?_)
  · have g1p := of_decide_eq_false g1
    refine XO.move rfl rfl ?_
    refine XO.guardT rfl rfl (g1) rfl ?_
    refine XO.geq rfl rfl rfl ?_
    refine XO.pickF rfl (g1) rfl rfl ?_
    refine XO.move rfl rfl ?_
    refine XO.guardC rfl rfl rfl rfl (fun g2 => ?_) (fun g2 => ?_)
    · have g2p := of_decide_eq_false g2
      refine XO.move rfl rfl ?_
      refine XO.guardT rfl rfl (g2) rfl ?_
      refine XO.lss rfl rfl rfl ?_
      refine XO.pickF rfl (g2) rfl rfl ?_
      refine XO.move rfl rfl ?_
      refine XO.guardC rfl rfl rfl rfl (fun g3 => ?_) (fun g3 => ?_)
      · have g3p := of_decide_eq_false g3
        refine XO.move rfl rfl ?_
        refine XO.guardT rfl rfl (g3) rfl ?_
        refine XO.gtr rfl rfl rfl ?_
        refine XO.pickF rfl (g3) rfl rfl ?_
        refine XO.move rfl rfl ?_
        refine XO.guardC rfl rfl rfl rfl (fun g4 => ?_) (fun g4 => ?_)
        · have g4p := of_decide_eq_false g4
          refine XO.move rfl rfl ?_
          refine XO.guardT rfl rfl (g4) rfl ?_
          refine XO.lenS (ts := #[]) rfl Try.underlying29 rfl ?_
          refine XO.guardT rfl rfl (g4) rfl ?_
          refine XO.move rfl rfl ?_
          refine XO.guardT rfl rfl (g4) rfl ?_
          refine XO.geq rfl rfl rfl ?_
          refine XO.pickF rfl (g4) rfl rfl ?_
          refine XO.nil ?_
          refine XC.seq2 ?_
          refine XC.cond rfl (fun c0_5 => ?_) (fun c0_5 => ?_)
          · refine XC.seq ?_
            refine XC.region ?_
            refine XO.assign rfl rfl ?_
            refine XO.assign rfl rfl ?_
            refine XO.nil ?_
            refine XC.seq2 ?_
            refine XC.ret ?_
            refine seqX_ret ?_
            refine ⟨rfl, _, [], rfl, (by repeat (first | exact List.Sublist.refl _ | apply List.Sublist.cons)), RetR.mk ?_⟩
            exact deal_bad (s := s) (more := l) (n := n) (by unfold DB; omega)
          · obtain ⟨m, rfl⟩ : ∃ m : Nat, n = m := ⟨n.toNat, by omega⟩
            obtain ⟨e1, e2⟩ := deal_ok (s := s) (more := l) (n := m) (by unfold DB; omega)
            refine XC.skip ?_
            refine XC.seq2 ?_
            refine XC.seq ?_
            refine XC.region ?_
            refine XO.move rfl rfl ?_
            refine XO.buildRow (ρ := (intR .i64)) (l := [_]) rfl Try.underlying29 ty_3 ze_3 rfl rfl rfl (RowsR.one1 rfl) rfl (fun p32 a32 c32 hacc32 => ?_)
            refine XO.move rfl rfl ?_
            refine XO.appendA 0 rfl rfl hacc32 rfl rfl hs rfl Try.underlying29 ty_3 ze_3 rfl by_3 (by simp; omega) rfl (fun p34 a34 c34 hacc34 => ?_)
            refine XO.publishA 0 rfl hacc34 rfl (fun HQ7 hleQ7 hsQ7 => ?_)
            replace hs := hs.mono hleQ7
            refine XO.assign rfl rfl ?_
            refine XO.nil ?_
            refine XC.seq2 ?_
            refine XC.seq ?_
            refine XC.region ?_
            refine XO.buildRow (ρ := ptR) (l := []) rfl Try.underlying42 ty_52 ze_52 rfl rfl rfl rfl rfl (fun p35 a35 c35 hacc35 => ?_)
            refine XO.assign rfl rfl ?_
            refine XO.nil ?_
            refine XC.seq2 ?_
            refine XC.seq ?_
            refine XC.seq ?_
            refine XC.region ?_
            refine XO.assign rfl rfl ?_
            refine XO.nil ?_
            refine XC.seq2 ?_
            refine XC.block ?_
            refine XC.keep [9, 10, 2, 8] rfl ?_
            refine XC.loop (base := [(2, _), (8, _)]) (fun ζ : Nat × ((Nat × SObj) × Option Addr × Nat) => [(9, .slice ζ.2.2.1 (dealL ([s] ++ l) (ζ.1)).length ζ.2.2.2), (10, .int .i64 ((ζ.1 : Nat) + 1))]) (fun ζ Hl own => ζ.1 ≤ m ∧ ζ.2.1 :: rest = own ∧ Acc ptR 52 Hl ζ.2.1 ζ.2.2.1 ζ.2.2.2 (dealL ([s] ++ l) (ζ.1))) (fun ζ => m - ζ.1) (0, (p35, a35, c35)) (prov_cons (rfl) (prov_cons (rfl) (prov_cons (rfl) (prov_cons (rfl) prov_nil)))) (by repeat (first | exact List.Sublist.refl _ | apply List.Sublist.cons_cons | apply List.Sublist.cons)) ⟨Nat.zero_le _, rfl, hacc35⟩ ?_
            rintro ⟨k, ⟨po, ao, co⟩⟩ Hl0 _ hle0 ⟨hkk, rfl, hacco⟩
            replace hs := hs.mono hle0
            replace hsQ7 := hsQ7.mono hle0
            try dsimp only at hkk hacco ⊢
            refine XC.seq ?_
            refine XC.seq ?_
            refine XC.region ?_
            refine XO.move rfl rfl ?_
            refine XO.move rfl rfl ?_
            refine XO.leq rfl rfl rfl ?_
            refine XO.nil ?_
            refine XC.seq2 ?_
            refine XC.cond rfl (fun c1_8 => ?_) (fun c1_8 => ?_)
            · refine XC.skip ?_
              refine XC.seq2 ?_
              refine XC.seq ?_
              refine XC.block ?_
              refine XC.region ?_
              refine XO.move rfl rfl ?_
              refine XO.move rfl rfl ?_
              refine XO.move rfl rfl ?_
              refine XO.move rfl rfl ?_
              refine XO.callV rfl (rvalue_fn _ _ _ _ _ hsQ7 (by simp; omega)) rfl ?_
              refine XO.build bk_52 bf_52 ze_52 rfl rfl rfl ?_
              refine XO.buildSlice rfl Try.underlying42 ty_52 ze_52 rfl rfl rfl (fun b47 => ?_)
              refine XO.publish 0 rfl rfl rfl (fun HP47 oP47 hleP47 hbP47 hoP47 => ?_)
              have hsl47 := SlR.lit (ρ := ptR) (l := [⟨_, _⟩]) hbP47 hoP47 (RowsR.one1 rfl)
              replace hs := hs.mono hleP47
              replace hsQ7 := hsQ7.mono hleP47
              replace hacco := hacco.mono hleP47
              replace hle0 := hle0.trans hleP47
              refine XO.appendA 0 rfl rfl hacco rfl rfl hsl47 rfl Try.underlying42 ty_52 ze_52 rfl by_52 (by rw [dealL_len]; simp; omega) rfl (fun p48 a48 c48 hacc48 => ?_)
              refine XO.assign rfl rfl ?_
              refine XO.nil ?_
              refine blockN ?_
              refine XC.seq2 ?_
              refine XC.region ?_
              refine XO.move rfl rfl ?_
              refine XO.add rfl rfl (wrap_i64 (by omega) (by omega)) rfl ?_
              refine XO.assign rfl rfl ?_
              refine XO.nil ?_
              refine loop_next ((k + 1, (p48, a48, c48))) (by show m - (k + 1) < m - k; omega) (prov_cons (by first | rfl | (rw [dealL_succR]; rfl)) (prov_cons (provI rfl (by omega)) (prov_cons (rfl) (prov_cons (rfl) prov_nil)))) (⟨by show k + 1 ≤ m; omega, rfl, by first | (exact hacc48) | (rw [dealL_succR]; exact hacc48)⟩) (by repeat (first | exact List.Sublist.refl _ | apply List.Sublist.cons_cons | apply List.Sublist.cons)) (hle0)
            · obtain rfl : k = m := by omega
              refine XC.exit ?_
              refine seqX_exit ?_
              refine loopX_exit ?_
              refine blockHit rfl ?_
              refine XC.seq2 ?_
              refine XC.seq ?_
              refine XC.region ?_
              refine XO.move rfl rfl ?_
              refine XO.publishA 0 rfl hacco rfl (fun HQ11 hleQ11 hsQ11 => ?_)
              replace hs := hs.mono hleQ11
              replace hsQ7 := hsQ7.mono hleQ11
              replace hle0 := hle0.trans hleQ11
              refine XO.assign rfl rfl ?_
              refine XO.assign rfl rfl ?_
              refine XO.nil ?_
              refine XC.seq2 ?_
              refine XC.ret ?_
              refine ⟨rfl, _, [], rfl, (by repeat (first | exact List.Sublist.refl _ | apply List.Sublist.cons)), RetR.mk ?_⟩
              rw [e1, e2]
              exact ⟨_, _, rfl, (by assumption)⟩
        · have g4p := of_decide_eq_true g4
          refine XO.guardF rfl rfl (g4) rfl rfl ?_
          refine XO.guardF rfl rfl (g4) rfl rfl ?_
          refine XO.guardF rfl rfl (g4) rfl rfl ?_
          refine XO.pickT rfl (g4) rfl rfl ?_
          refine XO.nil ?_
          refine XC.seq2 ?_
          refine XC.condT rfl (rfl) ?_
          refine XC.seq ?_
          refine XC.region ?_
          refine XO.assign rfl rfl ?_
          refine XO.assign rfl rfl ?_
          refine XO.nil ?_
          refine XC.seq2 ?_
          refine XC.ret ?_
          refine seqX_ret ?_
          refine ⟨rfl, _, [], rfl, (by repeat (first | exact List.Sublist.refl _ | apply List.Sublist.cons)), RetR.mk ?_⟩
          exact deal_bad (s := s) (more := l) (n := n) (by unfold DB; omega)
      · have g3p := of_decide_eq_true g3
        refine XO.guardF rfl rfl (g3) rfl rfl ?_
        refine XO.pickT rfl (g3) rfl rfl ?_
        refine XO.move rfl rfl ?_
        refine XO.guardF rfl rfl (rfl) rfl rfl ?_
        refine XO.guardF rfl rfl (rfl) rfl rfl ?_
        refine XO.guardF rfl rfl (rfl) rfl rfl ?_
        refine XO.guardF rfl rfl (rfl) rfl rfl ?_
        refine XO.pickT rfl (rfl) rfl rfl ?_
        refine XO.nil ?_
        refine XC.seq2 ?_
        refine XC.condT rfl (rfl) ?_
        refine XC.seq ?_
        refine XC.region ?_
        refine XO.assign rfl rfl ?_
        refine XO.assign rfl rfl ?_
        refine XO.nil ?_
        refine XC.seq2 ?_
        refine XC.ret ?_
        refine seqX_ret ?_
        refine ⟨rfl, _, [], rfl, (by repeat (first | exact List.Sublist.refl _ | apply List.Sublist.cons)), RetR.mk ?_⟩
        exact deal_bad (s := s) (more := l) (n := n) (by unfold DB; omega)
    · have g2p := of_decide_eq_true g2
      refine XO.guardF rfl rfl (g2) rfl rfl ?_
      refine XO.pickT rfl (g2) rfl rfl ?_
      refine XO.move rfl rfl ?_
      refine XO.guardF rfl rfl (rfl) rfl rfl ?_
      refine XO.guardF rfl rfl (rfl) rfl rfl ?_
      refine XO.pickT rfl (rfl) rfl rfl ?_
      refine XO.move rfl rfl ?_
      refine XO.guardF rfl rfl (rfl) rfl rfl ?_
      refine XO.guardF rfl rfl (rfl) rfl rfl ?_
      refine XO.guardF rfl rfl (rfl) rfl rfl ?_
      refine XO.guardF rfl rfl (rfl) rfl rfl ?_
      refine XO.pickT rfl (rfl) rfl rfl ?_
      refine XO.nil ?_
      refine XC.seq2 ?_
      refine XC.condT rfl (rfl) ?_
      refine XC.seq ?_
      refine XC.region ?_
      refine XO.assign rfl rfl ?_
      refine XO.assign rfl rfl ?_
      refine XO.nil ?_
      refine XC.seq2 ?_
      refine XC.ret ?_
      refine seqX_ret ?_
      refine ⟨rfl, _, [], rfl, (by repeat (first | exact List.Sublist.refl _ | apply List.Sublist.cons)), RetR.mk ?_⟩
      exact deal_bad (s := s) (more := l) (n := n) (by unfold DB; omega)
  · have g1p := of_decide_eq_true g1
    refine XO.guardF rfl rfl (g1) rfl rfl ?_
    refine XO.pickT rfl (g1) rfl rfl ?_
    refine XO.move rfl rfl ?_
    refine XO.guardF rfl rfl (rfl) rfl rfl ?_
    refine XO.guardF rfl rfl (rfl) rfl rfl ?_
    refine XO.pickT rfl (rfl) rfl rfl ?_
    refine XO.move rfl rfl ?_
    refine XO.guardF rfl rfl (rfl) rfl rfl ?_
    refine XO.guardF rfl rfl (rfl) rfl rfl ?_
    refine XO.pickT rfl (rfl) rfl rfl ?_
    refine XO.move rfl rfl ?_
    refine XO.guardF rfl rfl (rfl) rfl rfl ?_
    refine XO.guardF rfl rfl (rfl) rfl rfl ?_
    refine XO.guardF rfl rfl (rfl) rfl rfl ?_
    refine XO.guardF rfl rfl (rfl) rfl rfl ?_
    refine XO.pickT rfl (rfl) rfl rfl ?_
    refine XO.nil ?_
    refine XC.seq2 ?_
    refine XC.condT rfl (rfl) ?_
    refine XC.seq ?_
    refine XC.region ?_
    refine XO.assign rfl rfl ?_
    refine XO.assign rfl rfl ?_
    refine XO.nil ?_
    refine XC.seq2 ?_
    refine XC.ret ?_
    refine seqX_ret ?_
    refine ⟨rfl, _, [], rfl, (by repeat (first | exact List.Sublist.refl _ | apply List.Sublist.cons)), RetR.mk ?_⟩
    exact deal_bad (s := s) (more := l) (n := n) (by unfold DB; omega)

theorem odd_fn (p : Pt) (H : Hp) : FnC Try.prog 49 #[.agg ⟨[.int .i64 p.X, .int .i64 p.Y]⟩] H [] (RetR fun v _ _ => ∃ b : Bool, v = .bool b ∧ (b = true ↔ ¬ okPt p)) := by
  refine FnC.intro (args := [.agg ⟨[.int .i64 p.X, .int .i64 p.Y]⟩]) Try.func49 rfl rfl Try.ntmps49 rfl rfl rfl fun G rest => ?_
  refine XC.seq ?_
  refine XC.region ?_
  refine XO.box rfl rfl rfl (fun b1 => ?_)
  refine XO.assign rfl rfl ?_
  refine XO.nil ?_
  refine XC.seq2 ?_
  refine XC.seq ?_
  refine XC.region ?_
  refine XO.fieldAddr rfl fa_52_0 rfl ?_
  refine XO.loadO 0 rfl rfl ty_3 rfl rfl rfl ?_
  refine XO.lss rfl rfl rfl ?_
  refine XO.move rfl rfl ?_
  refine XO.guardC rfl rfl rfl rfl (fun g1 => ?_) (fun g1 => ?_)
  · have g1p := of_decide_eq_false g1
    refine XO.fieldAddr rfl fa_52_0 rfl ?_
    refine XO.guardT rfl rfl (g1) rfl ?_
    refine XO.loadO 0 rfl rfl ty_3 rfl rfl rfl ?_
    refine XO.guardT rfl rfl (g1) rfl ?_
    refine XO.gtr rfl rfl rfl ?_
    refine XO.pickF rfl (g1) rfl rfl ?_
    refine XO.move rfl rfl ?_
    refine XO.guardC rfl rfl rfl rfl (fun g2 => ?_) (fun g2 => ?_)
    · have g2p := of_decide_eq_false g2
      refine XO.fieldAddr rfl fa_52_1 rfl ?_
      refine XO.guardT rfl rfl (g2) rfl ?_
      refine XO.loadO 0 rfl rfl ty_3 rfl rfl rfl ?_
      refine XO.guardT rfl rfl (g2) rfl ?_
      refine XO.lss rfl rfl rfl ?_
      refine XO.pickF rfl (g2) rfl rfl ?_
      refine XO.move rfl rfl ?_
      refine XO.guardC rfl rfl rfl rfl (fun g3 => ?_) (fun g3 => ?_)
      · have g3p := of_decide_eq_false g3
        refine XO.fieldAddr rfl fa_52_1 rfl ?_
        refine XO.guardT rfl rfl (g3) rfl ?_
        refine XO.loadO 0 rfl rfl ty_3 rfl rfl rfl ?_
        refine XO.guardT rfl rfl (g3) rfl ?_
        refine XO.geq rfl rfl rfl ?_
        refine XO.pickF rfl (g3) rfl rfl ?_
        refine XO.assign rfl rfl ?_
        refine XO.nil ?_
        refine XC.seq2 ?_
        refine XC.ret ?_
        refine ⟨rfl, _, [], rfl, (by repeat (first | exact List.Sublist.refl _ | apply List.Sublist.cons)), RetR.mk ?_⟩
        exact ⟨_, rfl, by unfold okPt; first | (simp only [true_iff]; omega) | (rw [decide_eq_true_iff]; omega)⟩
      · have g3p := of_decide_eq_true g3
        refine XO.guardF rfl rfl (g3) rfl rfl ?_
        refine XO.guardF rfl rfl (g3) rfl rfl ?_
        refine XO.pickT rfl (g3) rfl rfl ?_
        refine XO.assign rfl rfl ?_
        refine XO.nil ?_
        refine XC.seq2 ?_
        refine XC.ret ?_
        refine ⟨rfl, _, [], rfl, (by repeat (first | exact List.Sublist.refl _ | apply List.Sublist.cons)), RetR.mk ?_⟩
        exact ⟨_, rfl, by unfold okPt; first | (simp only [true_iff]; omega) | (rw [decide_eq_true_iff]; omega)⟩
    · have g2p := of_decide_eq_true g2
      refine XO.guardF rfl rfl (g2) rfl rfl ?_
      refine XO.guardF rfl rfl (g2) rfl rfl ?_
      refine XO.pickT rfl (g2) rfl rfl ?_
      refine XO.move rfl rfl ?_
      refine XO.guardF rfl rfl (rfl) rfl rfl ?_
      refine XO.guardF rfl rfl (rfl) rfl rfl ?_
      refine XO.guardF rfl rfl (rfl) rfl rfl ?_
      refine XO.pickT rfl (rfl) rfl rfl ?_
      refine XO.assign rfl rfl ?_
      refine XO.nil ?_
      refine XC.seq2 ?_
      refine XC.ret ?_
      refine ⟨rfl, _, [], rfl, (by repeat (first | exact List.Sublist.refl _ | apply List.Sublist.cons)), RetR.mk ?_⟩
      exact ⟨_, rfl, by unfold okPt; first | (simp only [true_iff]; omega) | (rw [decide_eq_true_iff]; omega)⟩
  · have g1p := of_decide_eq_true g1
    refine XO.guardF rfl rfl (g1) rfl rfl ?_
    refine XO.guardF rfl rfl (g1) rfl rfl ?_
    refine XO.pickT rfl (g1) rfl rfl ?_
    refine XO.move rfl rfl ?_
    refine XO.guardF rfl rfl (rfl) rfl rfl ?_
    refine XO.guardF rfl rfl (rfl) rfl rfl ?_
    refine XO.guardF rfl rfl (rfl) rfl rfl ?_
    refine XO.pickT rfl (rfl) rfl rfl ?_
    refine XO.move rfl rfl ?_
    refine XO.guardF rfl rfl (rfl) rfl rfl ?_
    refine XO.guardF rfl rfl (rfl) rfl rfl ?_
    refine XO.guardF rfl rfl (rfl) rfl rfl ?_
    refine XO.pickT rfl (rfl) rfl rfl ?_
    refine XO.assign rfl rfl ?_
    refine XO.nil ?_
    refine XC.seq2 ?_
    refine XC.ret ?_
    refine ⟨rfl, _, [], rfl, (by repeat (first | exact List.Sublist.refl _ | apply List.Sublist.cons)), RetR.mk ?_⟩
    exact ⟨_, rfl, by unfold okPt; first | (simp only [true_iff]; omega) | (rw [decide_eq_true_iff]; omega)⟩

theorem index_fn (a : Option Addr) (c : Nat) (l : List Pt) (g : Value) (q : Pt → Prop) (H : Hp) (hs : SlR ptR H a c l) (hl : l.length < 4611686018427387904) (hg : ∀ x ∈ l, FnV Try.prog g [.agg ⟨[.int .i64 x.X, .int .i64 x.Y]⟩] H [] (RetR fun u _ _ => ∃ b : Bool, u = .bool b ∧ (b = true ↔ q x))) : FnC Try.prog 51 #[.slice a l.length c, g] H [] (RetR fun v _ _ => ∃ i : Int, v = .int .i64 i ∧ (0 ≤ i ↔ ∃ x ∈ l, q x)) := by
  refine FnC.intro (args := [.slice a l.length c, g]) Try.func51 rfl rfl Try.ntmps51 rfl rfl rfl fun G rest => ?_
  refine XC.seq ?_
  refine XC.region ?_
  refine XO.assign rfl rfl ?_
  refine XO.nil ?_
  refine XC.seq2 ?_
  refine XC.seq ?_
  refine XC.seq ?_
  refine XC.region ?_
  refine XO.move rfl rfl ?_
  refine XO.lenS (ts := #[]) rfl Try.underlying42 rfl ?_
  refine XO.move rfl rfl ?_
  refine XO.nil ?_
  refine XC.seq2 ?_
  refine XC.block ?_
  refine XC.keep [8, 0, 1, 7] rfl ?_
  refine XC.loop (base := [(0, _), (1, _), (7, _)]) (fun ζ : Nat => [(8, .int .i64 (ζ : Nat))]) (fun ζ Hl own => ζ ≤ l.length ∧ rest = own ∧ (∀ x ∈ l.take ζ, ¬ q x) ∧ (H = Hl)) (fun ζ => l.length - ζ) 0 (prov_cons (rfl) (prov_cons (rfl) (prov_cons (rfl) (prov_cons (rfl) prov_nil)))) (by repeat (first | exact List.Sublist.refl _ | apply List.Sublist.cons_cons | apply List.Sublist.cons)) ⟨Nat.zero_le _, rfl, by simp, rfl⟩ ?_
  rintro k Hl0 _ hle0 ⟨hkk, rfl, hno, hHl⟩
  replace hs := hs.mono hle0
  try dsimp only at ⊢
  subst hHl
  refine XC.seq ?_
  refine XC.region ?_
  refine XO.lss rfl rfl rfl ?_
  refine XO.nil ?_
  refine XC.seq2 ?_
  refine XC.seq ?_
  refine XC.cond rfl (fun c0_1 => ?_) (fun c0_1 => ?_)
  · refine XC.skip ?_
    refine XC.seq2 ?_
    refine XC.seq ?_
    refine XC.block ?_
    refine XC.seq ?_
    refine XC.region ?_
    refine XO.move rfl rfl ?_
    refine XO.assign rfl rfl ?_
    refine XO.nil ?_
    refine XC.seq2 ?_
    refine XC.seq ?_
    refine XC.region ?_
    refine XO.move rfl rfl ?_
    refine XO.move rfl rfl ?_
    refine XO.move rfl rfl ?_
    refine XO.indexN rfl hs rfl Try.underlying42 ty_52 (by omega) rfl ?_
    rintro eb14 eo14 _ x14 hx14 rfl hp14
    refine XO.loadH rfl (by assumption) ty_52 rfl rfl rfl ?_
    refine XO.callValK rfl trivial rfl (hg x14 (List.mem_of_getElem? hx14)) rfl ?_
    rintro _ ⟨bq, rfl, hq⟩
    refine XO.nil ?_
    refine XC.seq2 ?_
    refine XC.condB rfl (fun c1_4 => ?_) (fun c1_4 => ?_)
    · refine XC.seq ?_
      refine XC.region ?_
      refine XO.move rfl rfl ?_
      refine XO.assign rfl rfl ?_
      refine XO.nil ?_
      refine XC.seq2 ?_
      refine XC.ret ?_
      refine blockR ?_
      refine seqX_ret ?_
      refine loopX_ret ?_
      refine blockR ?_
      refine seqX_ret ?_
      refine ⟨rfl, _, [], rfl, (by repeat (first | exact List.Sublist.refl _ | apply List.Sublist.cons)), RetR.mk ?_⟩
      exact ⟨_, rfl, ⟨fun _ => ⟨x14, List.mem_of_getElem? hx14, hq.1 (by assumption)⟩, fun _ => by omega⟩⟩
    · refine XC.skip ?_
      refine blockN ?_
      refine XC.seq2 ?_
      refine XC.region ?_
      refine XO.add rfl rfl (wrap_i64 (by omega) (by omega)) rfl ?_
      refine XO.move rfl rfl ?_
      refine XO.nil ?_
      refine loop_next (k + 1) (by show l.length - (k + 1) < l.length - k; omega) (prov_cons (rfl) (prov_cons (rfl) (prov_cons (rfl) (prov_cons (rfl) prov_nil)))) (⟨by show k + 1 ≤ l.length; omega, rfl, all_snoc hno hx14 (fun h => by simp_all), rfl⟩) (by repeat (first | exact List.Sublist.refl _ | apply List.Sublist.cons_cons | apply List.Sublist.cons)) (hle0)
  · obtain rfl : k = l.length := by omega
    rw [List.take_length] at hno
    refine XC.exit ?_
    refine seqX_exit ?_
    refine loopX_exit ?_
    refine blockHit rfl ?_
    refine XC.seq2 ?_
    refine XC.seq ?_
    refine XC.region ?_
    refine XO.assign rfl rfl ?_
    refine XO.nil ?_
    refine XC.seq2 ?_
    refine XC.ret ?_
    refine ⟨rfl, _, [], rfl, (by repeat (first | exact List.Sublist.refl _ | apply List.Sublist.cons)), RetR.mk ?_⟩
    exact ⟨-1, rfl, ⟨fun h => absurd h (by decide), fun ⟨x, hx, hq⟩ => absurd hq (hno x hx)⟩⟩

theorem contains_fn (a : Option Addr) (c : Nat) (l : List Pt) (g : Value) (q : Pt → Prop) (H : Hp) (hs : SlR ptR H a c l) (hl : l.length < 4611686018427387904) (hg : ∀ x ∈ l, FnV Try.prog g [.agg ⟨[.int .i64 x.X, .int .i64 x.Y]⟩] H [] (RetR fun u _ _ => ∃ b : Bool, u = .bool b ∧ (b = true ↔ q x))) : FnC Try.prog 50 #[.slice a l.length c, g] H [] (RetR fun v _ _ => ∃ b : Bool, v = .bool b ∧ (b = true ↔ ∃ x ∈ l, q x)) := by
  refine FnC.intro (args := [.slice a l.length c, g]) Try.func50 rfl rfl Try.ntmps50 rfl rfl rfl fun G rest => ?_
  refine XC.seq ?_
  refine XC.region ?_
  refine XO.assign rfl rfl ?_
  refine XO.nil ?_
  refine XC.seq2 ?_
  refine XC.seq ?_
  refine XC.region ?_
  refine XO.move rfl rfl ?_
  refine XO.move rfl rfl ?_
  refine XO.callK rfl (index_fn _ _ _ _ _ _ hs hl hg) rfl ?_
  rintro _ ⟨iX, rfl, hX⟩
  refine XO.geq rfl rfl rfl ?_
  refine XO.assign rfl rfl ?_
  refine XO.nil ?_
  refine XC.seq2 ?_
  refine XC.ret ?_
  refine ⟨rfl, _, [], rfl, (by repeat (first | exact List.Sublist.refl _ | apply List.Sublist.cons)), RetR.mk ?_⟩
  exact ⟨_, rfl, by rw [decide_eq_true_iff, ← hX]⟩

theorem formed_fn (a0 : Option Addr) (c0 : Nat) (l0 : List Pt) (H : Hp) (hs0 : SlR ptR H a0 c0 l0) (hl : l0.length < 4611686018427387904) : FnC Try.prog 43 #[.slice a0 l0.length c0] H [] (RetR fun v _ _ => ∃ b : Bool, v = .bool b ∧ (b = true ↔ Fm l0)) := by
  refine FnC.intro (args := [.slice a0 l0.length c0]) Try.func43 rfl rfl Try.ntmps43 rfl rfl rfl fun G rest => ?_
  refine XC.seq ?_
  refine XC.region ?_
  refine XO.assign rfl rfl ?_
  refine XO.nil ?_
  refine XC.seq2 ?_
  refine XC.scope ?_
  refine XC.seq ?_
  refine XC.region ?_
  refine XO.assign rfl rfl ?_
  refine XO.nil ?_
  refine XC.seq2 ?_
  refine XC.seq ?_
  refine XC.seq ?_
  refine XC.region ?_
  refine XO.move rfl rfl ?_
  refine XO.lenS (ts := #[]) rfl Try.underlying42 rfl ?_
  refine XO.eql rfl rfl rfl ?_
  refine XO.move rfl rfl ?_
  refine XO.guardC rfl rfl rfl rfl (fun g1 => ?_) (fun g1 => ?_)
  · have g1p := of_decide_eq_false g1
    refine XO.move rfl rfl ?_
    refine XO.guardT rfl rfl (g1) rfl ?_
    refine XO.move rfl rfl ?_
    refine XO.guardT rfl rfl (g1) rfl ?_
    refine XO.callK rfl (contains_fn _ _ _ _ (fun x => ¬ okPt x) _ hs0 hl (fun x _ => FnV.of_fn (cap := []) (odd_fn x _))) rfl ?_
    rintro _ ⟨bC, rfl, hC⟩
    refine XO.pickF rfl (g1) rfl rfl ?_
    refine XO.nil ?_
    refine XC.seq2 ?_
    refine XC.condB rfl (fun c0_3 => ?_) (fun c0_3 => ?_)
    · refine XC.seq ?_
      refine XC.region ?_
      refine XO.assign rfl rfl ?_
      refine XO.nil ?_
      refine XC.seq2 ?_
      refine XC.ret ?_
      refine seqX_ret ?_
      refine scopeX_ret ?_
      refine ⟨rfl, _, [], rfl, (by repeat (first | exact List.Sublist.refl _ | apply List.Sublist.cons)), RetR.mk ?_⟩
      exact ⟨false, rfl, by simp only [Bool.false_eq_true, false_iff]; exact not_fm_ex (hC.1 (by assumption))⟩
    · have hok : ∀ p ∈ l0, okPt p := fun p hp => Decidable.by_contra fun hn => by simp_all
      refine XC.skip ?_
      refine XC.seq2 ?_
      refine XC.seq ?_
      refine XC.region ?_
      refine XO.makeRow (ρ := boolR) (n := 25) false rfl rfl Try.underlying72 ty_4 ze_4 rfl by_4 (by first | decide | omega) rfl rfl (fun p15 c15 hacc15 => ?_)
      refine XO.assign rfl rfl ?_
      refine XO.nil ?_
      refine XC.seq2 ?_
      refine XC.seq ?_
      refine XC.label ?_
      refine XC.seq2 ?_
      refine XC.seq ?_
      refine XC.seq ?_
      refine XC.region ?_
      refine XO.move rfl rfl ?_
      refine XO.lenS (ts := #[]) rfl Try.underlying42 rfl ?_
      refine XO.move rfl rfl ?_
      refine XO.nil ?_
      refine XC.seq2 ?_
      refine XC.block ?_
      refine XC.keep [18, 4, 16, 17] rfl ?_
      refine XC.loop (base := [(4, _), (16, _), (17, _)]) (fun ζ : Nat × (Nat × SObj) => [(18, .int .i64 (ζ.1 : Nat))]) (fun ζ Hl own => ζ.1 ≤ l0.length ∧ ζ.2 :: rest = own ∧ Acc boolR 4 Hl ζ.2 (some ⟨p15.1, 0, none⟩) c15 (metF (l0.take ζ.1)) ∧ (((l0.take ζ.1).map Pt.X).Nodup)) (fun ζ => l0.length - ζ.1) (0, p15) (prov_cons (rfl) (prov_cons (rfl) (prov_cons (rfl) (prov_cons (rfl) prov_nil)))) (by repeat (first | exact List.Sublist.refl _ | apply List.Sublist.cons_cons | apply List.Sublist.cons)) ⟨Nat.zero_le _, rfl, hacc15, by simp⟩ ?_
      rintro ⟨k, pm⟩ Hl0 _ hle0 ⟨hkk, rfl, haccm, hnd⟩
      replace hs0 := hs0.mono hle0
      replace hacc15 := hacc15.mono hle0
      try dsimp only at hkk haccm hnd ⊢
      refine XC.seq ?_
      refine XC.region ?_
      refine XO.lss rfl rfl rfl ?_
      refine XO.nil ?_
      refine XC.seq2 ?_
      refine XC.seq ?_
      refine XC.cond rfl (fun c1_4 => ?_) (fun c1_4 => ?_)
      · refine XC.skip ?_
        refine XC.seq2 ?_
        refine XC.seq ?_
        refine XC.block ?_
        refine XC.seq ?_
        refine XC.region ?_
        refine XO.indexN rfl hs0 rfl Try.underlying42 ty_52 (by omega) rfl ?_
        rintro eb20 eo20 _ x20 hx20 rfl hp20
        have hok20 := hok x20 (List.mem_of_getElem? hx20)
        have hokB : 1 ≤ x20.X ∧ x20.X ≤ 24 := ⟨hok20.1, hok20.2.1⟩
        refine XO.loadH rfl (by assumption) ty_52 rfl rfl rfl ?_
        refine XO.alloc ze_52 rfl (fun b6 => ?_)
        refine XO.storeO 0 rfl rfl rfl rfl ty_52 rfl rfl rfl rfl rfl ?_
        refine XO.nil ?_
        refine XC.seq2 ?_
        refine XC.seq ?_
        refine XC.seq ?_
        refine XC.region ?_
        refine XO.move rfl rfl ?_
        refine XO.fieldAddr rfl fa_52_0 rfl ?_
        refine XO.loadO 0 rfl rfl ty_3 rfl rfl rfl ?_
        refine XO.indexE rfl rfl Try.underlying72 ty_4 (by omega) (by omega) rfl ?_
        refine XO.loadA 1 rfl rfl haccm (met_get (fun p hp => hok p (List.mem_of_mem_take hp)) hok20) ty_4 rfl (fun cs7 v7 hR7 hv7 => ?_) (fun cs7 hR7 => ⟨_, by cases hR7; rfl⟩)
        cases hR7; cases hv7
        refine XO.not rfl rfl ?_
        refine XO.nil ?_
        refine XC.seq2 ?_
        refine XC.cond rfl (fun c2_8 => ?_) (fun c2_8 => ?_)
        · refine XC.seq ?_
          refine XC.region ?_
          refine XO.move rfl rfl ?_
          refine XO.fieldAddr rfl fa_52_0 rfl ?_
          refine XO.loadO 0 rfl rfl ty_3 rfl rfl rfl ?_
          refine XO.indexE rfl rfl Try.underlying72 ty_4 (by omega) (by omega) rfl ?_
          refine XO.storeA 1 rfl rfl rfl haccm (by rw [met_len]; omega) rfl rfl ty_4 rfl (fun ps10 haccs10 => ?_)
          refine XO.nil ?_
          refine XC.seq2 ?_
          refine XC.exit ?_
          refine seqX_exit ?_
          refine blockHit rfl ?_
          refine XC.seq2 ?_
          refine XC.region ?_
          refine XO.add rfl rfl (wrap_i64 (by omega) (by omega)) rfl ?_
          refine XO.move rfl rfl ?_
          refine XO.nil ?_
          refine loop_next ((k + 1, ps10)) (by show l0.length - (k + 1) < l0.length - k; omega) (prov_cons (rfl) (prov_cons (rfl) (prov_cons (rfl) (prov_cons (rfl) prov_nil)))) (⟨by show k + 1 ≤ l0.length; omega, rfl, by first | (exact haccs10) | (rw [met_succ hx20]; exact haccs10), nodup_snoc hx20 hnd (by assumption)⟩) (by repeat (first | exact List.Sublist.refl _ | apply List.Sublist.cons_cons | apply List.Sublist.cons)) (hle0)
        · refine XC.skip ?_
          refine XC.seq2 ?_
          refine XC.seq ?_
          refine XC.region ?_
          refine XO.assign rfl rfl ?_
          refine XO.nil ?_
          refine XC.seq2 ?_
          refine XC.ret ?_
          refine blockR ?_
          refine seqX_ret ?_
          refine loopX_ret ?_
          refine blockR ?_
          refine seqX_ret ?_
          refine scopeX_ret ?_
          refine ⟨rfl, _, [], rfl, (by repeat (first | exact List.Sublist.refl _ | apply List.Sublist.cons)), RetR.mk ?_⟩
          exact ⟨false, rfl, by simp only [Bool.false_eq_true, false_iff]; exact not_fm_dup hx20 (Decidable.not_not.1 (by assumption))⟩
      · obtain rfl : k = l0.length := by omega
        rw [List.take_length] at hnd
        refine XC.exit ?_
        refine seqX_exit ?_
        refine loopX_exit ?_
        refine blockHit rfl ?_
        refine XC.seq2 ?_
        refine XC.seq ?_
        refine XC.region ?_
        refine XO.assign rfl rfl ?_
        refine XO.nil ?_
        refine XC.seq2 ?_
        refine XC.ret ?_
        refine scopeX_ret ?_
        refine ⟨rfl, _, [], rfl, (by repeat (first | exact List.Sublist.refl _ | apply List.Sublist.cons)), RetR.mk ?_⟩
        exact ⟨true, rfl, by simp only [true_iff]; exact ⟨by omega, okPts_len hok hnd, hok, hnd⟩⟩
  · have g1p := of_decide_eq_true g1
    refine XO.guardF rfl rfl (g1) rfl rfl ?_
    refine XO.guardF rfl rfl (g1) rfl rfl ?_
    refine XO.pickT rfl (g1) rfl rfl ?_
    refine XO.nil ?_
    refine XC.seq2 ?_
    refine XC.condT rfl (rfl) ?_
    refine XC.seq ?_
    refine XC.region ?_
    refine XO.assign rfl rfl ?_
    refine XO.nil ?_
    refine XC.seq2 ?_
    refine XC.ret ?_
    refine seqX_ret ?_
    refine scopeX_ret ?_
    refine ⟨rfl, _, [], rfl, (by repeat (first | exact List.Sublist.refl _ | apply List.Sublist.cons)), RetR.mk ?_⟩
    exact ⟨false, rfl, by simp only [Bool.false_eq_true, false_iff]; intro hF; have := hF.1; omega⟩

theorem recover_fn (a0 : Option Addr) (c0 : Nat) (l0 : List Pt) (H : Hp) (hs0 : SlR ptR H a0 c0 l0) (hl : l0.length < 4611686018427387904) : FnC Try.prog 33 #[.slice a0 l0.length c0] H [] (RetR fun v _ _ => v = .tuple #[.int .i64 (recV l0).1, .int .i64 (recV l0).2]) := by
  refine FnC.intro (args := [.slice a0 l0.length c0]) Try.func33 rfl rfl Try.ntmps33 rfl rfl rfl fun G rest => ?_
  refine XC.seq ?_
  refine XC.region ?_
  refine XO.assign rfl rfl ?_
  refine XO.assign rfl rfl ?_
  refine XO.nil ?_
  refine XC.seq2 ?_
  refine XC.seq ?_
  refine XC.seq ?_
  refine XC.region ?_
  refine XO.move rfl rfl ?_
  refine XO.callK rfl (formed_fn _ _ _ _ (by assumption) (by omega)) rfl ?_
  rintro _ ⟨bF, rfl, hF⟩
  refine XO.notB rfl rfl ?_
  refine XO.nil ?_
  refine XC.seq2 ?_
  refine XC.condB rfl (fun c0_2 => ?_) (fun c0_2 => ?_)
  · have hFm : ¬ Fm l0 := fun h => by have := hF.2 h; simp_all
    refine XC.seq ?_
    refine XC.region ?_
    refine XO.assign rfl rfl ?_
    refine XO.assign rfl rfl ?_
    refine XO.nil ?_
    refine XC.seq2 ?_
    refine XC.ret ?_
    refine seqX_ret ?_
    refine ⟨rfl, _, [], rfl, (by repeat (first | exact List.Sublist.refl _ | apply List.Sublist.cons)), RetR.mk ?_⟩
    show Value.tuple _ = _; rw [recV, if_neg hFm]
  · have hFm : Fm l0 := hF.1 (by simp_all)
    have hl24 : l0.length ≤ 24 := hFm.2.1
    refine XC.skip ?_
    refine XC.seq2 ?_
    refine XC.seq ?_
    refine XC.region ?_
    refine XO.assign rfl rfl ?_
    refine XO.nil ?_
    refine XC.seq2 ?_
    refine XC.seq ?_
    refine XC.seq ?_
    refine XC.region ?_
    refine XO.move rfl rfl ?_
    refine XO.lenS (ts := #[]) rfl Try.underlying42 rfl ?_
    refine XO.move rfl rfl ?_
    refine XO.nil ?_
    refine XC.seq2 ?_
    refine XC.block ?_
    refine XC.keep [4, 12, 10, 11] rfl ?_
    refine XC.open0 0 ?_
    refine XC.loop (base := [(10, _), (11, _)]) (fun ζ : Nat × ((Nat × SObj) × Option Addr × Nat) => [(4, .slice ζ.2.2.1 (l0.take ζ.1).length ζ.2.2.2), (12, .int .i64 (ζ.1 : Nat))]) (fun ζ Hl own => ζ.1 ≤ l0.length ∧ ζ.2.1 :: rest = own ∧ Acc ptR 38 Hl ζ.2.1 ζ.2.2.1 ζ.2.2.2 (l0.take ζ.1)) (fun ζ => l0.length - ζ.1) (0, ((0, .nothing), none, 0)) (prov_cons (rfl) (prov_cons (rfl) (prov_cons (rfl) (prov_cons (rfl) prov_nil)))) (by repeat (first | exact List.Sublist.refl _ | apply List.Sublist.cons_cons | apply List.Sublist.cons)) ⟨Nat.zero_le _, rfl, Acc.nil _ _ _ _⟩ ?_
    rintro ⟨k, ⟨po, ao, co⟩⟩ Hl0 _ hle0 ⟨hkk, rfl, hacco⟩
    replace hs0 := hs0.mono hle0
    try dsimp only at hkk hacco ⊢
    refine XC.seq ?_
    refine XC.region ?_
    refine XO.lss rfl rfl rfl ?_
    refine XO.nil ?_
    refine XC.seq2 ?_
    refine XC.seq ?_
    refine XC.cond rfl (fun c1_3 => ?_) (fun c1_3 => ?_)
    · refine XC.skip ?_
      refine XC.seq2 ?_
      refine XC.seq ?_
      refine XC.block ?_
      refine XC.seq ?_
      refine XC.region ?_
      refine XO.indexN rfl hs0 rfl Try.underlying42 ty_52 (by omega) rfl ?_
      rintro eb14 eo14 _ x14 hx14 rfl hp14
      refine XO.loadH rfl (by assumption) ty_52 rfl rfl rfl ?_
      refine XO.alloc ze_52 rfl (fun b6 => ?_)
      refine XO.storeO 0 rfl rfl rfl rfl ty_52 rfl rfl rfl rfl rfl ?_
      refine XO.nil ?_
      refine XC.seq2 ?_
      refine XC.region ?_
      refine XO.move rfl rfl ?_
      refine XO.fieldAddr rfl fa_52_0 rfl ?_
      refine XO.loadO 0 rfl rfl ty_3 rfl rfl rfl ?_
      refine XO.fieldAddr rfl fa_52_1 rfl ?_
      refine XO.loadO 0 rfl rfl ty_3 rfl rfl rfl ?_
      refine XO.build bk_38 bf_38 ze_38 rfl rfl rfl ?_
      refine XO.buildSlice rfl Try.underlying30 ty_38 ze_38 rfl rfl rfl (fun b22 => ?_)
      refine XO.publish 0 rfl rfl rfl (fun HP22 oP22 hleP22 hbP22 hoP22 => ?_)
      have hsl22 := SlR.lit (ρ := ptR) (l := [⟨_, _⟩]) hbP22 hoP22 (RowsR.one1 rfl)
      replace hs0 := hs0.mono hleP22
      replace hacco := hacco.mono hleP22
      replace hp14 := hp14.mono hleP22
      replace hle0 := hle0.trans hleP22
      refine XO.appendA 1 rfl rfl hacco rfl rfl hsl22 rfl Try.underlying30 ty_38 ze_38 rfl by_38 (by simp only [List.length_take]; simp; omega) rfl (fun p23 a23 c23 hacc23 => ?_)
      refine XO.assign rfl rfl ?_
      refine XO.nil ?_
      refine blockN ?_
      refine XC.seq2 ?_
      refine XC.region ?_
      refine XO.add rfl rfl (wrap_i64 (by omega) (by omega)) rfl ?_
      refine XO.move rfl rfl ?_
      refine XO.nil ?_
      refine loop_next ((k + 1, (p23, a23, c23))) (by show l0.length - (k + 1) < l0.length - k; omega) (prov_cons (by first | rfl | (rw [take_snoc hx14]; rfl)) (prov_cons (rfl) (prov_cons (rfl) (prov_cons (rfl) prov_nil)))) (⟨by show k + 1 ≤ l0.length; omega, rfl, by first | (exact hacc23) | (rw [take_snoc hx14]; exact hacc23)⟩) (by repeat (first | exact List.Sublist.refl _ | apply List.Sublist.cons_cons | apply List.Sublist.cons)) (hle0)
    · obtain rfl : k = l0.length := by omega
      simp only [List.take_length] at hacco ⊢
      refine XC.exit ?_
      refine seqX_exit ?_
      refine loopX_exit ?_
      refine blockHit rfl ?_
      refine XC.seq2 ?_
      refine XC.seq ?_
      refine XC.region ?_
      refine XO.move rfl rfl ?_
      refine XO.publishA 0 rfl hacco rfl (fun HQ7 hleQ7 hsQ7 => ?_)
      replace hs0 := hs0.mono hleQ7
      replace hle0 := hle0.trans hleQ7
      refine XO.callV rfl (at_fn _ _ l0 _ _ hsQ7) rfl ?_
      refine XO.extract rfl rfl rfl ?_
      refine XO.extract rfl rfl rfl ?_
      refine XO.assign rfl rfl ?_
      refine XO.assign rfl rfl ?_
      refine XO.nil ?_
      refine XC.seq2 ?_
      refine XC.ret ?_
      refine ⟨rfl, _, [], rfl, (by repeat (first | exact List.Sublist.refl _ | apply List.Sublist.cons)), RetR.mk ?_⟩
      show Value.tuple _ = _; rw [recV, if_pos hFm]

theorem points_fn (a0 : Option Addr) (c0 : Nat) (l0 : List Pt) (H : Hp) (hs0 : SlR ptR H a0 c0 l0) (hl : l0.length < 1073741823) : FnC Try.prog 45 #[.slice a0 l0.length c0] H [] (RetR fun v H _ => ∃ a c, v = .slice a l0.length c ∧ SlR ptR H a c l0) := by
  refine FnC.intro (args := [.slice a0 l0.length c0]) Try.func45 rfl rfl Try.ntmps45 rfl rfl rfl fun G rest => ?_
  refine XC.seq ?_
  refine XC.region ?_
  refine XO.assign rfl rfl ?_
  refine XO.nil ?_
  refine XC.seq2 ?_
  refine XC.seq ?_
  refine XC.region ?_
  refine XO.buildRow (ρ := ptR) (l := []) rfl Try.underlying30 ty_38 ze_38 rfl rfl rfl rfl rfl (fun p5 a5 c5 hacc5 => ?_)
  refine XO.assign rfl rfl ?_
  refine XO.nil ?_
  refine XC.seq2 ?_
  refine XC.seq ?_
  refine XC.seq ?_
  refine XC.region ?_
  refine XO.assign rfl rfl ?_
  refine XO.nil ?_
  refine XC.seq2 ?_
  refine XC.block ?_
  refine XC.keep [3, 4, 0] rfl ?_
  refine XC.loop (base := [(0, _)]) (fun ζ : Nat × ((Nat × SObj) × Option Addr × Nat) => [(3, .slice ζ.2.2.1 (l0.take ζ.1).length ζ.2.2.2), (4, .int .i64 (ζ.1 : Nat))]) (fun ζ Hl own => ζ.1 ≤ l0.length ∧ ζ.2.1 :: rest = own ∧ Acc ptR 38 Hl ζ.2.1 ζ.2.2.1 ζ.2.2.2 (l0.take ζ.1)) (fun ζ => l0.length - ζ.1) (0, (p5, a5, c5)) (prov_cons (rfl) (prov_cons (rfl) (prov_cons (rfl) prov_nil))) (by repeat (first | exact List.Sublist.refl _ | apply List.Sublist.cons_cons | apply List.Sublist.cons)) ⟨Nat.zero_le _, rfl, hacc5⟩ ?_
  rintro ⟨k, ⟨po, ao, co⟩⟩ Hl0 _ hle0 ⟨hkk, rfl, hacco⟩
  replace hs0 := hs0.mono hle0
  try dsimp only at hkk hacco ⊢
  refine XC.seq ?_
  refine XC.seq ?_
  refine XC.region ?_
  refine XO.move rfl rfl ?_
  refine XO.move rfl rfl ?_
  refine XO.lenS (ts := #[]) rfl Try.underlying42 rfl ?_
  refine XO.lss rfl rfl rfl ?_
  refine XO.nil ?_
  refine XC.seq2 ?_
  refine XC.cond rfl (fun c0_1 => ?_) (fun c0_1 => ?_)
  · refine XC.skip ?_
    refine XC.seq2 ?_
    refine XC.seq ?_
    refine XC.block ?_
    refine XC.keep [0, 3, 4] rfl ?_
    obtain ⟨bE1, oE1, rfl⟩ := hs0.addr (by omega)
    obtain ⟨_, x1, hx1, rfl, hp1⟩ := hs0.elem (k) (by omega)
    apply XC.drawG (fun _ => True) trivial 13 [eqF _, eqF _, eqF _, eqF _, eqF _, eqF _, eqF _, eqF _, eqF _, eqF _, eqF _, eqF _, slF ptR [⟨x1.X, x1.Y⟩]] follows (by kernel_rfl) (by kernel_rfl) ⟨eqF_mono _, eqF_mono _, eqF_mono _, eqF_mono _, eqF_mono _, eqF_mono _, eqF_mono _, eqF_mono _, eqF_mono _, eqF_mono _, eqF_mono _, eqF_mono _, slF_mono _ _, trivial⟩ ?steps2 ?tail2
    case steps2 =>
      refine stepsD_cons rfl ?_ ?_
      · intro X HD hleD _
        replace hs0 := hs0.mono hleD
        replace hacco := hacco.mono hleD
        replace hp1 := hp1.mono hleD
        replace hle0 := hle0.trans hleD
        refine withPreds_nil rfl ?_
        refine XO.move rfl rfl ?_
        refine XO.nil ?_
        exact stepQ_ok trivial (rfl)
      refine stepsD_cons rfl ?_ ?_
      · intro X HD hleD _
        replace hs0 := hs0.mono hleD
        replace hacco := hacco.mono hleD
        replace hp1 := hp1.mono hleD
        replace hle0 := hle0.trans hleD
        refine withPreds_nil rfl ?_
        refine XO.move rfl rfl ?_
        refine XO.nil ?_
        exact stepQ_ok trivial (rfl)
      refine stepsD_cons rfl ?_ ?_
      · intro X HD hleD _
        replace hs0 := hs0.mono hleD
        replace hacco := hacco.mono hleD
        replace hp1 := hp1.mono hleD
        replace hle0 := hle0.trans hleD
        refine withPreds_nil rfl ?_
        refine XO.move rfl rfl ?_
        refine XO.nil ?_
        exact stepQ_ok trivial (rfl)
      refine stepsD_cons rfl ?_ ?_
      · intro X HD hleD _
        replace hs0 := hs0.mono hleD
        replace hacco := hacco.mono hleD
        replace hp1 := hp1.mono hleD
        replace hle0 := hle0.trans hleD
        refine withPreds_cons rfl rfl ?_
        rintro _ rfl
        refine withPreds_cons rfl rfl ?_
        rintro _ rfl
        refine withPreds_nil rfl ?_
        refine XO.indexE rfl rfl Try.underlying42 ty_52 (by omega) (by omega) rfl ?_
        refine XO.nil ?_
        exact stepQ_ok trivial (rfl)
      refine stepsD_cons rfl ?_ ?_
      · intro X HD hleD _
        replace hs0 := hs0.mono hleD
        replace hacco := hacco.mono hleD
        replace hp1 := hp1.mono hleD
        replace hle0 := hle0.trans hleD
        refine withPreds_cons rfl rfl ?_
        rintro _ rfl
        refine withPreds_nil rfl ?_
        refine XO.fieldAddr rfl fa_52_0 rfl ?_
        refine XO.nil ?_
        exact stepQ_ok trivial (rfl)
      refine stepsD_cons rfl ?_ ?_
      · intro X HD hleD _
        replace hs0 := hs0.mono hleD
        replace hacco := hacco.mono hleD
        replace hp1 := hp1.mono hleD
        replace hle0 := hle0.trans hleD
        refine withPreds_cons rfl rfl ?_
        rintro _ rfl
        refine withPreds_nil rfl ?_
        refine XO.loadHF rfl (by assumption) ty_3 rfl rfl rfl ?_
        refine XO.nil ?_
        exact stepQ_ok trivial (rfl)
      refine stepsD_cons rfl ?_ ?_
      · intro X HD hleD _
        replace hs0 := hs0.mono hleD
        replace hacco := hacco.mono hleD
        replace hp1 := hp1.mono hleD
        replace hle0 := hle0.trans hleD
        refine withPreds_nil rfl ?_
        refine XO.move rfl rfl ?_
        refine XO.nil ?_
        exact stepQ_ok trivial (rfl)
      refine stepsD_cons rfl ?_ ?_
      · intro X HD hleD _
        replace hs0 := hs0.mono hleD
        replace hacco := hacco.mono hleD
        replace hp1 := hp1.mono hleD
        replace hle0 := hle0.trans hleD
        refine withPreds_nil rfl ?_
        refine XO.move rfl rfl ?_
        refine XO.nil ?_
        exact stepQ_ok trivial (rfl)
      refine stepsD_cons rfl ?_ ?_
      · intro X HD hleD _
        replace hs0 := hs0.mono hleD
        replace hacco := hacco.mono hleD
        replace hp1 := hp1.mono hleD
        replace hle0 := hle0.trans hleD
        refine withPreds_cons rfl rfl ?_
        rintro _ rfl
        refine withPreds_cons rfl rfl ?_
        rintro _ rfl
        refine withPreds_nil rfl ?_
        refine XO.indexE rfl rfl Try.underlying42 ty_52 (by omega) (by omega) rfl ?_
        refine XO.nil ?_
        exact stepQ_ok trivial (rfl)
      refine stepsD_cons rfl ?_ ?_
      · intro X HD hleD _
        replace hs0 := hs0.mono hleD
        replace hacco := hacco.mono hleD
        replace hp1 := hp1.mono hleD
        replace hle0 := hle0.trans hleD
        refine withPreds_cons rfl rfl ?_
        rintro _ rfl
        refine withPreds_nil rfl ?_
        refine XO.fieldAddr rfl fa_52_1 rfl ?_
        refine XO.nil ?_
        exact stepQ_ok trivial (rfl)
      refine stepsD_cons rfl ?_ ?_
      · intro X HD hleD _
        replace hs0 := hs0.mono hleD
        replace hacco := hacco.mono hleD
        replace hp1 := hp1.mono hleD
        replace hle0 := hle0.trans hleD
        refine withPreds_cons rfl rfl ?_
        rintro _ rfl
        refine withPreds_nil rfl ?_
        refine XO.loadHF rfl (by assumption) ty_3 rfl rfl rfl ?_
        refine XO.nil ?_
        exact stepQ_ok trivial (rfl)
      refine stepsD_cons rfl ?_ ?_
      · intro X HD hleD _
        replace hs0 := hs0.mono hleD
        replace hacco := hacco.mono hleD
        replace hp1 := hp1.mono hleD
        replace hle0 := hle0.trans hleD
        refine withPreds_cons rfl rfl ?_
        rintro _ rfl
        refine withPreds_cons rfl rfl ?_
        rintro _ rfl
        refine withPreds_nil rfl ?_
        refine XO.build bk_38 bf_38 ze_38 rfl rfl rfl ?_
        refine XO.nil ?_
        exact stepQ_ok trivial (rfl)
      refine stepsD_cons rfl ?_ ?_
      · intro X HD hleD _
        replace hs0 := hs0.mono hleD
        replace hacco := hacco.mono hleD
        replace hp1 := hp1.mono hleD
        replace hle0 := hle0.trans hleD
        refine withPreds_cons rfl rfl ?_
        rintro _ rfl
        refine withPreds_nil rfl ?_
        refine XO.buildSlice rfl Try.underlying30 ty_38 ze_38 rfl rfl rfl (fun b24 => ?_)
        refine XO.publish 0 rfl rfl rfl (fun HP24 oP24 hleP24 hbP24 hoP24 => ?_)
        have hsl24 := SlR.lit (ρ := ptR) (l := [⟨_, _⟩]) hbP24 hoP24 (RowsR.one1 rfl)
        replace hs0 := hs0.mono hleP24
        replace hacco := hacco.mono hleP24
        replace hp1 := hp1.mono hleP24
        replace hle0 := hle0.trans hleP24
        refine XO.nil ?_
        exact stepQ_ok trivial (⟨_, rfl, hsl24⟩)
      exact stepsD_end rfl
    case tail2 =>
      intro HD hleD _
      replace hs0 := hs0.mono hleD
      replace hacco := hacco.mono hleD
      replace hp1 := hp1.mono hleD
      replace hle0 := hle0.trans hleD
      refine withPreds_cons rfl rfl ?_
      rintro _ rfl
      refine withPreds_cons rfl rfl ?_
      rintro _ rfl
      refine withPreds_cons rfl rfl ?_
      rintro _ rfl
      refine withPreds_cons rfl rfl ?_
      rintro _ rfl
      refine withPreds_cons rfl rfl ?_
      rintro _ rfl
      refine withPreds_cons rfl rfl ?_
      rintro _ rfl
      refine withPreds_cons rfl rfl ?_
      rintro _ rfl
      refine withPreds_cons rfl rfl ?_
      rintro _ rfl
      refine withPreds_cons rfl rfl ?_
      rintro _ rfl
      refine withPreds_cons rfl rfl ?_
      rintro _ rfl
      refine withPreds_cons rfl rfl ?_
      rintro _ rfl
      refine withPreds_cons rfl rfl ?_
      rintro _ rfl
      refine withPreds_cons rfl rfl ?_
      rintro _ ⟨bs24, rfl, hsl24⟩
      refine withPreds_nil rfl ?_
      refine XO.appendA 0 rfl rfl hacco rfl rfl hsl24 rfl Try.underlying30 ty_38 ze_38 rfl by_38 (by simp only [List.length_take]; simp; omega) rfl (fun p25 a25 c25 hacc25 => ?_)
      refine XO.assign rfl rfl ?_
      refine XO.nil ?_
      refine blockN ?_
      refine XC.seq2 ?_
      refine XC.region ?_
      refine XO.move rfl rfl ?_
      refine XO.add rfl rfl (wrap_i64 (by omega) (by omega)) rfl ?_
      refine XO.assign rfl rfl ?_
      refine XO.nil ?_
      refine loop_next ((k + 1, (p25, a25, c25))) (by show l0.length - (k + 1) < l0.length - k; omega) (prov_cons (by first | rfl | (rw [take_snoc hx1]; rfl)) (prov_cons (rfl) (prov_cons (rfl) prov_nil))) (⟨by show k + 1 ≤ l0.length; omega, rfl, by first | (exact hacc25) | (rw [take_snoc hx1]; exact hacc25)⟩) (by repeat (first | exact List.Sublist.refl _ | apply List.Sublist.cons_cons | apply List.Sublist.cons)) (hle0)
  · obtain rfl : k = l0.length := by omega
    simp only [List.take_length] at hacco ⊢
    refine XC.exit ?_
    refine seqX_exit ?_
    refine loopX_exit ?_
    refine blockHit rfl ?_
    refine XC.seq2 ?_
    refine XC.seq ?_
    refine XC.region ?_
    refine XO.move rfl rfl ?_
    refine XO.publishA 0 rfl hacco rfl (fun HQ6 hleQ6 hsQ6 => ?_)
    replace hs0 := hs0.mono hleQ6
    replace hle0 := hle0.trans hleQ6
    refine XO.assign rfl rfl ?_
    refine XO.nil ?_
    refine XC.seq2 ?_
    refine XC.ret ?_
    refine ⟨rfl, _, [], rfl, (by repeat (first | exact List.Sublist.refl _ | apply List.Sublist.cons)), RetR.mk ?_⟩
    exact ⟨_, _, rfl, (by assumption)⟩

theorem rrecover_fn (a0 : Option Addr) (c0 : Nat) (l0 : List Pt) (H : Hp) (hs0 : SlR ptR H a0 c0 l0) (hl : l0.length < 4611686018427387904) : FnC Try.prog 34 #[.slice a0 l0.length c0] H [] (RetR fun v _ _ => v = .tuple #[.int .i64 (recV l0).1, .int .i64 (recV l0).2]) := by
  refine FnC.intro (args := [.slice a0 l0.length c0]) Try.func34 rfl rfl Try.ntmps34 rfl rfl rfl fun G rest => ?_
  refine XC.seq ?_
  refine XC.region ?_
  refine XO.assign rfl rfl ?_
  refine XO.assign rfl rfl ?_
  refine XO.nil ?_
  refine XC.seq2 ?_
  refine XC.seq ?_
  refine XC.seq ?_
  refine XC.region ?_
  refine XO.move rfl rfl ?_
  refine XO.callK rfl (rformed_fn _ _ _ _ (by assumption) (by omega)) rfl ?_
  rintro _ ⟨bF, rfl, hF⟩
  refine XO.notB rfl rfl ?_
  refine XO.nil ?_
  refine XC.seq2 ?_
  refine XC.condB rfl (fun c0_2 => ?_) (fun c0_2 => ?_)
  · have hFm : ¬ Fm l0 := fun h => by have := hF.2 h; simp_all
    refine XC.seq ?_
    refine XC.region ?_
    refine XO.assign rfl rfl ?_
    refine XO.assign rfl rfl ?_
    refine XO.nil ?_
    refine XC.seq2 ?_
    refine XC.ret ?_
    refine seqX_ret ?_
    refine ⟨rfl, _, [], rfl, (by repeat (first | exact List.Sublist.refl _ | apply List.Sublist.cons)), RetR.mk ?_⟩
    show Value.tuple _ = _; rw [recV, if_neg hFm]
  · have hFm : Fm l0 := hF.1 (by simp_all)
    have hl24 : l0.length ≤ 24 := hFm.2.1
    refine XC.skip ?_
    refine XC.seq2 ?_
    refine XC.seq ?_
    refine XC.region ?_
    refine XO.move rfl rfl ?_
    refine XO.callH rfl (points_fn _ _ _ _ hs0 (by omega)) rfl ?_
    rintro _ HC8 hleC8 ⟨aC8, cC8, rfl, hsC8⟩
    replace hs0 := hs0.mono hleC8
    refine XO.callV rfl (rat_fn _ _ l0 _ _ hsC8) rfl ?_
    refine XO.extract rfl rfl rfl ?_
    refine XO.extract rfl rfl rfl ?_
    refine XO.assign rfl rfl ?_
    refine XO.assign rfl rfl ?_
    refine XO.nil ?_
    refine XC.seq2 ?_
    refine XC.ret ?_
    refine ⟨rfl, _, [], rfl, (by repeat (first | exact List.Sublist.refl _ | apply List.Sublist.cons)), RetR.mk ?_⟩
    show Value.tuple _ = _; rw [recV, if_pos hFm, atV_eq]

end Go.Proofs
