/- The walks of the functions of the graph: what each of them computes, at any input. -/
import Derived.Test.YtbfleiickdobnaaRcK
set_option autoImplicit false
set_option linter.unusedVariables false
set_option linter.unusedSimpArgs false
namespace Go.Proofs
open Go.XL

theorem ty_29 : tyF Try.prog 29 1 false = true := by kernel_rfl
theorem ty_77 : tyF Try.prog 77 1 false = true := by kernel_rfl
theorem ze_29 : zeroC Try.prog 29 = some [.slice none 0 0] := by kernel_rfl
theorem ze_4 : zeroC Try.prog 4 = some [.bool false] := by kernel_rfl
theorem ze_77 : zeroC Try.prog 77 = some [.nilFunc] := by kernel_rfl

theorem clone_fn (a : Option Addr) (c : Nat) (l : List Int) (H : Hp) (hs : SlR (intR .i64) H a c l) (hl : l.length < 1000000) : FnC Try.prog 42 #[.slice a l.length c] H [] (RetR (fun v H2 _ => ∃ a2 c2, v = .slice a2 l.length c2 ∧ SlR (intR .i64) H2 a2 c2 l)) := by
  refine FnC.intro (args := [.slice a l.length c]) Try.func42 rfl rfl Try.ntmps42 rfl rfl rfl fun G rest => ?_
  refine XC.seq ?_
  refine XC.region ?_
  refine XO.assign rfl rfl ?_
  refine XO.nil ?_
  refine XC.seq2 ?_
  refine XC.seq ?_
  refine XC.seq ?_
  refine XC.region ?_
  refine XO.move rfl rfl ?_
  refine XO.eqlNil rfl Try.underlying29 rfl ?_
  refine XO.nil ?_
  refine XC.seq2 ?_
  refine XC.condB rfl (fun c0_2 => ?_) (fun c0_2 => ?_)
  · have ha := Option.isNone_iff_eq_none.1 c0_2
    obtain rfl : l = [] := by
      cases l with
      | nil => rfl
      | cons x r => obtain ⟨b, o, h⟩ := hs.addr (by simp); rw [ha] at h; cases h
    refine XC.seq ?_
    refine XC.region ?_
    refine XO.assign rfl rfl ?_
    refine XO.nil ?_
    refine XC.seq2 ?_
    refine XC.ret ?_
    refine seqX_ret ?_
    refine ⟨rfl, _, [], rfl, (by repeat (first | exact List.Sublist.refl _ | apply List.Sublist.cons)), RetR.mk ?_⟩
    exact ⟨_, _, rfl, SlR.nil0 _ _⟩
  · refine XC.skip ?_
    refine XC.seq2 ?_
    refine XC.seq ?_
    refine XC.region ?_
    refine XO.buildRow (ρ := (intR .i64)) (l := []) rfl Try.underlying29 ty_3 ze_3 rfl rfl rfl rfl rfl (fun p5 a5 c5 hacc5 => ?_)
    refine XO.move rfl rfl ?_
    refine XO.appendA 0 rfl rfl hacc5 rfl rfl hs rfl Try.underlying29 ty_3 ze_3 rfl by_3 (by simp; omega) rfl (fun p7 a7 c7 hacc7 => ?_)
    refine XO.publishA 0 rfl hacc7 rfl (fun HQ4 hleQ4 hsQ4 => ?_)
    replace hs := hs.mono hleQ4
    refine XO.assign rfl rfl ?_
    refine XO.nil ?_
    refine XC.seq2 ?_
    refine XC.ret ?_
    refine ⟨rfl, _, [], rfl, (by repeat (first | exact List.Sublist.refl _ | apply List.Sublist.cons)), RetR.mk ?_⟩
    exact ⟨_, _, rfl, by assumption⟩

theorem from_all (n many : Nat) (hn : n ≤ 1000) (hm : many ≤ 1000) (bl bmany bn bfrom : Nat) (H0 : Hp) (hbm : PtH H0 bmany 0 [.int .i64 (many : Nat)]) (hbn : PtH H0 bn 0 [.int .i64 (n : Nat)]) (hbf : PtH H0 bfrom 0 [fromV bl bmany bn bfrom]) (yv : Value) (xs : List (List Int)) (J : JS (List Int)) (K : Hp → XL.Own → Prop) (hy : YOk Try.prog yv H0 encI lendI xs J K) :
  ∀ (k : Nat) (l : List Int) (f : Nat) (pre post : List (List Int)) (pd : Nat × SObj) (a : Option Addr) (c : Nat) (oc : XL.Own) (H : Hp), LeW H0 H → f ≤ 1000 → l.length + k = many → xs = pre ++ (listsF n k l f ++ post) → AccI H pd a c l → J.Holds pre H oc →
  FnC Try.prog 49 #[.int .i64 (f : Nat), yv, .pointer (some ⟨bl, 0, none⟩), .pointer (some ⟨bmany, 0, none⟩), .pointer (some ⟨bn, 0, none⟩), .pointer (some ⟨bfrom, 0, none⟩)] H (pd :: (bl, .cells 29 [.slice a (l).length c]) :: oc) (RetR fun v H2 own2 => (v = .bool true ∧ ∃ pd2 a2 c2 oc2, own2 = pd2 :: (bl, .cells 29 [.slice a2 (l).length c2]) :: oc2 ∧ AccI H2 pd2 a2 c2 l ∧ J.Holds (pre ++ listsF n k l f) H2 oc2) ∨ (v = .bool false ∧ K H2 own2)) := by
  intro k
  refine Nat.strongRecOn k ?_
  clear k
  intro k ih l f pre post pd a c oc H hH hf1 hlk hxs hacc hS
  replace hbm := hbm.mono hH
  replace hbn := hbn.mono hH
  replace hbf := hbf.mono hH
  refine FnC.intro (args := [.int .i64 (f : Nat), yv, .pointer (some ⟨bl, 0, none⟩), .pointer (some ⟨bmany, 0, none⟩), .pointer (some ⟨bn, 0, none⟩), .pointer (some ⟨bfrom, 0, none⟩)]) Try.func49 rfl rfl Try.ntmps49 rfl rfl rfl fun G rest => ?_
  refine XC.seq ?_
  refine XC.region ?_
  refine XO.assign rfl rfl ?_
  refine XO.nil ?_
  refine XC.seq2 ?_
  refine XC.seq ?_
  refine XC.seq ?_
  refine XC.region ?_
  refine XO.loadO 1 rfl rfl ty_29 rfl rfl rfl ?_
  refine XO.lenS (ts := #[]) rfl Try.underlying29 rfl ?_
  refine XO.loadH rfl (by assumption) ty_3 rfl rfl rfl ?_
  refine XO.eql rfl rfl rfl ?_
  refine XO.nil ?_
  refine XC.seq2 ?_
  refine XC.cond rfl (fun c0_1 => ?_) (fun c0_1 => ?_)
  · obtain rfl : k = 0 := by omega
    refine XC.seq ?_
    refine XC.region ?_
    refine XO.move rfl rfl ?_
    refine XO.loadO 1 rfl rfl ty_29 rfl rfl rfl ?_
    refine XO.perm (List.Perm.swap _ _ _) ?_
    refine XO.callVal [_] rfl trivial rfl (hy pre l post hxs (pd, a, c) _ [pd] oc hH hS ⟨rfl, hacc⟩) rfl rfl ?_
    rintro _ HC oC hleC (⟨rfl, oc2, rfl, hS2⟩ | ⟨rfl, hK⟩)
    · refine XO.perm (List.Perm.swap _ _ _) ?_
      replace hH := hH.mono hleC
      replace hbm := hbm.mono hleC
      replace hbn := hbn.mono hleC
      replace hbf := hbf.mono hleC
      replace hacc := hacc.mono hleC
      replace hS := hS.mono hleC
      refine XO.assign rfl rfl ?_
      refine XO.nil ?_
      refine XC.seq2 ?_
      refine XC.ret ?_
      refine seqX_ret ?_
      refine ⟨rfl, _, (_ :: _ :: oc2), rfl, (by repeat (first | exact List.Sublist.refl _ | apply List.Sublist.cons_cons | apply List.Sublist.cons)), RetR.mk ?_⟩
      exact Or.inl ⟨rfl, pd, a, c, oc2, rfl, hacc, hS2⟩
    · replace hH := hH.mono hleC
      replace hbm := hbm.mono hleC
      replace hbn := hbn.mono hleC
      replace hbf := hbf.mono hleC
      replace hacc := hacc.mono hleC
      replace hS := hS.mono hleC
      skip
      refine XO.assign rfl rfl ?_
      refine XO.nil ?_
      refine XC.seq2 ?_
      refine XC.ret ?_
      refine seqX_ret ?_
      refine ⟨rfl, _, oC, rfl, (by repeat (first | exact List.Sublist.refl _ | apply List.Sublist.cons_cons | apply List.Sublist.cons)), RetR.mk ?_⟩
      exact Or.inr ⟨rfl, hK⟩
  · obtain ⟨k, rfl⟩ : ∃ q, k = q + 1 := ⟨k - 1, by omega⟩
    refine XC.skip ?_
    refine XC.seq2 ?_
    refine XC.seq ?_
    refine XC.seq ?_
    refine XC.region ?_
    refine XO.move rfl rfl ?_
    refine XO.assign rfl rfl ?_
    refine XO.nil ?_
    refine XC.seq2 ?_
    refine XC.block ?_
    refine XC.keep [9, 1, 2, 4, 5] rfl ?_
    refine XC.loop (base := [(1, _), (2, _), (4, _), (5, _)]) (fun ζ : Nat × (Nat × SObj) × (Option Addr) × (Nat) × (XL.Own) => [(9, .int .i64 ((f + ζ.1 : Nat) : Int))]) (fun ζ Hl own => ζ.1 ≤ (n - f) ∧ ζ.2.1 :: (bl, .cells 29 [.slice ζ.2.2.1 (l).length ζ.2.2.2.1]) :: (ζ.2.2.2.2 ++ rest) = own ∧ (AccI Hl ζ.2.1 ζ.2.2.1 ζ.2.2.2.1 l) ∧ (J.Holds (pre ++ listsU n k l f ζ.1) Hl ζ.2.2.2.2)) (fun ζ => (n - f) - ζ.1) (0, pd, a, c, oc) (prov_cons (rfl) (prov_cons (rfl) (prov_cons (rfl) (prov_cons (rfl) (prov_cons (rfl) prov_nil))))) (by repeat (first | exact List.Sublist.refl _ | apply List.Sublist.cons_cons | apply List.Sublist.cons)) ⟨Nat.zero_le _, rfl, hacc, by simpa [listsU] using hS⟩ ?_
    rintro ⟨i, pd, a, c, oc⟩ Hl0 _ hle0 ⟨hki, rfl, hacc, hS⟩
    replace hH := hH.mono hle0
    replace hbm := hbm.mono hle0
    replace hbn := hbn.mono hle0
    replace hbf := hbf.mono hle0
    try dsimp only at hki hacc hS ⊢
    refine XC.seq ?_
    refine XC.seq ?_
    refine XC.region ?_
    refine XO.move rfl rfl ?_
    refine XO.loadH rfl (by assumption) ty_3 rfl rfl rfl ?_
    refine XO.lss rfl rfl rfl ?_
    refine XO.nil ?_
    refine XC.seq2 ?_
    refine XC.cond rfl (fun c1_2 => ?_) (fun c1_2 => ?_)
    · refine XC.skip ?_
      refine XC.seq2 ?_
      refine XC.seq ?_
      refine XC.block ?_
      refine XC.seq ?_
      refine XC.region ?_
      refine XO.loadO 1 rfl rfl ty_29 rfl rfl rfl ?_
      refine XO.move rfl rfl ?_
      refine XO.buildSlice rfl Try.underlying29 ty_3 ze_3 rfl rfl rfl (fun b25 => ?_)
      refine XO.publish 0 rfl rfl rfl (fun HP25 oP25 hleP25 hbP25 hoP25 => ?_)
      have hsl25 := SlR.lit (ρ := (intR .i64)) (l := [((f + i : Nat) : Int)]) hbP25 hoP25 (RowsR.one1 rfl)
      replace hH := hH.mono hleP25
      replace hbm := hbm.mono hleP25
      replace hbn := hbn.mono hleP25
      replace hbf := hbf.mono hleP25
      replace hacc := hacc.mono hleP25
      replace hS := hS.mono hleP25
      replace hle0 := hle0.trans hleP25
      refine XO.appendA 0 rfl rfl hacc rfl rfl hsl25 rfl Try.underlying29 ty_3 ze_3 rfl by_3 (by simp; omega) rfl (fun p26 a26 c26 hacc26 => ?_)
      refine XO.storeO 1 rfl rfl rfl rfl ty_29 rfl rfl rfl rfl rfl ?_
      refine XO.nil ?_
      refine XC.seq2 ?_
      refine XC.seq ?_
      refine XC.seq ?_
      refine XC.region ?_
      refine XO.loadH rfl (by assumption) ty_77 rfl rfl rfl ?_
      refine XO.move rfl rfl ?_
      refine XO.add (c := ((f + i + 1 : Nat) : Int)) rfl rfl ((wrap_i64 (by omega) (by omega)).trans (by omega)) rfl ?_
      refine XO.move rfl rfl ?_
      obtain ⟨post2, hsp⟩ := listsU_split (n := n) (k := k) (l := l) (f := f) (show i < n - f by omega)
      have hxs2 : xs = (pre ++ listsU n k l f i) ++ (listsF n k (l ++ [((f + i : Nat) : Int)]) (f + i + 1) ++ (post2 ++ post)) := by rw [hxs, listsF_succ, hsp]; simp only [List.append_assoc]
      refine XO.callVal [] rfl trivial rfl (FnV.of_fn (cap := [.pointer (some ⟨bl, 0, none⟩), .pointer (some ⟨bmany, 0, none⟩), .pointer (some ⟨bn, 0, none⟩), .pointer (some ⟨bfrom, 0, none⟩)]) (args := [_, _]) (ih k (by omega) (l ++ [((f + i : Nat) : Int)]) (f + i + 1) (pre ++ listsU n k l f i) _ p26 a26 c26 oc _ hH (by omega) (by simp; omega) hxs2 hacc26 hS)) rfl rfl ?_
      rintro _ HC oC hleC (⟨rfl, pd2, a2, c2, oc2, rfl, hacc2, hS2⟩ | ⟨rfl, hK⟩)
      · skip
        replace hH := hH.mono hleC
        replace hbm := hbm.mono hleC
        replace hbn := hbn.mono hleC
        replace hbf := hbf.mono hleC
        replace hS := hS.mono hleC
        replace hsl25 := hsl25.mono hleC
        replace hacc26 := hacc26.mono hleC
        replace hle0 := hle0.trans hleC
        refine XO.notB rfl rfl ?_
        refine XO.nil ?_
        refine XC.seq2 ?_
        refine XC.condF rfl (rfl) ?_
        refine XC.skip ?_
        refine XC.seq2 ?_
        refine XC.region ?_
        refine XO.loadO 1 rfl rfl ty_29 rfl rfl rfl ?_
        refine XO.loadO 1 rfl rfl ty_29 rfl rfl rfl ?_
        refine XO.lenS (ts := #[]) rfl Try.underlying29 rfl ?_
        refine XO.sub (c := ((l.length : Nat) : Int)) rfl rfl ((wrap_i64 (by simp only [List.length_append, List.length_cons, List.length_nil]; omega) (by simp only [List.length_append, List.length_cons, List.length_nil]; omega)).trans (by simp)) rfl ?_
        refine XO.sliceA 0 (n := l.length) rfl rfl rfl hacc2 (by simp) Try.underlying29 ty_3 rfl (fun p37 hacc37 => ?_)
        simp only [List.take_left] at hacc37 ⊢
        refine XO.storeO 1 rfl rfl rfl rfl ty_29 rfl rfl rfl rfl rfl ?_
        refine XO.nil ?_
        refine blockN ?_
        refine XC.seq2 ?_
        refine XC.region ?_
        refine XO.move rfl rfl ?_
        refine XO.add rfl rfl (wrap_i64 (by omega) (by omega)) rfl ?_
        refine XO.assign rfl rfl ?_
        refine XO.nil ?_
        refine loop_next ((i + 1, p37, a2, c2, oc2)) (by show (n - f) - (i + 1) < (n - f) - i; omega) (prov_cons (rfl) (prov_cons (rfl) (prov_cons (rfl) (prov_cons (rfl) (prov_cons (rfl) prov_nil))))) (⟨by show i + 1 ≤ (n - f); omega, rfl, hacc37, by rw [listsU_succ, ← List.append_assoc]; exact hS2⟩) (by repeat (first | exact List.Sublist.refl _ | apply List.Sublist.cons_cons | apply List.Sublist.cons)) (hle0)
      · skip
        replace hH := hH.mono hleC
        replace hbm := hbm.mono hleC
        replace hbn := hbn.mono hleC
        replace hbf := hbf.mono hleC
        replace hS := hS.mono hleC
        replace hsl25 := hsl25.mono hleC
        replace hacc26 := hacc26.mono hleC
        replace hle0 := hle0.trans hleC
        refine XO.notB rfl rfl ?_
        refine XO.nil ?_
        refine XC.seq2 ?_
        refine XC.condT rfl (rfl) ?_
        refine XC.seq ?_
        refine XC.region ?_
        refine XO.assign rfl rfl ?_
        refine XO.nil ?_
        refine XC.seq2 ?_
        refine XC.ret ?_
        refine seqX_ret ?_
        refine blockR ?_
        refine seqX_ret ?_
        refine loopX_ret ?_
        refine blockR ?_
        refine seqX_ret ?_
        refine ⟨rfl, _, oC, rfl, (by repeat (first | exact List.Sublist.refl _ | apply List.Sublist.cons_cons | apply List.Sublist.cons)), RetR.mk ?_⟩
        exact Or.inr ⟨rfl, hK⟩
    · obtain rfl : i = n - f := by omega
      rw [← listsF_succ] at hS
      refine XC.exit ?_
      refine seqX_exit ?_
      refine loopX_exit ?_
      refine blockHit rfl ?_
      refine XC.seq2 ?_
      refine XC.seq ?_
      refine XC.region ?_
      refine XO.assign rfl rfl ?_
      refine XO.nil ?_
      refine XC.seq2 ?_
      refine XC.ret ?_
      refine ⟨rfl, _, (_ :: _ :: oc), rfl, (by repeat (first | exact List.Sublist.refl _ | apply List.Sublist.cons_cons | apply List.Sublist.cons)), RetR.mk ?_⟩
      exact Or.inl ⟨rfl, pd, a, c, oc, rfl, hacc, hS⟩

theorem each_fn (n many : Nat) (hn : n ≤ 1000) (hm : many ≤ 1000) (bl bmany bn bfrom : Nat) (H : Hp) (hbm : PtH H bmany 0 [.int .i64 (many : Nat)]) (hbn : PtH H bn 0 [.int .i64 (n : Nat)]) (hbf : PtH H bfrom 0 [fromV bl bmany bn bfrom]) (pd : Nat × SObj) (a : Option Addr) (c : Nat) (hacc : AccI H pd a c []) : SeqL Try.prog 50 [pt bfrom] H [pd, (bl, .cells 29 [.slice a 0 c])] encI lendI (listsF n many [] 0) := by
  intro yv J K oc hy hS
  refine FnC.intro (args := [yv, .pointer (some ⟨bfrom, 0, none⟩)]) Try.func50 rfl rfl Try.ntmps50 rfl rfl rfl fun G rest => ?_
  refine XC.region ?_
  refine XO.loadH rfl (by assumption) ty_77 rfl rfl rfl ?_
  refine XO.move rfl rfl ?_
  refine XO.callVal [] rfl trivial rfl (FnV.of_fn (cap := [.pointer (some ⟨bl, 0, none⟩), .pointer (some ⟨bmany, 0, none⟩), .pointer (some ⟨bn, 0, none⟩), .pointer (some ⟨bfrom, 0, none⟩)]) (args := [_, _]) (from_all n many hn hm bl bmany bn bfrom H hbm hbn hbf yv (listsF n many [] 0) J K hy many [] 0 [] [] pd a c oc _ (Le.refl _) (by omega) (by simp) (by simp) hacc hS)) rfl rfl ?_
  rintro _ HC oC hleC (⟨rfl, pd2, a2, c2, oc2, rfl, hacc2, hS2⟩ | ⟨rfl, hK⟩)
  · skip
    replace hbm := hbm.mono hleC
    replace hbn := hbn.mono hleC
    replace hbf := hbf.mono hleC
    replace hacc := hacc.mono hleC
    replace hS := hS.mono hleC
    refine XO.nil ?_
    refine ⟨rfl, _, (_ :: _ :: oc2), rfl, (by repeat (first | exact List.Sublist.refl _ | apply List.Sublist.cons_cons | apply List.Sublist.cons)), RetR.mk ?_⟩
    exact ⟨rfl, [_, _], oc2, rfl, Or.inl (by simpa using hS2)⟩
  · skip
    replace hbm := hbm.mono hleC
    replace hbn := hbn.mono hleC
    replace hbf := hbf.mono hleC
    replace hacc := hacc.mono hleC
    replace hS := hS.mono hleC
    refine XO.nil ?_
    refine ⟨rfl, _, oC, rfl, (by repeat (first | exact List.Sublist.refl _ | apply List.Sublist.cons_cons | apply List.Sublist.cons)), RetR.mk ?_⟩
    exact ⟨rfl, [], oC, rfl, Or.inr hK⟩

theorem lists_fn (n many : Nat) (hn : n ≤ 1000) (hm : many ≤ 1000) (H : Hp) : FnC Try.prog 40 #[.int .i64 (n : Nat), .int .i64 (many : Nat)] H [] (RetR (fun v H2 own => ∃ bfrom bl pd a c, v = .func (.func 50) #[] #[pt bfrom] ∧ own = [pd, (bl, .cells 29 [.slice a 0 c])] ∧ SeqL Try.prog 50 [pt bfrom] H2 [pd, (bl, .cells 29 [.slice a 0 c])] encI lendI (listsF n many [] 0))) := by
  refine FnC.intro (args := [.int .i64 (n : Nat), .int .i64 (many : Nat)]) Try.func40 rfl rfl Try.ntmps40 rfl rfl rfl fun G rest => ?_
  refine XC.seq ?_
  refine XC.region ?_
  refine XO.box rfl rfl rfl (fun b2 => ?_)
  refine XO.box rfl rfl rfl (fun b3 => ?_)
  refine XO.publish 1 rfl rfl rfl (fun HK2 oK2 hleK2 hbK2 hoK2 => ?_)
  have hpK2 := PtH.of_is hbK2 hoK2
  refine XO.publish 0 rfl rfl rfl (fun HK3 oK3 hleK3 hbK3 hoK3 => ?_)
  have hpK3 := PtH.of_is hbK3 hoK3
  replace hpK2 := hpK2.mono hleK3
  refine XO.assign rfl rfl ?_
  refine XO.nil ?_
  refine XC.seq2 ?_
  refine XC.seq ?_
  refine XC.region ?_
  refine XO.loadH rfl (by assumption) ty_3 rfl rfl rfl ?_
  refine XO.makeCap (ρ := intR .i64) rfl rfl Try.underlying29 ty_3 ze_3 rfl by_3 (by omega) rfl (fun p8 hacc8 => ?_)
  refine XO.alloc ze_29 rfl (fun b5 => ?_)
  refine XO.storeO 0 rfl rfl rfl rfl ty_29 rfl rfl rfl rfl rfl ?_
  refine XO.nil ?_
  refine XC.seq2 ?_
  refine XC.seq ?_
  refine XC.region ?_
  refine XO.alloc ze_77 rfl (fun b6 => ?_)
  refine XO.nil ?_
  refine XC.seq2 ?_
  refine XC.seq ?_
  refine XC.region ?_
  refine XO.makeFunc rfl rfl ?_
  refine XO.storeO 0 rfl rfl rfl rfl ty_77 rfl rfl rfl rfl rfl ?_
  refine XO.nil ?_
  refine XC.seq2 ?_
  refine XC.seq ?_
  refine XC.region ?_
  refine XO.publish 0 rfl rfl rfl (fun HK6 oK6 hleK6 hbK6 hoK6 => ?_)
  have hpK6 := PtH.of_is hbK6 hoK6
  replace hpK2 := hpK2.mono hleK6
  replace hpK3 := hpK3.mono hleK6
  replace hacc8 := hacc8.mono hleK6
  refine XO.perm (List.Perm.swap _ _ _) ?_
  refine XO.makeFunc rfl rfl ?_
  refine XO.assign rfl rfl ?_
  refine XO.nil ?_
  refine XC.seq2 ?_
  refine XC.ret ?_
  refine ⟨rfl, _, [_, _], rfl, (by repeat (first | exact List.Sublist.refl _ | apply List.Sublist.cons)), RetR.mk ?_⟩
  exact ⟨b6, b5, p8, _, many, rfl, rfl, each_fn n many hn hm b5 b3 b2 b6 _ hpK3 hpK2 hpK6 _ _ _ hacc8⟩

theorem resist_fn (a : Option Addr) (c : Nat) (m : Tb) (H : Hp) (hs : SlR tbR H a c m) (hl : m.length < 9223372036854775808) (t : Int) (ht : -9223372036854775808 ≤ t ∧ t ≤ 9223372036854775807) : FnC Try.prog 20 #[.slice a m.length c, .int .i64 t] H [] (RetR (fun v H2 own => own = [] ∧ ResR m t H2 v)) := by
  refine FnC.introD (args := [.slice a m.length c, .int .i64 t]) Try.func20 rfl rfl Try.ntmps20 rfl rfl rfl fun G rest => ?_
  refine XC.seq ?_
  refine XC.region ?_
  refine XO.box rfl rfl rfl (fun b2 => ?_)
  refine XO.publish 0 rfl rfl rfl (fun HK2 oK2 hleK2 hbK2 hoK2 => ?_)
  have hpK2 := PtH.of_is hbK2 hoK2
  replace hs := hs.mono hleK2
  refine XO.alloc ze_29 rfl (fun b4 => ?_)
  refine XO.alloc ze_4 rfl (fun b5 => ?_)
  refine XO.alloc ze_26 rfl (fun b6 => ?_)
  refine XO.nil ?_
  refine XC.seq2 ?_
  refine XC.seq ?_
  refine XC.region ?_
  refine XO.defer0 (L := [_, _, _]) rfl rfl rfl rfl rfl (fun msD rest hrest => ?_)
  simp only [List.cons_append, List.nil_append]
  refine XO.nil ?_
  refine XC.seq2 ?_
  refine XC.seq ?_
  refine XC.region ?_
  refine XO.loadH rfl (by assumption) ty_22 rfl rfl rfl ?_
  refine XO.callV rfl (check_fn _ _ m _ hs hl) rfl ?_
  by_cases hck : chkG m = 0
  · refine XO.callV rfl (must_ok _ hck _) rfl ?_
    have hok := chk_eq0.1 hck
    have hwm := okG_wide hok
    have hlm := hok.1
    refine XO.nil ?_
    refine XC.seq2 ?_
    refine XC.seq ?_
    refine XC.seq ?_
    refine XC.region ?_
    refine XO.move rfl rfl ?_
    refine XO.lss rfl rfl rfl ?_
    refine XO.move rfl rfl ?_
    refine XO.guardC rfl rfl rfl rfl (fun g2 => ?_) (fun g2 => ?_)
    · have g2p := of_decide_eq_false g2
      refine XO.move rfl rfl ?_
      refine XO.guardT rfl rfl (g2) rfl ?_
      refine XO.gtr rfl rfl rfl ?_
      refine XO.pickF rfl (g2) rfl rfl ?_
      refine XO.nil ?_
      refine XC.seq2 ?_
      refine XC.cond rfl (fun c0_3 => ?_) (fun c0_3 => ?_)
      · refine XC.seq ?_
        refine XC.region ?_
        refine XO.storeO 2 rfl rfl rfl rfl ty_29 rfl rfl rfl rfl rfl ?_
        refine XO.storeO 1 rfl rfl rfl rfl ty_4 rfl rfl rfl rfl rfl ?_
        refine XO.storeO 0 rfl rfl rfl rfl ty_26 rfl rfl rfl rfl rfl ?_
        refine XO.nil ?_
        refine XC.seq2 ?_
        refine XC.ret ?_
        refine seqX_ret ?_
        refine leaveD_one 0 (L := [_, _, _]) rfl hrest rfl ((caught_ret _ _ _).mono (fun u2 HE own2 hleE hD => ?_))
        obtain ⟨h1, h2⟩ := hD
        subst h2
        replace hs := hs.mono hleE
        replace hpK2 := hpK2.mono hleE
        refine ⟨by subst h1; rfl, _, _, rfl, (resC_cell 2 rfl rfl ty_29 rfl rfl (resC_cell 1 rfl rfl ty_4 rfl rfl (resC_cell 0 rfl rfl ty_26 rfl rfl resC_nil))), RetR.mk ?_⟩
        exact ⟨rfl, fun h => absurd hck h, fun _ _ => rfl, fun T hT _ h3 => by omega⟩
      · obtain ⟨T, rfl⟩ : ∃ T : Nat, t = T := ⟨t.toNat, by omega⟩
        refine XC.skip ?_
        refine XC.seq2 ?_
        refine XC.seq ?_
        refine XC.seq ?_
        refine XC.region ?_
        refine XO.move rfl rfl ?_
        refine XO.add rfl rfl (wrap_i64 (by omega) (by omega)) rfl ?_
        refine XO.move rfl rfl ?_
        refine XO.nil ?_
        refine XC.seq2 ?_
        refine XC.block ?_
        refine XC.keep [20, 2, 4, 5, 6, 19] rfl ?_
        refine XC.loop (base := [(2, _), (4, _), (5, _), (6, _), (19, _)]) (fun ζ : Nat => [(20, .int .i64 (ζ : Nat))]) (fun ζ Hl own => ζ ≤ (T + 1) ∧ (b6, .cells 26 [.int .i64 0]) :: (b5, .cells 4 [.bool false]) :: (b4, .cells 29 [.slice none 0 0]) :: rest = own ∧ (∀ o ∈ allL (wideM m) ζ, badB m o = false)) (fun ζ => (T + 1) - ζ) 0 (prov_cons (rfl) (prov_cons (rfl) (prov_cons (rfl) (prov_cons (rfl) (prov_cons (rfl) (prov_cons (rfl) prov_nil)))))) (by repeat (first | exact List.Sublist.refl _ | apply List.Sublist.cons_cons | apply List.Sublist.cons)) ⟨Nat.zero_le _, rfl, by simp [allL]⟩ ?_
        rintro i Hl0 _ hle0 ⟨hki, rfl, hno⟩
        replace hs := hs.mono hle0
        replace hpK2 := hpK2.mono hle0
        try dsimp only at ⊢
        refine XC.seq ?_
        refine XC.region ?_
        refine XO.lss rfl rfl rfl ?_
        refine XO.nil ?_
        refine XC.seq2 ?_
        refine XC.seq ?_
        refine XC.cond rfl (fun c1_4 => ?_) (fun c1_4 => ?_)
        · refine XC.skip ?_
          refine XC.seq2 ?_
          refine XC.seq ?_
          refine XC.block ?_
          refine XC.seq ?_
          refine XC.region ?_
          refine XO.move rfl rfl ?_
          refine XO.assign rfl rfl ?_
          refine XO.nil ?_
          refine XC.seq2 ?_
          refine XC.seq ?_
          refine XC.region ?_
          refine XO.loadH rfl (by assumption) ty_22 rfl rfl rfl ?_
          refine XO.callV rfl (wide_fn _ _ m _ hs (by omega)) rfl ?_
          refine XO.move rfl rfl ?_
          have hcall26 := lists_fn (wideM m) i (by omega) (by omega) Hl0
          refine XO.callMid [] (ownF := []) rfl hcall26 rfl rfl ?_
          rintro _ HL oL hleL ⟨bfrom, bl, pd, aL, cL, rfl, rfl, hseq⟩
          replace hs := hs.mono hleL
          replace hpK2 := hpK2.mono hleL
          replace hle0 := hle0.trans hleL
          refine XO.nil ?_
          refine XC.seq2 ?_
          refine XC.block ?_
          refine XC.keep [2, 4, 5, 6, 19, 20, 26] rfl ?_
          refine XC.rangeFuncL (lend := lendI) rfl (hseq) (fun _ _ => rfl) rfl rfl (fun pre Hl own => (b6, .cells 26 [.int .i64 0]) :: (b5, .cells 4 [.bool false]) :: (b4, .cells 29 [.slice none 0 0]) :: rest = own ∧ ∀ o ∈ pre, badB m o = false) (fun c Hl own => c = .ret ∧ ∃ o a c, (b6, .cells 26 [.int .i64 0]) :: (b5, .cells 4 [.bool true]) :: (b4, .cells 29 [.slice a o.length c]) :: rest = own ∧ SlR (intR .i64) Hl a c o ∧ (allL (wideM m) (T + 1)).find? (badB m) = some o) (fun _ _ _ _ _ h => h) (⟨rfl, by simp⟩) (.inl rfl) ?_ ?_ ?_
          · rintro G lp hd1 hd2 hrec pre x post hxs ⟨px, ax, cx⟩ Hl _ ownL hleL ⟨rfl, hno2⟩ ⟨rfl, haccL⟩
            have hxl : x.length ≤ 4 := by have := listsF_len (show x ∈ listsF (wideM m) i [] 0 by rw [hxs]; simp); simp at this; omega
            replace hs := hs.mono hleL
            replace hpK2 := hpK2.mono hleL
            replace hle0 := hle0.trans hleL
            refine XC.region ?_
            refine XO.assign rfl rfl ?_
            refine XO.nil ?_
            refine assignN ?_
            refine XC.block ?_
            refine XC.seq ?_
            refine XC.region ?_
            refine XO.loadH rfl (by assumption) ty_22 rfl rfl rfl ?_
            refine XO.move rfl rfl ?_
            refine XO.callMid [] (ownF := [_]) rfl (grown_fn a ax c cx px m x _ [] nopS _ hs hok haccL (by omega) trivial (nop41_cb _) rfl) rfl rfl ?_
            rintro _ HG oG hleG ⟨bf, up, d, oc2, rfl, hF, hoc2, rfl⟩
            obtain rfl : oc2 = [] := hoc2
            replace hs := hs.mono hleG
            replace hpK2 := hpK2.mono hleG
            replace haccL := haccL.mono hleG
            replace hle0 := hle0.trans hleG
            refine XO.nilCheckP rfl rfl ?_
            refine XO.fieldAddr rfl fa_59_1 rfl ?_
            refine XO.loadC 0 rfl rfl ty_3 fr_parts0 rfl ?_
            refine XO.gtr rfl rfl rfl ?_
            refine XO.nil ?_
            refine XC.seq2 ?_
            refine XC.cond rfl (fun c2_8 => ?_) (fun c2_8 => ?_)
            · refine XC.seq ?_
              refine XC.region ?_
              refine XO.move rfl rfl ?_
              refine XO.publishA 1 rfl haccL rfl (fun HQ10 hleQ10 hsQ10 => ?_)
              replace hs := hs.mono hleQ10
              replace hpK2 := hpK2.mono hleQ10
              replace hle0 := hle0.trans hleQ10
              refine XO.callH rfl (clone_fn _ _ x _ hsQ10 (by omega)) rfl ?_
              rintro _ HC36 hleC36 ⟨a36, c36, rfl, hs36⟩
              replace hs := hs.mono hleC36
              replace hpK2 := hpK2.mono hleC36
              replace hsQ10 := hsQ10.mono hleC36
              replace hle0 := hle0.trans hleC36
              refine XO.storeO 3 rfl rfl rfl rfl ty_29 rfl rfl rfl rfl rfl ?_
              refine XO.storeO 2 rfl rfl rfl rfl ty_4 rfl rfl rfl rfl rfl ?_
              refine XO.storeO 1 rfl rfl rfl rfl ty_26 rfl rfl rfl rfl rfl ?_
              refine XO.nil ?_
              refine XC.seq2 ?_
              refine XC.ret ?_
              refine blockR ?_
              refine ⟨rfl, ((b6, .cells 26 [.int .i64 0]) :: (b5, .cells 4 [.bool true]) :: (b4, .cells 29 [.slice a36 x.length c36]) :: rest), (by repeat (first | exact List.Sublist.refl _ | apply List.Sublist.cons)), ?_⟩
              exact ⟨rfl, x, a36, c36, rfl, hs36, by obtain ⟨post2, e⟩ := allL_split (w := wideM m) (show i ≤ T by omega); rw [e, hxs]; exact find_lists hno hno2 (decide_eq_true (by assumption))⟩
            · refine XC.skip ?_
              refine blockN ?_
              refine ⟨rfl, (px :: (b6, .cells 26 [.int .i64 0]) :: (b5, .cells 4 [.bool false]) :: (b4, .cells 29 [.slice none 0 0]) :: rest), (by repeat (first | exact List.Sublist.refl _ | apply List.Sublist.cons)), ?_⟩
              exact ⟨_, rfl, rfl, fun o ho => (List.mem_append.1 ho).elim (hno2 o) (fun h => by simp only [List.mem_singleton] at h; subst h; exact decide_eq_false (by assumption))⟩
          · rintro Hl ownL hleL ⟨rfl, hno2⟩
            replace hs := hs.mono hleL
            replace hpK2 := hpK2.mono hleL
            replace hle0 := hle0.trans hleL
            refine blockN ?_
            refine blockN ?_
            refine XC.seq2 ?_
            refine XC.region ?_
            refine XO.add rfl rfl (wrap_i64 (by omega) (by omega)) rfl ?_
            refine XO.move rfl rfl ?_
            refine XO.nil ?_
            refine loop_next (i + 1) (by show (T + 1) - (i + 1) < (T + 1) - i; omega) (prov_cons (rfl) (prov_cons (rfl) (prov_cons (rfl) (prov_cons (rfl) (prov_cons (rfl) (prov_cons (rfl) prov_nil)))))) (⟨by show i + 1 ≤ (T + 1); omega, rfl, fun o ho => (List.mem_append.1 ho).elim (hno o) (hno2 o)⟩) (by repeat (first | exact List.Sublist.refl _ | apply List.Sublist.cons_cons | apply List.Sublist.cons)) (hle0)
          · rintro _ Hl ownL hleL ⟨rfl, o, ao, co, rfl, hso, hfind⟩
            replace hs := hs.mono hleL
            replace hpK2 := hpK2.mono hleL
            replace hle0 := hle0.trans hleL
            refine XC.ret ?_
            refine blockR ?_
            refine blockR ?_
            refine seqX_ret ?_
            refine loopX_ret ?_
            refine blockR ?_
            refine seqX_ret ?_
            refine leaveD_one 0 (L := [_, _, _]) rfl hrest rfl ((caught_ret _ _ _).mono (fun u2 HE own2 hleE hD => ?_))
            obtain ⟨h1, h2⟩ := hD
            subst h2
            replace hs := hs.mono hleE
            replace hpK2 := hpK2.mono hleE
            replace hso := hso.mono hleE
            replace hle0 := hle0.trans hleE
            refine ⟨by subst h1; rfl, _, _, rfl, (resC_cell 2 rfl rfl ty_29 rfl rfl (resC_cell 1 rfl rfl ty_4 rfl rfl (resC_cell 0 rfl rfl ty_26 rfl rfl resC_nil))), RetR.mk ?_⟩
            exact ⟨rfl, fun h => absurd hck h, fun _ h => by omega, fun T2 hT _ _ => by
              obtain rfl : T2 = T := by omega
              exact ⟨fun o2 h2 => (by rw [hfind] at h2; cases h2; exact ⟨_, _, hso, rfl⟩), fun h2 => (by rw [hfind] at h2; cases h2)⟩⟩
        · obtain rfl : i = T + 1 := by omega
          refine XC.exit ?_
          refine seqX_exit ?_
          refine loopX_exit ?_
          refine blockHit rfl ?_
          refine XC.seq2 ?_
          refine XC.seq ?_
          refine XC.region ?_
          refine XO.storeO 2 rfl rfl rfl rfl ty_29 rfl rfl rfl rfl rfl ?_
          refine XO.storeO 1 rfl rfl rfl rfl ty_4 rfl rfl rfl rfl rfl ?_
          refine XO.storeO 0 rfl rfl rfl rfl ty_26 rfl rfl rfl rfl rfl ?_
          refine XO.nil ?_
          refine XC.seq2 ?_
          refine XC.ret ?_
          refine leaveD_one 0 (L := [_, _, _]) rfl hrest rfl ((caught_ret _ _ _).mono (fun u2 HE own2 hleE hD => ?_))
          obtain ⟨h1, h2⟩ := hD
          subst h2
          replace hs := hs.mono hleE
          replace hpK2 := hpK2.mono hleE
          replace hle0 := hle0.trans hleE
          refine ⟨by subst h1; rfl, _, _, rfl, (resC_cell 2 rfl rfl ty_29 rfl rfl (resC_cell 1 rfl rfl ty_4 rfl rfl (resC_cell 0 rfl rfl ty_26 rfl rfl resC_nil))), RetR.mk ?_⟩
          exact ⟨rfl, fun h => absurd hck h, fun _ h => by omega, fun T2 hT _ _ => by
            obtain rfl : T2 = T := by omega
            exact ⟨fun o2 h2 => (by have := List.find?_some h2; rw [hno o2 (List.mem_of_find?_eq_some h2)] at this; cases this), fun _ => rfl⟩⟩
    · have g2p := of_decide_eq_true g2
      refine XO.guardF rfl rfl (g2) rfl rfl ?_
      refine XO.pickT rfl (g2) rfl rfl ?_
      refine XO.nil ?_
      refine XC.seq2 ?_
      refine XC.condT rfl (rfl) ?_
      refine XC.seq ?_
      refine XC.region ?_
      refine XO.storeO 2 rfl rfl rfl rfl ty_29 rfl rfl rfl rfl rfl ?_
      refine XO.storeO 1 rfl rfl rfl rfl ty_4 rfl rfl rfl rfl rfl ?_
      refine XO.storeO 0 rfl rfl rfl rfl ty_26 rfl rfl rfl rfl rfl ?_
      refine XO.nil ?_
      refine XC.seq2 ?_
      refine XC.ret ?_
      refine seqX_ret ?_
      refine leaveD_one 0 (L := [_, _, _]) rfl hrest rfl ((caught_ret _ _ _).mono (fun u2 HE own2 hleE hD => ?_))
      obtain ⟨h1, h2⟩ := hD
      subst h2
      replace hs := hs.mono hleE
      replace hpK2 := hpK2.mono hleE
      refine ⟨by subst h1; rfl, _, _, rfl, (resC_cell 2 rfl rfl ty_29 rfl rfl (resC_cell 1 rfl rfl ty_4 rfl rfl (resC_cell 0 rfl rfl ty_26 rfl rfl resC_nil))), RetR.mk ?_⟩
      exact ⟨rfl, fun h => absurd hck h, fun _ _ => rfl, fun T hT _ h3 => by omega⟩
  · refine XO.callP rfl (must_bad _ hck _) rfl (fun HB hleB => ?_)
    replace hs := hs.mono hleB
    replace hpK2 := hpK2.mono hleB
    refine seqX_panic ?_
    refine leaveD_one 0 (L := [_, _, _]) rfl hrest rfl ((caught_pan _ _ _ _).mono (fun u2 HE own2 hleE hD => ?_))
    obtain ⟨h1, h2⟩ := hD
    subst h2
    replace hs := hs.mono hleE
    replace hpK2 := hpK2.mono hleE
    refine ⟨h1, _, _, rfl, (resC_cell 2 rfl rfl ty_29 rfl rfl (resC_cell 1 rfl rfl ty_4 rfl rfl (resC_cell 0 rfl rfl ty_26 rfl rfl resC_nil))), RetR.mk ?_⟩
    exact ⟨rfl, fun _ => rfl, fun h => absurd h hck, fun T hT h => absurd h hck⟩

end Go.Proofs
