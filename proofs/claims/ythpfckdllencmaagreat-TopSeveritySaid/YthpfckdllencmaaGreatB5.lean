/- Integers with signs: sums,order. -/
import Derived.Test.YthpfckdllencmaaGreatB1
import Derived.Test.YthpfckdllencmaaGreatB4
import Derived.Test.YthpfckdllencmaaGreatB3
set_option maxRecDepth 100000
set_option autoImplicit false
set_option linter.unusedVariables false
set_option linter.unusedSimpArgs false
namespace Go.Proofs
open Go.XL
theorem nsigned_fn (p q : Nat) (a b : Option Addr) (c d : Nat) (H : Hp) (hs : SlR (gV .i64) H a c (dg p)) (ht : SlR (gV .i64) H b d (dg q)) (hx : (dg p).length ≤ 1000) (hy : (dg q).length ≤ 1000) (s1 s2 : Bool) : iP Tryz.prog 113 #[.bool s1,.slice a (dg p).length c,.bool s2,.slice b (dg q).length d] H [] (eQ (fun v H2 _=>vJ (sgn s1 p + sgn s2 q) H2 v)):=by
 refine iP.introC (args:=[.bool s1,.slice a (dg p).length c,.bool s2,.slice b (dg q).length d]) Tryz.func113 rfl rfl Tryz.ntmps113 rfl rfl rfl fun G rest=>?_;refine zS ?_;refine fI nV rfl (fun b8=>?_);refine zN ?_;refine cO ?_;refine zS ?_;refine zM rfl ?_;refine zM rfl ?_;refine XO.eqlB rfl rfl nR rfl ?_;refine zN ?_;refine mN rfl (fun nY=>?_) (fun nY=>?_)
 ·refine zS (zM rfl (zM rfl (zM rfl (eZ rfl (dadd_fn _ _ _ _ _ _ _ hs ht zO zO) rfl ?_))));rintro _ HD15 hleD15 ⟨aD15,rfl,hD15⟩;replace hs:=hs.mono hleD15;replace ht:=ht.mono hleD15;refine eZ rfl (aBc s1 (p + q) _ _ _ hD15 (by have:=aSc p q;omega)) rfl ?_;rintro _ HB16 hleB16 ⟨aB16,cB16,rfl,hB16⟩;replace hs:=hs.mono hleB16;replace ht:=ht.mono hleB16;replace hD15:=hD15.mono hleB16;refine eG 0 rfl rfl rfl rfl iE rfl rfl rfl rfl rfl (zN (eP (fD ?_)));refine ⟨rfl,_,[],(fN 0 rfl rfl iE rfl rfl iD),zA,eQ.mk ?_⟩;exact ⟨aB16,cB16,by rw [← aPw (by simp_all)];rfl,by rw [← aPw (by simp_all)];assumption⟩
 refine eF (bO (cO (zS (zM rfl (zM rfl (fH rfl (xJ p q _ _ _ _ _ hs ht zO zO) rfl (yB rfl (zN (fC rfl (fun aDq=>?_) (fun aDq=>?_))))))))))
 ·refine zS (zM rfl (zM rfl (zM rfl (eZ rfl (aSr _ _ _ _ _ _ _ hs ht zO zO (aJ2.1 (by assumption))) rfl ?_))));rintro _ HD24 hleD24 ⟨aD24,rfl,hD24⟩;replace hs:=hs.mono hleD24;replace ht:=ht.mono hleD24;refine eZ rfl (aBc s1 (p - q) _ _ _ hD24 (by have:=aTj p q;omega)) rfl ?_;rintro _ HB25 hleB25 ⟨aB25,cB25,rfl,hB25⟩;replace hs:=hs.mono hleB25;replace ht:=ht.mono hleB25;replace hD24:=hD24.mono hleB25;refine eG 0 rfl rfl rfl rfl iE rfl rfl rfl rfl rfl (zN (eP (fD ?_)));refine ⟨rfl,_,[],(fN 0 rfl rfl iE rfl rfl iD),zA,eQ.mk ?_⟩;exact ⟨aB25,cB25,by rw [← aU5 (by simp_all) (aJ2.1 (by assumption))];rfl,by rw [← aU5 (by simp_all) (aJ2.1 (by assumption))];assumption⟩
 refine eF (bO (zS (zM rfl (zM rfl (zM rfl (eZ rfl (aSr _ _ _ _ _ _ _ ht hs zO zO (by have:=(not_congr (aJ2 (p:=p) (q:=q))).1 (by assumption);omega)) rfl ?_))))));rintro _ HD29 hleD29 ⟨aD29,rfl,hD29⟩;replace hs:=hs.mono hleD29;replace ht:=ht.mono hleD29;refine eZ rfl (aBc s2 (q - p) _ _ _ hD29 (by have:=aTj q p;omega)) rfl ?_;rintro _ HB30 hleB30 ⟨aB30,cB30,rfl,hB30⟩;replace hs:=hs.mono hleB30;replace ht:=ht.mono hleB30;replace hD29:=hD29.mono hleB30;refine eG 0 rfl rfl rfl rfl iE rfl rfl rfl rfl rfl (zN (eP ?_));refine ⟨rfl,_,[],(fN 0 rfl rfl iE rfl rfl iD),zA,eQ.mk ?_⟩;have hpq : p ≤ q:=by have:=(not_congr (aJ2 (p:=p) (q:=q))).1 (by assumption);omega
 exact ⟨aB30,cB30,by rw [← aVy (by simp_all) hpq];rfl,by rw [← aVy (by simp_all) hpq];assumption⟩
theorem nadd_fn (z w : Int) (a b : Option Addr) (c d : Nat) (H : Hp) (hs : SlR (gV .i64) H a c (dg z.natAbs)) (ht : SlR (gV .i64) H b d (dg w.natAbs)) (hz : (dg z.natAbs).length ≤ 1000) (hw : (dg w.natAbs).length ≤ 1000) : iP Tryz.prog 93 #[.agg ⟨[.bool (decide (z < 0)),.slice a (dg z.natAbs).length c]⟩,.agg ⟨[.bool (decide (w < 0)),.slice b (dg w.natAbs).length d]⟩] H [] (eQ (fun v H2 own=>own = [] ∧ ∃ u,v = .tuple #[u,.int .i64 0] ∧ vJ (z + w) H2 u)):=by
 refine iP.introD (args:=[.agg ⟨[.bool (decide (z < 0)),.slice a (dg z.natAbs).length c]⟩,.agg ⟨[.bool (decide (w < 0)),.slice b (dg w.natAbs).length d]⟩]) Tryz.func93 rfl rfl Tryz.ntmps93 rfl rfl rfl fun G rest=>?_;refine zS ?_;refine iW rfl rfl rfl (fun b2=>?_);refine iW rfl rfl rfl (fun b3=>?_);refine fI nV rfl (fun b4=>?_);refine fI sJ rfl (fun b5=>?_);refine zN ?_;refine zS ?_;refine mL (L:=[_,_,_,_]) rfl rfl rfl rfl rfl (fun msD rest hrest=>?_);simp only [fP,gN];refine zN ?_;refine zS ?_;refine bT 3 rfl rfl iE rfl rfl rfl ?_;refine bT 2 rfl rfl iE rfl rfl rfl ?_;refine fS rfl iF iE nV rfl rfl rfl (fun b8=>?_);refine fT 0 rfl rfl rfl (fun HP8 oP8 hleP8 hbP8 hoP8=>?_);replace hs:=hs.mono hleP8;replace ht:=ht.mono hleP8;have uM:=SlR.lit (ρ:=rawR) (l:=[iY z,iY w]) hbP8 hoP8 (iH.cons1 (cs:=[_,_]) ⟨_,_,rfl,hs⟩ (iH.one1 ⟨_,_,rfl,ht⟩));refine fH rfl (wN _ _ [iY z,iY w] _ (by assumption) zP (aU3 hz hw)) rfl ?_;refine zN ?_;refine zS ?_;refine bJ rfl mG rfl ?_;refine bT 3 rfl rfl oA rfl rfl rfl ?_;refine bJ rfl kY rfl ?_;refine bT 3 rfl rfl gE rfl rfl rfl ?_;refine bJ rfl mG rfl ?_;refine bT 2 rfl rfl oA rfl rfl rfl ?_;refine bJ rfl kY rfl ?_;refine bT 2 rfl rfl gE rfl rfl rfl ?_;have hcall:=nsigned_fn _ _ _ _ _ _ _ hs ht hz hw (decide (z < 0)) (decide (w < 0));rw [aSj,aSj] at hcall;refine eZ rfl hcall rfl ?_;rintro _ HN kI ⟨aN,cN,rfl,hN⟩;replace hs:=hs.mono kI;replace ht:=ht.mono kI;replace uM:=uM.mono kI;refine eG 1 rfl rfl rfl rfl iE rfl rfl rfl rfl rfl ?_;refine eG 0 rfl rfl rfl rfl jZ rfl rfl rfl rfl rfl ?_;refine zN ?_;refine eP ?_;refine jO 0 (L:=[_,_,_,_]) rfl hrest rfl ((nH _ _ _).mono (fun u2 HE own2 lF hD=>?_));obtain ⟨h1,h2⟩:=hD;subst h2;replace hs:=hs.mono lF;replace ht:=ht.mono lF;replace uM:=uM.mono lF;replace hN:=hN.mono lF;refine ⟨by subst h1;rfl,_,_,rfl,(fN 1 rfl rfl iE rfl rfl (fN 0 rfl rfl jZ rfl rfl iD)),eQ.mk ?_⟩;exact ⟨rfl,_,rfl,_,_,rfl,by assumption⟩
theorem aSl (z w : Int) (a b : Option Addr) (c d : Nat) (H : Hp) (hs : SlR (gV .i64) H a c (dg z.natAbs)) (ht : SlR (gV .i64) H b d (dg w.natAbs)) (hz : (dg z.natAbs).length ≤ 1000) (hw : (dg w.natAbs).length ≤ 1000) : iP Tryz.prog 61 #[.agg ⟨[.bool (decide (z < 0)),.slice a (dg z.natAbs).length c]⟩,.agg ⟨[.bool (decide (w < 0)),.slice b (dg w.natAbs).length d]⟩] H [] (eQ (fun v _ own=>own = [] ∧ v = .tuple #[.int .i64 (vT z w),.int .i64 0])):=by
 refine iP.introD (args:=[.agg ⟨[.bool (decide (z < 0)),.slice a (dg z.natAbs).length c]⟩,.agg ⟨[.bool (decide (w < 0)),.slice b (dg w.natAbs).length d]⟩]) Tryz.func61 rfl rfl Tryz.ntmps61 rfl rfl rfl fun G rest=>?_;refine zS ?_;refine iW rfl rfl rfl (fun b2=>?_);refine iW rfl rfl rfl (fun b3=>?_);refine zG rfl ?_;refine fI sJ rfl (fun b5=>?_);refine zN ?_;refine zS ?_;refine mL (L:=[_,_,_]) rfl rfl rfl rfl rfl (fun msD rest hrest=>?_);simp only [fP,gN];refine zN ?_;refine zS ?_;refine bT 2 rfl rfl iE rfl rfl rfl ?_;refine bT 1 rfl rfl iE rfl rfl rfl ?_;refine fS rfl iF iE nV rfl rfl rfl (fun b8=>?_);refine fT 0 rfl rfl rfl (fun HP8 oP8 hleP8 hbP8 hoP8=>?_);replace hs:=hs.mono hleP8;replace ht:=ht.mono hleP8;have uM:=SlR.lit (ρ:=rawR) (l:=[iY z,iY w]) hbP8 hoP8 (iH.cons1 (cs:=[_,_]) ⟨_,_,rfl,hs⟩ (iH.one1 ⟨_,_,rfl,ht⟩));refine fH rfl (wN _ _ [iY z,iY w] _ (by assumption) zP (aU3 hz hw)) rfl ?_;refine zN ?_;refine cO ?_;refine dK ?_;refine zS ?_;refine bJ rfl mG rfl ?_;refine bT 2 rfl rfl oA rfl rfl rfl ?_;refine zM rfl ?_;refine iM rfl rfl rfl rfl (fun g2=>?_) (fun g2=>?_)
 ·have g2p:=eT g2;refine bJ rfl mG rfl (zT rfl g2 (bT 1 rfl rfl oA rfl rfl rfl (zV g2 rfl (zG rfl (zN (fC rfl (fun c0_3=>?_) (fun c0_3=>?_)))))))
  ·refine zS ?_;refine bJ rfl kY rfl ?_;refine bT 1 rfl rfl gE rfl rfl rfl ?_;refine bJ rfl kY rfl ?_;refine bT 2 rfl rfl gE rfl rfl rfl ?_;refine fH rfl (xJ w.natAbs z.natAbs _ _ _ _ _ ht hs zO zO) rfl ?_;refine zG rfl ?_;refine eG 0 rfl rfl rfl rfl jZ rfl rfl rfl rfl rfl ?_;refine zN ?_;refine eP ?_;refine iS ?_;refine fD ?_;refine jO 0 (L:=[_,_,_]) rfl hrest rfl ((nH _ _ _).mono (fun u2 HE own2 lF hD=>?_));obtain ⟨h1,h2⟩:=hD;subst h2;replace hs:=hs.mono lF;replace ht:=ht.mono lF;replace uM:=uM.mono lF;refine ⟨by subst h1;rfl,_,_,rfl,(mM rfl (fN 0 rfl rfl jZ rfl rfl iD)),eQ.mk ?_⟩;first | exact ⟨rfl,by rw [xN (by assumption) (by assumption)];rfl⟩ | exact ⟨rfl,by rw [aBw (by assumption) (by assumption)];rfl⟩ | exact ⟨rfl,by unfold vT;rw [eX zO];rfl⟩ | exact ⟨rfl,by unfold vT;rw [dG zO,dG zO];rfl⟩
  refine zS (bJ rfl mG rfl (bT 2 rfl rfl oA rfl rfl rfl (zG rfl (zN (fC rfl (fun aDq=>?_) (fun aDq=>?_))))))
  ·refine zS ?_;refine zG rfl ?_;refine eG 0 rfl rfl rfl rfl jZ rfl rfl rfl rfl rfl ?_;refine zN ?_;refine eP ?_;refine iS ?_;refine fD ?_;refine jO 0 (L:=[_,_,_]) rfl hrest rfl ((nH _ _ _).mono (fun u2 HE own2 lF hD=>?_));obtain ⟨h1,h2⟩:=hD;subst h2;replace hs:=hs.mono lF;replace ht:=ht.mono lF;replace uM:=uM.mono lF;refine ⟨by subst h1;rfl,_,_,rfl,(mM rfl (fN 0 rfl rfl jZ rfl rfl iD)),eQ.mk ?_⟩;first | exact ⟨rfl,by rw [xN (by assumption) (by assumption)];rfl⟩ | exact ⟨rfl,by rw [aBw (by assumption) (by assumption)];rfl⟩ | exact ⟨rfl,by unfold vT;rw [eX zO];rfl⟩ | exact ⟨rfl,by unfold vT;rw [dG zO,dG zO];rfl⟩
  refine zS (bJ rfl mG rfl (bT 1 rfl rfl oA rfl rfl rfl (zG rfl (zN (fC rfl (fun c2_6=>?_) (fun c2_6=>?_))))))
  ·refine zS ?_;refine zG rfl ?_;refine eG 0 rfl rfl rfl rfl jZ rfl rfl rfl rfl rfl ?_;refine zN ?_;refine eP ?_;refine iS ?_;refine fD ?_;refine jO 0 (L:=[_,_,_]) rfl hrest rfl ((nH _ _ _).mono (fun u2 HE own2 lF hD=>?_));obtain ⟨h1,h2⟩:=hD;subst h2;replace hs:=hs.mono lF;replace ht:=ht.mono lF;replace uM:=uM.mono lF;refine ⟨by subst h1;rfl,_,_,rfl,(mM rfl (fN 0 rfl rfl jZ rfl rfl iD)),eQ.mk ?_⟩;first | exact ⟨rfl,by rw [xN (by assumption) (by assumption)];rfl⟩ | exact ⟨rfl,by rw [aBw (by assumption) (by assumption)];rfl⟩ | exact ⟨rfl,by unfold vT;rw [eX zO];rfl⟩ | exact ⟨rfl,by unfold vT;rw [dG zO,dG zO];rfl⟩
  refine eF ?_;refine fY ?_;refine bO ?_;refine zS ?_;refine bJ rfl kY rfl ?_;refine bT 2 rfl rfl gE rfl rfl rfl ?_;refine bJ rfl kY rfl ?_;refine bT 1 rfl rfl gE rfl rfl rfl ?_;refine fH rfl (xJ z.natAbs w.natAbs _ _ _ _ _ hs ht zO zO) rfl ?_;refine zG rfl ?_;refine eG 0 rfl rfl rfl rfl jZ rfl rfl rfl rfl rfl ?_;refine zN ?_;refine eP ?_;refine jO 0 (L:=[_,_,_]) rfl hrest rfl ((nH _ _ _).mono (fun u2 HE own2 lF hD=>?_));obtain ⟨h1,h2⟩:=hD;subst h2;replace hs:=hs.mono lF;replace ht:=ht.mono lF;replace uM:=uM.mono lF;refine ⟨by subst h1;rfl,_,_,rfl,(mM rfl (fN 0 rfl rfl jZ rfl rfl iD)),eQ.mk ?_⟩;first | exact ⟨rfl,by rw [xN (by assumption) (by assumption)];rfl⟩ | exact ⟨rfl,by rw [aBw (by assumption) (by assumption)];rfl⟩ | exact ⟨rfl,by unfold vT;rw [eX zO];rfl⟩ | exact ⟨rfl,by unfold vT;rw [dG zO,dG zO];rfl⟩
 have g2p:=fM g2;refine zU rfl g2 (zW g2 rfl (zG rfl (zN (gD rfl rfl (zS (bJ rfl mG rfl (bT 2 rfl rfl oA rfl rfl rfl (zG rfl (zN (fC rfl (fun c1_8=>?_) (fun c1_8=>?_)))))))))))
 ·refine zS ?_;refine zG rfl ?_;refine eG 0 rfl rfl rfl rfl jZ rfl rfl rfl rfl rfl ?_;refine zN ?_;refine eP ?_;refine iS ?_;refine fD ?_;refine jO 0 (L:=[_,_,_]) rfl hrest rfl ((nH _ _ _).mono (fun u2 HE own2 lF hD=>?_));obtain ⟨h1,h2⟩:=hD;subst h2;replace hs:=hs.mono lF;replace ht:=ht.mono lF;replace uM:=uM.mono lF;refine ⟨by subst h1;rfl,_,_,rfl,(mM rfl (fN 0 rfl rfl jZ rfl rfl iD)),eQ.mk ?_⟩;first | exact ⟨rfl,by rw [xN (by assumption) (by assumption)];rfl⟩ | exact ⟨rfl,by rw [aBw (by assumption) (by assumption)];rfl⟩ | exact ⟨rfl,by unfold vT;rw [eX zO];rfl⟩ | exact ⟨rfl,by unfold vT;rw [dG zO,dG zO];rfl⟩
 refine zS (bJ rfl mG rfl (bT 1 rfl rfl oA rfl rfl rfl (zG rfl (zN (fC rfl (fun c2_9=>?_) (fun c2_9=>?_))))))
 ·refine zS ?_;refine zG rfl ?_;refine eG 0 rfl rfl rfl rfl jZ rfl rfl rfl rfl rfl ?_;refine zN ?_;refine eP ?_;refine iS ?_;refine fD ?_;refine jO 0 (L:=[_,_,_]) rfl hrest rfl ((nH _ _ _).mono (fun u2 HE own2 lF hD=>?_));obtain ⟨h1,h2⟩:=hD;subst h2;replace hs:=hs.mono lF;replace ht:=ht.mono lF;replace uM:=uM.mono lF;refine ⟨by subst h1;rfl,_,_,rfl,(mM rfl (fN 0 rfl rfl jZ rfl rfl iD)),eQ.mk ?_⟩;first | exact ⟨rfl,by rw [xN (by assumption) (by assumption)];rfl⟩ | exact ⟨rfl,by rw [aBw (by assumption) (by assumption)];rfl⟩ | exact ⟨rfl,by unfold vT;rw [eX zO];rfl⟩ | exact ⟨rfl,by unfold vT;rw [dG zO,dG zO];rfl⟩
 refine eF ?_;refine fY ?_;refine bO ?_;refine zS ?_;refine bJ rfl kY rfl ?_;refine bT 2 rfl rfl gE rfl rfl rfl ?_;refine bJ rfl kY rfl ?_;refine bT 1 rfl rfl gE rfl rfl rfl ?_;refine fH rfl (xJ z.natAbs w.natAbs _ _ _ _ _ hs ht zO zO) rfl ?_;refine zG rfl ?_;refine eG 0 rfl rfl rfl rfl jZ rfl rfl rfl rfl rfl ?_;refine zN ?_;refine eP ?_;refine jO 0 (L:=[_,_,_]) rfl hrest rfl ((nH _ _ _).mono (fun u2 HE own2 lF hD=>?_));obtain ⟨h1,h2⟩:=hD;subst h2;replace hs:=hs.mono lF;replace ht:=ht.mono lF;replace uM:=uM.mono lF;refine ⟨by subst h1;rfl,_,_,rfl,(mM rfl (fN 0 rfl rfl jZ rfl rfl iD)),eQ.mk ?_⟩;first | exact ⟨rfl,by rw [xN (by assumption) (by assumption)];rfl⟩ | exact ⟨rfl,by rw [aBw (by assumption) (by assumption)];rfl⟩ | exact ⟨rfl,by unfold vT;rw [eX zO];rfl⟩ | exact ⟨rfl,by unfold vT;rw [dG zO,dG zO];rfl⟩
end Go.Proofs

namespace Go.Proofs
open Go.XL
theorem gcd_step {m n G : Nat} (h : Nat.gcd m n = G) : Nat.gcd n (m % n) = G:=by
 rw [Nat.gcd_comm n,← Nat.gcd_rec,Nat.gcd_comm,h]
theorem mod_len {m n : Nat} (h : n ≠ 0) : (dg (m % n)).length ≤ (dg n).length:=lP (Nat.le_of_lt (Nat.mod_lt _ (Nat.pos_of_ne_zero h)))
theorem sgn_f (n : Nat) : sgn false n = (n : Int):=rfl
theorem u64_pos {n : Int} (h : 0 ≤ n ∧ n ≤ 9223372036854775807) : IntKind.u64.wrap n = ((n.natAbs : Nat) : Int):=by
 simp only [IntKind.wrap,IntKind.bits,IntKind.signed,Bool.false_and,Bool.false_eq_true,if_false];omega
theorem u64_neg {n : Int} (h : -9223372036854775808 ≤ n ∧ n < 0) : IntKind.u64.wrap (0 - IntKind.u64.wrap n) = ((n.natAbs : Nat) : Int):=by
 simp only [IntKind.wrap,IntKind.bits,IntKind.signed,Bool.false_and,Bool.false_eq_true,if_false];omega
theorem aQs {u : Nat} (h : u < 18446744073709551616) : IntKind.u64.wrap ((BitVec.ofInt IntKind.u64.bits (u : Int) &&& BitVec.ofInt IntKind.u64.bits 1073741823).toNat : Nat) = ((u % 1073741824 : Nat) : Int):=by
 have h1 : (BitVec.ofInt IntKind.u64.bits (u : Int) &&& BitVec.ofInt IntKind.u64.bits 1073741823).toNat = u % 1073741824:=by
  rw [BitVec.toNat_and,BitVec.toNat_ofInt,BitVec.toNat_ofInt];rw [show (((1073741823 : Int) % ((2 ^ IntKind.u64.bits : Nat) : Int)).toNat) = 2 ^ 30 - 1 from zD,Nat.and_two_pow_sub_one_eq_mod]
  have e : ((u : Int) % ((2 ^ IntKind.u64.bits : Nat) : Int)).toNat = u:=by
   rw [show ((2 ^ IntKind.u64.bits : Nat) : Int) = 18446744073709551616 from by decide];omega
  rw [e]
 rw [h1];simp only [IntKind.wrap,IntKind.bits,IntKind.signed,Bool.false_and,Bool.false_eq_true,if_false];omega
theorem aHp {ds : List Int} {u N : Nat} (h : ds ++ dg u = dg N) (h0 : u ≠ 0) : (ds ++ [((u % 1073741824 : Nat) : Int)]) ++ dg (u / 2 ^ 30) = dg N:=by
 rw [← h,aDb h0,eM];rfl
theorem sH {n : Int} (h : -9223372036854775808 ≤ n ∧ n ≤ 9223372036854775807) : (dg n.natAbs).length ≤ 3:=by
 rw [lG];have : (1073741824 : Nat) ^ 3 = 1237940039285380274899124224:=zD
 omega
end Go.Proofs

namespace Go.Proofs
open Go.XL
theorem aS0 (z w : Int) (a b : Option Addr) (c d : Nat) (H : Hp) (hs : SlR (gV .i64) H a c (dg z.natAbs)) (ht : SlR (gV .i64) H b d (dg w.natAbs)) (hz : (dg z.natAbs).length ≤ 1000) (hw : (dg w.natAbs).length ≤ 1000) : iP Tryz.prog 112 #[.agg ⟨[.bool (decide (z < 0)),.slice a (dg z.natAbs).length c]⟩,.agg ⟨[.bool (decide (w < 0)),.slice b (dg w.natAbs).length d]⟩] H [] (eQ (fun v H2 own=>own = [] ∧ ∃ u,v = .tuple #[u,.int .i64 0] ∧ vJ ((Nat.gcd z.natAbs w.natAbs : Nat) : Int) H2 u)):=by
 refine iP.introD (args:=[.agg ⟨[.bool (decide (z < 0)),.slice a (dg z.natAbs).length c]⟩,.agg ⟨[.bool (decide (w < 0)),.slice b (dg w.natAbs).length d]⟩]) Tryz.func112 rfl rfl Tryz.ntmps112 rfl rfl rfl fun G rest=>?_;refine zS ?_;refine iW rfl rfl rfl (fun b2=>?_);refine iW rfl rfl rfl (fun b3=>?_);refine fI nV rfl (fun b4=>?_);refine fI sJ rfl (fun b5=>?_);refine zN ?_;refine zS ?_;refine mL (L:=[_,_,_,_]) rfl rfl rfl rfl rfl (fun msD rest hrest=>?_);simp only [fP,gN];refine zN ?_;refine zS ?_;refine bT 3 rfl rfl iE rfl rfl rfl ?_;refine bT 2 rfl rfl iE rfl rfl rfl ?_;refine fS rfl iF iE nV rfl rfl rfl (fun b12=>?_);refine fT 0 rfl rfl rfl (fun HP12 oP12 hleP12 hbP12 hoP12=>?_);replace hs:=hs.mono hleP12;replace ht:=ht.mono hleP12;have oJ:=SlR.lit (ρ:=rawR) (l:=[iY z,iY w]) hbP12 hoP12 (iH.cons1 (cs:=[_,_]) ⟨_,_,rfl,hs⟩ (iH.one1 ⟨_,_,rfl,ht⟩));refine fH rfl (wN _ _ [iY z,iY w] _ (by assumption) zP (aU3 hz hw)) rfl ?_;refine zN ?_;refine cO ?_;refine eU [2,3,4,5] rfl ?_;apply pI 5 [gC _,gC _,gC _,gC _,gC _] follows zK zK ⟨aH _,aH _,aH _,aH _,aH _,trivial⟩ ?steps2 ?tail2
 case steps2 =>
  refine dF rfl ?_ ?_
  ·intro X;exact aF rfl (bJ rfl kY rfl zQ)
  refine dF rfl ?_ ?_
  ·intro X;exact gL rfl (aF rfl (bT 3 rfl rfl gE rfl rfl rfl zQ))
  refine dF rfl ?_ ?_
  ·intro X;exact aF rfl (bJ rfl kY rfl zQ)
  refine dF rfl ?_ ?_
  ·intro X;exact gL rfl (aF rfl (bT 2 rfl rfl gE rfl rfl rfl zQ))
  refine dF rfl ?_ ?_
  ·intro X;exact gL rfl (aF rfl (zG rfl zQ))
  exact jH rfl
 case tail2 =>
  refine gL rfl (gL rfl (gL rfl (gL rfl (gL rfl (aF rfl (zG rfl (zN (cO (dK (eU [6,7,4,5] rfl (gO (base:=[(4,_),(5,_)]) (fun ζ : Nat × (Nat) × (Nat) × (Option Addr) × (Nat) × (Option Addr) × (Nat)=>[(6,.slice ζ.2.2.2.1 (dg ζ.2.1).length ζ.2.2.2.2.1),(7,.slice ζ.2.2.2.2.2.1 (dg ζ.2.2.1).length ζ.2.2.2.2.2.2)]) (fun ζ Hl own=>(b5,.cells 27 [.int .i64 0]) :: (b4,.cells 54 [.bool false,.slice none 0 0]) :: rest = own ∧ (SlR (gV .i64) Hl ζ.2.2.2.1 ζ.2.2.2.2.1 (dg ζ.2.1)) ∧ (SlR (gV .i64) Hl ζ.2.2.2.2.2.1 ζ.2.2.2.2.2.2 (dg ζ.2.2.1)) ∧ (Nat.gcd ζ.2.1 ζ.2.2.1 = Nat.gcd z.natAbs w.natAbs ∧ (dg ζ.2.1).length ≤ 1000 ∧ (dg ζ.2.2.1).length ≤ 1000)) (fun ζ=>ζ.2.2.1) (0,z.natAbs,w.natAbs,a,c,b,d) (zC) zB ⟨rfl,hs,ht,⟨rfl,hz,hw⟩⟩ ?_)))))))))));rintro ⟨k,m,n,a1,c1,a2,c2⟩ Hl0 _ gB ⟨rfl,hm,hn,hg⟩;replace hs:=hs.mono gB;replace ht:=ht.mono gB;replace oJ:=oJ.mono gB;try dsimp only at hm hn hg ⊢
  refine cO (zS (zM rfl (eD (ts:=#[]) rfl eC rfl (zY rfl (zN (fC rfl (fun c0_3=>?_) (fun c0_3=>?_)))))))
  ·have hn0 : n ≠ 0:=fun h=>by have:=pG.2 h;omega
   refine eF (bO (dK (zS (zM rfl (zM rfl (eZ rfl (aSg m n _ _ _ _ _ hm hn zO zO hn0) rfl ?_))))));rintro _ HQ wE ⟨aA,cA,aB,cB,rfl,hdA,hdB⟩;replace hn:=hn.mono wE;replace gB:=gB.trans wE;refine zM rfl (zX rfl (zX rfl (zG rfl (zG rfl (zN (dL (zM rfl (zM rfl (zG rfl (zG rfl (bF (fY (eW ((k + 1,n,(m % n),a2,c2,aB,cB)) (by show m % n < n;exact Nat.mod_lt _ (Nat.pos_of_ne_zero hn0)) (zC) (⟨rfl,hn,hdB,⟨gcd_step hg.1,hg.2.2,eK (mod_len hn0) hg.2.2⟩⟩) zB (gB))))))))))))))
  obtain rfl : n = 0:=pG.1 zO;rw [Nat.gcd_zero_right] at hg;obtain ⟨hgm,hg2,hg3⟩:=hg;refine gI (fE (eY (fU rfl (bO (zS (zM rfl (eZ rfl (aBc false m _ _ _ hm zO) rfl ?_)))))));rintro _ HB pZ hB0;rw [sgn_f,hgm] at hB0;obtain ⟨aB,cB,rfl,hB⟩:=hB0;replace hs:=hs.mono pZ;replace ht:=ht.mono pZ;replace oJ:=oJ.mono pZ;replace hm:=hm.mono pZ;replace hn:=hn.mono pZ;refine eG 1 rfl rfl rfl rfl iE rfl rfl rfl rfl rfl (eG 0 rfl rfl rfl rfl jZ rfl rfl rfl rfl rfl (zN (eP (jO 0 (L:=[_,_]) rfl hrest rfl ((nH _ _ _).mono (fun u2 HE own2 lF hD=>?_))))));obtain ⟨h1,h2⟩:=hD;subst h2;replace hs:=hs.mono lF;replace ht:=ht.mono lF;replace oJ:=oJ.mono lF;replace hm:=hm.mono lF;replace hn:=hn.mono lF;replace hB:=hB.mono lF;refine ⟨by subst h1;rfl,_,_,rfl,(fN 1 rfl rfl iE rfl rfl (fN 0 rfl rfl jZ rfl rfl iD)),eQ.mk ?_⟩;exact ⟨rfl,_,rfl,_,_,rfl,by assumption⟩
end Go.Proofs

namespace Go.Proofs
open Go.XL
theorem aKt (n : Int) (hn : -9223372036854775808 ≤ n ∧ n ≤ 9223372036854775807) (H : Hp) : iP Tryz.prog 90 #[.int .i64 n] H [] (eQ (fun v H2 _=>vJ n H2 v)):=by
 refine iP.introC (args:=[.int .i64 n]) Tryz.func90 rfl rfl Tryz.ntmps90 rfl rfl rfl fun G rest=>?_;refine zS ?_;refine fI nV rfl (fun b2=>?_);refine zN ?_;refine zS ?_;refine yO (ρ:=(gV .i64)) (l:=[]) rfl eC gK rV rfl rfl rfl rfl rfl (fun p5 a5 c5 hacc5=>?_);refine zM rfl ?_;refine qZ rfl lL mS rfl rfl ?_;refine zG rfl ?_;refine zG rfl ?_;refine zN ?_;refine cO ?_;refine zS ?_;refine zM rfl ?_;refine zL rfl ?_;refine zN ?_;refine fC rfl (fun nY=>?_) (fun nY=>?_)
 ·refine dL (zM rfl (XO.neg (c:=((n.natAbs : Nat) : Int)) rfl (u64_neg ⟨hn.1,by assumption⟩) rfl (zG rfl (zN (cO (dK (eU [3,4,0,2] rfl (gO (base:=[(0,_),(2,_)]) (fun ζ : Nat × (Nat) × (List Int) × ((Nat × SObj) × Option Addr × Nat)=>[(3,.slice ζ.2.2.2.2.1 (ζ.2.2.1).length ζ.2.2.2.2.2),(4,.int .u64 ((ζ.2.1 : Nat) : Int))]) (fun ζ Hl own=>ζ.2.2.2.1 :: (b2,.cells 54 [.bool false,.slice none 0 0]) :: rest = own ∧ Acc (gV .i64) 3 Hl ζ.2.2.2.1 ζ.2.2.2.2.1 ζ.2.2.2.2.2 (ζ.2.2.1) ∧ (ζ.2.2.1 ++ dg ζ.2.1 = dg n.natAbs) ∧ (ζ.2.1 ≤ 9223372036854775808)) (fun ζ=>ζ.2.1) (0,n.natAbs,[],(p5,a5,c5)) (zC) zB ⟨rfl,hacc5,rfl,by show n.natAbs ≤ _;omega⟩ ?_))))))));rintro ⟨k,u,ds,⟨pw,aw,cw⟩⟩ Hl0 _ gB ⟨rfl,haccw,hds,hub⟩;try dsimp only at haccw hds hub ⊢
  refine cO (zS (zM rfl (zY rfl (zN (fC rfl (fun c1_3=>?_) (fun c1_3=>?_))))))
  ·have hu0 : u ≠ 0:=zO
   have hdl:=congrArg List.length hds;rw [fQ] at hdl;have hml:=sH hn;refine eF (bO (cO (dK (dL (zM rfl (zM rfl (aDw rfl rfl rfl ?_)))))));rw [aQs zO];refine qZ rfl mS lL (dT zO zO) rfl (fS rfl eC gK rV rfl rfl rfl (fun b20=>fT 0 rfl rfl rfl (fun HP20 oP20 hleP20 hbP20 hoP20=>?_)));have hsl20:=SlR.lit (ρ:=(gV .i64)) (l:=[((u % 1073741824 : Nat) : Int)]) hbP20 hoP20 (iH.one1 rfl);replace haccw:=haccw.mono hleP20;replace gB:=gB.trans hleP20;refine iV 0 rfl rfl haccw rfl rfl hsl20 rfl eC gK rV rfl aCl zI rfl (fun p21 a21 c21 hacc21=>zG rfl (bF (fY (bO (dL (zM rfl (aB6 rfl rfl zD rfl ?_)))))));rw [show (30 : Int) = ((30 : Nat) : Int) from rfl,aKb _ 30 _ zD];refine zG rfl (bF (eW ((k + 1,(u / 2 ^ 30),(ds ++ [((u % 1073741824 : Nat) : Int)]),(p21,a21,c21))) (by show u / 2 ^ 30 < u;omega) (iL (by first | rfl | (rw [rfl];rfl)) (zC)) (⟨rfl,by first | (exact hacc21) | (rw [rfl];exact hacc21),aHp hds hu0,by show u / 2 ^ 30 ≤ _;omega⟩) zB (gB)))
  obtain rfl : u = 0:=zO
  rw [dg0,gH] at hds;subst hds;refine gI (fE (eY (fU rfl (bO (zS (zM rfl (zL rfl (iO 0 rfl haccw rfl (fun HQ8 hleQ8 hsQ8=>zM rfl (mC aJg aKe nV rfl rfl rfl (eG 0 rfl rfl rfl rfl iE rfl rfl rfl rfl rfl (zN (eP ?_)))))))))))));refine ⟨rfl,_,[],(fN 0 rfl rfl iE rfl rfl iD),zA,eQ.mk ?_⟩;exact ⟨_,_,rfl,by assumption⟩
 rw [u64_pos ⟨zO,hn.2⟩];refine eF (bO (cO (dK (eU [3,4,0,2] rfl (gO (base:=[(0,_),(2,_)]) (fun ζ : Nat × (Nat) × (List Int) × ((Nat × SObj) × Option Addr × Nat)=>[(3,.slice ζ.2.2.2.2.1 (ζ.2.2.1).length ζ.2.2.2.2.2),(4,.int .u64 ((ζ.2.1 : Nat) : Int))]) (fun ζ Hl own=>ζ.2.2.2.1 :: (b2,.cells 54 [.bool false,.slice none 0 0]) :: rest = own ∧ Acc (gV .i64) 3 Hl ζ.2.2.2.1 ζ.2.2.2.2.1 ζ.2.2.2.2.2 (ζ.2.2.1) ∧ (ζ.2.2.1 ++ dg ζ.2.1 = dg n.natAbs) ∧ (ζ.2.1 ≤ 9223372036854775808)) (fun ζ=>ζ.2.1) (0,n.natAbs,[],(p5,a5,c5)) (zC) zB ⟨rfl,hacc5,rfl,by show n.natAbs ≤ _;omega⟩ ?_)))));rintro ⟨k,u,ds,⟨pw,aw,cw⟩⟩ Hl0 _ gB ⟨rfl,haccw,hds,hub⟩;try dsimp only at haccw hds hub ⊢
 refine cO (zS (zM rfl (zY rfl (zN (fC rfl (fun c1_9=>?_) (fun c1_9=>?_))))))
 ·have hu0 : u ≠ 0:=zO
  have hdl:=congrArg List.length hds;rw [fQ] at hdl;have hml:=sH hn;refine eF (bO (cO (dK (dL (zM rfl (zM rfl (aDw rfl rfl rfl ?_)))))));rw [aQs zO];refine qZ rfl mS lL (dT zO zO) rfl (fS rfl eC gK rV rfl rfl rfl (fun b20=>fT 0 rfl rfl rfl (fun HP20 oP20 hleP20 hbP20 hoP20=>?_)));have hsl20:=SlR.lit (ρ:=(gV .i64)) (l:=[((u % 1073741824 : Nat) : Int)]) hbP20 hoP20 (iH.one1 rfl);replace haccw:=haccw.mono hleP20;replace gB:=gB.trans hleP20;refine iV 0 rfl rfl haccw rfl rfl hsl20 rfl eC gK rV rfl aCl zI rfl (fun p21 a21 c21 hacc21=>zG rfl (bF (fY (bO (dL (zM rfl (aB6 rfl rfl zD rfl ?_)))))));rw [show (30 : Int) = ((30 : Nat) : Int) from rfl,aKb _ 30 _ zD];refine zG rfl (bF (eW ((k + 1,(u / 2 ^ 30),(ds ++ [((u % 1073741824 : Nat) : Int)]),(p21,a21,c21))) (by show u / 2 ^ 30 < u;omega) (iL (by first | rfl | (rw [rfl];rfl)) (zC)) (⟨rfl,by first | (exact hacc21) | (rw [rfl];exact hacc21),aHp hds hu0,by show u / 2 ^ 30 ≤ _;omega⟩) zB (gB)))
 obtain rfl : u = 0:=zO
 rw [dg0,gH] at hds;subst hds;refine gI (fE (eY (fU rfl (bO (zS (zM rfl (zL rfl (iO 0 rfl haccw rfl (fun HQ14 hleQ14 hsQ14=>zM rfl (mC aJg aKe nV rfl rfl rfl (eG 0 rfl rfl rfl rfl iE rfl rfl rfl rfl rfl (zN (eP ?_)))))))))))));refine ⟨rfl,_,[],(fN 0 rfl rfl iE rfl rfl iD),zA,eQ.mk ?_⟩;exact ⟨_,_,rfl,by assumption⟩
end Go.Proofs

namespace Go.XL
def aIs (P : Program) (rs : List ResultVar) (R : Ending → Hp → Own → Prop) (rest : Own) (u : FrameMode) (σ : St) : Prop :=
 ∃ (f2 : FuncId) (cap2 args2 : Array Value) (ms2 : List Nat) (f1 : FuncId) (cap1 args1 : Array Value) (ms1 : List Nat) (own1 own2 : Own),
  σ.df = ⟨.fn (.func f2) cap2,args2⟩ :: (ms2.map mark ++ ⟨.fn (.func f1) cap1,args1⟩ :: ms1.map mark) ∧ σ.own.Perm (own1 ++ (own2 ++ (ms2.map hid ++ ms1.map hid))) ∧
  FnD P f2 (args2 ++ cap2) u σ.H own1 fun u' H' own1'=>settle u' = .returning ∧ ∃ own3 own4,(own1' ++ own2).Perm (own3 ++ own4) ∧
   FnD P f1 (args1 ++ cap1) .returning H' own3 fun u'' H'' own3'=>settle u'' = .returning ∧ ∃ vs own'',aE8 P σ.env (own3' ++ own4) rs vs ∧ (own'' ++ rest).Sublist (own3' ++ own4) ∧ R (.returned (aJd vs)) H'' own''
def bodyQDD (P : Program) (rs : List ResultVar) (R : Ending → Hp → Own → Prop) (rest : Own) : Exit → St → Prop
 | .normal,σ | .ret,σ=>aIs P rs R rest .returning σ
 | .panic ch,σ=>aIs P rs R rest (.panicking ch) σ
 | _,_=>False
theorem iP.introDD {P : Program} {f : FuncId} {fn : Func} {c : Code} {args : List Value} {H : Hp} {own : Own} {R : Ending → Hp → Own → Prop} {N : Nat} {env : gY} {rs : List ResultVar}
  (hf : P.funcs[f]? = some fn) (hb : fn.body = some c) (hn : (fn.name == "runtime.NumGoroutine") = false) (hN : fn.ntmps = N) (hrs : fn.results = rs.toArray) (hlt : Nat.ble args.length N = true)
  (hi : gY.init 0 args = some env)
  (h : ∀ G rest,XC ⟨P,G,N,none,[]⟩ c (bodyQDD P rs R rest) ⟨env,[],H,own ++ rest⟩) : iP P f args.toArray H own R:=by
 refine ⟨aC0 hf hb hn,fun G rest w ok=>?_⟩;refine callsIn_wide.1 (callsIn_of_wp_marks (n:=0) hf hb trivial ?_);refine Go.wpIn_mono (h G rest _ w (aKq hN hlt hi ok)) ?_;intro e a w' ⟨τ,hr,hle,hq⟩
 have key : ∀ u,u ≠ .run → aIs P rs R rest u τ → LeavesInM Fence.wide 0 P fn a.tmps (fun e w'=>e ≠ .outgrown ∧ ∃ H' own',Le H H' ∧ Ok G H' (own' ++ rest) w' ∧ R e H' own') a.defers u w':=by
  intro u hu ⟨g2,cap2,args2,ms2,g1,cap1,args1,ms1,own1,own2,hdf,hperm,hD⟩;obtain ⟨ms,hd,hok⟩:=hr.ok;rw [hd,hdf];refine aGc hu ms τ.own w' (by simpa using hok) fun w1 ok1=>?_;refine ⟨hu,.inr ⟨fun hx=>(by cases hx),.func g2,cap2,g2,args2 ++ cap2,rfl,hD.1 _ _,fun _ _=>trivial,?_⟩⟩;have ok2 : Ok G τ.H (own1 ++ (own2 ++ (ms2.map hid ++ ms1.map hid))) w1:=ok1.perm hperm.symm;refine (hD.2 G (own2 ++ (ms2.map hid ++ ms1.map hid)) w1 ok2).mono ?_;rintro e u' w2 ⟨⟨v,rfl⟩,H',own1',hle',ok3,hset,own3,own4,hp2,hD1⟩;show LeavesInM Fence.wide 0 P fn a.tmps _ (ms2.map mark ++ ⟨.fn (.func g1) cap1,args1⟩ :: ms1.map mark) (settle u') w2;rw [hset]
  have ok4 : Ok G H' (((own3 ++ own4) ++ ms1.map hid) ++ ms2.map hid) w2:=by
   refine ok3.perm ?_
   have h1 : (own1' ++ (own2 ++ (ms2.map hid ++ ms1.map hid))).Perm ((own1' ++ own2) ++ (ms1.map hid ++ ms2.map hid)):=by
    rw [← eM];exact List.perm_append_comm.append_left _
   have h2 : ((own1' ++ own2) ++ (ms1.map hid ++ ms2.map hid)).Perm ((own3 ++ own4) ++ (ms1.map hid ++ ms2.map hid)):=hp2.append_right _;rw [eM];exact (h1.trans h2).symm
  refine aGc zP ms2 ((own3 ++ own4) ++ ms1.map hid) w2 ok4 fun w3 ok5=>?_;refine ⟨by simp,.inr ⟨fun hx=>(by cases hx),.func g1,cap1,g1,args1 ++ cap1,rfl,hD1.1 _ _,fun _ _=>trivial,?_⟩⟩;refine (hD1.2 G (own4 ++ ms1.map hid) w3 (by rw [← eM];exact ok5)).mono ?_;rintro e u'' w4 ⟨⟨v,rfl⟩,H'',own3',hle'',ok6,hset2,vs,own'',hres,hsub,hR⟩;show LeavesInM Fence.wide 0 P fn a.tmps _ (ms1.map mark) (settle u'') w4;rw [hset2];refine aBo zP ms1 (own3' ++ own4) w4 (by rw [eM];exact ok6) ?_;intro w5 ok7;have hrel : Rel ⟨P,G,N,none,[]⟩ ⟨τ.env,a.defers,H'',own3' ++ own4⟩ a w5:=⟨hr.size,hr.get,[],rfl,by simpa using ok7⟩
  refine ⟨_,aBn (fr:=[]) hrel (by simpa using ok7) hrs hres,by simp,H'',own'',hle.trans (hle'.trans hle''),ok7.shrink (Le.refl _) hsub,hR⟩
 cases e with
 | normal=>exact key .returning zP hq
 | ret=>exact key .returning zP hq
 | panic chain=>exact key (.panicking chain) zP hq
 | exit _=>exact hq.elim
 | goto _=>exact hq.elim
 | outgrown=>exact hq.elim
theorem aBl {P : Program} {rs : List ResultVar} {R : Ending → Hp → Own → Prop} {rest r1 r2 : Own} {u : FrameMode} {env : gY} {H : Hp} {L own : Own} {ms1 ms2 : List Nat} {f1 f2 : FuncId} {cap1 args1 args2 : Array Value} (i : Nat) {p : Nat × SObj}
  (hL : own = L ++ r2) (hr2 : r2 = r1 ++ ms2.map hid) (hr1 : r1 = rest ++ ms1.map hid) (hp : Own.at L i = some p)
  (hD : FnD P f2 args2 u H [p] fun u' H' own1'=>settle u' = .returning ∧ ∃ p' own3 own4,own1' = [p'] ∧ (p' :: L.eraseIdx i).Perm (own3 ++ own4) ∧
   FnD P f1 (args1 ++ cap1) .returning H' own3 fun u'' H'' own3'=>settle u'' = .returning ∧ ∃ vs,aE8 P env (own3' ++ (own4 ++ rest)) rs vs ∧ R (.returned (aJd vs)) H'' []) :
  aIs P rs R rest u ⟨env,⟨.fn (.func f2) #[],args2⟩ :: (ms2.map mark ++ ⟨.fn (.func f1) cap1,args1⟩ :: ms1.map mark),H,own⟩:=by
 subst hL;subst hr2;subst hr1;refine ⟨f2,#[],args2,ms2,f1,cap1,args1,ms1,[p],L.eraseIdx i ++ rest,rfl,?_,?_⟩
 ·have h1:=(aBj L i p hp).append_right (rest ++ (ms2.map hid ++ ms1.map hid))
  have h2 : (L ++ (rest ++ ms1.map hid ++ ms2.map hid)).Perm (L ++ (rest ++ (ms2.map hid ++ ms1.map hid))):=by
   refine List.Perm.append_left _ ?_;rw [eM];exact List.perm_append_comm.append_left _
  refine h2.trans ?_;simpa using h1
 rw [Array.append_empty];refine hD.mono ?_;rintro u' H' own1' _ ⟨h1,p',own3,own4,rfl,hperm,hE⟩;refine ⟨h1,own3,own4 ++ rest,?_,?_⟩
 ·have:=hperm.append_right rest;simpa using this
 refine hE.mono ?_;rintro u'' H'' own3' _ ⟨h2,vs,h3,h4⟩;refine ⟨h2,vs,[],h3,?_,h4⟩;rw [gN,← eM];exact List.sublist_append_right _ _
section
variable {C : Ctx} {ops : Array Oper} {Q : Exit → St → Prop} {rest : List Oper} {env : gY} {df : List Deferred} {H : Hp} {own : Own} {dst : Option Tmp} {ty : TypeId} {pos : String} {af : Array Edge}
theorem aHs {f : FuncId} {xs : List Operand} {ts : Array TypeId} {vs : List Value} {L rst : Own} (hr : C.r = none) (hh : C.hid = []) (hxs : evs env xs = some vs) (ho : own = L ++ rst) (hd : dst = none)
  (h : ∀ ms rst',rst' = rst ++ List.map hid ms → XO C ops Q rest ⟨env,⟨.fn (.func f) #[],vs.toArray⟩ :: (ms.map mark ++ df),H,L ++ rst'⟩) :
  XO C ops Q (⟨dst,.defer { callee:=.value (.func f),args:=xs.toArray,argTypes:=ts },ty,pos,af,none⟩ :: rest) ⟨env,df,H,own⟩:=by
 intro a w hrel;refine wpListIn_plain rfl fun K hK=>⟨fun _ _=>trivial,?_⟩
 obtain ⟨ms,hdf,hok⟩:=hrel.ok;subst ho;subst hd
 have hrun : (Oper.semAt (Fr C.r).round a.eval ⟨none,.defer { callee:=.value (.func f),args:=xs.toArray,argTypes:=ts },ty,pos,af,none⟩).run C.P w = .ok (.defer ⟨.fn (.func f) #[],vs.toArray⟩) w:=by
  rw [show (Fr C.r).round = none from hr,Oper.semAt_none];simp only [execOp,resolve,Sem.run_bind];have : xs.toArray.map a.eval = vs.toArray:=by simp [hrel.evals hxs]
  simp [this,Act.eval,Deferred.ofValue,Sem.run,Pure.pure,Result.andThen]
 rw [hrun]
 have hrel2 : Rel C ⟨env,⟨.fn (.func f) #[],vs.toArray⟩ :: (ms.map mark ++ df),H,L ++ (rst ++ ms.map hid)⟩ ({ a with defers:=⟨.fn (.func f) #[],vs.toArray⟩ :: a.defers }.put none undef) w:=by
  refine ⟨hrel.size,hrel.get,[],?_,?_⟩
  ·show ⟨.fn (.func f) #[],vs.toArray⟩ :: a.defers = _;rw [hdf];simp
  rw [hh] at hok ⊢;simpa using hok
 exact hK _ _ (h ms _ rfl _ w hrel2)
end
end Go.XL

namespace Go.Proofs
open Go.XL
theorem aSy (p q : Nat) : (dg (p / q)).length ≤ (dg p).length:=lP (Nat.div_le_self _ _)
theorem aPe {z w : Int} (h : w ∣ z) : z.natAbs % w.natAbs = 0:=Nat.mod_eq_zero_of_dvd (Int.natAbs_dvd_natAbs.2 h)
theorem aR5 {z w : Int} (hw : 0 < w) (h : w ∣ z) : sgn (!(decide (z < 0) == decide (w < 0))) (z.natAbs / w.natAbs) = z / w:=by
 obtain ⟨k,rfl⟩:=h;rw [Int.mul_ediv_cancel_left _ zO,Int.natAbs_mul,Nat.mul_div_cancel_left _ zO];rw [aI (show ¬ w < 0 by omega)];unfold sgn;rcases Int.lt_or_le k 0 with h1 | h1
 ·have : w * k < 0:=Int.mul_neg_of_pos_of_neg hw h1;rw [bG this];simp;omega
 have : 0 ≤ w * k:=Int.mul_nonneg zO h1;rw [aI zO];simp;omega
end Go.Proofs

namespace Go.Proofs
open Go.XL
theorem aPv (b6 b4 b5 : Nat) (H : Hp) : FnD Tryz.prog 130 #[.pointer (some ⟨b6,0,none⟩),.pointer (some ⟨b4,0,none⟩),.pointer (some ⟨b5,0,none⟩)] .returning H [(b6,.cells 27 [.int .i64 0])] (fun u _ own=>u = .returning ∧ own = [(b6,.cells 27 [.int .i64 0])]):=by
 refine FnD.intro (args:=[.pointer (some ⟨b6,0,none⟩),.pointer (some ⟨b4,0,none⟩),.pointer (some ⟨b5,0,none⟩)]) Tryz.func130 rfl rfl Tryz.ntmps130 rfl rfl rfl fun G rest=>?_;refine XS.of rfl ?_;refine zS ?_;refine bT 0 rfl rfl jZ rfl rfl rfl ?_;refine zJ rfl ?_;refine zN ?_;refine gD rfl (aI zD) ?_;refine eF ?_;refine ⟨rfl,_,[_],rfl,zA,?_⟩;exact ⟨rfl,rfl⟩
theorem aS8 (z w : Int) (a b : Option Addr) (c d : Nat) (H : Hp) (hs : SlR (gV .i64) H a c (dg z.natAbs)) (ht : SlR (gV .i64) H b d (dg w.natAbs)) (hz : (dg z.natAbs).length ≤ 1000) (hw : (dg w.natAbs).length ≤ 1000) (hw0 : 0 < w) (hdv : w ∣ z) : iP Tryz.prog 114 #[.agg ⟨[.bool (decide (z < 0)),.slice a (dg z.natAbs).length c]⟩,.agg ⟨[.bool (decide (w < 0)),.slice b (dg w.natAbs).length d]⟩] H [] (eQ (fun v H2 own=>own = [] ∧ ∃ u u2,v = .tuple #[u,u2,.int .i64 0] ∧ vJ (z / w) H2 u ∧ vJ 0 H2 u2)):=by
 refine iP.introDD (args:=[.agg ⟨[.bool (decide (z < 0)),.slice a (dg z.natAbs).length c]⟩,.agg ⟨[.bool (decide (w < 0)),.slice b (dg w.natAbs).length d]⟩]) Tryz.func114 rfl rfl Tryz.ntmps114 rfl rfl rfl fun G rest=>?_;refine zS ?_;refine iW rfl rfl rfl (fun b2=>?_);refine iW rfl rfl rfl (fun b3=>?_);refine fI nV rfl (fun b4=>?_);refine fI nV rfl (fun b5=>?_);refine fI sJ rfl (fun b6=>?_);refine zN ?_;refine zS ?_;refine mA rfl rfl ?_;refine aHi (L:=[_,_,_,_,_]) rfl rfl rfl rfl rfl rfl (fun msD rest hrest=>?_);simp only [fP,gN];refine zN ?_;refine zS ?_;refine aHs (L:=[_,_,_,_,_]) rfl rfl rfl rfl rfl (fun msE rest2 hrest2=>?_);simp only [fP,gN];refine zN ?_;refine zS ?_;refine bT 4 rfl rfl iE rfl rfl rfl ?_;refine bT 3 rfl rfl iE rfl rfl rfl ?_;refine fS rfl iF iE nV rfl rfl rfl (fun b12=>?_);refine fT 0 rfl rfl rfl (fun HP12 oP12 hleP12 hbP12 hoP12=>?_);replace hs:=hs.mono hleP12;replace ht:=ht.mono hleP12;have oJ:=SlR.lit (ρ:=rawR) (l:=[iY z,iY w]) hbP12 hoP12 (iH.cons1 (cs:=[_,_]) ⟨_,_,rfl,hs⟩ (iH.one1 ⟨_,_,rfl,ht⟩));refine fH rfl (wN _ _ [iY z,iY w] _ (by assumption) zP (aU3 hz hw)) rfl ?_;refine zN ?_;refine cO ?_;refine zS ?_;refine bJ rfl kY rfl ?_;refine bT 3 rfl rfl gE rfl rfl rfl ?_;refine eD (ts:=#[]) rfl bK rfl ?_;refine zZ rfl ?_;refine zN ?_;refine gD rfl (aI (fun h=>by have:=pG.1 (show (dg w.natAbs).length = 0 by omega);omega)) ?_;refine eF ?_;refine bO ?_;refine zS ?_;refine bJ rfl kY rfl ?_;refine bT 4 rfl rfl gE rfl rfl rfl ?_;refine bJ rfl kY rfl ?_;refine bT 3 rfl rfl gE rfl rfl rfl ?_;refine eZ rfl (aSg z.natAbs w.natAbs _ _ _ _ _ hs ht zO zO zO) rfl ?_;rintro _ HQ wE ⟨aA,cA,aB,cB,rfl,hdA,hdB⟩;replace hs:=hs.mono wE;replace ht:=ht.mono wE;replace oJ:=oJ.mono wE;refine zM rfl ?_;refine zX rfl ?_;refine zX rfl ?_;refine zG rfl ?_;refine zG rfl ?_;refine zN ?_;refine cO ?_;refine zS ?_;have hm0:=aPe hdv;have hml:=pG.2 hm0;refine bJ rfl mG rfl ?_;refine bT 4 rfl rfl oA rfl rfl rfl ?_;refine zM rfl ?_;refine iM rfl rfl rfl rfl (fun g4=>?_) (fun g4=>?_)
 ·have g4p:=eT g4;refine zM rfl (zT rfl g4 (eD (ts:=#[]) rfl eC rfl (zT rfl g4 (zY rfl (zV g4 rfl (zN (mN rfl (fun aDq=>?_) (fun aDq=>?_))))))))
  ·exact absurd (by assumption) (by have:=aPe hdv;simp_all)
  refine eF (bO (zS (bJ rfl mG rfl (bT 4 rfl rfl oA rfl rfl rfl (bJ rfl mG rfl (bT 3 rfl rfl oA rfl rfl rfl (aI4 rfl rfl nR rfl (zM rfl (eZ rfl (aBc _ _ _ _ _ hdA (by have:=aSy z.natAbs w.natAbs;omega)) rfl ?_)))))))));rintro _ HB pZ hB0;rw [aR5 hw0 hdv] at hB0;obtain ⟨aC,cC,rfl,hC⟩:=hB0;replace hdB:=hdB.mono pZ;refine zM rfl (eZ rfl (aBc false _ _ _ _ hdB zO) rfl ?_);rintro _ HB2 hleB2 hB1;rw [hm0] at hB1;obtain ⟨aD,cD,rfl,hD5⟩:=hB1;replace hC:=hC.mono hleB2;refine eG 2 rfl rfl rfl rfl iE rfl rfl rfl rfl rfl (eG 1 rfl rfl rfl rfl iE rfl rfl rfl rfl rfl (eG 0 rfl rfl rfl rfl jZ rfl rfl rfl rfl rfl (zN (eP (aBl 0 (L:=[_,_,_,_,_]) rfl hrest2 hrest rfl ((nH _ _ _).mono (fun u2 HE own2 lF hD=>?_)))))));obtain ⟨h1,h2⟩:=hD;subst h2;replace hC:=hC.mono lF;replace hD5:=hD5.mono lF;refine ⟨by subst h1;rfl,_,[_],_,rfl,mO _,(aPv _ _ _ _).mono (fun u3 HE2 own3 hleE2 hD2=>?_)⟩;obtain ⟨h3,h4⟩:=hD2;subst h4;replace hC:=hC.mono hleE2;replace hD5:=hD5.mono hleE2;refine ⟨by subst h3;rfl,_,(fN 2 rfl rfl iE rfl rfl (fN 1 rfl rfl iE rfl rfl (fN 0 rfl rfl jZ rfl rfl iD))),eQ.mk ?_⟩;exact ⟨rfl,_,_,rfl,⟨_,_,rfl,hC⟩,⟨_,_,rfl,hD5⟩⟩
 have g4p:=fM g4;refine zU rfl g4 (zU rfl g4 (zW g4 rfl (zN (gD rfl rfl (eF (bO (zS (bJ rfl mG rfl (bT 4 rfl rfl oA rfl rfl rfl (bJ rfl mG rfl (bT 3 rfl rfl oA rfl rfl rfl (aI4 rfl rfl nR rfl (zM rfl (eZ rfl (aBc _ _ _ _ _ hdA (by have:=aSy z.natAbs w.natAbs;omega)) rfl ?_))))))))))))));rintro _ HB pZ hB0;rw [aR5 hw0 hdv] at hB0;obtain ⟨aC,cC,rfl,hC⟩:=hB0;replace hdB:=hdB.mono pZ;refine zM rfl (eZ rfl (aBc false _ _ _ _ hdB zO) rfl ?_);rintro _ HB2 hleB2 hB1;rw [hm0] at hB1;obtain ⟨aD,cD,rfl,hD5⟩:=hB1;replace hC:=hC.mono hleB2;refine eG 2 rfl rfl rfl rfl iE rfl rfl rfl rfl rfl (eG 1 rfl rfl rfl rfl iE rfl rfl rfl rfl rfl (eG 0 rfl rfl rfl rfl jZ rfl rfl rfl rfl rfl (zN (eP (aBl 0 (L:=[_,_,_,_,_]) rfl hrest2 hrest rfl ((nH _ _ _).mono (fun u2 HE own2 lF hD=>?_)))))));obtain ⟨h1,h2⟩:=hD;subst h2;replace hC:=hC.mono lF;replace hD5:=hD5.mono lF;refine ⟨by subst h1;rfl,_,[_],_,rfl,mO _,(aPv _ _ _ _).mono (fun u3 HE2 own3 hleE2 hD2=>?_)⟩;obtain ⟨h3,h4⟩:=hD2;subst h4;replace hC:=hC.mono hleE2;replace hD5:=hD5.mono hleE2;refine ⟨by subst h3;rfl,_,(fN 2 rfl rfl iE rfl rfl (fN 1 rfl rfl iE rfl rfl (fN 0 rfl rfl jZ rfl rfl iD))),eQ.mk ?_⟩;exact ⟨rfl,_,_,rfl,⟨_,_,rfl,hC⟩,⟨_,_,rfl,hD5⟩⟩
end Go.Proofs

namespace Go.Proofs
open Go.XL
abbrev aV5 (q : Rat) (a : Option Addr) (c : Nat) (a2 : Option Addr) (c2 : Nat) : List Value:=[.bool (decide (q.num < 0)),.slice a (dg q.num.natAbs).length c,.bool false,.slice a2 (dg q.den).length c2]
def lJ (q : Rat) (H : Hp) (v : Value) : Prop:=∃ a c a2 c2,v = .agg ⟨aV5 q a c a2 c2⟩ ∧ SlR (gV .i64) H a c (dg q.num.natAbs) ∧ SlR (gV .i64) H a2 c2 (dg q.den)
theorem lJ.mono {q : Rat} {v : Value} {H H' : Hp} (hle : Le H H') (h : lJ q H v) : lJ q H' v:=by
 obtain ⟨a,c,a2,c2,h1,h2,h3⟩:=h;exact ⟨a,c,a2,c2,h1,h2.mono hle,h3.mono hle⟩
theorem kG (q : Rat) : ∀ v H H',Le H H' → lJ q H v → lJ q H' v:=fun _ _ _ hle h=>h.mono hle
def rF (n d : Int) : Nat:=Nat.gcd n.natAbs d.natAbs
theorem aJm {n d : Int} (hd : d ≠ 0) : 0 < rF n d:=Nat.gcd_pos_of_pos_right _ zO
theorem aT3 (n d : Int) : ((rF n d : Nat) : Int) ∣ n:=Int.ofNat_dvd_left.2 (Nat.gcd_dvd_left _ _)
theorem aQ9 (n d : Int) : ((rF n d : Nat) : Int) ∣ d:=Int.ofNat_dvd_left.2 (Nat.gcd_dvd_right _ _)
theorem aDz {n d : Int} (hd : d ≠ 0) : (Rat.divInt n d).num = if d < 0 then -(n / ((rF n d : Nat) : Int)) else n / ((rF n d : Nat) : Int):=by
 rw [Rat.num_divInt,show ((d.gcd n : Nat) : Int) = ((rF n d : Nat) : Int) by unfold rF Int.gcd;rw [Nat.gcd_comm]];split
 ·rename_i h
  rw [Int.sign_eq_neg_one_of_neg h,show (-1 : Int) * n = -n by omega,Int.neg_ediv_of_dvd (aT3 n d)]
 rename_i h
 rw [Int.sign_eq_one_of_pos zO,Int.one_mul]
theorem aIz {n d : Int} (hd : d ≠ 0) : (Rat.divInt n d).den = (d / ((rF n d : Nat) : Int)).natAbs:=by
 rw [Rat.den_divInt,dG hd,show d.gcd n = rF n d by unfold rF Int.gcd;rw [Nat.gcd_comm]];obtain ⟨k,hk⟩:=aQ9 n d;have hg:=aJm (n:=n) hd;generalize rF n d = g at hk hg ⊢;subst hk;rw [Int.mul_ediv_cancel_left _ zO,Int.natAbs_mul,fW,Nat.mul_div_cancel_left _ hg]
theorem low_len2 {z w : Int} (hw : w ≠ 0) (hl : (dg w.natAbs).length ≤ 1000) : (dg (((rF z w : Nat) : Int)).natAbs).length ≤ 1000 :=
 eK (lP (by rw [fW];exact Nat.le_of_dvd zO (Nat.gcd_dvd_right _ _))) hl
theorem aJ1 {z w : Int} (hw : w ≠ 0) : w / ((rF z w : Nat) : Int) < 0 ↔ w < 0:=by
 obtain ⟨k,hk⟩:=aQ9 z w;have hg:=aJm (n:=z) hw;generalize rF z w = g at hk hg ⊢;have e : w / (g : Int) = k:=by rw [hk,Int.mul_ediv_cancel_left _ zO]
 rw [e,hk];constructor
 ·intro h;exact Int.mul_neg_of_pos_of_neg zO h
 intro h;rcases Int.lt_or_le k 0 with h1 | h1
 ·exact h1
 have:=Int.mul_nonneg (show (0 : Int) ≤ g by omega) h1;omega
theorem aOd {z w : Int} (hw : w ≠ 0) {H : Hp} {a b : Option Addr} {c e : Nat} {X Y : Bool} (hX : X = decide ((Rat.divInt z w).num < 0)) (hY : Y = false)
  (h1 : SlR (gV .i64) H a c (dg (z / ((rF z w : Nat) : Int)).natAbs)) (h2 : SlR (gV .i64) H b e (dg (w / ((rF z w : Nat) : Int)).natAbs)) :
  lJ (Rat.divInt z w) H (.agg ⟨[.bool X,.slice a (dg (z / ((rF z w : Nat) : Int)).natAbs).length c,.bool Y,.slice b (dg (w / ((rF z w : Nat) : Int)).natAbs).length e]⟩):=by
 have e1 : (Rat.divInt z w).num.natAbs = (z / ((rF z w : Nat) : Int)).natAbs:=by rw [aDz hw];split <;> omega
 exact ⟨a,c,b,e,by rw [hX,hY];unfold aV5;rw [e1,aIz hw],by rw [e1];exact h1,by rw [aIz hw];exact h2⟩
theorem low_x0 {z w : Int} (hw : w ≠ 0) (h1 : w / ((rF z w : Nat) : Int) < 0) (h2 : ¬ z / ((rF z w : Nat) : Int) < 0) : decide ((0 : Int) < ((dg (z / ((rF z w : Nat) : Int)).natAbs).length : Nat)) = decide ((Rat.divInt z w).num < 0):=by
 rw [aDz hw,eX ((aJ1 hw).1 h1)];generalize z / ((rF z w : Nat) : Int) = k at h2 ⊢;have h3:=pG (n:=k.natAbs);apply decide_eq_decide.2;constructor
 ·intro h;have : k.natAbs ≠ 0:=fun h0=>by have:=h3.2 h0;omega
  omega
 intro h;rcases Nat.eq_zero_or_pos (dg k.natAbs).length with h4 | h4
 ·have:=h3.1 h4;omega
 omega
theorem low_x1 {z w : Int} (hw : w ≠ 0) (h1 : w / ((rF z w : Nat) : Int) < 0) (h2 : z / ((rF z w : Nat) : Int) < 0) : false = decide ((Rat.divInt z w).num < 0):=by
 rw [aDz hw,eX ((aJ1 hw).1 h1)];exact (aI zO).symm
theorem low_x2 {z w : Int} (hw : w ≠ 0) (h1 : ¬ w / ((rF z w : Nat) : Int) < 0) : decide (z / ((rF z w : Nat) : Int) < 0) = decide ((Rat.divInt z w).num < 0):=by
 rw [aDz hw,dG (fun h=>h1 ((aJ1 hw).2 h))]
end Go.Proofs

namespace Go.Proofs
open Go.XL
theorem wT (b : Bool) (y : Int) (hb : b = true) (H : Hp) : iP Tryz.prog 95 #[.bool b,.int .i64 y] H [] (eQ (fun v _ _=>v = .tuple #[])):=by
 refine iP.intro (args:=[.bool b,.int .i64 y]) Tryz.func95 rfl rfl Tryz.ntmps95 rfl rfl rfl fun G rest=>?_;refine zS ?_;refine zM rfl ?_;refine lB rfl rfl ?_;refine zN ?_;refine gD rfl (by rw [hb];rfl) ?_;refine eF ?_;refine ⟨rfl,_,[],rfl,zA,eQ.mk ?_⟩;rfl
theorem aK8 (x : Raw) (a : Option Addr) (c : Nat) (H : Hp) (hs : SlR (gV .i64) H a c x.2) : iP Tryz.prog 92 #[.agg ⟨[.bool x.1,.slice a x.2.length c]⟩,.int .i64 0] H [] (eQ (fun v _ _=>v = .agg ⟨[.bool x.1,.slice a x.2.length c]⟩)):=by
 refine iP.introC (args:=[.agg ⟨[.bool x.1,.slice a x.2.length c]⟩,.int .i64 0]) Tryz.func92 rfl rfl Tryz.ntmps92 rfl rfl rfl fun G rest=>?_;refine zS ?_;refine iW rfl rfl rfl (fun b2=>?_);refine fI nV rfl (fun b4=>?_);refine zN ?_;refine zS ?_;refine zM rfl ?_;refine zZ rfl ?_;refine zM rfl ?_;refine fH rfl (wT _ _ (bG rfl) _) rfl ?_;refine zN ?_;refine zS ?_;refine bT 1 rfl rfl iE rfl rfl rfl ?_;refine eG 0 rfl rfl rfl rfl iE rfl rfl rfl rfl rfl ?_;refine zN ?_;refine eP ?_;refine ⟨rfl,_,[],(fN 0 rfl rfl iE rfl rfl iD),zA,eQ.mk ?_⟩;rfl
theorem rpos_fn (x : Raw) (a : Option Addr) (c : Nat) (H : Hp) (hs : SlR (gV .i64) H a c x.2) : iP Tryz.prog 111 #[.agg ⟨[.bool x.1,.slice a x.2.length c]⟩] H [] (eQ (fun v _ _=>∃ e : Bool,v = .bool e ∧ (e = true ↔ x.1 = false ∧ 0 < x.2.length))):=by
 refine iP.intro (args:=[.agg ⟨[.bool x.1,.slice a x.2.length c]⟩]) Tryz.func111 rfl rfl Tryz.ntmps111 rfl rfl rfl fun G rest=>?_;refine zS ?_;refine iW rfl rfl rfl (fun b1=>?_);refine zG rfl ?_;refine zN ?_;refine zS ?_;refine bJ rfl mG rfl ?_;refine bT 0 rfl rfl oA rfl rfl rfl ?_;refine lB rfl rfl ?_;refine zM rfl ?_;refine iM rfl rfl rfl rfl (fun g1=>?_) (fun g1=>?_)
 ·have g1p:=g1;refine bJ rfl kY rfl (zT rfl g1 (bT 0 rfl rfl gE rfl rfl rfl (zT rfl g1 (eD (ts:=#[]) rfl bK rfl (zT rfl g1 (zY rfl (zV g1 rfl (zG rfl (zN (eP ?_))))))))));refine ⟨rfl,_,[],rfl,zA,eQ.mk ?_⟩;exact ⟨_,rfl,by simp_all⟩
 have g1p:=g1;refine zU rfl g1 (zU rfl g1 (zU rfl g1 (zW g1 rfl (zG rfl (zN (eP ?_))))));refine ⟨rfl,_,[],rfl,zA,eQ.mk ?_⟩;exact ⟨_,rfl,by simp_all⟩
end Go.Proofs

namespace Go.Proofs
open Go.XL
theorem aGr : vS Tryz.prog 56 = some [(0,2),(2,2)]:=zK
theorem aG0 : vV Tryz.prog 56 = true:=zK
theorem aG5 : qF Tryz.prog 150 0 = some 0:=zK
theorem nM : qF Tryz.prog 56 0 = some 0:=zK
theorem oU : qF Tryz.prog 56 1 = some 2:=zK
theorem fG : tP Tryz.prog 56 4 true = true:=zK
theorem jD : nB Tryz.prog 56 = some [.bool false,.slice none 0 0,.bool false,.slice none 0 0]:=zK
theorem aDy (z w : Int) (a b : Option Addr) (c d : Nat) (H : Hp) (hs : SlR (gV .i64) H a c (dg z.natAbs)) (ht : SlR (gV .i64) H b d (dg w.natAbs)) (hz : (dg z.natAbs).length ≤ 1000) (hw : (dg w.natAbs).length ≤ 1000) (hw0 : w ≠ 0) : iP Tryz.prog 94 #[.agg ⟨[.bool (decide (z < 0)),.slice a (dg z.natAbs).length c,.bool (decide (w < 0)),.slice b (dg w.natAbs).length d]⟩] H [] (eQ (fun v H2 _=>lJ (Rat.divInt z w) H2 v)):=by
 refine iP.introC (args:=[.agg ⟨[.bool (decide (z < 0)),.slice a (dg z.natAbs).length c,.bool (decide (w < 0)),.slice b (dg w.natAbs).length d]⟩]) Tryz.func94 rfl rfl Tryz.ntmps94 rfl rfl rfl fun G rest=>?_;refine zS ?_;refine iW rfl rfl rfl (fun b1=>?_);refine fI jD rfl (fun b2=>?_);refine zN ?_;refine zS ?_;refine bJ rfl aG5 rfl ?_;refine bJ rfl nM rfl ?_;refine bT 1 rfl rfl iE rfl rfl rfl ?_;refine bJ rfl aG5 rfl ?_;refine bJ rfl oU rfl ?_;refine bT 1 rfl rfl iE rfl rfl rfl ?_;refine eZ rfl (qR (aS0 z w _ _ _ _ _ hs ht hz hw)) rfl ?_;rintro _ HG sB ⟨_,rfl,aG,cG,rfl,hG⟩;have hGp : 0 < ((rF z w : Nat) : Int):=by have:=aJm (n:=z) hw0;omega
 have hGl : (dg (((rF z w : Nat) : Int)).natAbs).length ≤ 1000:=low_len2 hw0 hw;change SlR _ _ _ _ (dg (((rF z w : Nat) : Int)).natAbs) at hG;replace hs:=hs.mono sB;replace ht:=ht.mono sB;refine zX rfl (zX rfl (fH rfl (aK8 (iY ((rF z w : Nat) : Int)) _ _ _ hG) rfl (fI nV rfl (fun b3=>eG 0 rfl rfl rfl rfl iE rfl rfl rfl rfl rfl (zN (zS (bJ rfl aG5 rfl (bJ rfl nM rfl (bT 2 rfl rfl iE rfl rfl rfl (bT 0 rfl rfl iE rfl rfl rfl (eZ rfl (qR (aS8 z ((rF z w : Nat) : Int) _ _ _ _ _ hs hG hz hGl hGp (aT3 z w))) rfl ?_)))))))))));rintro _ HA2 hleA2 ⟨_,_,rfl,⟨aA2,cA2,rfl,hA2⟩,⟨aB2,cB2,rfl,hB2⟩⟩;replace ht:=ht.mono hleA2;replace hG:=hG.mono hleA2;refine zM rfl (zX rfl (zX rfl (zX rfl (fI nV rfl (fun b4=>fI nV rfl (fun b5=>eG 1 rfl rfl rfl rfl iE rfl rfl rfl rfl rfl (eG 0 rfl rfl rfl rfl iE rfl rfl rfl rfl rfl (zG rfl (zN (zS (bJ rfl aG5 rfl (bJ rfl oU rfl (bT 4 rfl rfl iE rfl rfl rfl (bT 2 rfl rfl iE rfl rfl rfl (eZ rfl (qR (aS8 w ((rF z w : Nat) : Int) _ _ _ _ _ ht hG hw hGl hGp (aQ9 z w))) rfl ?_)))))))))))))));rintro _ HA3 hleA3 ⟨_,_,rfl,⟨aA3,cA3,rfl,hA3⟩,⟨aB3,cB3,rfl,hB3⟩⟩;replace hA2:=hA2.mono hleA3;refine zM rfl (zX rfl (zX rfl (zX rfl (fI nV rfl (fun b7=>fI nV rfl (fun b8=>eG 1 rfl rfl rfl rfl iE rfl rfl rfl rfl rfl (eG 0 rfl rfl rfl rfl iE rfl rfl rfl rfl rfl (zG rfl (zN (cO (zS (bJ rfl mG rfl (bT 1 rfl rfl oA rfl rfl rfl (zN (mN rfl (fun c0_5=>?_) (fun c0_5=>?_))))))))))))))))
 ·refine zS (bJ rfl mG rfl (eG 1 rfl rfl rfl rfl oA rfl rfl rfl rfl rfl (zN (dL (bJ rfl mG rfl (bT 3 rfl rfl oA rfl rfl rfl (aFf rfl rfl (zM rfl (iM rfl rfl rfl rfl (fun g6=>?_) (fun g6=>?_))))))))))
  ·have g6p:=g6;refine bJ rfl kY rfl (zT rfl g6 (bT 3 rfl rfl gE rfl rfl rfl (zT rfl g6 (eD (ts:=#[]) rfl bK rfl (zT rfl g6 (zY rfl (zV g6 rfl (bJ rfl mG rfl (eG 3 rfl rfl rfl rfl oA rfl rfl rfl rfl rfl (zN (zS (bT 3 rfl rfl iE rfl rfl rfl (bT 1 rfl rfl iE rfl rfl rfl (mC aG0 aGr jD rfl rfl rfl (eG 5 rfl rfl rfl rfl fG rfl rfl rfl rfl rfl (zN (eP ?_)))))))))))))))));refine ⟨rfl,_,[],(fN 5 rfl rfl fG rfl rfl iD),zA,eQ.mk ?_⟩;exact aOd hw0 (low_x0 hw0 (eT c0_5) (eT g6)) rfl hA2 hA3
  have g6p:=g6;refine zU rfl g6 (zU rfl g6 (zU rfl g6 (zW g6 rfl (bJ rfl mG rfl (eG 3 rfl rfl rfl rfl oA rfl rfl rfl rfl rfl (zN (zS (bT 3 rfl rfl iE rfl rfl rfl (bT 1 rfl rfl iE rfl rfl rfl (mC aG0 aGr jD rfl rfl rfl (eG 5 rfl rfl rfl rfl fG rfl rfl rfl rfl rfl (zN (eP ?_)))))))))))));refine ⟨rfl,_,[],(fN 5 rfl rfl fG rfl rfl iD),zA,eQ.mk ?_⟩;exact aOd hw0 (low_x1 hw0 (eT c0_5) (lV.1 (fM g6))) rfl hA2 hA3
 refine eF (bO (zS (bT 3 rfl rfl iE rfl rfl rfl (bT 1 rfl rfl iE rfl rfl rfl (mC aG0 aGr jD rfl rfl rfl (eG 5 rfl rfl rfl rfl fG rfl rfl rfl rfl rfl (zN (eP ?_))))))));refine ⟨rfl,_,[],(fN 5 rfl rfl fG rfl rfl iD),zA,eQ.mk ?_⟩;exact aOd hw0 (low_x2 hw0 (fM c0_5)) c0_5 hA2 hA3
end Go.Proofs

namespace Go.Proofs
open Go.XL
theorem rK (be : Nat) (x : Int) (H : Hp) : FnD Tryz.prog 57 #[.pointer (some ⟨be,0,none⟩)] (.returning) H [(be,.cells 27 [.int .i64 x])] (fun u _ own=>u = .returning ∧ own = [(be,.cells 27 [.int .i64 x])]):=by
 refine FnD.intro (args:=[.pointer (some ⟨be,0,none⟩)]) Tryz.func57 rfl rfl Tryz.ntmps57 rfl rfl rfl fun G rest=>?_;refine XS.seq ?_;refine XS.recover rfl rfl ?_;refine bF ?_;refine XS.of rfl ?_;refine dK ?_;refine zS ?_;refine aA9 rfl (Or.inl ⟨rfl,rfl⟩) nD rfl ?_;refine zN ?_;refine jB rfl rfl ?_;refine dL ?_;refine zG rfl ?_;refine bF ?_;refine fY ?_;refine ⟨rfl,_,[(be,.cells 27 [.int .i64 x])],rfl,zA,?_⟩;exact ⟨rfl,rfl⟩
theorem rcaught_pan (be : Nat) (x y : Int) (H : Hp) : FnD Tryz.prog 57 #[.pointer (some ⟨be,0,none⟩)] (.panicking [{ v:=.iface 27 (.int .i64 y),recovered:=false }]) H [(be,.cells 27 [.int .i64 x])] (fun u _ own=>settle u = .returning ∧ own = [(be,.cells 27 [.int .i64 y])]):=by
 refine FnD.intro (args:=[.pointer (some ⟨be,0,none⟩)]) Tryz.func57 rfl rfl Tryz.ntmps57 rfl rfl rfl fun G rest=>?_;refine XS.seq ?_;refine XS.recover rfl rfl ?_;refine bF ?_;refine XS.of rfl ?_;refine dK ?_;refine zS ?_;refine aA9 rfl (Or.inr ⟨_,_,rfl,rfl⟩) nD rfl ?_;refine zN ?_;refine gD rfl rfl ?_;refine zS ?_;refine aC4 rfl pU rfl ?_;refine zX rfl ?_;refine zX rfl ?_;refine zN ?_;refine jB rfl rfl ?_;refine zS ?_;refine zG rfl ?_;refine zN ?_;refine dL ?_;refine zM rfl ?_;refine zM rfl ?_;refine iB rfl rfl ?_;refine eG 0 rfl rfl rfl rfl jZ rfl rfl rfl rfl rfl ?_;refine bF ?_;refine fY ?_;refine ⟨rfl,_,[(be,.cells 27 [.int .i64 y])],rfl,zA,?_⟩;exact ⟨rfl,rfl⟩
theorem aC5 (be : Nat) (x : Int) (H : Hp) : FnD Tryz.prog 39 #[.pointer (some ⟨be,0,none⟩)] (.returning) H [(be,.cells 27 [.int .i64 x])] (fun u _ own=>u = .returning ∧ own = [(be,.cells 27 [.int .i64 x])]):=by
 refine FnD.intro (args:=[.pointer (some ⟨be,0,none⟩)]) Tryz.func39 rfl rfl Tryz.ntmps39 rfl rfl rfl fun G rest=>?_;refine XS.seq ?_;refine XS.recover rfl rfl ?_;refine bF ?_;refine XS.of rfl ?_;refine dK ?_;refine zS ?_;refine aA9 rfl (Or.inl ⟨rfl,rfl⟩) nD rfl ?_;refine zN ?_;refine jB rfl rfl ?_;refine dL ?_;refine zG rfl ?_;refine bF ?_;refine fY ?_;refine ⟨rfl,_,[(be,.cells 27 [.int .i64 x])],rfl,zA,?_⟩;exact ⟨rfl,rfl⟩
theorem aDg (be : Nat) (x y : Int) (H : Hp) : FnD Tryz.prog 39 #[.pointer (some ⟨be,0,none⟩)] (.panicking [{ v:=.iface 27 (.int .i64 y),recovered:=false }]) H [(be,.cells 27 [.int .i64 x])] (fun u _ own=>settle u = .returning ∧ own = [(be,.cells 27 [.int .i64 y])]):=by
 refine FnD.intro (args:=[.pointer (some ⟨be,0,none⟩)]) Tryz.func39 rfl rfl Tryz.ntmps39 rfl rfl rfl fun G rest=>?_;refine XS.seq ?_;refine XS.recover rfl rfl ?_;refine bF ?_;refine XS.of rfl ?_;refine dK ?_;refine zS ?_;refine aA9 rfl (Or.inr ⟨_,_,rfl,rfl⟩) nD rfl ?_;refine zN ?_;refine gD rfl rfl ?_;refine zS ?_;refine aC4 rfl pU rfl ?_;refine zX rfl ?_;refine zX rfl ?_;refine zN ?_;refine jB rfl rfl ?_;refine zS ?_;refine zG rfl ?_;refine zN ?_;refine dL ?_;refine zM rfl ?_;refine zM rfl ?_;refine iB rfl rfl ?_;refine eG 0 rfl rfl rfl rfl jZ rfl rfl rfl rfl rfl ?_;refine bF ?_;refine fY ?_;refine ⟨rfl,_,[(be,.cells 27 [.int .i64 y])],rfl,zA,?_⟩;exact ⟨rfl,rfl⟩
end Go.Proofs

namespace Go.Proofs
open Go.XL
theorem aNu : vS Tryz.prog 150 = some [(0,4)]:=zK
theorem aN3 : vV Tryz.prog 150 = true:=zK
theorem aOg : nB Tryz.prog 150 = some [.bool false,.slice none 0 0,.bool false,.slice none 0 0]:=zK
theorem rof_fn (z w : Int) (a b : Option Addr) (c d : Nat) (H : Hp) (hs : SlR (gV .i64) H a c (dg z.natAbs)) (ht : SlR (gV .i64) H b d (dg w.natAbs)) (hz : (dg z.natAbs).length ≤ 1000) (hw : (dg w.natAbs).length ≤ 1000) (hw0 : w ≠ 0) : iP Tryz.prog 89 #[.agg ⟨[.bool (decide (z < 0)),.slice a (dg z.natAbs).length c]⟩,.agg ⟨[.bool (decide (w < 0)),.slice b (dg w.natAbs).length d]⟩] H [] (eQ (fun v H2 own=>own = [] ∧ ∃ u,v = .tuple #[u,.int .i64 0] ∧ lJ (Rat.divInt z w) H2 u)):=by
 refine iP.introD (args:=[.agg ⟨[.bool (decide (z < 0)),.slice a (dg z.natAbs).length c]⟩,.agg ⟨[.bool (decide (w < 0)),.slice b (dg w.natAbs).length d]⟩]) Tryz.func89 rfl rfl Tryz.ntmps89 rfl rfl rfl fun G rest=>?_;refine zS ?_;refine iW rfl rfl rfl (fun b2=>?_);refine iW rfl rfl rfl (fun b3=>?_);refine fI jD rfl (fun b4=>?_);refine fI sJ rfl (fun b5=>?_);refine zN ?_;refine zS ?_;refine mL (L:=[_,_,_,_]) rfl rfl rfl rfl rfl (fun msD rest hrest=>?_);simp only [fP,gN];refine zN ?_;refine zS ?_;refine bT 3 rfl rfl iE rfl rfl rfl ?_;refine kO rfl (aAr (iY z) _ _ _ hs (by show (dg _).length < _;omega)) rfl ?_;rintro _ ⟨e1,rfl,he1⟩;obtain rfl : e1 = 0:=he1.2 (aDx zO);refine zZ rfl ?_;refine zM rfl ?_;refine zT rfl (bG rfl) ?_;refine bT 2 rfl rfl iE rfl rfl rfl ?_;refine zT rfl (bG rfl) ?_;refine kO rfl (aAr (iY w) _ _ _ ht (by show (dg _).length < _;omega)) rfl ?_;rintro _ ⟨e2,rfl,he2⟩;obtain rfl : e2 = 0:=he2.2 (aDx zO);refine zT rfl (bG rfl) ?_;refine zZ rfl ?_;refine zV (bG rfl) rfl ?_;refine fH rfl (wT _ _ (bG rfl) _) rfl ?_;refine zN ?_;refine zS ?_;refine bJ rfl kY rfl ?_;refine bT 2 rfl rfl gE rfl rfl rfl ?_;refine eD (ts:=#[]) rfl bK rfl ?_;refine zY rfl ?_;refine fH rfl (wT _ _ (bG (by have:=(not_congr (pG (n:=w.natAbs))).2 zO;omega)) _) rfl ?_;refine zN ?_;refine zS ?_;refine bT 3 rfl rfl iE rfl rfl rfl ?_;refine bT 2 rfl rfl iE rfl rfl rfl ?_;refine mC aG0 aGr jD rfl rfl rfl ?_;refine mC aN3 aNu aOg rfl rfl rfl ?_;refine eZ rfl (aDy z w _ _ _ _ _ hs ht hz hw hw0) rfl ?_;rintro _ HL jQ ⟨aL,cL,aM,cM,rfl,hL1,hL2⟩;refine eG 1 rfl rfl rfl rfl fG rfl rfl rfl rfl rfl ?_;refine eG 0 rfl rfl rfl rfl jZ rfl rfl rfl rfl rfl ?_;refine zN ?_;refine eP ?_;refine jO 0 (L:=[_,_,_,_]) rfl hrest rfl ((rK _ _ _).mono (fun u2 HE own2 lF hD=>?_));obtain ⟨h1,h2⟩:=hD;subst h2;replace hL1:=hL1.mono lF;replace hL2:=hL2.mono lF;refine ⟨by subst h1;rfl,_,_,rfl,(fN 1 rfl rfl fG rfl rfl (fN 0 rfl rfl jZ rfl rfl iD)),eQ.mk ?_⟩;exact ⟨rfl,_,rfl,_,_,_,_,rfl,hL1,hL2⟩
theorem aDk (n d : Int) (hn : -9223372036854775808 ≤ n ∧ n ≤ 9223372036854775807) (hd : -9223372036854775808 ≤ d ∧ d ≤ 9223372036854775807) (hd0 : d ≠ 0) (H : Hp) : iP Tryz.prog 50 #[.int .i64 n,.int .i64 d] H [] (eQ (fun v H2 _=>∃ u,v = .tuple #[u,.int .i64 0] ∧ lJ (Rat.divInt n d) H2 u)):=by
 refine iP.introC (args:=[.int .i64 n,.int .i64 d]) Tryz.func50 rfl rfl Tryz.ntmps50 rfl rfl rfl fun G rest=>?_;refine zS ?_;refine fI jD rfl (fun b4=>?_);refine zG rfl ?_;refine zN ?_;refine zS ?_;refine zM rfl ?_;refine eZ rfl (aKt n hn _) rfl ?_;rintro _ HA hleA ⟨aA,cA,rfl,hA⟩;refine zM rfl ?_;refine eZ rfl (aKt d hd _) rfl ?_;rintro _ HB pZ ⟨aB,cB,rfl,hB⟩;replace hA:=hA.mono pZ;refine eZ rfl (qR (rof_fn n d _ _ _ _ _ hA hB (eK (sH hn) zD) (eK (sH hd) zD) hd0)) rfl ?_;rintro _ HO hleO ⟨_,rfl,aL,cL,aM,cM,rfl,hL1,hL2⟩;refine zX rfl ?_;refine zX rfl ?_;refine eG 0 rfl rfl rfl rfl fG rfl rfl rfl rfl rfl ?_;refine zG rfl ?_;refine zN ?_;refine eP ?_;refine ⟨rfl,_,[],(fN 0 rfl rfl fG rfl rfl (mM rfl iD)),zA,eQ.mk ?_⟩;exact ⟨_,rfl,_,_,_,_,rfl,hL1,hL2⟩
end Go.Proofs

namespace Go.Proofs
open Go.XL
def okQ (x y : Raw) : Prop:=∃ q : Rat,x = iY q.num ∧ y = iY (q.den : Int) ∧ x.2.length ≤ 2048 ∧ y.2.length ≤ 2048
theorem aRn {x y : Raw} (h : okQ x y) : okB x ∧ okB y ∧ y.1 = false ∧ 0 < y.2.length:=by
 obtain ⟨q,rfl,rfl,h1,h2⟩:=h
 have e0 : (iY (q.den : Int)).1 = false:=by
  have : ¬ ((q.den : Int) < 0):=zO
  show decide ((q.den : Int) < 0) = false;exact aI this
 refine ⟨aDx h1,aDx h2,e0,?_⟩;show 0 < (dg _).length;rcases Nat.eq_zero_or_pos (dg ((q.den : Int)).natAbs).length with h0 | h0
 ·have:=pG.1 h0;have:=q.den_pos;omega
 exact h0
theorem aLu {z w : Int} (h : iY z = iY w) : z = w:=by
 have h1:=congrArg Prod.fst h;have h2:=congrArg Prod.snd h;simp only [iY] at h1 h2;have h3:=nN z.natAbs;rw [h2,nN] at h3
 have h4 : (z < 0) ↔ (w < 0):=by
  constructor
  ·intro hz;rw [bG hz] at h1;exact eT h1.symm
  intro hw;rw [bG hw] at h1;exact eT h1
 omega
theorem okQ_gcd {z w : Int} (h : okQ (iY z) (iY w)) : Nat.gcd z.natAbs w.natAbs = 1:=by
 obtain ⟨q,h1,h2,_⟩:=h;have e1:=aLu h1;have e2:=aLu h2;subst e1;subst e2;exact q.reduced
theorem okQ_mk {z w : Int} (hz : (dg z.natAbs).length ≤ 2048) (hw : (dg w.natAbs).length ≤ 2048) (h0 : 0 < w) (hg : Nat.gcd z.natAbs w.natAbs = 1) : okQ (iY z) (iY w):=by
 refine ⟨⟨z,w.natAbs,zO,hg⟩,rfl,?_,hz,hw⟩;show iY w = iY ((w.natAbs : Nat) : Int);rw [show ((w.natAbs : Nat) : Int) = w by omega]
theorem aM5 {n : Nat} : n = 1 ↔ (dg n).length = 1 ∧ (dg n)[0]? = some 1:=by
 constructor
 ·rintro rfl;have : dg 1 = [1]:=by rw [aDb zD,show 1 / 1073741824 = 0 from rfl,dg0];rfl
  rw [this];exact ⟨rfl,rfl⟩
 rintro ⟨h1,h2⟩;have:=aTz h1 h2;omega
theorem big_pos {w : Int} (h1 : (iY w).1 = false) (h2 : 0 < (iY w).2.length) : 0 < w:=by
 have h3 : ¬ w < 0:=fM h1
 have h4 : w.natAbs ≠ 0:=fun h=>by
  have : (iY w).2.length = 0:=pG.2 h;omega
 omega
theorem aS3 {z : Int} (hx : (iY z).2.length ≤ 1000 ∨ 2048 < (iY z).2.length) (h : (dg z.natAbs).length ≤ 2048) : (dg z.natAbs).length ≤ 1000:=by
 rcases hx with h1 | h1
 ·exact h1
 have : 2048 < (dg z.natAbs).length:=h1;omega
theorem aT7 {z w : Int} {g : Nat} (hg : g = Nat.gcd z.natAbs w.natAbs) (h : ¬ ((dg g).length = 1 ∧ (dg g)[0]? = some 1)) : ¬ okQ (iY z) (iY w):=fun h1=>h (aM5.1 (by rw [hg];exact okQ_gcd h1))
end Go.Proofs

namespace Go.Proofs
open Go.XL
theorem aAn (x y : Raw) (a b : Option Addr) (c d : Nat) (H : Hp) (hs : SlR (gV .i64) H a c x.2) (ht : SlR (gV .i64) H b d y.2) (hx : x.2.length ≤ 1000 ∨ 2048 < x.2.length) (hy : y.2.length ≤ 1000 ∨ 2048 < y.2.length) (hxl : x.2.length < 9223372036854775808) (hyl : y.2.length < 9223372036854775808) : iP Tryz.prog 82 #[.agg ⟨[.bool x.1,.slice a x.2.length c,.bool y.1,.slice b y.2.length d]⟩] H [] (eQ (fun v _ _=>∃ e : Int,v = .int .i64 e ∧ (e = 0 ↔ okQ x y))):=by
 refine iP.intro (args:=[.agg ⟨[.bool x.1,.slice a x.2.length c,.bool y.1,.slice b y.2.length d]⟩]) Tryz.func82 rfl rfl Tryz.ntmps82 rfl rfl rfl fun G rest=>?_;refine zS ?_;refine iW rfl rfl rfl (fun b1=>?_);refine zG rfl ?_;refine zN ?_;refine cO ?_;refine zS ?_;refine bJ rfl nM rfl ?_;refine bT 0 rfl rfl iE rfl rfl rfl ?_;refine kO rfl (aAr x _ _ _ hs hxl) rfl ?_;rintro _ ⟨e1,rfl,he1⟩;refine zJ rfl ?_;refine zM rfl ?_;refine iM rfl rfl rfl rfl (fun g2=>?_) (fun g2=>?_)
 ·have g2p:=fM g2;refine bJ rfl oU rfl (zT rfl g2 (bT 0 rfl rfl iE rfl rfl rfl (zT rfl g2 (kO rfl (aAr y _ _ _ ht hyl) rfl ?_))));rintro _ ⟨e2,rfl,he2⟩;refine zT rfl g2 (zJ rfl (zW g2 rfl (zM rfl (iM rfl rfl rfl rfl (fun g4=>?_) (fun g4=>?_)))))
  ·have g4p:=fM g4;refine bJ rfl oU rfl (zT rfl g4 (bT 0 rfl rfl iE rfl rfl rfl (zT rfl g4 (kO rfl (rpos_fn y _ _ _ ht) rfl ?_))));rintro _ ⟨bP,rfl,hP⟩;refine zT rfl g4 (lB rfl rfl (zW g4 rfl (zN (mN rfl (fun c0_6=>?_) (fun c0_6=>?_)))))
   ·refine zS (zG rfl (zN (eP (fD ?_))));refine ⟨rfl,_,[],rfl,zA,eQ.mk ?_⟩;exact ⟨100,rfl,⟨fun h=>absurd h zD,fun h=>by obtain ⟨_,_,h3,h4⟩:=aRn h;have h5:=hP.2 ⟨h3,h4⟩;rw [h5] at c0_6;cases c0_6⟩⟩
   obtain ⟨z,rfl,hz⟩:=aVm (he1.1 zO);obtain ⟨w,rfl,hw⟩:=aVm (he2.1 zO);have hpos:=hP.1 (by simpa using c0_6);have hw0:=big_pos hpos.1 hpos.2;have hz1:=aS3 hx hz;have hw1:=aS3 hy hw;change SlR (gV .i64) _ _ _ (dg z.natAbs) at hs;change SlR (gV .i64) _ _ _ (dg w.natAbs) at ht;change XC _ _ _ ⟨_,_,_,(b1,.cells 56 [.bool (decide (z < 0)),.slice a (dg z.natAbs).length c,.bool (decide (w < 0)),.slice b (dg w.natAbs).length d]) :: rest⟩;refine eF (bO (zS (bJ rfl nM rfl (bT 0 rfl rfl iE rfl rfl rfl (bJ rfl oU rfl (bT 0 rfl rfl iE rfl rfl rfl (eZ rfl (qR (aS0 z w _ _ _ _ _ hs ht hz1 hw1)) rfl ?_)))))));rintro _ HG sB ⟨_,rfl,aG,cG,rfl,hG⟩;replace hs:=hs.mono sB;replace ht:=ht.mono sB;refine zM rfl (zX rfl (zX rfl (fI nV rfl (fun b3=>eG 0 rfl rfl rfl rfl iE rfl rfl rfl rfl rfl (zG rfl (zN (cO (zS (bJ rfl kY rfl (bT 0 rfl rfl gE rfl rfl rfl (eD (ts:=#[]) rfl bK rfl (zJ rfl (zM rfl (iM rfl rfl rfl rfl (fun g8=>?_) (fun g8=>?_)))))))))))))))
   ·have g8p:=fM g8;refine bJ rfl kY rfl (zT rfl g8 (bT 0 rfl rfl gE rfl rfl rfl (zT rfl g8 (eV (i:=0) rfl hG rfl bK gK zO rfl ?_))));rintro eb36 eo36 _ x36 hx36 rfl hp36;refine zT rfl g8 (eH rfl (by assumption) gK rfl rfl rfl (zT rfl g8 (zJ rfl (zW g8 rfl (zN (mN rfl (fun c1_10=>?_) (fun c1_10=>?_)))))))
    ·refine zS (zG rfl (zN (eP (fD ?_))));refine ⟨rfl,_,[],rfl,zA,eQ.mk ?_⟩;exact ⟨100,rfl,⟨fun h=>absurd h zD,fun h=>absurd h (aT7 rfl (fun h2=>eT c1_10 (by have h3:=h2.2;rw [fW] at hx36;rw [hx36] at h3;exact eE h3)))⟩⟩
    refine eF (bO (zS (zG rfl (zN (eP ?_)))));refine ⟨rfl,_,[],rfl,zA,eQ.mk ?_⟩;exact ⟨0,rfl,⟨fun _=>okQ_mk hz hw hw0 (aM5.2 ⟨by rw [fW] at g8p;omega,by rw [fW] at hx36;rw [hx36,lV.1 (fM c1_10)]⟩),fun _=>rfl⟩⟩
   have g8p:=eT g8;refine zU rfl g8 (zU rfl g8 (zU rfl g8 (zU rfl g8 (zV g8 rfl (zN (jB rfl rfl (zS (zG rfl (zN (eP (fD ?_)))))))))));refine ⟨rfl,_,[],rfl,zA,eQ.mk ?_⟩;exact ⟨100,rfl,⟨fun h=>absurd h zD,fun h=>absurd h (aT7 rfl (fun h2=>by rw [fW] at g8p;have h3:=h2.1;omega))⟩⟩
  have g4p:=eT g4;refine zU rfl g4 (zU rfl g4 (zU rfl g4 (zV g4 rfl (zN (jB rfl rfl (zS (zG rfl (zN (eP (fD ?_))))))))));refine ⟨rfl,_,[],rfl,zA,eQ.mk ?_⟩;exact ⟨100,rfl,⟨fun h=>absurd h zD,fun h=>absurd (he2.2 (aRn h).2.1) g4p⟩⟩
 have g2p:=eT g2;refine zU rfl g2 (zU rfl g2 (zU rfl g2 (zV g2 rfl (zM rfl (zU rfl rfl (zU rfl rfl (zU rfl rfl (zU rfl rfl (zV rfl rfl (zN (jB rfl rfl (zS (zG rfl (zN (eP (fD ?_))))))))))))))));refine ⟨rfl,_,[],rfl,zA,eQ.mk ?_⟩;exact ⟨100,rfl,⟨fun h=>absurd h zD,fun h=>absurd (he1.2 (aRn h).1) g2p⟩⟩
end Go.Proofs

namespace Go.Proofs
open Go.XL
def lS : Rep (Raw × Raw) where
 sz:=4
 R:=fun H cs x=>∃ a c b d,cs = [.bool x.1.1,.slice a x.1.2.length c,.bool x.2.1,.slice b x.2.2.length d] ∧ SlR (gV .i64) H a c x.1.2 ∧ SlR (gV .i64) H b d x.2.2
 len:=fun ⟨_,_,_,_,h,_⟩=>by subst h;rfl
 one:=fun ⟨_,_,_,_,h,_⟩=>by subst h;rfl
 mono:=fun hle ⟨a,c,b,d,h,h1,h2⟩=>⟨a,c,b,d,h,h1.mono hle,h2.mono hle⟩
def aV7 (x : Raw × Raw) : Prop:=okQ x.1 x.2 ∧ x.1.2.length ≤ 1000 ∧ x.2.2.length ≤ 1000
end Go.Proofs

namespace Go.Proofs
open Go.XL
theorem aAy (a : Option Addr) (c : Nat) (l : List (Raw × Raw)) (H : Hp) (hs : SlR lS H a c l) (hl : l.length < 9223372036854775808) (hok : ∀ x ∈ l,aV7 x) : iP Tryz.prog 58 #[.slice a l.length c] H [] (eQ (fun v _ _=>v = .tuple #[])):=by
 refine iP.intro (args:=[.slice a l.length c]) Tryz.func58 rfl rfl Tryz.ntmps58 rfl rfl rfl fun G rest=>?_;refine zS ?_;refine zM rfl ?_;refine eD (ts:=#[]) rfl cJ rfl ?_;refine zM rfl ?_;refine zN ?_;refine dK ?_;refine eU [6,4,5] rfl ?_;refine gO (base:=[(4,_),(5,_)]) (fun ζ : Nat=>[(6,.int .i64 (ζ : Nat))]) (fun ζ Hl own=>ζ ≤ l.length ∧ rest = own) (fun ζ=>l.length - ζ) 0 (zC) zB ⟨eS _,rfl⟩ ?_;rintro k Hl0 _ gB ⟨hkk,rfl⟩;replace hs:=hs.mono gB;try dsimp only at ⊢
 refine zS (zL rfl (zN (cO (fC rfl (fun nY=>?_) (fun nY=>?_)))))
 ·refine eF (bO (cO (dK (zS (eV rfl hs rfl cJ fG zO rfl ?_)))));rintro eb8 eo8 _ x8 hx8 ⟨ax8,cx8,bx8,dx8,rfl,hd8,he8⟩ hp8;refine eH rfl (by assumption) fG rfl rfl rfl (fI jD rfl (fun b3=>eG 0 rfl rfl rfl rfl fG rfl rfl rfl rfl rfl (zN (dL (bT 0 rfl rfl fG rfl rfl rfl ?_)))));obtain ⟨hox,hoa,hob⟩:=hok x8 (cF hx8);refine kO rfl (aAn x8.1 x8.2 _ _ _ _ _ hd8 he8 (.inl hoa) (.inl hob) zO zO) rfl ?_;rintro _ ⟨e,rfl,hce⟩;obtain rfl : e = 0:=hce.2 hox;refine zZ rfl (fH rfl (wT _ _ (bG rfl) _) rfl (bF (fY (bO (dL (fR rfl rfl (dT zO zO) rfl (zM rfl (bF (eW (k + 1) (by show l.length - (k + 1) < l.length - k;omega) (zC) (⟨by show k + 1 ≤ l.length;omega,rfl⟩) zB (gB))))))))))
 refine gI (fE (eY (fU rfl ?_)));refine ⟨rfl,_,[],rfl,zA,eQ.mk ?_⟩;rfl
theorem rdidI_ok (n : Int) (H : Hp) : iP Tryz.prog 60 #[.int .i64 n,.int .i64 0] H [] (eQ (fun v _ _=>v = .int .i64 n)):=by
 refine iP.intro (args:=[.int .i64 n,.int .i64 0]) Tryz.func60 rfl rfl Tryz.ntmps60 rfl rfl rfl fun G rest=>?_;refine zS ?_;refine zG rfl ?_;refine zN ?_;refine zS ?_;refine zM rfl ?_;refine zZ rfl ?_;refine zM rfl ?_;refine fH rfl (wT _ _ (bG rfl) _) rfl ?_;refine zN ?_;refine zS ?_;refine zM rfl ?_;refine zG rfl ?_;refine zN ?_;refine eP ?_;refine ⟨rfl,_,[],rfl,zA,eQ.mk ?_⟩;rfl
end Go.Proofs

namespace Go.Proofs
open Go.XL
theorem rO (b : Bool) (y : Int) (hb : b = true) (H : Hp) : iP Tryz.prog 66 #[.bool b,.int .i64 y] H [] (eQ (fun v _ _=>v = .tuple #[])):=by
 refine iP.intro (args:=[.bool b,.int .i64 y]) Tryz.func66 rfl rfl Tryz.ntmps66 rfl rfl rfl fun G rest=>?_;refine zS ?_;refine zM rfl ?_;refine lB rfl rfl ?_;refine zN ?_;refine gD rfl (by rw [hb];rfl) ?_;refine eF ?_;refine ⟨rfl,_,[],rfl,zA,eQ.mk ?_⟩;rfl
theorem sdidQ_ok (x y : Raw) (a b : Option Addr) (c d : Nat) (H : Hp) : iP Tryz.prog 62 #[.agg ⟨[.bool x.1,.slice a x.2.length c,.bool y.1,.slice b y.2.length d]⟩,.int .i64 0] H [] (eQ (fun v _ _=>v = .agg ⟨[.bool x.1,.slice a x.2.length c,.bool y.1,.slice b y.2.length d]⟩)):=by
 refine iP.introC (args:=[.agg ⟨[.bool x.1,.slice a x.2.length c,.bool y.1,.slice b y.2.length d]⟩,.int .i64 0]) Tryz.func62 rfl rfl Tryz.ntmps62 rfl rfl rfl fun G rest=>?_;refine zS ?_;refine iW rfl rfl rfl (fun b2=>?_);refine fI jD rfl (fun b4=>?_);refine zN ?_;refine zS ?_;refine zM rfl ?_;refine zZ rfl ?_;refine zM rfl ?_;refine fH rfl (rO _ _ (bG rfl) _) rfl ?_;refine zN ?_;refine zS ?_;refine bT 1 rfl rfl fG rfl rfl rfl ?_;refine eG 0 rfl rfl rfl rfl fG rfl rfl rfl rfl rfl ?_;refine zN ?_;refine eP ?_;refine ⟨rfl,_,[],(fN 0 rfl rfl fG rfl rfl iD),zA,eQ.mk ?_⟩;rfl
end Go.Proofs

namespace Go.Proofs
open Go.XL
theorem aKj (n : Nat) (hn : n ≤ 4611686018427387904) (H : Hp) : iP Tryz.prog 78 #[.int .i64 (n : Nat)] H [] (eQ (fun v H2 _=>vJ (n : Int) H2 v)):=by
 refine iP.introC (args:=[.int .i64 (n : Nat)]) Tryz.func78 rfl rfl Tryz.ntmps78 rfl rfl rfl fun G rest=>?_;refine zS ?_;refine fI nV rfl (fun b2=>?_);refine zN ?_;refine zS ?_;refine yO (ρ:=(gV .i64)) (l:=[]) rfl bK gK rV rfl rfl rfl rfl rfl (fun p6 a6 c6 hacc6=>?_);refine zG rfl ?_;refine zN ?_;refine cO ?_;refine zS ?_;refine zM rfl ?_;refine zG rfl ?_;refine zN ?_;refine dK ?_;refine eU [3,4,0,2] rfl ?_;refine gO (base:=[(0,_),(2,_)]) (fun ζ : Nat × (Nat) × (List Int) × ((Nat × SObj) × Option Addr × Nat)=>[(3,.slice ζ.2.2.2.2.1 (ζ.2.2.1).length ζ.2.2.2.2.2),(4,.int .i64 ((ζ.2.1 : Nat) : Int))]) (fun ζ Hl own=>ζ.2.2.2.1 :: (b2,.cells 54 [.bool false,.slice none 0 0]) :: rest = own ∧ Acc (gV .i64) 3 Hl ζ.2.2.2.1 ζ.2.2.2.2.1 ζ.2.2.2.2.2 (ζ.2.2.1) ∧ (ζ.2.2.1 ++ dg ζ.2.1 = dg n) ∧ (ζ.2.1 ≤ 4611686018427387904)) (fun ζ=>ζ.2.1) (0,n,[],(p6,a6,c6)) (zC) zB ⟨rfl,hacc6,rfl,by show n ≤ _;omega⟩ ?_;rintro ⟨k,u,ds,⟨pw,aw,cw⟩⟩ Hl0 _ gB ⟨rfl,haccw,hds,hub⟩;try dsimp only at haccw hds hub ⊢
 refine cO (zS (zM rfl (zJ rfl (zN (fC rfl (fun nY=>?_) (fun nY=>?_))))))
 ·have hu0 : u ≠ 0:=zO
  have hdl:=congrArg List.length hds;rw [fQ] at hdl;have hml:=sH (n:=(n : Int)) zO;rw [fW] at hml;refine eF (bO (cO (dK (zS (zM rfl (XO.rem (c:=((u % 1073741824 : Nat) : Int)) rfl rfl zD (by rw [Int.tmod_eq_emod_of_nonneg zO];omega) rfl (zG rfl (zN (cO (zS (zM rfl (zL rfl (zN (gD rfl (aI zO) (eF (bO (dL (zM rfl (zM rfl (fS rfl bK gK rV rfl rfl rfl (fun b20=>fT 0 rfl rfl rfl (fun HP20 oP20 hleP20 hbP20 hoP20=>?_))))))))))))))))))))));have hsl20:=SlR.lit (ρ:=(gV .i64)) (l:=[((u % 1073741824 : Nat) : Int)]) hbP20 hoP20 (iH.one1 rfl);replace haccw:=haccw.mono hleP20;replace gB:=gB.trans hleP20;refine iV 0 rfl rfl haccw rfl rfl hsl20 rfl bK gK rV rfl aCl zI rfl (fun p21 a21 c21 hacc21=>zG rfl (bF (fY (bO (dL (zM rfl (aNf (c:=((u / 2 ^ 30 : Nat) : Int)) rfl rfl zD ((aI1 zO zO zO).trans zO) rfl (zG rfl (bF (eW ((k + 1,(u / 2 ^ 30),(ds ++ [((u % 1073741824 : Nat) : Int)]),(p21,a21,c21))) (by show u / 2 ^ 30 < u;omega) (iL (by first | rfl | (rw [rfl];rfl)) (zC)) (⟨rfl,by first | (exact hacc21) | (rw [rfl];exact hacc21),aHp hds hu0,by show u / 2 ^ 30 ≤ _;omega⟩) zB (gB)))))))))))
 obtain rfl : u = 0:=zO
 rw [dg0,gH] at hds;subst hds;refine gI (fE (eY (fU rfl (bO (zS (zM rfl (zL rfl (iO 0 rfl haccw rfl (fun HQ5 hleQ5 hsQ5=>zM rfl (mC aJg aKe nV rfl rfl rfl (eG 0 rfl rfl rfl rfl iE rfl rfl rfl rfl rfl (zN (eP ?_)))))))))))));refine ⟨rfl,_,[],(fN 0 rfl rfl iE rfl rfl iD),zA,eQ.mk ?_⟩;exact ⟨_,_,rfl,by assumption⟩
theorem aEq (n : Nat) (hn : n ≤ 4611686018427387904) (H : Hp) : iP Tryz.prog 38 #[.int .i64 (n : Nat)] H [] (eQ (fun v H2 _=>lJ (n : Int) H2 v)):=by
 refine iP.introC (args:=[.int .i64 (n : Nat)]) Tryz.func38 rfl rfl Tryz.ntmps38 rfl rfl rfl fun G rest=>?_;refine zS ?_;refine fI jD rfl (fun b2=>?_);refine zN ?_;refine zS ?_;refine zM rfl ?_;refine eZ rfl (aKj n hn _) rfl ?_;rintro _ HA hleA ⟨aA,cA,rfl,hA⟩;refine eZ rfl (aKj 1 zD _) rfl ?_;rintro _ HB pZ ⟨aB,cB,rfl,hB⟩;replace hA:=hA.mono pZ;refine mC aG0 aGr jD rfl rfl rfl ?_;refine eG 0 rfl rfl rfl rfl fG rfl rfl rfl rfl rfl ?_;refine zN ?_;refine eP ?_;refine ⟨rfl,_,[],(fN 0 rfl rfl fG rfl rfl iD),zA,eQ.mk ?_⟩;exact ⟨_,_,_,_,rfl,hA,hB⟩
end Go.Proofs

namespace Go.Proofs
open Go.XL
theorem aMo (x : Raw) (a : Option Addr) (c : Nat) (H : Hp) : iP Tryz.prog 65 #[.agg ⟨[.bool x.1,.slice a x.2.length c]⟩,.int .i64 3] H [] (eQ (fun v _ _=>∃ e : Bool,v = .bool e ∧ (e = true ↔ (x.2.length ≤ 3 ∨ (2048 < x.2.length ∧ x.2.length ≤ 2052))))):=by
 refine iP.intro (args:=[.agg ⟨[.bool x.1,.slice a x.2.length c]⟩,.int .i64 3]) Tryz.func65 rfl rfl Tryz.ntmps65 rfl rfl rfl fun G rest=>?_;refine zS ?_;refine iW rfl rfl rfl (fun b2=>?_);refine zG rfl ?_;refine zN ?_;refine zS ?_;refine bJ rfl kY rfl ?_;refine bT 0 rfl rfl gE rfl rfl rfl ?_;refine eD (ts:=#[]) rfl bK rfl ?_;refine zM rfl ?_;refine yA rfl ?_;refine zM rfl ?_;refine iM rfl rfl rfl rfl (fun g1=>?_) (fun g1=>?_)
 ·have g1p:=fM g1;refine bJ rfl kY rfl (zT rfl g1 (bT 0 rfl rfl gE rfl rfl rfl (zT rfl g1 (eD (ts:=#[]) rfl bK rfl (zT rfl g1 (zY rfl (zT rfl g1 (zM rfl (iM rfl rfl rfl rfl (fun g2=>?_) (fun g2=>?_))))))))))
  ·have g2p:=eT g2;refine bJ rfl kY rfl (zT rfl g2 (bT 0 rfl rfl gE rfl rfl rfl (zT rfl g2 (eD (ts:=#[]) rfl bK rfl (zT rfl g2 (yA rfl (zT rfl g1 (zV g2 rfl (zW g1 rfl (zG rfl (zN (eP ?_))))))))))));refine ⟨rfl,_,[],rfl,zA,eQ.mk ?_⟩;exact ⟨_,rfl,by first | (simp only [true_iff];omega) | (rw [decide_eq_true_iff];omega) | (simp;omega)⟩
  have g2p:=fM g2;refine zU rfl g2 (zU rfl g2 (zU rfl g2 (zT rfl g1 (zW g2 rfl (zW g1 rfl (zG rfl (zN (eP ?_))))))));refine ⟨rfl,_,[],rfl,zA,eQ.mk ?_⟩;exact ⟨_,rfl,by first | (simp only [true_iff];omega) | (rw [decide_eq_true_iff];omega) | (simp;omega)⟩
 have g1p:=eT g1;refine zU rfl g1 (zU rfl g1 (zU rfl g1 (zU rfl g1 (jY rfl rfl rfl rfl (jY rfl rfl rfl rfl (jY rfl rfl rfl rfl (jY rfl rfl rfl rfl (zU rfl g1 (zV g1 rfl (zG rfl (zN (eP ?_))))))))))));refine ⟨rfl,_,[],rfl,zA,eQ.mk ?_⟩;exact ⟨_,rfl,by first | (simp only [true_iff];omega) | (rw [decide_eq_true_iff];omega) | (simp;omega)⟩
theorem aR7 (x y : Raw) (a b : Option Addr) (c d : Nat) (H : Hp) : iP Tryz.prog 25 #[.agg ⟨[.bool x.1,.slice a x.2.length c,.bool y.1,.slice b y.2.length d]⟩,.int .i64 3] H [] (eQ (fun v _ _=>∃ e : Bool,v = .bool e ∧ (e = true ↔ (x.2.length ≤ 3 ∨ (2048 < x.2.length ∧ x.2.length ≤ 2052)) ∧ (y.2.length ≤ 3 ∨ (2048 < y.2.length ∧ y.2.length ≤ 2052))))):=by
 refine iP.intro (args:=[.agg ⟨[.bool x.1,.slice a x.2.length c,.bool y.1,.slice b y.2.length d]⟩,.int .i64 3]) Tryz.func25 rfl rfl Tryz.ntmps25 rfl rfl rfl fun G rest=>?_;refine zS ?_;refine iW rfl rfl rfl (fun b2=>?_);refine zG rfl ?_;refine zN ?_;refine zS ?_;refine bJ rfl nM rfl ?_;refine bT 0 rfl rfl iE rfl rfl rfl ?_;refine zM rfl ?_;refine kO rfl (aMo x _ _ _) rfl ?_;rintro _ ⟨bA,rfl,hA⟩;refine zM rfl ?_;refine iM rfl rfl rfl rfl (fun g2=>?_) (fun g2=>?_)
 ·have g2p:=g2;refine bJ rfl oU rfl (zT rfl g2 (bT 0 rfl rfl iE rfl rfl rfl (zT rfl g2 (zM rfl (zT rfl g2 (kO rfl (aMo y _ _ _) rfl ?_))))));rintro _ ⟨bB,rfl,hB⟩;refine zV g2 rfl (zG rfl (zN (eP ?_)));refine ⟨rfl,_,[],rfl,zA,eQ.mk ?_⟩;exact ⟨_,rfl,by first | (simp_all;done) | (simp_all;omega)⟩
 have g2p:=g2;refine zU rfl g2 (zU rfl g2 (zU rfl g2 (zW g2 rfl (zG rfl (zN (eP ?_))))));refine ⟨rfl,_,[],rfl,zA,eQ.mk ?_⟩;exact ⟨_,rfl,by first | (simp_all;done) | (simp_all;omega)⟩
end Go.Proofs

namespace Go.Proofs
open Go.XL
abbrev Mk:=List (List Int)
def fO (m : Mk) : Nat:=(m.headD []).length
theorem sF {m : Mk} (h : m.length = 0) : fO m = 0:=by rw [List.length_eq_zero_iff.1 h];rfl
theorem tC {m : Mk} {x : List Int} (h : m[0]? = some x) : fO m = x.length:=by
 cases m with
 | nil=>simp at h
 | cons y r=>simp at h;subst h;rfl
end Go.Proofs

namespace Go.Proofs
open Go.XL
theorem aA7 (a : Option Addr) (c : Nat) (m : Mk) (H : Hp) (hs : SlR (slR (gV .i64)) H a c m) (hl : m.length < 9223372036854775808) : iP Tryz.prog 12 #[.slice a m.length c] H [] (eQ (fun v _ _=>v = .int .i64 (fO m : Nat))):=by
 refine iP.intro (args:=[.slice a m.length c]) Tryz.func12 rfl rfl Tryz.ntmps12 rfl rfl rfl fun G rest=>?_;refine zS ?_;refine zG rfl ?_;refine zN ?_;refine cO ?_;refine zS ?_;refine zM rfl ?_;refine eD (ts:=#[]) rfl cH rfl ?_;refine zZ rfl ?_;refine zN ?_;refine fC rfl (fun nY=>?_) (fun nY=>?_)
 ·refine zS (zG rfl (zN (eP (fD ?_))));refine ⟨rfl,_,[],rfl,zA,eQ.mk ?_⟩;exact congrArg (Value.int .i64) (by rw [sF zO];rfl)
 refine eF (bO (zS (zM rfl (eV (i:=0) rfl hs rfl cH gE zO rfl ?_))));rintro eb7 eo7 _ x7 hx7 ⟨ax7,cx7,rfl,hd7⟩ hp7;refine eH rfl (by assumption) gE rfl rfl rfl (eD (ts:=#[]) rfl bK rfl (zG rfl (zN (eP ?_))));refine ⟨rfl,_,[],rfl,zA,eQ.mk ?_⟩;exact congrArg (Value.int .i64) (by rw [tC hx7])
end Go.Proofs

namespace Go.Proofs
open Go.XL
def oB (q : Rat) : Raw × Raw:=(iY q.num,(false,dg q.den))
theorem sR (q : Rat) : ((false,dg q.den) : Raw) = iY (q.den : Int):=by
 unfold iY;rw [aI zO,fW]
def mZ (q : Rat) (n : Nat) : Prop:=(dg q.num.natAbs).length ≤ n ∧ (dg q.den).length ≤ n
theorem mZ.mono {q : Rat} {m n : Nat} (h : mZ q m) (hmn : m ≤ n) : mZ q n:=⟨eK h.1 hmn,eK h.2 hmn⟩
theorem aRr {q : Rat} {n : Nat} (h : mZ q n) (hn : n ≤ 2048) : okQ (oB q).1 (oB q).2 :=
 ⟨q,rfl,sR q,eK h.1 hn,eK h.2 hn⟩
theorem rM {q : Rat} {n : Nat} (h : mZ q n) (hn : n ≤ 1000) : aV7 (oB q):=⟨aRr h zO,eK h.1 hn,eK h.2 hn⟩
def uI (f : Nat → Int) (n : Nat) : List Raw:=(List.range n).map fun j=>iY (f (2 * j) * f (2 * j + 1))
theorem aIj (f : Nat → Int) (n : Nat) : uI f (n + 1) = uI f n ++ [iY (f (2 * n) * f (2 * n + 1))]:=by simp [uI,List.range_succ]
theorem prodsL_len (f : Nat → Int) (n : Nat) : (uI f n).length = n:=by simp [uI]
theorem dg_mul (m n : Nat) : (dg (m * n)).length ≤ (dg m).length + (dg n).length:=by
 have h1:=aEy m;have h2:=aEy n;rw [lG,Nat.pow_add];rcases Nat.eq_zero_or_pos n with h | h
 ·subst h;rw [Nat.mul_zero];exact Nat.mul_pos (Nat.pow_pos zD) (Nat.pow_pos zD)
 exact Nat.mul_lt_mul_of_lt_of_le h1 (Nat.le_of_lt h2) zO
theorem pH {z w : Int} {m n : Nat} (hz : (dg z.natAbs).length ≤ m) (hw : (dg w.natAbs).length ≤ n) : (dg (z * w).natAbs).length ≤ m + n:=by
 rw [Int.natAbs_mul];exact eK (dg_mul _ _) zO
theorem aR4 {z w : Int} {n : Nat} (hz : (dg z.natAbs).length ≤ n) (hw : (dg w.natAbs).length ≤ n) : (dg (z + w).natAbs).length ≤ n + 1:=by
 refine eK (lP (Int.natAbs_add_le z w)) (eK (aSc _ _) zO)
theorem aB5 {z w : Int} {n : Nat} (hw : w ≠ 0) (h1 : (dg z.natAbs).length ≤ n) (h2 : (dg w.natAbs).length ≤ n) : mZ (Rat.divInt z w) n:=by
 have e : ∀ v : Int,(v / ((rF z w : Nat) : Int)).natAbs ≤ v.natAbs:=fun v=>by
  rw [← pF (v / _)];have:=Int.natAbs_ediv_le_natAbs v ((rF z w : Nat) : Int);omega
 constructor
 ·refine eK (lP ?_) h1;rw [aDz hw];split
  ·have:=e z;omega
  exact e z
 refine eK (lP ?_) h2;rw [aIz hw];exact e w
theorem aBk (x : Rat) : Rat.divInt x.num x.den = x:=Rat.num_divInt_den x
theorem tN (x : Rat) : ((x.den : Nat) : Int) ≠ 0:=by have:=x.den_pos;omega
theorem aWn (x y : Rat) : Rat.divInt (x.num * (y.den : Int) + y.num * (x.den : Int)) ((x.den : Int) * (y.den : Int)) = x + y:=by
 rw [← Rat.divInt_add_divInt _ _ (tN x) (tN y),aBk,aBk]
theorem aWc (x y : Rat) : Rat.divInt (x.num * y.num) ((x.den : Int) * (y.den : Int)) = x * y:=by
 rw [← Rat.divInt_mul_divInt,aBk,aBk]
theorem aWl {x y : Rat} (hy : y ≠ 0) : Rat.divInt (x.num * (y.den : Int)) ((x.den : Int) * y.num) = x / y:=by
 have : x / y = Rat.divInt x.num x.den / Rat.divInt y.num y.den:=by rw [aBk,aBk]
 rw [this,Rat.div_def,Rat.inv_divInt,Rat.divInt_mul_divInt]
theorem aRl {y : Rat} (hy : y ≠ 0) : y.num ≠ 0:=fun h=>hy (Rat.num_eq_zero.1 h)
theorem aNv {x y : Rat} {m n : Nat} (hx : mZ x m) (hy : mZ y n) : mZ (x * y) (m + n):=by
 rw [← aWc];exact aB5 (Int.mul_ne_zero (tN x) (tN y)) (pH hx.1 hy.1) (pH (by simpa using hx.2) (by simpa using hy.2))
theorem szQ_div {x y : Rat} {m n : Nat} (hx : mZ x m) (hy : mZ y n) (h0 : y ≠ 0) : mZ (x / y) (m + n):=by
 rw [← aWl h0];exact aB5 (Int.mul_ne_zero (tN x) (aRl h0)) (pH hx.1 (by simpa using hy.2)) (pH (by simpa using hx.2) hy.1)
theorem aNl {x y : Rat} {m n : Nat} (hx : mZ x m) (hy : mZ y n) : mZ (x + y) (m + n + 1):=by
 rw [← aWn];refine aB5 (Int.mul_ne_zero (tN x) (tN y)) (aR4 (pH hx.1 (by simpa using hy.2)) ?_) (eK (pH (m:=m) (n:=n) (by simpa using hx.2) (by simpa using hy.2)) zO);rw [Nat.add_comm];exact pH hy.1 (by simpa using hx.2)
theorem aNd {x : Rat} {n : Nat} (hx : mZ x n) : mZ (-x) n:=by
 unfold mZ;rw [Rat.neg_num,Rat.neg_den,pF];exact hx
theorem aOj {x y : Rat} {m n : Nat} (hx : mZ x m) (hy : mZ y n) : mZ (x - y) (m + n + 1):=by
 rw [Rat.sub_eq_add_neg];exact aNl hx (aNd hy)
theorem aB4 {z : Int} {n : Nat} (h : (dg z.natAbs).length ≤ n) (hn : 1 ≤ n) : mZ (z : Rat) n :=
 ⟨h,eK (by show (dg 1).length ≤ 1;exact lG.2 zD) hn⟩
theorem aFt {y : Rat} : 0 < (dg y.num.natAbs).length ↔ y ≠ 0:=by
 constructor
 ·rintro h rfl;rw [show (0 : Rat).num.natAbs = 0 from rfl,dg0] at h;simp at h
 intro h;have h1:=aRl h;have h2:=(not_congr (pG (n:=y.num.natAbs))).2 zO;omega
theorem cmp_q {x y : Rat} : vT (x.num * (y.den : Int)) (y.num * (x.den : Int)) = if x < y then -1 else if x = y then 0 else 1:=by
 have hx : (0 : Int) < x.den:=by have:=x.den_pos;omega
 have hy : (0 : Int) < y.den:=by have:=y.den_pos;omega
 have h1 : x < y ↔ x.num * (y.den : Int) < y.num * (x.den : Int):=Rat.lt_iff x y
 have h2 : x = y ↔ x.num * (y.den : Int) = y.num * (x.den : Int):=by
  rw [← Rat.divInt_eq_divInt_iff (tN x) (tN y),aBk,aBk]
 unfold vT;simp only [h1,h2]
end Go.Proofs

namespace Go.Proofs
open Go.XL
theorem by_54 : Nat.ble (Tryz.prog.bytesOf 54) 4096 = true:=zK
theorem aG9 (n : Nat) (f : Nat → Int) (a : Option Addr) (c : Nat) (l : List Raw) (H : Hp) (hs : SlR rawR H a c l) (hl : l.length = 2 * n) (hf : ∀ j,j < 2 * n → l[j]? = some (iY (f j))) (hz : ∀ j,j < 2 * n → (dg (f j).natAbs).length ≤ 1000) (hn : n ≤ 1000) : iP Tryz.prog 59 #[.slice a l.length c] H [] (eQ (fun v H2 _=>∃ a c,v = .slice a (uI f n).length c ∧ SlR rawR H2 a c (uI f n))):=by
 refine iP.intro (args:=[.slice a l.length c]) Tryz.func59 rfl rfl Tryz.ntmps59 rfl rfl rfl fun G rest=>?_;refine zS ?_;refine zG rfl ?_;refine zN ?_;refine cO ?_;refine zS ?_;refine zG rfl ?_;refine zN ?_;refine dK ?_;refine eU [2,3,0] rfl ?_;refine lR 0 ?_;refine gO (base:=[(0,_)]) (fun ζ : Nat × ((Nat × SObj) × Option Addr × Nat)=>[(2,.slice ζ.2.2.1 (uI f (ζ.1)).length ζ.2.2.2),(3,.int .i64 ((2 * ζ.1 : Nat) : Int))]) (fun ζ Hl own=>ζ.1 ≤ n ∧ ζ.2.1 :: rest = own ∧ Acc rawR 54 Hl ζ.2.1 ζ.2.2.1 ζ.2.2.2 (uI f (ζ.1))) (fun ζ=>n - ζ.1) (0,((0,.nothing),none,0)) (zC) zB ⟨eS _,rfl,Acc.nil _ _ _ _⟩ ?_;rintro ⟨k,⟨pw,aw,cw⟩⟩ Hl0 _ gB ⟨hkk,rfl,haccw⟩;replace hs:=hs.mono gB;try dsimp only at hkk haccw ⊢
 refine cO (zS (zM rfl (fR rfl rfl (dT zO zO) rfl (zM rfl (eD (ts:=#[]) rfl iF rfl (zL rfl (zN (fC rfl (fun nY=>?_) (fun nY=>?_)))))))))
 ·refine eF (bO (cO (dK (eU [0,2,3] rfl ?_))));have hpl:=prodsL_len f k;obtain ⟨bEA,oEA,rfl⟩:=hs.addr zO;obtain ⟨_,xA,hxA,⟨axA,cxA,rfl,hdA⟩,hpA⟩:=hs.elem ((2 * k)) zO;obtain ⟨_,xB,hxB,⟨axB,cxB,rfl,hdB⟩,hpB⟩:=hs.elem ((2 * k + 1)) zO;obtain rfl : xA = iY (f (2 * k)):=eE (hxA.symm.trans (hf _ zO));obtain rfl : xB = iY (f (2 * k + 1)):=eE (hxB.symm.trans (hf _ zO));change SlR (gV .i64) _ _ _ (dg (f (2 * k)).natAbs) at hdA;change SlR (gV .i64) _ _ _ (dg (f (2 * k + 1)).natAbs) at hdB;apply nX (fun _=>True) trivial 15 [gC _,gC _,gC _,gC _,gC _,gC _,gC _,gC _,gC _,gC _,fun v H=>∃ u,v = .tuple #[u,.int .i64 0] ∧ vJ (f (2 * k) * f (2 * k + 1)) H u,fun v H=>vJ (f (2 * k) * f (2 * k + 1)) H v,gC _,fun v H=>vJ (f (2 * k) * f (2 * k + 1)) H v,slF rawR [iY (f (2 * k) * f (2 * k + 1))]] follows zK zK ⟨aH _,aH _,aH _,aH _,aH _,aH _,aH _,aH _,aH _,aH _,fun _ _ _ hle ⟨u,h,k⟩=>⟨u,h,k.mono hle⟩,aAu _,aH _,aAu _,oQ _ _,trivial⟩ ?steps2 ?tail2
  case steps2 =>
   refine dH rfl ?_ ?_
   ·intro X HD bI _;exact aF rfl (zM rfl (bF (eO trivial rfl)))
   refine dH rfl ?_ ?_
   ·intro X HD bI _;exact aF rfl (zM rfl (bF (eO trivial rfl)))
   refine dH rfl ?_ ?_
   ·intro X HD bI _;exact aF rfl (zM rfl (bF (eO trivial rfl)))
   refine dH rfl ?_ ?_
   ·intro X HD bI _;exact gL rfl (gL rfl (aF rfl (fK rfl rfl iF iE zO zO rfl (bF (eO trivial rfl)))))
   refine dH rfl ?_ ?_
   ·intro X HD bI _;replace hs:=hs.mono bI;replace haccw:=haccw.mono bI;replace hpA:=hpA.mono bI;replace hdA:=hdA.mono bI;replace hpB:=hpB.mono bI;replace hdB:=hdB.mono bI;exact gL rfl (aF rfl (eH rfl (by assumption) iE rfl rfl rfl (bF (eO trivial rfl))))
   refine dH rfl ?_ ?_
   ·intro X HD bI _;exact aF rfl (zM rfl (bF (eO trivial rfl)))
   refine dH rfl ?_ ?_
   ·intro X HD bI _;exact aF rfl (zM rfl (bF (eO trivial rfl)))
   refine dH rfl ?_ ?_
   ·intro X HD bI _;exact gL rfl (aF rfl (fR rfl rfl (dT zO zO) rfl (bF (eO trivial rfl))))
   refine dH rfl ?_ ?_
   ·intro X HD bI _;exact gL rfl (gL rfl (aF rfl (fK rfl rfl iF iE zO zO rfl (bF (eO trivial rfl)))))
   refine dH rfl ?_ ?_
   ·intro X HD bI _;replace hs:=hs.mono bI;replace haccw:=haccw.mono bI;replace hpA:=hpA.mono bI;replace hdA:=hdA.mono bI;replace hpB:=hpB.mono bI;replace hdB:=hdB.mono bI;exact gL rfl (aF rfl (eH rfl (by assumption) iE rfl rfl rfl (bF (eO trivial rfl))))
   refine dH rfl ?_ ?_
   ·intro X HD bI _;replace hdA:=hdA.mono bI;replace hdB:=hdB.mono bI;refine gL rfl (gL rfl (aF rfl (eZ rfl (qR (nmul_fn (f (2 * k)) (f (2 * k + 1)) _ _ _ _ _ hdA hdB (hz (2 * k) zO) (hz (2 * k + 1) zO))) rfl ?_)));rintro _ HN kI hN21;exact bF (eO trivial (hN21))
   refine dH rfl ?_ ?_
   ·intro X HD bI _;refine eJ rfl rfl ?_;rintro _ ⟨_,rfl,a22,c22,rfl,hd22⟩;exact aF rfl (zX rfl (bF (eO trivial (⟨_,_,rfl,hd22⟩))))
   refine dH rfl ?_ ?_
   ·intro X HD bI _;refine eJ rfl rfl ?_;rintro _ ⟨_,rfl,a22,c22,rfl,hd22⟩;exact aF rfl (zX rfl (bF (eO trivial rfl)))
   refine dH rfl ?_ ?_
   ·intro X HD bI _;refine eJ rfl rfl ?_;rintro _ ⟨a22,c22,rfl,hd22⟩;exact gL rfl (aF rfl (fH rfl (aK8 (iY (f (2 * k) * f (2 * k + 1))) _ _ _ hd22) rfl (bF (eO trivial (⟨_,_,rfl,hd22⟩)))))
   refine dH rfl ?_ ?_
   ·intro X HD bI _;refine eJ rfl rfl ?_;rintro _ ⟨a24,c24,rfl,hd24⟩;refine aF rfl (fS rfl iF iE nV rfl rfl rfl (fun b25=>fT 0 rfl rfl rfl (fun HP25 oP25 sX hbP25 hoP25=>?_)));have hsl25:=SlR.lit (ρ:=rawR) (l:=[iY (f (2 * k) * f (2 * k + 1))]) hbP25 hoP25 (iH.one1 ⟨_,_,rfl,hd24.mono sX⟩);exact bF (eO trivial (⟨_,rfl,hsl25⟩))
   exact jH rfl
  case tail2 =>
   intro HD bI _;replace haccw:=haccw.mono bI;replace gB:=gB.trans bI;refine gL rfl (gL rfl (gL rfl (gL rfl (gL rfl (gL rfl (gL rfl (gL rfl (gL rfl (gL rfl (eJ rfl rfl ?_))))))))));rintro _ ⟨_,rfl,a22,c22,rfl,hd22⟩;refine eJ rfl rfl ?_;rintro _ ⟨a22,c22,rfl,hd22⟩;refine gL rfl (eJ rfl rfl ?_);rintro _ ⟨a24,c24,rfl,hd24⟩;refine eJ rfl rfl ?_;rintro _ ⟨bs25,rfl,hsl25⟩;refine aF rfl (iV 0 rfl rfl haccw rfl rfl hsl25 rfl iF iE nV rfl by_54 zI rfl (fun p26 a26 c26 hacc26=>zG rfl (bF (fY (bO (dL (zM rfl (fR rfl rfl (dT zO zO) rfl (zG rfl (bF (eW ((k + 1,(p26,a26,c26))) (by show n - (k + 1) < n - k;omega) (iL (by first | rfl | (rw [aIj];rfl)) (iL (pK rfl zO) (iL rfl aJ0))) (⟨by show k + 1 ≤ n;omega,rfl,by first | (exact hacc26) | (rw [aIj];exact hacc26)⟩) zB (gB))))))))))))
 obtain rfl : k = n:=zO
 refine gI (fE (eY (fU rfl (bO (zS (zM rfl (iO 0 rfl haccw rfl (fun HQ7 hleQ7 hsQ7=>?_))))))));replace hs:=hs.mono hleQ7;refine zG rfl (zN (eP ?_));refine ⟨rfl,_,[],rfl,zA,eQ.mk ?_⟩;exact ⟨_,_,rfl,by assumption⟩
end Go.Proofs

namespace Go.Proofs
open Go.XL
theorem rmul_fn (x y : Rat) (a1 a2 e1 e2 : Option Addr) (c1 c2 d1 d2 : Nat) (H : Hp) (hs : SlR (gV .i64) H a1 c1 (dg x.num.natAbs)) (hs2 : SlR (gV .i64) H a2 c2 (dg x.den)) (ht : SlR (gV .i64) H e1 d1 (dg y.num.natAbs)) (ht2 : SlR (gV .i64) H e2 d2 (dg y.den)) (hx : mZ x 499) (hy : mZ y 499) : iP Tryz.prog 63 #[.agg ⟨[.bool (decide (x.num < 0)),.slice a1 (dg x.num.natAbs).length c1,.bool false,.slice a2 (dg x.den).length c2]⟩,.agg ⟨[.bool (decide (y.num < 0)),.slice e1 (dg y.num.natAbs).length d1,.bool false,.slice e2 (dg y.den).length d2]⟩] H [] (eQ (fun v H2 own=>own = [] ∧ ∃ u,v = .tuple #[u,.int .i64 0] ∧ lJ (x * y) H2 u)):=by
 refine iP.introD (args:=[.agg ⟨[.bool (decide (x.num < 0)),.slice a1 (dg x.num.natAbs).length c1,.bool false,.slice a2 (dg x.den).length c2]⟩,.agg ⟨[.bool (decide (y.num < 0)),.slice e1 (dg y.num.natAbs).length d1,.bool false,.slice e2 (dg y.den).length d2]⟩]) Tryz.func63 rfl rfl Tryz.ntmps63 rfl rfl rfl fun G rest=>?_;refine zS ?_;refine iW rfl rfl rfl (fun b2=>?_);refine iW rfl rfl rfl (fun b3=>?_);refine fI jD rfl (fun b4=>?_);refine fI sJ rfl (fun b5=>?_);refine zN ?_;refine zS ?_;refine mL (L:=[_,_,_,_]) rfl rfl rfl rfl rfl (fun msD rest hrest=>?_);simp only [fP,gN];refine zN ?_;refine zS ?_;refine bT 3 rfl rfl fG rfl rfl rfl ?_;refine bT 2 rfl rfl fG rfl rfl rfl ?_;refine fS rfl cJ fG jD rfl rfl rfl (fun b9=>?_);refine fT 0 rfl rfl rfl (fun HP9 oP9 rI hbP9 hoP9=>?_);replace hs:=hs.mono rI;replace hs2:=hs2.mono rI;replace ht:=ht.mono rI;replace ht2:=ht2.mono rI;have vG:=SlR.lit (ρ:=lS) (l:=[oB x,oB y]) hbP9 hoP9 (iH.cons1 (cs:=[_,_,_,_]) ⟨_,_,_,_,rfl,hs,hs2⟩ (iH.one1 ⟨_,_,_,_,rfl,ht,ht2⟩));refine fH rfl (aAy _ _ [oB x,oB y] _ (by assumption) zP (fun z hz=>by simp only [List.mem_cons,List.not_mem_nil,or_false] at hz;rcases hz with rfl | rfl;exact rM hx zO;exact rM hy zO)) rfl ?_;refine zN ?_;refine zS ?_;refine bJ rfl nM rfl ?_;refine bT 3 rfl rfl iE rfl rfl rfl ?_;refine bJ rfl nM rfl ?_;refine bT 2 rfl rfl iE rfl rfl rfl ?_;refine bJ rfl oU rfl ?_;refine bT 3 rfl rfl iE rfl rfl rfl ?_;refine bJ rfl oU rfl ?_;refine bT 2 rfl rfl iE rfl rfl rfl ?_;refine fS rfl iF iE nV rfl rfl rfl (fun b19=>?_);refine fT 0 rfl rfl rfl (fun HP19 oP19 hleP19 hbP19 hoP19=>?_);replace hs:=hs.mono hleP19;replace hs2:=hs2.mono hleP19;replace ht:=ht.mono hleP19;replace ht2:=ht2.mono hleP19;replace vG:=vG.mono hleP19;have hsl19:=SlR.lit (ρ:=rawR) (l:=[iY x.num,iY y.num,(false,dg x.den),(false,dg y.den)]) hbP19 hoP19 (iH.cons1 (cs:=[_,_]) ⟨_,_,rfl,hs⟩ (iH.cons1 (cs:=[_,_]) ⟨_,_,rfl,ht⟩ (iH.cons1 (cs:=[_,_]) ⟨_,_,rfl,hs2⟩ (iH.one1 ⟨_,_,rfl,ht2⟩))));refine eZ rfl (aG9 2 (fun j=>match j with | 0=>x.num | 1=>y.num | 2=>(x.den : Int) | _=>(y.den : Int)) _ _ [iY x.num,iY y.num,(false,dg x.den),(false,dg y.den)] _ (by assumption) rfl (fun j hj=>by match j,hj with | 0,_=>exact rfl | 1,_=>exact rfl | 2,_=>exact congrArg some (sR _) | 3,_=>exact congrArg some (sR _) | (k + 4),h=>omega) (fun j hj=>by match j,hj with | 0,_=>exact eK hx.1 zO | 1,_=>exact eK hy.1 zO | 2,_=>exact (by show (dg ((x.den : Int)).natAbs).length ≤ _;rw [fW];exact eK hx.2 zO) | 3,_=>exact (by show (dg ((y.den : Int)).natAbs).length ≤ _;rw [fW];exact eK hy.2 zO) | (k + 4),h=>omega) zO) rfl ?_;rintro _ HP uN ⟨aP,cP,rfl,hP⟩;rw [show uI (fun j=>match j with | 0=>x.num | 1=>y.num | 2=>(x.den : Int) | _=>(y.den : Int)) 2 = [iY (x.num * y.num),iY ((x.den : Int) * (y.den : Int))] from rfl] at hP ⊢;have ePl : ([iY (x.num * y.num),iY ((x.den : Int) * (y.den : Int))] : List Raw).length = 2:=rfl;replace hs:=hs.mono uN;replace hs2:=hs2.mono uN;replace ht:=ht.mono uN;replace ht2:=ht2.mono uN;replace vG:=vG.mono uN;replace hsl19:=hsl19.mono uN;refine zG rfl ?_;refine zN ?_;refine cO ?_;refine eU [4,5,6] rfl ?_;obtain ⟨bEA,oEA,rfl⟩:=hP.addr zO;obtain ⟨_,xA,hxA,⟨axA,cxA,rfl,hdA⟩,hpA⟩:=hP.elem (0) zO;obtain ⟨_,xB,hxB,⟨axB,cxB,rfl,hdB⟩,hpB⟩:=hP.elem (1) zO;obtain rfl : xA = iY (x.num * y.num):=(eE hxA).symm;obtain rfl : xB = iY ((x.den : Int) * (y.den : Int)):=(eE hxB).symm;change SlR (gV .i64) _ _ _ (dg (x.num * y.num).natAbs) at hdA;change SlR (gV .i64) _ _ _ (dg ((x.den : Int) * (y.den : Int)).natAbs) at hdB;apply pI 6 [gC _,gC _,gC _,gC _,gC _,gC _] follows zK zK ⟨aH _,aH _,aH _,aH _,aH _,aH _,trivial⟩ ?steps3 ?tail3
 case steps3 =>
  refine dF rfl ?_ ?_
  ·intro X;exact aF rfl (zM rfl zQ)
  refine dF rfl ?_ ?_
  ·intro X;exact gL rfl (aF rfl (fK rfl rfl iF iE zO zO rfl zQ))
  refine dF rfl ?_ ?_
  ·intro X;exact gL rfl (aF rfl (eH rfl (by assumption) iE rfl rfl rfl zQ))
  refine dF rfl ?_ ?_
  ·intro X;exact aF rfl (zM rfl zQ)
  refine dF rfl ?_ ?_
  ·intro X;exact gL rfl (aF rfl (fK rfl rfl iF iE zO zO rfl zQ))
  refine dF rfl ?_ ?_
  ·intro X;exact gL rfl (aF rfl (eH rfl (by assumption) iE rfl rfl rfl zQ))
  exact jH rfl
 case tail3 =>
  refine gL rfl (gL rfl (gL rfl (gL rfl (gL rfl (gL rfl (aF rfl (mC aG0 aGr jD rfl rfl rfl (mC aN3 aNu aOg rfl rfl rfl (eZ rfl (aDy (x.num * y.num) ((x.den : Int) * (y.den : Int)) _ _ _ _ _ hdA hdB (by exact eK (pH (m:=499) (n:=499) hx.1 hy.1) zO) (by exact eK (pH (m:=499) (n:=499) (by rw [fW];exact hx.2) (by rw [fW];exact hy.2)) zO) (Int.mul_ne_zero (tN x) (tN y))) rfl ?_)))))))));rintro _ HL jQ hRL;rw [aWc] at hRL;obtain ⟨aL,cL,aM,cM,rfl,hL1,hL2⟩:=hRL;refine eG 1 rfl rfl rfl rfl fG rfl rfl rfl rfl rfl (eG 0 rfl rfl rfl rfl jZ rfl rfl rfl rfl rfl (zN (eP (jO 0 (L:=[_,_,_,_]) rfl hrest rfl ((rK _ _ _).mono (fun u2 HE own2 lF hD=>?_))))));obtain ⟨h1,h2⟩:=hD;subst h2;replace hL1:=hL1.mono lF;replace hL2:=hL2.mono lF;refine ⟨by subst h1;rfl,_,_,rfl,(fN 1 rfl rfl fG rfl rfl (fN 0 rfl rfl jZ rfl rfl iD)),eQ.mk ?_⟩;exact ⟨rfl,_,rfl,_,_,_,_,rfl,hL1,hL2⟩
theorem rquo_fn (x y : Rat) (a1 a2 e1 e2 : Option Addr) (c1 c2 d1 d2 : Nat) (H : Hp) (hs : SlR (gV .i64) H a1 c1 (dg x.num.natAbs)) (hs2 : SlR (gV .i64) H a2 c2 (dg x.den)) (ht : SlR (gV .i64) H e1 d1 (dg y.num.natAbs)) (ht2 : SlR (gV .i64) H e2 d2 (dg y.den)) (hx : mZ x 499) (hy : mZ y 499) (hy0 : y ≠ 0) : iP Tryz.prog 53 #[.agg ⟨[.bool (decide (x.num < 0)),.slice a1 (dg x.num.natAbs).length c1,.bool false,.slice a2 (dg x.den).length c2]⟩,.agg ⟨[.bool (decide (y.num < 0)),.slice e1 (dg y.num.natAbs).length d1,.bool false,.slice e2 (dg y.den).length d2]⟩] H [] (eQ (fun v H2 own=>own = [] ∧ ∃ u,v = .tuple #[u,.int .i64 0] ∧ lJ (x / y) H2 u)):=by
 refine iP.introD (args:=[.agg ⟨[.bool (decide (x.num < 0)),.slice a1 (dg x.num.natAbs).length c1,.bool false,.slice a2 (dg x.den).length c2]⟩,.agg ⟨[.bool (decide (y.num < 0)),.slice e1 (dg y.num.natAbs).length d1,.bool false,.slice e2 (dg y.den).length d2]⟩]) Tryz.func53 rfl rfl Tryz.ntmps53 rfl rfl rfl fun G rest=>?_;refine zS ?_;refine iW rfl rfl rfl (fun b2=>?_);refine iW rfl rfl rfl (fun b3=>?_);refine fI jD rfl (fun b4=>?_);refine fI sJ rfl (fun b5=>?_);refine zN ?_;refine zS ?_;refine mL (L:=[_,_,_,_]) rfl rfl rfl rfl rfl (fun msD rest hrest=>?_);simp only [fP,gN];refine zN ?_;refine zS ?_;refine bT 3 rfl rfl fG rfl rfl rfl ?_;refine bT 2 rfl rfl fG rfl rfl rfl ?_;refine fS rfl cJ fG jD rfl rfl rfl (fun b9=>?_);refine fT 0 rfl rfl rfl (fun HP9 oP9 rI hbP9 hoP9=>?_);replace hs:=hs.mono rI;replace hs2:=hs2.mono rI;replace ht:=ht.mono rI;replace ht2:=ht2.mono rI;have vG:=SlR.lit (ρ:=lS) (l:=[oB x,oB y]) hbP9 hoP9 (iH.cons1 (cs:=[_,_,_,_]) ⟨_,_,_,_,rfl,hs,hs2⟩ (iH.one1 ⟨_,_,_,_,rfl,ht,ht2⟩));refine fH rfl (aAy _ _ [oB x,oB y] _ (by assumption) zP (fun z hz=>by simp only [List.mem_cons,List.not_mem_nil,or_false] at hz;rcases hz with rfl | rfl;exact rM hx zO;exact rM hy zO)) rfl ?_;refine zN ?_;refine zS ?_;refine bJ rfl nM rfl ?_;refine bJ rfl kY rfl ?_;refine bT 2 rfl rfl gE rfl rfl rfl ?_;refine eD (ts:=#[]) rfl bK rfl ?_;refine zY rfl ?_;refine fH rfl (wT _ _ (bG (by have:=aFt.2 hy0;omega)) _) rfl ?_;refine zN ?_;refine zS ?_;refine bJ rfl nM rfl ?_;refine bT 3 rfl rfl iE rfl rfl rfl ?_;refine bJ rfl oU rfl ?_;refine bT 2 rfl rfl iE rfl rfl rfl ?_;refine bJ rfl oU rfl ?_;refine bT 3 rfl rfl iE rfl rfl rfl ?_;refine bJ rfl nM rfl ?_;refine bT 2 rfl rfl iE rfl rfl rfl ?_;refine fS rfl iF iE nV rfl rfl rfl (fun b25=>?_);refine fT 0 rfl rfl rfl (fun HP25 oP25 sX hbP25 hoP25=>?_);replace hs:=hs.mono sX;replace hs2:=hs2.mono sX;replace ht:=ht.mono sX;replace ht2:=ht2.mono sX;replace vG:=vG.mono sX;have hsl25:=SlR.lit (ρ:=rawR) (l:=[iY x.num,(false,dg y.den),(false,dg x.den),iY y.num]) hbP25 hoP25 (iH.cons1 (cs:=[_,_]) ⟨_,_,rfl,hs⟩ (iH.cons1 (cs:=[_,_]) ⟨_,_,rfl,ht2⟩ (iH.cons1 (cs:=[_,_]) ⟨_,_,rfl,hs2⟩ (iH.one1 ⟨_,_,rfl,ht⟩))));refine eZ rfl (aG9 2 (fun j=>match j with | 0=>x.num | 1=>(y.den : Int) | 2=>(x.den : Int) | _=>y.num) _ _ [iY x.num,(false,dg y.den),(false,dg x.den),iY y.num] _ (by assumption) rfl (fun j hj=>by match j,hj with | 0,_=>exact rfl | 1,_=>exact congrArg some (sR _) | 2,_=>exact congrArg some (sR _) | 3,_=>exact rfl | (k + 4),h=>omega) (fun j hj=>by match j,hj with | 0,_=>exact eK hx.1 zO | 1,_=>exact (by show (dg ((y.den : Int)).natAbs).length ≤ _;rw [fW];exact eK hy.2 zO) | 2,_=>exact (by show (dg ((x.den : Int)).natAbs).length ≤ _;rw [fW];exact eK hx.2 zO) | 3,_=>exact eK hy.1 zO | (k + 4),h=>omega) zO) rfl ?_;rintro _ HP uN ⟨aP,cP,rfl,hP⟩;rw [show uI (fun j=>match j with | 0=>x.num | 1=>(y.den : Int) | 2=>(x.den : Int) | _=>y.num) 2 = [iY (x.num * (y.den : Int)),iY ((x.den : Int) * y.num)] from rfl] at hP ⊢;have ePl : ([iY (x.num * (y.den : Int)),iY ((x.den : Int) * y.num)] : List Raw).length = 2:=rfl;replace hs:=hs.mono uN;replace hs2:=hs2.mono uN;replace ht:=ht.mono uN;replace ht2:=ht2.mono uN;replace vG:=vG.mono uN;replace hsl25:=hsl25.mono uN;refine zG rfl ?_;refine zN ?_;refine cO ?_;refine eU [4,5,6] rfl ?_;obtain ⟨bEA,oEA,rfl⟩:=hP.addr zO;obtain ⟨_,xA,hxA,⟨axA,cxA,rfl,hdA⟩,hpA⟩:=hP.elem (0) zO;obtain ⟨_,xB,hxB,⟨axB,cxB,rfl,hdB⟩,hpB⟩:=hP.elem (1) zO;obtain rfl : xA = iY (x.num * (y.den : Int)):=(eE hxA).symm;obtain rfl : xB = iY ((x.den : Int) * y.num):=(eE hxB).symm;change SlR (gV .i64) _ _ _ (dg (x.num * (y.den : Int)).natAbs) at hdA;change SlR (gV .i64) _ _ _ (dg ((x.den : Int) * y.num).natAbs) at hdB;apply pI 6 [gC _,gC _,gC _,gC _,gC _,gC _] follows zK zK ⟨aH _,aH _,aH _,aH _,aH _,aH _,trivial⟩ ?steps4 ?tail4
 case steps4 =>
  refine dF rfl ?_ ?_
  ·intro X;exact aF rfl (zM rfl zQ)
  refine dF rfl ?_ ?_
  ·intro X;exact gL rfl (aF rfl (fK rfl rfl iF iE zO zO rfl zQ))
  refine dF rfl ?_ ?_
  ·intro X;exact gL rfl (aF rfl (eH rfl (by assumption) iE rfl rfl rfl zQ))
  refine dF rfl ?_ ?_
  ·intro X;exact aF rfl (zM rfl zQ)
  refine dF rfl ?_ ?_
  ·intro X;exact gL rfl (aF rfl (fK rfl rfl iF iE zO zO rfl zQ))
  refine dF rfl ?_ ?_
  ·intro X;exact gL rfl (aF rfl (eH rfl (by assumption) iE rfl rfl rfl zQ))
  exact jH rfl
 case tail4 =>
  refine gL rfl (gL rfl (gL rfl (gL rfl (gL rfl (gL rfl (aF rfl (mC aG0 aGr jD rfl rfl rfl (mC aN3 aNu aOg rfl rfl rfl (eZ rfl (aDy (x.num * (y.den : Int)) ((x.den : Int) * y.num) _ _ _ _ _ hdA hdB (by exact eK (pH (m:=499) (n:=499) hx.1 (by rw [fW];exact hy.2)) zO) (by exact eK (pH (m:=499) (n:=499) (by rw [fW];exact hx.2) hy.1) zO) (Int.mul_ne_zero (tN x) (aRl hy0))) rfl ?_)))))))));rintro _ HL jQ hRL;rw [aWl hy0] at hRL;obtain ⟨aL,cL,aM,cM,rfl,hL1,hL2⟩:=hRL;refine eG 1 rfl rfl rfl rfl fG rfl rfl rfl rfl rfl (eG 0 rfl rfl rfl rfl jZ rfl rfl rfl rfl rfl (zN (eP (jO 0 (L:=[_,_,_,_]) rfl hrest rfl ((rK _ _ _).mono (fun u2 HE own2 lF hD=>?_))))));obtain ⟨h1,h2⟩:=hD;subst h2;replace hL1:=hL1.mono lF;replace hL2:=hL2.mono lF;refine ⟨by subst h1;rfl,_,_,rfl,(fN 1 rfl rfl fG rfl rfl (fN 0 rfl rfl jZ rfl rfl iD)),eQ.mk ?_⟩;exact ⟨rfl,_,rfl,_,_,_,_,rfl,hL1,hL2⟩
theorem aSk (x y : Rat) (a1 a2 e1 e2 : Option Addr) (c1 c2 d1 d2 : Nat) (H : Hp) (hs : SlR (gV .i64) H a1 c1 (dg x.num.natAbs)) (hs2 : SlR (gV .i64) H a2 c2 (dg x.den)) (ht : SlR (gV .i64) H e1 d1 (dg y.num.natAbs)) (ht2 : SlR (gV .i64) H e2 d2 (dg y.den)) (hx : mZ x 499) (hy : mZ y 499) : iP Tryz.prog 52 #[.agg ⟨[.bool (decide (x.num < 0)),.slice a1 (dg x.num.natAbs).length c1,.bool false,.slice a2 (dg x.den).length c2]⟩,.agg ⟨[.bool (decide (y.num < 0)),.slice e1 (dg y.num.natAbs).length d1,.bool false,.slice e2 (dg y.den).length d2]⟩] H [] (eQ (fun v H2 own=>own = [] ∧ ∃ u,v = .tuple #[u,.int .i64 0] ∧ lJ (x + y) H2 u)):=by
 refine iP.introD (args:=[.agg ⟨[.bool (decide (x.num < 0)),.slice a1 (dg x.num.natAbs).length c1,.bool false,.slice a2 (dg x.den).length c2]⟩,.agg ⟨[.bool (decide (y.num < 0)),.slice e1 (dg y.num.natAbs).length d1,.bool false,.slice e2 (dg y.den).length d2]⟩]) Tryz.func52 rfl rfl Tryz.ntmps52 rfl rfl rfl fun G rest=>?_;refine zS ?_;refine iW rfl rfl rfl (fun b2=>?_);refine iW rfl rfl rfl (fun b3=>?_);refine fI jD rfl (fun b4=>?_);refine fI sJ rfl (fun b5=>?_);refine zN ?_;refine zS ?_;refine mL (L:=[_,_,_,_]) rfl rfl rfl rfl rfl (fun msD rest hrest=>?_);simp only [fP,gN];refine zN ?_;refine zS ?_;refine bT 3 rfl rfl fG rfl rfl rfl ?_;refine bT 2 rfl rfl fG rfl rfl rfl ?_;refine fS rfl cJ fG jD rfl rfl rfl (fun b9=>?_);refine fT 0 rfl rfl rfl (fun HP9 oP9 rI hbP9 hoP9=>?_);replace hs:=hs.mono rI;replace hs2:=hs2.mono rI;replace ht:=ht.mono rI;replace ht2:=ht2.mono rI;have vG:=SlR.lit (ρ:=lS) (l:=[oB x,oB y]) hbP9 hoP9 (iH.cons1 (cs:=[_,_,_,_]) ⟨_,_,_,_,rfl,hs,hs2⟩ (iH.one1 ⟨_,_,_,_,rfl,ht,ht2⟩));refine fH rfl (aAy _ _ [oB x,oB y] _ (by assumption) zP (fun z hz=>by simp only [List.mem_cons,List.not_mem_nil,or_false] at hz;rcases hz with rfl | rfl;exact rM hx zO;exact rM hy zO)) rfl ?_;refine zN ?_;refine zS ?_;refine bJ rfl nM rfl ?_;refine bT 3 rfl rfl iE rfl rfl rfl ?_;refine bJ rfl oU rfl ?_;refine bT 2 rfl rfl iE rfl rfl rfl ?_;refine bJ rfl nM rfl ?_;refine bT 2 rfl rfl iE rfl rfl rfl ?_;refine bJ rfl oU rfl ?_;refine bT 3 rfl rfl iE rfl rfl rfl ?_;refine bJ rfl oU rfl ?_;refine bT 3 rfl rfl iE rfl rfl rfl ?_;refine bJ rfl oU rfl ?_;refine bT 2 rfl rfl iE rfl rfl rfl ?_;refine fS rfl iF iE nV rfl rfl rfl (fun b23=>?_);refine fT 0 rfl rfl rfl (fun HP23 oP23 hleP23 hbP23 hoP23=>?_);replace hs:=hs.mono hleP23;replace hs2:=hs2.mono hleP23;replace ht:=ht.mono hleP23;replace ht2:=ht2.mono hleP23;replace vG:=vG.mono hleP23;have hsl23:=SlR.lit (ρ:=rawR) (l:=[iY x.num,(false,dg y.den),iY y.num,(false,dg x.den),(false,dg x.den),(false,dg y.den)]) hbP23 hoP23 (iH.cons1 (cs:=[_,_]) ⟨_,_,rfl,hs⟩ (iH.cons1 (cs:=[_,_]) ⟨_,_,rfl,ht2⟩ (iH.cons1 (cs:=[_,_]) ⟨_,_,rfl,ht⟩ (iH.cons1 (cs:=[_,_]) ⟨_,_,rfl,hs2⟩ (iH.cons1 (cs:=[_,_]) ⟨_,_,rfl,hs2⟩ (iH.one1 ⟨_,_,rfl,ht2⟩))))));refine eZ rfl (aG9 3 (fun j=>match j with | 0=>x.num | 1=>(y.den : Int) | 2=>y.num | 3=>(x.den : Int) | 4=>(x.den : Int) | _=>(y.den : Int)) _ _ [iY x.num,(false,dg y.den),iY y.num,(false,dg x.den),(false,dg x.den),(false,dg y.den)] _ (by assumption) rfl (fun j hj=>by match j,hj with | 0,_=>exact rfl | 1,_=>exact congrArg some (sR _) | 2,_=>exact rfl | 3,_=>exact congrArg some (sR _) | 4,_=>exact congrArg some (sR _) | 5,_=>exact congrArg some (sR _) | (k + 6),h=>omega) (fun j hj=>by match j,hj with | 0,_=>exact eK hx.1 zO | 1,_=>exact (by show (dg ((y.den : Int)).natAbs).length ≤ _;rw [fW];exact eK hy.2 zO) | 2,_=>exact eK hy.1 zO | 3,_=>exact (by show (dg ((x.den : Int)).natAbs).length ≤ _;rw [fW];exact eK hx.2 zO) | 4,_=>exact (by show (dg ((x.den : Int)).natAbs).length ≤ _;rw [fW];exact eK hx.2 zO) | 5,_=>exact (by show (dg ((y.den : Int)).natAbs).length ≤ _;rw [fW];exact eK hy.2 zO) | (k + 6),h=>omega) zO) rfl ?_;rintro _ HP uN ⟨aP,cP,rfl,hP⟩;rw [show uI (fun j=>match j with | 0=>x.num | 1=>(y.den : Int) | 2=>y.num | 3=>(x.den : Int) | 4=>(x.den : Int) | _=>(y.den : Int)) 3 = [iY (x.num * (y.den : Int)),iY (y.num * (x.den : Int)),iY ((x.den : Int) * (y.den : Int))] from rfl] at hP ⊢;have ePl : ([iY (x.num * (y.den : Int)),iY (y.num * (x.den : Int)),iY ((x.den : Int) * (y.den : Int))] : List Raw).length = 3:=rfl;replace hs:=hs.mono uN;replace hs2:=hs2.mono uN;replace ht:=ht.mono uN;replace ht2:=ht2.mono uN;replace vG:=vG.mono uN;replace hsl23:=hsl23.mono uN;refine zG rfl ?_;refine zN ?_;refine cO ?_;refine eU [4,5,6] rfl ?_;obtain ⟨bEA,oEA,rfl⟩:=hP.addr zO;obtain ⟨_,xA,hxA,⟨axA,cxA,rfl,hdA⟩,hpA⟩:=hP.elem (0) zO;obtain ⟨_,xB,hxB,⟨axB,cxB,rfl,hdB⟩,hpB⟩:=hP.elem (1) zO;obtain ⟨_,xC,hxC,⟨axC,cxC,rfl,hdC⟩,hpC⟩:=hP.elem (2) zO;obtain rfl : xA = iY (x.num * (y.den : Int)):=(eE hxA).symm;obtain rfl : xB = iY (y.num * (x.den : Int)):=(eE hxB).symm;obtain rfl : xC = iY ((x.den : Int) * (y.den : Int)):=(eE hxC).symm;change SlR (gV .i64) _ _ _ (dg (x.num * (y.den : Int)).natAbs) at hdA;change SlR (gV .i64) _ _ _ (dg (y.num * (x.den : Int)).natAbs) at hdB;change SlR (gV .i64) _ _ _ (dg ((x.den : Int) * (y.den : Int)).natAbs) at hdC;apply nX (fun _=>True) trivial 13 [gC _,gC _,gC _,gC _,gC _,gC _,fun v H=>∃ u,v = .tuple #[u,.int .i64 0] ∧ vJ (x.num * (y.den : Int) + y.num * (x.den : Int)) H u,fun v H=>vJ (x.num * (y.den : Int) + y.num * (x.den : Int)) H v,gC _,fun v H=>vJ (x.num * (y.den : Int) + y.num * (x.den : Int)) H v,gC _,gC _,gC _] follows zK zK ⟨aH _,aH _,aH _,aH _,aH _,aH _,fun _ _ _ hle ⟨u,h,k⟩=>⟨u,h,k.mono hle⟩,aAu _,aH _,aAu _,aH _,aH _,aH _,trivial⟩ ?steps3 ?tail3
 case steps3 =>
  refine dH rfl ?_ ?_
  ·intro X HD bI _;exact aF rfl (zM rfl (bF (eO trivial rfl)))
  refine dH rfl ?_ ?_
  ·intro X HD bI _;exact gL rfl (aF rfl (fK rfl rfl iF iE zO zO rfl (bF (eO trivial rfl))))
  refine dH rfl ?_ ?_
  ·intro X HD bI _;replace hs:=hs.mono bI;replace hs2:=hs2.mono bI;replace ht:=ht.mono bI;replace ht2:=ht2.mono bI;replace vG:=vG.mono bI;replace hsl23:=hsl23.mono bI;replace hP:=hP.mono bI;replace hpA:=hpA.mono bI;replace hdA:=hdA.mono bI;replace hpB:=hpB.mono bI;replace hdB:=hdB.mono bI;replace hpC:=hpC.mono bI;replace hdC:=hdC.mono bI;exact gL rfl (aF rfl (eH rfl (by assumption) iE rfl rfl rfl (bF (eO trivial rfl))))
  refine dH rfl ?_ ?_
  ·intro X HD bI _;exact aF rfl (zM rfl (bF (eO trivial rfl)))
  refine dH rfl ?_ ?_
  ·intro X HD bI _;exact gL rfl (aF rfl (fK rfl rfl iF iE zO zO rfl (bF (eO trivial rfl))))
  refine dH rfl ?_ ?_
  ·intro X HD bI _;replace hs:=hs.mono bI;replace hs2:=hs2.mono bI;replace ht:=ht.mono bI;replace ht2:=ht2.mono bI;replace vG:=vG.mono bI;replace hsl23:=hsl23.mono bI;replace hP:=hP.mono bI;replace hpA:=hpA.mono bI;replace hdA:=hdA.mono bI;replace hpB:=hpB.mono bI;replace hdB:=hdB.mono bI;replace hpC:=hpC.mono bI;replace hdC:=hdC.mono bI;exact gL rfl (aF rfl (eH rfl (by assumption) iE rfl rfl rfl (bF (eO trivial rfl))))
  refine dH rfl ?_ ?_
  ·intro X HD bI _;replace hdA:=hdA.mono bI;replace hdB:=hdB.mono bI;refine gL rfl (gL rfl (aF rfl (eZ rfl (qR (nadd_fn (x.num * (y.den : Int)) (y.num * (x.den : Int)) _ _ _ _ _ hdA hdB (by exact eK (pH (m:=499) (n:=499) hx.1 (by rw [fW];exact hy.2)) zO) (by exact eK (pH (m:=499) (n:=499) hy.1 (by rw [fW];exact hx.2)) zO))) rfl ?_)));rintro _ HN kI hN31;exact bF (eO trivial (hN31))
  refine dH rfl ?_ ?_
  ·intro X HD bI _;refine eJ rfl rfl ?_;rintro _ ⟨_,rfl,a32,c32,rfl,yH⟩;exact aF rfl (zX rfl (bF (eO trivial (⟨_,_,rfl,yH⟩))))
  refine dH rfl ?_ ?_
  ·intro X HD bI _;refine eJ rfl rfl ?_;rintro _ ⟨_,rfl,a32,c32,rfl,yH⟩;exact aF rfl (zX rfl (bF (eO trivial rfl)))
  refine dH rfl ?_ ?_
  ·intro X HD bI _;refine eJ rfl rfl ?_;rintro _ ⟨a32,c32,rfl,yH⟩;exact gL rfl (aF rfl (fH rfl (aK8 (iY (x.num * (y.den : Int) + y.num * (x.den : Int))) _ _ _ yH) rfl (bF (eO trivial (⟨_,_,rfl,yH⟩)))))
  refine dH rfl ?_ ?_
  ·intro X HD bI _;exact aF rfl (zM rfl (bF (eO trivial rfl)))
  refine dH rfl ?_ ?_
  ·intro X HD bI _;exact gL rfl (aF rfl (fK rfl rfl iF iE zO zO rfl (bF (eO trivial rfl))))
  refine dH rfl ?_ ?_
  ·intro X HD bI _;replace hs:=hs.mono bI;replace hs2:=hs2.mono bI;replace ht:=ht.mono bI;replace ht2:=ht2.mono bI;replace vG:=vG.mono bI;replace hsl23:=hsl23.mono bI;replace hP:=hP.mono bI;replace hpA:=hpA.mono bI;replace hdA:=hdA.mono bI;replace hpB:=hpB.mono bI;replace hdB:=hdB.mono bI;replace hpC:=hpC.mono bI;replace hdC:=hdC.mono bI;exact gL rfl (aF rfl (eH rfl (by assumption) iE rfl rfl rfl (bF (eO trivial rfl))))
  exact jH rfl
 case tail3 =>
  intro HD bI _;replace hdC:=hdC.mono bI;refine gL rfl (gL rfl (gL rfl (gL rfl (gL rfl (gL rfl (eJ rfl rfl ?_))))));rintro _ ⟨_,rfl,a32,c32,rfl,yH⟩;refine eJ rfl rfl ?_;rintro _ ⟨a32,c32,rfl,yH⟩;refine gL rfl (eJ rfl rfl ?_);rintro _ ⟨a34,c34,rfl,hd34⟩;refine gL rfl (gL rfl (gL rfl (aF rfl (mC aG0 aGr jD rfl rfl rfl (mC aN3 aNu aOg rfl rfl rfl (eZ rfl (aDy ((x.num * (y.den : Int) + y.num * (x.den : Int))) ((x.den : Int) * (y.den : Int)) _ _ _ _ _ hd34 hdC (by exact eK (aR4 (n:=998) (pH (m:=499) (n:=499) hx.1 (by rw [fW];exact hy.2)) (pH (m:=499) (n:=499) hy.1 (by rw [fW];exact hx.2))) zO) (by exact eK (pH (m:=499) (n:=499) (by rw [fW];exact hx.2) (by rw [fW];exact hy.2)) zO) (Int.mul_ne_zero (tN x) (tN y))) rfl ?_))))));rintro _ HL jQ hRL;rw [aWn] at hRL;obtain ⟨aL,cL,aM,cM,rfl,hL1,hL2⟩:=hRL;refine eG 1 rfl rfl rfl rfl fG rfl rfl rfl rfl rfl (eG 0 rfl rfl rfl rfl jZ rfl rfl rfl rfl rfl (zN (eP (jO 0 (L:=[_,_,_,_]) rfl hrest rfl ((rK _ _ _).mono (fun u2 HE own2 lF hD=>?_))))));obtain ⟨h1,h2⟩:=hD;subst h2;replace hL1:=hL1.mono lF;replace hL2:=hL2.mono lF;refine ⟨by subst h1;rfl,_,_,rfl,(fN 1 rfl rfl fG rfl rfl (fN 0 rfl rfl jZ rfl rfl iD)),eQ.mk ?_⟩;exact ⟨rfl,_,rfl,_,_,_,_,rfl,hL1,hL2⟩
theorem aS1 (x y : Rat) (a1 a2 e1 e2 : Option Addr) (c1 c2 d1 d2 : Nat) (H : Hp) (hs : SlR (gV .i64) H a1 c1 (dg x.num.natAbs)) (hs2 : SlR (gV .i64) H a2 c2 (dg x.den)) (l m : List Int) (s : Bool) (ht : SlR (gV .i64) H e1 d1 l) (ht2 : SlR (gV .i64) H e2 d2 m) (hl : l = dg y.num.natAbs) (hm : m = dg y.den) (hb : s = decide (y.num < 0)) (hx : mZ x 499) (hy : mZ y 499) :
  iP Tryz.prog 52 #[.agg ⟨[.bool (decide (x.num < 0)),.slice a1 (dg x.num.natAbs).length c1,.bool false,.slice a2 (dg x.den).length c2]⟩,.agg ⟨[.bool s,.slice e1 l.length d1,.bool false,.slice e2 m.length d2]⟩] H [] (eQ (fun v H2 own=>own = [] ∧ ∃ u,v = .tuple #[u,.int .i64 0] ∧ lJ (x + y) H2 u)):=by
 subst hl;subst hm;subst hb;exact aSk x y a1 a2 e1 e2 c1 c2 d1 d2 H hs hs2 ht ht2 hx hy
end Go.Proofs

namespace Go.Proofs
open Go.XL
theorem aWf {y : Rat} (h : ¬ y.num < 0) : decide ((0 : Int) < ((dg y.num.natAbs).length : Nat)) = decide ((-y).num < 0):=by
 rw [Rat.neg_num];have h1:=pG (n:=y.num.natAbs);apply decide_eq_decide.2;omega
theorem aW2 {y : Rat} (h : y.num < 0) : false = decide ((-y).num < 0):=by
 rw [Rat.neg_num];exact (aI zO).symm
theorem aK5 {P : Program} {f : FuncId} {args : Array Value} {H : Hp} {u : Value} (h : iP P f args H [] (eQ fun v _ own=>own = [] ∧ v = u)) : iP P f args H [] (eQ fun v _ _=>v = u) :=
 h.mono fun e _ _ _ hR=>by cases e <;> first | exact hR.2 | exact hR
end Go.Proofs

namespace Go.Proofs
open Go.XL
theorem rcmp_fn (x y : Rat) (a1 a2 e1 e2 : Option Addr) (c1 c2 d1 d2 : Nat) (H : Hp) (hs : SlR (gV .i64) H a1 c1 (dg x.num.natAbs)) (hs2 : SlR (gV .i64) H a2 c2 (dg x.den)) (ht : SlR (gV .i64) H e1 d1 (dg y.num.natAbs)) (ht2 : SlR (gV .i64) H e2 d2 (dg y.den)) (hx : mZ x 499) (hy : mZ y 499) : iP Tryz.prog 19 #[.agg ⟨[.bool (decide (x.num < 0)),.slice a1 (dg x.num.natAbs).length c1,.bool false,.slice a2 (dg x.den).length c2]⟩,.agg ⟨[.bool (decide (y.num < 0)),.slice e1 (dg y.num.natAbs).length d1,.bool false,.slice e2 (dg y.den).length d2]⟩] H [] (eQ (fun v _ own=>own = [] ∧ v = .tuple #[.int .i64 (vT (x.num * (y.den : Int)) (y.num * (x.den : Int))),.int .i64 0])):=by
 refine iP.introD (args:=[.agg ⟨[.bool (decide (x.num < 0)),.slice a1 (dg x.num.natAbs).length c1,.bool false,.slice a2 (dg x.den).length c2]⟩,.agg ⟨[.bool (decide (y.num < 0)),.slice e1 (dg y.num.natAbs).length d1,.bool false,.slice e2 (dg y.den).length d2]⟩]) Tryz.func19 rfl rfl Tryz.ntmps19 rfl rfl rfl fun G rest=>?_;refine zS ?_;refine iW rfl rfl rfl (fun b2=>?_);refine iW rfl rfl rfl (fun b3=>?_);refine zG rfl ?_;refine fI sJ rfl (fun b5=>?_);refine zN ?_;refine zS ?_;refine mL (L:=[_,_,_]) rfl rfl rfl rfl rfl (fun msD rest hrest=>?_);simp only [fP,gN];refine zN ?_;refine zS ?_;refine bT 2 rfl rfl fG rfl rfl rfl ?_;refine bT 1 rfl rfl fG rfl rfl rfl ?_;refine fS rfl cJ fG jD rfl rfl rfl (fun b9=>?_);refine fT 0 rfl rfl rfl (fun HP9 oP9 rI hbP9 hoP9=>?_);replace hs:=hs.mono rI;replace hs2:=hs2.mono rI;replace ht:=ht.mono rI;replace ht2:=ht2.mono rI;have vG:=SlR.lit (ρ:=lS) (l:=[oB x,oB y]) hbP9 hoP9 (iH.cons1 (cs:=[_,_,_,_]) ⟨_,_,_,_,rfl,hs,hs2⟩ (iH.one1 ⟨_,_,_,_,rfl,ht,ht2⟩));refine fH rfl (aAy _ _ [oB x,oB y] _ (by assumption) zP (fun z hz=>by simp only [List.mem_cons,List.not_mem_nil,or_false] at hz;rcases hz with rfl | rfl;exact rM hx zO;exact rM hy zO)) rfl ?_;refine zN ?_;refine zS ?_;refine bJ rfl nM rfl ?_;refine bT 2 rfl rfl iE rfl rfl rfl ?_;refine bJ rfl oU rfl ?_;refine bT 1 rfl rfl iE rfl rfl rfl ?_;refine bJ rfl nM rfl ?_;refine bT 1 rfl rfl iE rfl rfl rfl ?_;refine bJ rfl oU rfl ?_;refine bT 2 rfl rfl iE rfl rfl rfl ?_;refine fS rfl iF iE nV rfl rfl rfl (fun b19=>?_);refine fT 0 rfl rfl rfl (fun HP19 oP19 hleP19 hbP19 hoP19=>?_);replace hs:=hs.mono hleP19;replace hs2:=hs2.mono hleP19;replace ht:=ht.mono hleP19;replace ht2:=ht2.mono hleP19;replace vG:=vG.mono hleP19;have hsl19:=SlR.lit (ρ:=rawR) (l:=[iY x.num,(false,dg y.den),iY y.num,(false,dg x.den)]) hbP19 hoP19 (iH.cons1 (cs:=[_,_]) ⟨_,_,rfl,hs⟩ (iH.cons1 (cs:=[_,_]) ⟨_,_,rfl,ht2⟩ (iH.cons1 (cs:=[_,_]) ⟨_,_,rfl,ht⟩ (iH.one1 ⟨_,_,rfl,hs2⟩))));refine eZ rfl (aG9 2 (fun j=>match j with | 0=>x.num | 1=>(y.den : Int) | 2=>y.num | _=>(x.den : Int)) _ _ [iY x.num,(false,dg y.den),iY y.num,(false,dg x.den)] _ (by assumption) rfl (fun j hj=>by match j,hj with | 0,_=>exact rfl | 1,_=>exact congrArg some (sR _) | 2,_=>exact rfl | 3,_=>exact congrArg some (sR _) | (k + 4),h=>omega) (fun j hj=>by match j,hj with | 0,_=>exact eK hx.1 zO | 1,_=>exact (by show (dg ((y.den : Int)).natAbs).length ≤ _;rw [fW];exact eK hy.2 zO) | 2,_=>exact eK hy.1 zO | 3,_=>exact (by show (dg ((x.den : Int)).natAbs).length ≤ _;rw [fW];exact eK hx.2 zO) | (k + 4),h=>omega) zO) rfl ?_;rintro _ HP uN ⟨aP,cP,rfl,hP⟩;rw [show uI (fun j=>match j with | 0=>x.num | 1=>(y.den : Int) | 2=>y.num | _=>(x.den : Int)) 2 = [iY (x.num * (y.den : Int)),iY (y.num * (x.den : Int))] from rfl] at hP ⊢;have ePl : ([iY (x.num * (y.den : Int)),iY (y.num * (x.den : Int))] : List Raw).length = 2:=rfl;replace hs:=hs.mono uN;replace hs2:=hs2.mono uN;replace ht:=ht.mono uN;replace ht2:=ht2.mono uN;replace vG:=vG.mono uN;replace hsl19:=hsl19.mono uN;refine zG rfl ?_;refine zN ?_;refine cO ?_;refine eU [5,6] rfl ?_;obtain ⟨bEA,oEA,rfl⟩:=hP.addr zO;obtain ⟨_,xA,hxA,⟨axA,cxA,rfl,hdA⟩,hpA⟩:=hP.elem (0) zO;obtain ⟨_,xB,hxB,⟨axB,cxB,rfl,hdB⟩,hpB⟩:=hP.elem (1) zO;obtain rfl : xA = iY (x.num * (y.den : Int)):=(eE hxA).symm;obtain rfl : xB = iY (y.num * (x.den : Int)):=(eE hxB).symm;change SlR (gV .i64) _ _ _ (dg (x.num * (y.den : Int)).natAbs) at hdA;change SlR (gV .i64) _ _ _ (dg (y.num * (x.den : Int)).natAbs) at hdB;apply pI 9 [gC _,gC _,gC _,gC _,gC _,gC _,gC _,gC _,gC _] follows zK zK ⟨aH _,aH _,aH _,aH _,aH _,aH _,aH _,aH _,aH _,trivial⟩ ?steps3 ?tail3
 case steps3 =>
  refine dF rfl ?_ ?_
  ·intro X;exact aF rfl (zM rfl zQ)
  refine dF rfl ?_ ?_
  ·intro X;exact gL rfl (aF rfl (fK rfl rfl iF iE zO zO rfl zQ))
  refine dF rfl ?_ ?_
  ·intro X;exact gL rfl (aF rfl (eH rfl (by assumption) iE rfl rfl rfl zQ))
  refine dF rfl ?_ ?_
  ·intro X;exact aF rfl (zM rfl zQ)
  refine dF rfl ?_ ?_
  ·intro X;exact gL rfl (aF rfl (fK rfl rfl iF iE zO zO rfl zQ))
  refine dF rfl ?_ ?_
  ·intro X;exact gL rfl (aF rfl (eH rfl (by assumption) iE rfl rfl rfl zQ))
  refine dF rfl ?_ ?_
  ·intro X;exact gL rfl (gL rfl (aF rfl (fH rfl (aK5 (aSl (x.num * (y.den : Int)) (y.num * (x.den : Int)) _ _ _ _ _ hdA hdB (by exact eK (pH (m:=499) (n:=499) hx.1 (by rw [fW];exact hy.2)) zO) (by exact eK (pH (m:=499) (n:=499) hy.1 (by rw [fW];exact hx.2)) zO))) rfl zQ)))
  refine dF rfl ?_ ?_
  ·intro X;exact gL rfl (aF rfl (zX rfl zQ))
  refine dF rfl ?_ ?_
  ·intro X;exact gL rfl (aF rfl (zX rfl zQ))
  exact jH rfl
 case tail3 =>
  refine gL rfl (gL rfl (gL rfl (gL rfl (gL rfl (gL rfl (gL rfl (gL rfl (gL rfl (aF rfl (fH rfl (rdidI_ok _ _) rfl (zG rfl (eG 0 rfl rfl rfl rfl jZ rfl rfl rfl rfl rfl (zN (eP (jO 0 (L:=[_,_,_]) rfl hrest rfl ((rK _ _ _).mono (fun u2 HE own2 lF hD=>?_)))))))))))))))));obtain ⟨h1,h2⟩:=hD;subst h2;refine ⟨by subst h1;rfl,_,_,rfl,(mM rfl (fN 0 rfl rfl jZ rfl rfl iD)),eQ.mk ?_⟩;exact ⟨rfl,rfl⟩
theorem rsub_fn (x y : Rat) (a1 a2 e1 e2 : Option Addr) (c1 c2 d1 d2 : Nat) (H : Hp) (hs : SlR (gV .i64) H a1 c1 (dg x.num.natAbs)) (hs2 : SlR (gV .i64) H a2 c2 (dg x.den)) (ht : SlR (gV .i64) H e1 d1 (dg y.num.natAbs)) (ht2 : SlR (gV .i64) H e2 d2 (dg y.den)) (hx : mZ x 499) (hy : mZ y 499) : iP Tryz.prog 70 #[.agg ⟨[.bool (decide (x.num < 0)),.slice a1 (dg x.num.natAbs).length c1,.bool false,.slice a2 (dg x.den).length c2]⟩,.agg ⟨[.bool (decide (y.num < 0)),.slice e1 (dg y.num.natAbs).length d1,.bool false,.slice e2 (dg y.den).length d2]⟩] H [] (eQ (fun v H2 own=>own = [] ∧ ∃ u,v = .tuple #[u,.int .i64 0] ∧ lJ (x - y) H2 u)):=by
 refine iP.introD (args:=[.agg ⟨[.bool (decide (x.num < 0)),.slice a1 (dg x.num.natAbs).length c1,.bool false,.slice a2 (dg x.den).length c2]⟩,.agg ⟨[.bool (decide (y.num < 0)),.slice e1 (dg y.num.natAbs).length d1,.bool false,.slice e2 (dg y.den).length d2]⟩]) Tryz.func70 rfl rfl Tryz.ntmps70 rfl rfl rfl fun G rest=>?_;refine zS ?_;refine iW rfl rfl rfl (fun b2=>?_);refine iW rfl rfl rfl (fun b3=>?_);refine fI jD rfl (fun b4=>?_);refine fI sJ rfl (fun b5=>?_);refine zN ?_;refine zS ?_;refine mL (L:=[_,_,_,_]) rfl rfl rfl rfl rfl (fun msD rest hrest=>?_);simp only [fP,gN];refine zN ?_;refine zS ?_;refine bT 3 rfl rfl fG rfl rfl rfl ?_;refine bT 2 rfl rfl fG rfl rfl rfl ?_;refine fS rfl cJ fG jD rfl rfl rfl (fun b8=>?_);refine fT 0 rfl rfl rfl (fun HP8 oP8 hleP8 hbP8 hoP8=>?_);replace hs:=hs.mono hleP8;replace hs2:=hs2.mono hleP8;replace ht:=ht.mono hleP8;replace ht2:=ht2.mono hleP8;have uM:=SlR.lit (ρ:=lS) (l:=[oB x,oB y]) hbP8 hoP8 (iH.cons1 (cs:=[_,_,_,_]) ⟨_,_,_,_,rfl,hs,hs2⟩ (iH.one1 ⟨_,_,_,_,rfl,ht,ht2⟩));refine fH rfl (aAy _ _ [oB x,oB y] _ (by assumption) zP (fun z hz=>by simp only [List.mem_cons,List.not_mem_nil,or_false] at hz;rcases hz with rfl | rfl;exact rM hx zO;exact rM hy zO)) rfl ?_;refine zN ?_;refine zS ?_;refine bJ rfl nM rfl ?_;refine bJ rfl mG rfl ?_;refine bT 2 rfl rfl oA rfl rfl rfl ?_;refine aFf rfl rfl ?_;refine zM rfl ?_;refine iM rfl rfl rfl rfl (fun g2=>?_) (fun g2=>?_)
 ·have g2p:=eT g2;refine bJ rfl nM rfl (zT rfl g2 (bJ rfl kY rfl (zT rfl g2 (bT 2 rfl rfl gE rfl rfl rfl (zT rfl g2 (eD (ts:=#[]) rfl bK rfl (zT rfl g2 (zY rfl (zV g2 rfl (bJ rfl nM rfl (bJ rfl mG rfl (eG 2 rfl rfl rfl rfl oA rfl rfl rfl rfl rfl (zN (zS (bT 3 rfl rfl fG rfl rfl rfl (bT 2 rfl rfl fG rfl rfl rfl (eZ rfl (qR (aS1 x (-y) _ _ _ _ _ _ _ _ _ hs hs2 (dg y.num.natAbs) (dg y.den) _ ht ht2 (by rw [Rat.neg_num,pF]) rfl (by first | exact aWf (by first | assumption | (simp_all;done) | omega) | exact aW2 (by first | assumption | (simp_all;done) | omega)) hx (aNd hy))) rfl ?_)))))))))))))))));rintro _ HL jQ ⟨_,rfl,hRL⟩;rw [← Rat.sub_eq_add_neg] at hRL;obtain ⟨aL,cL,aM,cM,rfl,hL1,hL2⟩:=hRL;refine zX rfl (zX rfl (eG 1 rfl rfl rfl rfl fG rfl rfl rfl rfl rfl (eG 0 rfl rfl rfl rfl jZ rfl rfl rfl rfl rfl (zN (eP (jO 0 (L:=[_,_,_,_]) rfl hrest rfl ((rK _ _ _).mono (fun u2 HE own2 lF hD=>?_))))))));obtain ⟨h1,h2⟩:=hD;subst h2;replace hL1:=hL1.mono lF;replace hL2:=hL2.mono lF;refine ⟨by subst h1;rfl,_,_,rfl,(fN 1 rfl rfl fG rfl rfl (fN 0 rfl rfl jZ rfl rfl iD)),eQ.mk ?_⟩;exact ⟨rfl,_,rfl,_,_,_,_,rfl,hL1,hL2⟩
 have g2p:=fM g2;refine zU rfl g2 (zU rfl g2 (zU rfl g2 (zU rfl g2 (zW g2 rfl (bJ rfl nM rfl (bJ rfl mG rfl (eG 2 rfl rfl rfl rfl oA rfl rfl rfl rfl rfl (zN (zS (bT 3 rfl rfl fG rfl rfl rfl (bT 2 rfl rfl fG rfl rfl rfl (eZ rfl (qR (aS1 x (-y) _ _ _ _ _ _ _ _ _ hs hs2 (dg y.num.natAbs) (dg y.den) _ ht ht2 (by rw [Rat.neg_num,pF]) rfl (by first | exact aWf (by first | assumption | (simp_all;done) | omega) | exact aW2 (by first | assumption | (simp_all;done) | omega)) hx (aNd hy))) rfl ?_))))))))))));rintro _ HL jQ ⟨_,rfl,hRL⟩;rw [← Rat.sub_eq_add_neg] at hRL;obtain ⟨aL,cL,aM,cM,rfl,hL1,hL2⟩:=hRL;refine zX rfl (zX rfl (eG 1 rfl rfl rfl rfl fG rfl rfl rfl rfl rfl (eG 0 rfl rfl rfl rfl jZ rfl rfl rfl rfl rfl (zN (eP (jO 0 (L:=[_,_,_,_]) rfl hrest rfl ((rK _ _ _).mono (fun u2 HE own2 lF hD=>?_))))))));obtain ⟨h1,h2⟩:=hD;subst h2;replace hL1:=hL1.mono lF;replace hL2:=hL2.mono lF;refine ⟨by subst h1;rfl,_,_,rfl,(fN 1 rfl rfl fG rfl rfl (fN 0 rfl rfl jZ rfl rfl iD)),eQ.mk ?_⟩;exact ⟨rfl,_,rfl,_,_,_,_,rfl,hL1,hL2⟩
end Go.Proofs

namespace Go.Proofs
def iK (f : Nat → Rat) : Nat → Rat
 | 0=>0
 | n + 1=>iK f n + f n
theorem gX {f g : Nat → Rat} : ∀ {n : Nat},(∀ k,k < n → f k = g k) → iK f n = iK g n
 | 0,_=>rfl
 | n + 1,h=>by rw [iK,iK,gX fun k hk=>h k zO,h n zO]
theorem oX {f : Nat → Rat} : ∀ {n : Nat},(∀ k,k < n → f k = 0) → iK f n = 0
 | 0,_=>rfl
 | n + 1,h=>by rw [iK,oX fun k hk=>h k zO,h n zO];grind
theorem pQ (f g : Nat → Rat) : ∀ n,iK (fun k=>f k + g k) n = iK f n + iK g n
 | 0=>by simp only [iK];grind
 | n + 1=>by simp only [iK];rw [pQ f g n];grind
theorem lQ (a : Rat) (f : Nat → Rat) : ∀ n,iK (fun k=>a * f k) n = a * iK f n
 | 0=>by simp only [iK];grind
 | n + 1=>by simp only [iK];rw [lQ a f n];grind
theorem oZ (f g : Nat → Rat) (n : Nat) : iK (fun k=>f k - g k) n = iK f n - iK g n:=by
 have h1:=pQ f (fun k=>(-1) * g k) n;rw [lQ] at h1;rw [show iK (fun k=>f k - g k) n = iK (fun k=>f k + (-1) * g k) n from gX fun k _=>by grind,h1];grind
theorem wI (f : Nat → Nat → Rat) (m : Nat) : ∀ n,iK (fun i=>iK (fun k=>f i k) m) n = iK (fun k=>iK (fun i=>f i k) n) m
 | 0=>by rw [iK];exact (oX fun _ _=>rfl).symm
 | n + 1=>by rw [iK,wI f m n,← pQ];rfl
abbrev Sys:=(Nat → Int) → Int → Prop
def Kills (S : Sys) (n : Nat) (z : Nat → Rat) : Prop:=∀ c d,S c d → iK (fun k=>(c k : Rat) * z k) n = 0
def aNk (S : Sys) (n : Nat) (x : Nat → Rat) : Prop:=∀ c d,S c d → iK (fun k=>(c k : Rat) * x k) n = (d : Rat)
def aT5 (S : Sys) (n M : Nat) : Prop:=∀ c d,S c d → (∀ k,k < n → (c k).natAbs ≤ M) ∧ d.natAbs ≤ M
def aTi (S : Sys) (n : Nat) : Prop:=∀ z,Kills S n z → ∀ k,k < n → z k = 0
def bnd : Nat → Nat → Nat
 | 0,_=>1
 | n + 1,M=>(n + 1) * M * bnd n (2 * (M * M))
def aT4 (S : Sys) (n : Nat) (c0 : Nat → Int) (d0 : Int) : Sys:=fun c' d'=>∃ c d,S c d ∧ c' = (fun k=>c0 n * c k - c n * c0 k) ∧ d' = c0 n * d - c n * d0
theorem aP3 (a b : Int) (c c0 : Nat → Int) (z : Nat → Rat) (n : Nat) : iK (fun k=>((a * c k - b * c0 k : Int) : Rat) * z k) n = a * iK (fun k=>(c k : Rat) * z k) n - b * iK (fun k=>(c0 k : Rat) * z k) n:=by
 rw [← lQ,← lQ,← oZ];refine gX fun k _=>?_;rw [Rat.intCast_sub,Rat.intCast_mul,Rat.intCast_mul];grind
theorem aLa {a b c d : Int} {M : Nat} (h1 : a.natAbs ≤ M) (h2 : b.natAbs ≤ M) (h3 : c.natAbs ≤ M) (h4 : d.natAbs ≤ M) : (a * b - c * d).natAbs ≤ 2 * (M * M):=by
 have e1 : (a * b).natAbs ≤ M * M:=by rw [Int.natAbs_mul];exact Nat.mul_le_mul h1 h2
 have e2 : (c * d).natAbs ≤ M * M:=by rw [Int.natAbs_mul];exact Nat.mul_le_mul h3 h4
 omega
theorem lessS_fits {S : Sys} {n M : Nat} {c0 : Nat → Int} {d0 : Int} (h : aT5 S (n + 1) M) (h0 : S c0 d0) : aT5 (aT4 S n c0 d0) n (2 * (M * M)):=by
 rintro c' d' ⟨c,d,hS,rfl,rfl⟩;obtain ⟨h1,h2⟩:=h _ _ hS;obtain ⟨h3,h4⟩:=h _ _ h0;exact ⟨fun k hk=>aLa (h3 n zO) (h1 k zO) (h1 n zO) (h3 k zO),aLa (h3 n zO) h2 (h1 n zO) h4⟩
theorem lessS_rigid {S : Sys} {n : Nat} {c0 : Nat → Int} {d0 : Int} (h : aTi S (n + 1)) (h0 : S c0 d0) (hn : c0 n ≠ 0) : aTi (aT4 S n c0 d0) n:=by
 intro z hz k hk;have hc : (c0 n : Rat) ≠ 0:=fun h=>hn (by exact_mod_cast h)
 let y : Rat:=-(iK (fun k=>(c0 k : Rat) * z k) n) / (c0 n : Rat)
 have:=h (fun j=>if j = n then y else z j) (by
  intro c d hS;show iK _ (n + 1) = 0;simp only [iK];rw [eX trivial,gX (g:=fun k=>(c k : Rat) * z k) fun j hj=>by rw [dG zO]];have h1:=hz _ _ ⟨c,d,hS,rfl,rfl⟩;rw [aP3] at h1;show _ + _ * (-(iK (fun k=>(c0 k : Rat) * z k) n) / (c0 n : Rat)) = 0
  grind) k zO
 simpa [show k ≠ n by omega] using this
theorem lessS_solves {S : Sys} {n : Nat} {c0 : Nat → Int} {d0 : Int} {x : Nat → Rat} (h : aNk S (n + 1) x) (h0 : S c0 d0) : aNk (aT4 S n c0 d0) n x:=by
 rintro c' d' ⟨c,d,hS,rfl,rfl⟩;have h1:=h _ _ hS;have h2:=h _ _ h0;rw [iK] at h1 h2;rw [aP3,Rat.intCast_sub,Rat.intCast_mul,Rat.intCast_mul];grind
theorem aR9 {c : Nat → Int} {x : Nat → Rat} {D M B : Nat} : ∀ {n : Nat},(∀ k,k < n → (c k).natAbs ≤ M) → (∀ k,k < n → ∃ p : Int,x k * (D : Rat) = p ∧ p.natAbs ≤ B) → ∃ p : Int,iK (fun k=>(c k : Rat) * x k) n * (D : Rat) = p ∧ p.natAbs ≤ n * (M * B)
 | 0,_,_=>⟨0,by simp only [iK];grind,by simp⟩
 | n + 1,h1,h2=>by
  obtain ⟨p,hp,hq⟩:=aR9 (n:=n) (fun k hk=>h1 k zO) (fun k hk=>h2 k zO);obtain ⟨p2,hp2,hq2⟩:=h2 n zO;refine ⟨p + c n * p2,?_,?_⟩
  ·rw [iK,Rat.intCast_add,Rat.intCast_mul,← hp,← hp2];grind
  have : (c n * p2).natAbs ≤ M * B:=by rw [Int.natAbs_mul];exact Nat.mul_le_mul (h1 n zO) hq2
  have e : (n + 1) * (M * B) = n * (M * B) + M * B:=by rw [Nat.add_mul,Nat.one_mul]
  omega
theorem aTg : ∀ (n : Nat) {M : Nat},1 ≤ M → 1 ≤ bnd n M
 | 0,_,_=>gT _
 | n + 1,M,h=>Nat.mul_pos (Nat.mul_pos (Nat.succ_pos _) h) (aTg n (eK (Nat.mul_pos h h) zO))
theorem aUt : ∀ (n M : Nat) (S : Sys),aT5 S n M → 1 ≤ M → aTi S n → ∀ x,aNk S n x → ∃ D : Nat,0 < D ∧ D ≤ bnd n M ∧ ∀ k,k < n → ∃ p : Int,x k * (D : Rat) = p ∧ p.natAbs ≤ bnd n M
 | 0,M,S,_,_,_,x,_=>⟨1,zO,by simp [bnd],fun k hk=>zO⟩
 | n + 1,M,S,hf,hM,hr,x,hx=>by
  have hex : ∃ c0 d0,S c0 d0 ∧ c0 n ≠ 0:=by
   apply Classical.byContradiction;intro hno
   have:=hr (fun j=>if j = n then 1 else 0) (by
    intro c d hS;have hc : c n = 0:=Classical.byContradiction fun h=>hno ⟨c,d,hS,h⟩;simp only [iK]
    rw [hc,oX fun k hk=>by rw [dG zO];grind];grind) n zO
   rw [eX rfl] at this;exact absurd this zD
  obtain ⟨c0,d0,h0,hn⟩:=hex;obtain ⟨hc0,hd0⟩:=hf _ _ h0;have hM2 : 1 ≤ 2 * (M * M):=by have:=Nat.mul_pos hM hM;omega
  obtain ⟨D,hD,hDb,hk⟩:=aUt n (2 * (M * M)) _ (lessS_fits hf h0) hM2 (lessS_rigid hr h0 hn) x (lessS_solves hx h0);have hB:=aTg n hM2;have eB : bnd (n + 1) M = (n + 1) * (M * bnd n (2 * (M * M))):=by rw [bnd,Nat.mul_assoc]
  rw [eB];generalize bnd n (2 * (M * M)) = B at hDb hk hB;obtain ⟨p,hp,hpb⟩:=aR9 (D:=D) (n:=n) (c:=c0) (x:=x) (M:=M) (B:=B) (fun k h=>hc0 k zO) hk;have hcn : (c0 n).natAbs ≤ M:=hc0 n zO;have hMB : M * B ≤ (n + 1) * (M * B):=Nat.le_mul_of_pos_left _ zO;have hsn : ((((c0 n).natAbs : Nat) : Int) : Rat) = (((c0 n).sign * c0 n : Int) : Rat):=by rw [Int.sign_mul_self]
  have hx0:=hx _ _ h0;rw [iK] at hx0;refine ⟨D * (c0 n).natAbs,Nat.mul_pos hD zO,eK (by rw [Nat.mul_comm];exact Nat.mul_le_mul hcn hDb) hMB,fun k hk2=>?_⟩;by_cases e : k = n
  ·subst e;refine ⟨(c0 k).sign * (d0 * D - p),?_,?_⟩
   ·rw [Rat.natCast_mul,Rat.intCast_mul,Rat.intCast_sub,Rat.intCast_mul,← hp];rw [Rat.intCast_mul] at hsn;have h3 : (((c0 k).natAbs : Nat) : Rat) = ((((c0 k).natAbs : Nat) : Int) : Rat):=(Rat.intCast_natCast _).symm;have h4 : ((D : Int) : Rat) = (D : Rat):=Rat.intCast_natCast _;rw [h3,hsn,h4,← hx0];grind
   have h5 : (d0 * D - p).natAbs ≤ (k + 1) * (M * B):=by
    have : (d0 * D).natAbs ≤ M * B:=by rw [Int.natAbs_mul];exact Nat.mul_le_mul hd0 (by simpa using hDb)
    have e : (k + 1) * (M * B) = k * (M * B) + M * B:=by rw [Nat.add_mul,Nat.one_mul]
    omega
   rw [Int.natAbs_mul];have h6 : (c0 k).sign.natAbs ≤ 1:=by rw [Int.natAbs_sign];split <;> omega
   refine eK (Nat.mul_le_mul h6 (gT _)) zO
  obtain ⟨q,hq,hqb⟩:=hk k zO;refine ⟨q * (c0 n).natAbs,?_,?_⟩
  ·rw [Rat.natCast_mul,Rat.intCast_mul,← hq,Rat.intCast_natCast];grind
  rw [Int.natAbs_mul,fW,Nat.mul_comm];exact eK (Nat.mul_le_mul hcn hqb) hMB
end Go.Proofs

namespace Go.Proofs
open Go.XL
def jX : Rep Rat where
 sz:=4
 R:=fun H cs q=>∃ a c b d,cs = aV5 q a c b d ∧ SlR (gV .i64) H a c (dg q.num.natAbs) ∧ SlR (gV .i64) H b d (dg q.den)
 len:=fun ⟨_,_,_,_,h,_⟩=>by subst h;rfl
 one:=fun ⟨_,_,_,_,h,_⟩=>by subst h;rfl
 mono:=fun hle ⟨a,c,b,d,h,h1,h2⟩=>⟨a,c,b,d,h,h1.mono hle,h2.mono hle⟩
theorem SlR.rep {α β : Type} {ρ : Rep α} {σ : Rep β} (f : α → β) (hz : ρ.sz = σ.sz) (h : ∀ H cs x,ρ.R H cs x → σ.R H cs (f x)) {H : Hp} {a : Option Addr} {c : Nat} {l : List α} (hs : SlR ρ H a c l) : SlR σ H a c (l.map f) :=
 ⟨by rw [fB];exact hs.le,hs.nil,fun i x hx=>by
  rw [iI] at hx;cases hy : l[i]? with
  | none=>rw [hy] at hx;cases hx
  | some y =>
   rw [hy] at hx;cases hx;obtain ⟨b,o,cs,h1,h2,h3⟩:=hs.el i y hy
   exact ⟨b,o,cs,h1,by rw [← hz];exact h2,h _ _ _ h3⟩⟩
theorem SlR.raw {H : Hp} {a : Option Addr} {c : Nat} {l : List Rat} (hs : SlR jX H a c l) : SlR lS H a c (l.map oB) :=
 SlR.rep (ρ:=jX) (σ:=lS) oB rfl (fun H cs q ⟨a,c,b,d,h,h1,h2⟩=>⟨a,c,b,d,h,h1,h2⟩) hs
theorem SlR.unrep {α β : Type} {ρ : Rep α} {σ : Rep β} (f : α → β) (hz : ρ.sz = σ.sz) (h : ∀ H cs x,σ.R H cs (f x) → ρ.R H cs x) {H : Hp} {a : Option Addr} {c : Nat} {l : List α} (hs : SlR σ H a c (l.map f)) : SlR ρ H a c l :=
 ⟨by have:=hs.le;rwa [fB] at this,hs.nil,fun i x hx=>by
  obtain ⟨b,o,cs,h1,h2,h3⟩:=hs.el i (f x) (by rw [iI,hx];rfl)
  exact ⟨b,o,cs,h1,by rw [hz];exact h2,h _ _ _ h3⟩⟩
theorem SlR.rat {H : Hp} {a : Option Addr} {c : Nat} {l : List Rat} (hs : SlR lS H a c (l.map oB)) : SlR jX H a c l :=
 SlR.unrep (ρ:=jX) (σ:=lS) oB rfl (fun H cs q ⟨a,c,b,d,h,h1,h2⟩=>⟨a,c,b,d,h,h1,h2⟩) hs
theorem aVc {x : Raw × Raw} (h : okQ x.1 x.2) : ∃ q : Rat,x = oB q:=by
 obtain ⟨q,h1,h2,_,_⟩:=h;exact ⟨q,by obtain ⟨x1,x2⟩:=x;simp only at h1 h2;rw [h1,h2,← sR];rfl⟩
theorem aOk : ∀ {l : List (Raw × Raw)},(∀ x ∈ l,okQ x.1 x.2) → ∃ qs : List Rat,l = qs.map oB
 | [],_=>⟨[],rfl⟩
 | x :: l,h=>by
  obtain ⟨q,rfl⟩:=aVc (h x (List.mem_cons_self ..));obtain ⟨qs,rfl⟩:=aOk fun y hy=>h y (mX _ hy);exact ⟨q :: qs,rfl⟩
theorem aIg (n : Int) : Rat.divInt n 1 = (n : Rat):=aBk (n : Rat)
def mP (l : List Rat) : Rat:=l.foldl (· + ·) 0
theorem aMe (l : List Rat) (x : Rat) : mP (l ++ [x]) = mP l + x:=by simp [mP,List.foldl_append]
def pW (l : List Rat) (n : Nat) : Prop:=(∀ k,mZ (mP (l.take k)) n) ∧ ∀ x ∈ l,mZ x n
theorem aN5 {x y : Rat} {H : Hp} {u w : Value} (hu : lJ x H u) (hw : lJ y H w) (hx : mZ x 499) (hy : mZ y 499) : iP Tryz.prog 52 #[u,w] H [] (eQ fun v H2 _=>∃ r,v = .tuple #[r,.int .i64 0] ∧ lJ (x + y) H2 r):=by
 obtain ⟨a1,c1,a2,c2,rfl,h1,h2⟩:=hu;obtain ⟨e1,d1,e2,d2,rfl,h3,h4⟩:=hw;exact qR (aSk x y _ _ _ _ _ _ _ _ H h1 h2 h3 h4 hx hy)
theorem aJy {x y : Rat} {H : Hp} {u w : Value} (hu : lJ x H u) (hw : lJ y H w) (hx : mZ x 499) (hy : mZ y 499) : iP Tryz.prog 70 #[u,w] H [] (eQ fun v H2 _=>∃ r,v = .tuple #[r,.int .i64 0] ∧ lJ (x - y) H2 r):=by
 obtain ⟨a1,c1,a2,c2,rfl,h1,h2⟩:=hu;obtain ⟨e1,d1,e2,d2,rfl,h3,h4⟩:=hw;exact qR (rsub_fn x y _ _ _ _ _ _ _ _ H h1 h2 h3 h4 hx hy)
theorem aU8 {x y : Rat} {H : Hp} {u w : Value} (hu : lJ x H u) (hw : lJ y H w) (hx : mZ x 499) (hy : mZ y 499) : iP Tryz.prog 63 #[u,w] H [] (eQ fun v H2 _=>∃ r,v = .tuple #[r,.int .i64 0] ∧ lJ (x * y) H2 r):=by
 obtain ⟨a1,c1,a2,c2,rfl,h1,h2⟩:=hu;obtain ⟨e1,d1,e2,d2,rfl,h3,h4⟩:=hw;exact qR (rmul_fn x y _ _ _ _ _ _ _ _ H h1 h2 h3 h4 hx hy)
theorem aRd {x y : Rat} {H : Hp} {u w : Value} (hu : lJ x H u) (hw : lJ y H w) (hx : mZ x 499) (hy : mZ y 499) (h0 : y ≠ 0) : iP Tryz.prog 53 #[u,w] H [] (eQ fun v H2 _=>∃ r,v = .tuple #[r,.int .i64 0] ∧ lJ (x / y) H2 r):=by
 obtain ⟨a1,c1,a2,c2,rfl,h1,h2⟩:=hu;obtain ⟨e1,d1,e2,d2,rfl,h3,h4⟩:=hw;exact qR (rquo_fn x y _ _ _ _ _ _ _ _ H h1 h2 h3 h4 hx hy h0)
def aLn (x y : Rat) : Int:=if x < y then -1 else if x = y then 0 else 1
theorem aOc {x y : Rat} {H : Hp} {u w : Value} (hu : lJ x H u) (hw : lJ y H w) (hx : mZ x 499) (hy : mZ y 499) : iP Tryz.prog 19 #[u,w] H [] (eQ fun v _ _=>v = .tuple #[.int .i64 (aLn x y),.int .i64 0]):=by
 obtain ⟨a1,c1,a2,c2,rfl,h1,h2⟩:=hu;obtain ⟨e1,d1,e2,d2,rfl,h3,h4⟩:=hw;have h:=aK5 (rcmp_fn x y _ _ _ _ _ _ _ _ H h1 h2 h3 h4 hx hy);rw [cmp_q] at h;exact h
theorem aFe {q : Rat} {H : Hp} {u : Value} (hu : lJ q H u) : iP Tryz.prog 62 #[u,.int .i64 0] H [] (eQ fun v _ _=>v = u):=by
 obtain ⟨a1,c1,a2,c2,rfl,h1,h2⟩:=hu;exact sdidQ_ok (iY q.num) (false,dg q.den) _ _ _ _ _
theorem aP5 {q : Rat} {H : Hp} {u : Value} {n : Nat} (hu : lJ q H u) (hq : mZ q n) (hn : n ≤ 1000) : iP Tryz.prog 82 #[u] H [] (eQ fun v _ _=>v = .int .i64 0):=by
 obtain ⟨a1,c1,a2,c2,rfl,h1,h2⟩:=hu;refine (aAn (iY q.num) (false,dg q.den) _ _ _ _ H h1 h2 (.inl (eK hq.1 hn)) (.inl (eK hq.2 hn)) (by have:=hq.1;show (dg _).length < _;omega) (by have:=hq.2;show (dg _).length < _;omega)).mono fun e _ _ _ hR=>?_;cases e with
 | returned v=>obtain ⟨e,h,he⟩:=hR;rw [he.2 (aRr hq zO)] at h;exact h
 | _=>exact hR
theorem ncmp_at (z w : Int) (a b : Option Addr) (c d : Nat) (H : Hp) (l : List Int) (s : Bool) (hs : SlR (gV .i64) H a c l) (ht : SlR (gV .i64) H b d (dg w.natAbs)) (hl : l = dg z.natAbs) (hb : s = decide (z < 0)) (hz : (dg z.natAbs).length ≤ 1000) (hw : (dg w.natAbs).length ≤ 1000) :
  iP Tryz.prog 61 #[.agg ⟨[.bool s,.slice a l.length c]⟩,.agg ⟨[.bool (decide (w < 0)),.slice b (dg w.natAbs).length d]⟩] H [] (eQ fun v _ own=>own = [] ∧ v = .tuple #[.int .i64 (vT z w),.int .i64 0]):=by
 subst hl;subst hb;exact aSl z w a b c d H hs ht hz hw
end Go.Proofs

namespace Go.Proofs
open Go.XL
theorem wF (n d : Int) (hn : -9223372036854775808 ≤ n ∧ n ≤ 9223372036854775807) (hd : -9223372036854775808 ≤ d ∧ d ≤ 9223372036854775807) (hd0 : d ≠ 0) (H : Hp) : iP Tryz.prog 68 #[.int .i64 n,.int .i64 d] H [] (eQ (fun v H2 _=>lJ (Rat.divInt n d) H2 v)):=by
 refine iP.introC (args:=[.int .i64 n,.int .i64 d]) Tryz.func68 rfl rfl Tryz.ntmps68 rfl rfl rfl fun G rest=>?_;refine zS ?_;refine fI jD rfl (fun b4=>?_);refine zN ?_;refine zS ?_;refine zM rfl ?_;refine zM rfl ?_;refine eZ rfl (aDk n d hn hd hd0 _) rfl ?_;rintro _ HN1 hleN1 ⟨_,rfl,⟨a1,c1,b1,d1,rfl,h1,k1⟩⟩;refine zX rfl ?_;refine zX rfl ?_;refine fH rfl (aFe ⟨_,_,_,_,rfl,h1,k1⟩) rfl ?_;refine eG 0 rfl rfl rfl rfl fG rfl rfl rfl rfl rfl ?_;refine zN ?_;refine eP ?_;refine ⟨rfl,_,[],(fN 0 rfl rfl fG rfl rfl iD),zA,eQ.mk ?_⟩;exact ⟨_,_,_,_,rfl,h1,k1⟩
theorem zero_fn (H : Hp) : iP Tryz.prog 124 #[] H [] (eQ (fun v H2 _=>lJ (0) H2 v)):=by
 refine iP.introC (args:=[]) Tryz.func124 rfl rfl Tryz.ntmps124 rfl rfl rfl fun G rest=>?_;refine zS ?_;refine fI jD rfl (fun b0=>?_);refine zN ?_;refine zS ?_;refine eZ rfl (aDk 0 1 zD zD zD _) rfl ?_;rintro _ HN1 hleN1 ⟨_,rfl,⟨a1,c1,b1,d1,rfl,h1,k1⟩⟩;rw [show Rat.divInt 0 1 = (0 : Rat) from aIg 0] at h1 k1 ⊢;refine zM rfl ?_;refine zX rfl ?_;refine zX rfl ?_;refine fI jD rfl (fun b1=>?_);refine eG 0 rfl rfl rfl rfl fG rfl rfl rfl rfl rfl ?_;refine zG rfl ?_;refine zN ?_;refine zS ?_;refine bT 0 rfl rfl fG rfl rfl rfl ?_;refine eG 1 rfl rfl rfl rfl fG rfl rfl rfl rfl rfl ?_;refine zN ?_;refine eP ?_;refine ⟨rfl,_,[],(fN 1 rfl rfl fG rfl rfl iD),zA,eQ.mk ?_⟩;exact ⟨_,_,_,_,rfl,h1,k1⟩
theorem aQ7 (q : Rat) (a b : Option Addr) (c d : Nat) (H : Hp) (hs : SlR (gV .i64) H a c (dg q.num.natAbs)) (ht : SlR (gV .i64) H b d (dg q.den)) : iP Tryz.prog 123 #[.agg ⟨[.bool (decide (q.num < 0)),.slice a (dg q.num.natAbs).length c,.bool false,.slice b (dg q.den).length d]⟩] H [] (eQ (fun v _ _=>v = .bool (decide (q = 0)))):=by
 refine iP.intro (args:=[.agg ⟨[.bool (decide (q.num < 0)),.slice a (dg q.num.natAbs).length c,.bool false,.slice b (dg q.den).length d]⟩]) Tryz.func123 rfl rfl Tryz.ntmps123 rfl rfl rfl fun G rest=>?_;refine zS ?_;refine iW rfl rfl rfl (fun b1=>?_);refine zG rfl ?_;refine zN ?_;refine zS ?_;refine bJ rfl nM rfl ?_;refine bJ rfl kY rfl ?_;refine bT 0 rfl rfl gE rfl rfl rfl ?_;refine eD (ts:=#[]) rfl bK rfl ?_;refine zZ rfl ?_;refine zG rfl ?_;refine zN ?_;refine eP ?_;refine ⟨rfl,_,[],rfl,zA,eQ.mk ?_⟩;exact congrArg Value.bool (decide_eq_decide.2 (by rw [← Rat.num_eq_zero (q:=q)];have:=pG (n:=q.num.natAbs);omega))
theorem aQb (z m : Int) (a : Option Addr) (c : Nat) (H : Hp) (hs : SlR (gV .i64) H a c (dg z.natAbs)) (hz : (dg z.natAbs).length ≤ 1000) (hm : 0 ≤ m ∧ m ≤ 9223372036854775807) : iP Tryz.prog 133 #[.agg ⟨[.bool (decide (z < 0)),.slice a (dg z.natAbs).length c]⟩,.int .i64 m] H [] (eQ (fun v _ _=>v = .bool (decide ((z.natAbs : Int) < m)))):=by
 refine iP.intro (args:=[.agg ⟨[.bool (decide (z < 0)),.slice a (dg z.natAbs).length c]⟩,.int .i64 m]) Tryz.func133 rfl rfl Tryz.ntmps133 rfl rfl rfl fun G rest=>?_;refine zS ?_;refine iW rfl rfl rfl (fun b2=>?_);refine zG rfl ?_;refine zN ?_;refine zS ?_;refine bJ rfl mG rfl ?_;refine eG 0 rfl rfl rfl rfl oA rfl rfl rfl rfl rfl ?_;refine zN ?_;refine cO ?_;refine eU [1,2] rfl ?_;apply nX (fun _=>True) trivial 8 [gC _,gC _,fun v H=>vJ m H v,gC _,gC _,gC _,gC _,gC _] follows zK zK ⟨aH _,aH _,aAu _,aH _,aH _,aH _,aH _,aH _,trivial⟩ ?steps1 ?tail1
 case steps1 =>
  refine dH rfl ?_ ?_
  ·intro X HD bI _;exact aF rfl (bT 0 rfl rfl iE rfl rfl rfl (bF (eO trivial rfl)))
  refine dH rfl ?_ ?_
  ·intro X HD bI _;exact aF rfl (zM rfl (bF (eO trivial rfl)))
  refine dH rfl ?_ ?_
  ·intro X HD bI _;refine gL rfl (aF rfl (eZ rfl (aKt m zO _) rfl ?_));rintro _ HA hleA ⟨aM,cM,rfl,hM⟩;exact bF (eO trivial (⟨_,_,rfl,hM⟩))
  refine dH rfl ?_ ?_
  ·intro X HD bI _;replace hs:=hs.mono bI;refine gL rfl (eJ rfl rfl ?_);rintro _ ⟨aM,cM,rfl,hM⟩;exact aF rfl (fH rfl (aK5 (ncmp_at (z.natAbs : Int) m _ _ _ _ _ _ _ hs hM (by rw [fW]) (aI zO).symm hz (eK (sH zO) zD))) rfl (bF (eO trivial rfl)))
  refine dH rfl ?_ ?_
  ·intro X HD bI _;exact gL rfl (aF rfl (zM rfl (bF (eO trivial rfl))))
  refine dH rfl ?_ ?_
  ·intro X HD bI _;exact gL rfl (aF rfl (zX rfl (bF (eO trivial rfl))))
  refine dH rfl ?_ ?_
  ·intro X HD bI _;exact gL rfl (aF rfl (zX rfl (bF (eO trivial rfl))))
  refine dH rfl ?_ ?_
  ·intro X HD bI _;exact gL rfl (aF rfl (zG rfl (bF (eO trivial rfl))))
  exact jH rfl
 case tail1 =>
  intro HD bI _;refine gL rfl (gL rfl (eJ rfl rfl ?_));rintro _ ⟨aM,cM,rfl,hM⟩;refine gL rfl (gL rfl (gL rfl (gL rfl (gL rfl (aF rfl (zG rfl (zN (zS (zM rfl (zL rfl (zG rfl (zN (eP ?_)))))))))))));refine ⟨rfl,_,[],rfl,zA,eQ.mk ?_⟩;exact congrArg Value.bool (decide_eq_decide.2 (by unfold vT;split <;> (try split) <;> omega))
theorem below_at (z m : Int) (a : Option Addr) (c : Nat) (l : List Int) (s : Bool) (H : Hp) (hs : SlR (gV .i64) H a c l) (hl : l = dg z.natAbs) (hb : s = decide (z < 0)) (hz : (dg z.natAbs).length ≤ 1000) (hm : 0 ≤ m ∧ m ≤ 9223372036854775807) : iP Tryz.prog 133 #[.agg ⟨[.bool s,.slice a l.length c]⟩,.int .i64 m] H [] (eQ (fun v _ _=>v = .bool (decide ((z.natAbs : Int) < m)))):=by
 subst hl;subst hb;exact aQb z m a c H hs hz hm
theorem aIl (a : Option Addr) (c : Nat) (l : List Rat) (H : Hp) (hs : SlR jX H a c l) (hl : l.length < 9223372036854775808) (hok : ∀ q ∈ l,mZ q 1000 ∧ q.num.natAbs < 1152921504606846976 ∧ q.den < 1073741824) : iP Tryz.prog 119 #[.slice a l.length c] H [] (eQ (fun v _ _=>v = .int .i64 0)):=by
 refine iP.intro (args:=[.slice a l.length c]) Tryz.func119 rfl rfl Tryz.ntmps119 rfl rfl rfl fun G rest=>?_;refine zS ?_;refine zG rfl ?_;refine zN ?_;refine cO ?_;refine zS ?_;refine zM rfl ?_;refine eD (ts:=#[]) rfl cJ rfl ?_;refine zM rfl ?_;refine zN ?_;refine dK ?_;refine eU [7,5,6] rfl ?_;refine gO (base:=[(5,_),(6,_)]) (fun ζ : Nat=>[(7,.int .i64 (ζ : Nat))]) (fun ζ Hl own=>ζ ≤ l.length ∧ rest = own) (fun ζ=>l.length - ζ) 0 (zC) zB ⟨eS _,rfl⟩ ?_;rintro k Hl0 _ gB ⟨hkk,rfl⟩;replace hs:=hs.mono gB;try dsimp only at ⊢
 refine zS (zL rfl (zN (cO (fC rfl (fun nY=>?_) (fun nY=>?_)))))
 ·refine eF (bO (cO (dK (zS (eV rfl hs rfl cJ fG zO rfl ?_)))));rintro eb9 eo9 _ x9 hx9 ⟨ax9,cx9,bx9,dx9,rfl,hd9,he9⟩ hp9;refine eH rfl (by assumption) fG rfl rfl rfl (fI jD rfl (fun b4=>eG 0 rfl rfl rfl rfl fG rfl rfl rfl rfl rfl (zN (dK (zS (bT 0 rfl rfl fG rfl rfl rfl ?_))))));obtain ⟨hq1,hq2,hq3⟩:=hok x9 (cF hx9);refine fH rfl (aP5 ⟨_,_,_,_,rfl,hd9,he9⟩ hq1 zO) rfl (zJ rfl (zG rfl (zN (gD rfl (aI zD) (zS (bJ rfl nM rfl (bT 0 rfl rfl iE rfl rfl rfl (fH rfl (aQb x9.num _ _ _ _ hd9 hq1.1 zD) rfl (aFf rfl rfl (zM rfl (zT rfl (aI (fun h=>h zO)) (bJ rfl oU rfl (zT rfl (aI (fun h=>h zO)) (bT 0 rfl rfl iE rfl rfl rfl (zT rfl (aI (fun h=>h zO)) (fH rfl (below_at (x9.den : Int) _ _ _ _ _ _ he9 (by rw [fW]) (aI zO).symm (by rw [fW];exact hq1.2) zD) rfl (zT rfl (aI (fun h=>h zO)) (aFf rfl rfl (zW (aI (fun h=>h zO)) rfl (zG rfl (zN (gD rfl (aI (fun h=>h (by rw [fW];omega))) (eF (fY (fY (bO (dL (fR rfl rfl (dT zO zO) rfl (zM rfl (bF ?_))))))))))))))))))))))))))))));refine eW (k + 1) (by show l.length - (k + 1) < l.length - k;omega) (zC) (⟨by show k + 1 ≤ l.length;omega,rfl⟩) zB (gB)
 refine gI (fE (eY (fU rfl (bO (zS (zG rfl (zN (eP ?_))))))));refine ⟨rfl,_,[],rfl,zA,eQ.mk ?_⟩;rfl
end Go.Proofs

namespace Go.Proofs
open Go.XL
abbrev smQ (q : Rat) : Prop:=mZ q 1000 ∧ q.num.natAbs < 1152921504606846976 ∧ q.den < 1073741824
abbrev mxR : Rep (List Rat):=slR jX
def aOo (l : List (List Rat)) (w : Nat) : Prop:=l.length ≤ 17 ∧ w ≤ 17 ∧ ∀ r ∈ l,r.length = w ∧ ∀ q ∈ r,smQ q
theorem aOo.at {l : List (List Rat)} {w i : Nat} {r : List Rat} (h : aOo l w) (hr : l[i]? = some r) : r.length = w ∧ ∀ q ∈ r,smQ q:=h.2.2 r (cF hr)
end Go.Proofs

namespace Go.Proofs
open Go.XL
theorem pT : qF Tryz.prog 26 0 = some 0:=zK
theorem nU : qF Tryz.prog 26 1 = some 1:=zK
theorem iG : tP Tryz.prog 24 1 false = true:=zK
theorem aQw (Q S : List Rat) (a b : Option Addr) (c d : Nat) (i k : Nat) (mark : Int) (q s : Rat) (H : Hp) (hs : SlR jX H a c Q) (ht : SlR jX H b d S) (hq : Q[i]? = some q) (hsv : S[k]? = some s) (hm : -1 ≤ mark ∧ mark ≤ 1000) (hQl : Q.length ≤ 1000) (hSl : S.length ≤ 1000) (z1 : mZ q 499) (z2 : mZ ((mark : Int) - q : Rat) 499) (z3 : mZ s 499) : iP Tryz.prog 44 #[.agg ⟨[.slice a Q.length c,.slice b S.length d]⟩,.agg ⟨[.int .i64 (i : Nat),.int .i64 (k : Nat)]⟩,.int .i64 mark] H [] (eQ (fun v H2 _=>lJ (((mark : Int) : Rat) - q - s) H2 v)):=by
 refine iP.introC (args:=[.agg ⟨[.slice a Q.length c,.slice b S.length d]⟩,.agg ⟨[.int .i64 (i : Nat),.int .i64 (k : Nat)]⟩,.int .i64 mark]) Tryz.func44 rfl rfl Tryz.ntmps44 rfl rfl rfl fun G rest=>?_;have hil : i < Q.length:=(bY.1 hq).1;have hkl : k < S.length:=(bY.1 hsv).1;refine zS ?_;refine iW rfl rfl rfl (fun b3=>?_);refine iW rfl rfl rfl (fun b4=>?_);refine fI jD rfl (fun b6=>?_);refine zN ?_;refine cO ?_;refine eU [2,3,4,6] rfl ?_;obtain ⟨bEA,oEA,rfl⟩:=hs.addr zO;obtain ⟨_,xA,hxA,⟨axA,cxA,bxA,dxA,rfl,hdA,heA⟩,hpA⟩:=hs.elem (i) zO;obtain ⟨bEB,oEB,rfl⟩:=ht.addr zO;obtain ⟨_,xB,hxB,⟨axB,cxB,bxB,dxB,rfl,hdB,heB⟩,hpB⟩:=ht.elem (k) zO;obtain rfl : xA = q:=eE (hxA.symm.trans hq);obtain rfl : xB = s:=eE (hxB.symm.trans hsv);apply nX (fun _=>True) trivial 21 [gC _,fun v H=>lJ (((mark : Int) : Rat)) H v,gC _,gC _,gC _,gC _,gC _,gC _,fun v H=>∃ u,v = .tuple #[u,.int .i64 0] ∧ lJ (((mark : Int) : Rat) - xA) H u,fun v H=>lJ (((mark : Int) : Rat) - xA) H v,gC _,fun v H=>lJ (((mark : Int) : Rat) - xA) H v,gC _,gC _,gC _,gC _,gC _,gC _,fun v H=>∃ u,v = .tuple #[u,.int .i64 0] ∧ lJ (((mark : Int) : Rat) - xA - xB) H u,fun v H=>lJ (((mark : Int) : Rat) - xA - xB) H v,gC _] follows zK zK ⟨aH _,kG _,aH _,aH _,aH _,aH _,aH _,aH _,fun _ _ _ hle ⟨u,h,k⟩=>⟨u,h,k.mono hle⟩,kG _,aH _,kG _,aH _,aH _,aH _,aH _,aH _,aH _,fun _ _ _ hle ⟨u,h,k⟩=>⟨u,h,k.mono hle⟩,kG _,aH _,trivial⟩ ?steps1 ?tail1
 case steps1 =>
  refine dH rfl ?_ ?_
  ·intro X HD bI _;exact aF rfl (zM rfl (bF (eO trivial rfl)))
  refine dH rfl ?_ ?_
  ·intro X HD bI _;refine gL rfl (aF rfl ?_);have hcall:=wF mark 1 zO zD zD HD;rw [aIg] at hcall;refine eZ rfl hcall rfl ?_;rintro _ HN kI ⟨aM,cM,bM,dM,rfl,hM,kM⟩;exact bF (eO trivial (⟨_,_,_,_,rfl,hM,kM⟩))
  refine dH rfl ?_ ?_
  ·intro X HD bI _;exact aF rfl (bJ rfl pT rfl (bF (eO trivial rfl)))
  refine dH rfl ?_ ?_
  ·intro X HD bI _;exact gL rfl (aF rfl (bT 2 rfl rfl iG rfl rfl rfl (bF (eO trivial rfl))))
  refine dH rfl ?_ ?_
  ·intro X HD bI _;exact aF rfl (lO rfl rfl lE gK zF zF rfl (bF (eO trivial rfl)))
  refine dH rfl ?_ ?_
  ·intro X HD bI _;exact gL rfl (aF rfl (bT 1 rfl rfl gK rfl rfl rfl (bF (eO trivial rfl))))
  refine dH rfl ?_ ?_
  ·intro X HD bI _;exact gL rfl (gL rfl (aF rfl (fK rfl rfl cJ fG zO zO rfl (bF (eO trivial rfl)))))
  refine dH rfl ?_ ?_
  ·intro X HD bI _;replace hs:=hs.mono bI;replace ht:=ht.mono bI;replace hpA:=hpA.mono bI;replace hdA:=hdA.mono bI;replace heA:=heA.mono bI;replace hpB:=hpB.mono bI;replace hdB:=hdB.mono bI;replace heB:=heB.mono bI;exact gL rfl (aF rfl (eH rfl (by assumption) fG rfl rfl rfl (bF (eO trivial rfl))))
  refine dH rfl ?_ ?_
  ·intro X HD bI _;replace hdA:=hdA.mono bI;replace heA:=heA.mono bI;refine eJ rfl rfl ?_;rintro _ ⟨aM,cM,bM,dM,rfl,hM,kM⟩;refine gL rfl (aF rfl (eZ rfl (aJy ⟨_,_,_,_,rfl,hM,kM⟩ ⟨_,_,_,_,rfl,hdA,heA⟩ (aB4 (eK (sH zO) zD) zD) z1) rfl ?_));rintro _ HN kI ⟨_,rfl,⟨aR,cR,bR,dR,rfl,hR,kR⟩⟩;exact bF (eO trivial (⟨_,rfl,⟨_,_,_,_,rfl,hR,kR⟩⟩))
  refine dH rfl ?_ ?_
  ·intro X HD bI _;refine eJ rfl rfl ?_;rintro _ ⟨_,rfl,aR,cR,bR,dR,rfl,hR,kR⟩;exact aF rfl (zX rfl (bF (eO trivial (⟨_,_,_,_,rfl,hR,kR⟩))))
  refine dH rfl ?_ ?_
  ·intro X HD bI _;refine eJ rfl rfl ?_;rintro _ ⟨_,rfl,aR,cR,bR,dR,rfl,hR,kR⟩;exact aF rfl (zX rfl (bF (eO trivial rfl)))
  refine dH rfl ?_ ?_
  ·intro X HD bI _;refine eJ rfl rfl ?_;rintro _ ⟨aR,cR,bR,dR,rfl,hR,kR⟩;exact gL rfl (aF rfl (fH rfl (aFe ⟨_,_,_,_,rfl,hR,kR⟩) rfl (bF (eO trivial (⟨_,_,_,_,rfl,hR,kR⟩)))))
  refine dH rfl ?_ ?_
  ·intro X HD bI _;exact aF rfl (bJ rfl nU rfl (bF (eO trivial rfl)))
  refine dH rfl ?_ ?_
  ·intro X HD bI _;exact gL rfl (aF rfl (bT 2 rfl rfl iG rfl rfl rfl (bF (eO trivial rfl))))
  refine dH rfl ?_ ?_
  ·intro X HD bI _;exact aF rfl (lO rfl rfl lE gK zF zF rfl (bF (eO trivial rfl)))
  refine dH rfl ?_ ?_
  ·intro X HD bI _;exact gL rfl (aF rfl (bT 1 rfl rfl gK rfl rfl rfl (bF (eO trivial rfl))))
  refine dH rfl ?_ ?_
  ·intro X HD bI _;exact gL rfl (gL rfl (aF rfl (fK rfl rfl cJ fG zO zO rfl (bF (eO trivial rfl)))))
  refine dH rfl ?_ ?_
  ·intro X HD bI _;replace hs:=hs.mono bI;replace ht:=ht.mono bI;replace hpA:=hpA.mono bI;replace hdA:=hdA.mono bI;replace heA:=heA.mono bI;replace hpB:=hpB.mono bI;replace hdB:=hdB.mono bI;replace heB:=heB.mono bI;exact gL rfl (aF rfl (eH rfl (by assumption) fG rfl rfl rfl (bF (eO trivial rfl))))
  refine dH rfl ?_ ?_
  ·intro X HD bI _;replace hdB:=hdB.mono bI;replace heB:=heB.mono bI;refine eJ rfl rfl ?_;rintro _ ⟨aR,cR,bR,dR,rfl,hR,kR⟩;refine gL rfl (aF rfl (eZ rfl (aJy ⟨_,_,_,_,rfl,hR,kR⟩ ⟨_,_,_,_,rfl,hdB,heB⟩ z2 z3) rfl ?_));rintro _ HN kI ⟨_,rfl,⟨aZ,cZ,bZ,dZ,rfl,hZ,kZ⟩⟩;exact bF (eO trivial (⟨_,rfl,⟨_,_,_,_,rfl,hZ,kZ⟩⟩))
  refine dH rfl ?_ ?_
  ·intro X HD bI _;refine eJ rfl rfl ?_;rintro _ ⟨_,rfl,aZ,cZ,bZ,dZ,rfl,hZ,kZ⟩;exact aF rfl (zX rfl (bF (eO trivial (⟨_,_,_,_,rfl,hZ,kZ⟩))))
  refine dH rfl ?_ ?_
  ·intro X HD bI _;refine eJ rfl rfl ?_;rintro _ ⟨_,rfl,aZ,cZ,bZ,dZ,rfl,hZ,kZ⟩;exact aF rfl (zX rfl (bF (eO trivial rfl)))
  exact jH rfl
 case tail1 =>
  intro HD bI _;refine gL rfl (eJ rfl rfl ?_);rintro _ ⟨aM,cM,bM,dM,rfl,hM,kM⟩;refine gL rfl (gL rfl (gL rfl (gL rfl (gL rfl (gL rfl (eJ rfl rfl ?_))))));rintro _ ⟨_,rfl,aR,cR,bR,dR,rfl,hR,kR⟩;refine eJ rfl rfl ?_;rintro _ ⟨aR,cR,bR,dR,rfl,hR,kR⟩;refine gL rfl (eJ rfl rfl ?_);rintro _ ⟨aR,cR,bR,dR,rfl,hR,kR⟩;refine gL rfl (gL rfl (gL rfl (gL rfl (gL rfl (gL rfl (eJ rfl rfl ?_))))));rintro _ ⟨_,rfl,aZ,cZ,bZ,dZ,rfl,hZ,kZ⟩;refine eJ rfl rfl ?_;rintro _ ⟨aZ,cZ,bZ,dZ,rfl,hZ,kZ⟩;refine gL rfl (aF rfl (fH rfl (aFe ⟨_,_,_,_,rfl,hZ,kZ⟩) rfl (eG 0 rfl rfl rfl rfl fG rfl rfl rfl rfl rfl (zN (eP ?_)))));refine ⟨rfl,_,[],(fN 0 rfl rfl fG rfl rfl iD),zA,eQ.mk ?_⟩;exact ⟨_,_,_,_,rfl,hZ,kZ⟩
theorem aVx (l : List Rat) (a : Option Addr) (c : Nat) (H : Hp) (hs : SlR jX H a c l) (hl : l.length ≤ 1000) (hz : pW l 499) : iP Tryz.prog 46 #[.slice a l.length c] H [] (eQ (fun v H2 _=>lJ (mP l) H2 v)):=by
 refine iP.introC (args:=[.slice a l.length c]) Tryz.func46 rfl rfl Tryz.ntmps46 rfl rfl rfl fun G rest=>?_;refine zS ?_;refine fI jD rfl (fun b2=>?_);refine zN ?_;refine zS ?_;have hcall:=wF 0 1 zD zD zD H;rw [aIg] at hcall;refine eZ rfl hcall rfl ?_;rintro _ HNZ hleNZ ⟨aZ,cZ,bZ,dZ,rfl,hZ,kZ⟩;replace hs:=hs.mono hleNZ;refine fI jD rfl (fun b3=>?_);refine eG 0 rfl rfl rfl rfl fG rfl rfl rfl rfl rfl ?_;refine zN ?_;refine cO ?_;refine zS ?_;refine zM rfl ?_;refine eD (ts:=#[]) rfl cJ rfl ?_;refine zM rfl ?_;refine zN ?_;refine dK ?_;refine eU [9,2,3,7,8] rfl ?_;refine gO (base:=[(2,_),(3,_),(7,_),(8,_)]) (fun ζ : Nat × (List Value)=>[(9,.int .i64 (ζ.1 : Nat))]) (fun ζ Hl own=>ζ.1 ≤ l.length ∧ (b3,.cells 56 ζ.2) :: (b2,.cells 56 [.bool false,.slice none 0 0,.bool false,.slice none 0 0]) :: rest = own ∧ (jX.R Hl ζ.2 (mP (l.take ζ.1)))) (fun ζ=>l.length - ζ.1) (0,_) (zC) zB ⟨eS _,rfl,⟨_,_,_,_,rfl,hZ,kZ⟩⟩ ?_;rintro ⟨k,cs⟩ Hl0 _ gB ⟨hkk,rfl,hcs⟩;replace hs:=hs.mono gB;replace hZ:=hZ.mono gB;replace kZ:=kZ.mono gB;try dsimp only at hkk hcs ⊢
 obtain ⟨aC,cC,bC,dC,rfl,hC,kC⟩:=hcs;refine zS (zL rfl (zN (cO (fC rfl (fun qK=>?_) (fun qK=>?_)))))
 ·refine eF (bO (cO (dK (zS (eV rfl hs rfl cJ fG zO rfl ?_)))));rintro eb11 eo11 _ x11 aEv ⟨ax11,cx11,bx11,dx11,rfl,hd11,he11⟩ hp11;refine eH rfl (by assumption) fG rfl rfl rfl (fI jD rfl (fun b5=>eG 0 rfl rfl rfl rfl fG rfl rfl rfl rfl rfl (zN (dL (bT 1 rfl rfl fG rfl rfl rfl (bT 0 rfl rfl fG rfl rfl rfl (eZ rfl (aN5 ⟨_,_,_,_,rfl,hC,kC⟩ ⟨_,_,_,_,rfl,hd11,he11⟩ (hz.1 k) (hz.2 _ (cF aEv))) rfl ?_)))))));rintro _ HNN hleNN ⟨_,rfl,⟨aN,cN,bN,dN,rfl,hN,kN⟩⟩;replace gB:=gB.trans hleNN;refine zX rfl (zX rfl (fH rfl (aFe ⟨_,_,_,_,rfl,hN,kN⟩) rfl (eG 1 rfl rfl rfl rfl fG rfl rfl rfl rfl rfl (bF (fY (bO (dL (fR rfl rfl (dT zO zO) rfl (zM rfl (bF (eW ((k + 1,_)) (by show l.length - (k + 1) < l.length - k;omega) (zC) (⟨by show k + 1 ≤ l.length;omega,rfl,by rw [jK aEv,aMe];exact ⟨_,_,_,_,rfl,hN,kN⟩⟩) zB (gB))))))))))))
 obtain rfl : k = l.length:=zO
 rw [gF] at hC kC ⊢;refine gI (fE (eY (fU rfl (bO (zS (bT 0 rfl rfl fG rfl rfl rfl (eG 1 rfl rfl rfl rfl fG rfl rfl rfl rfl rfl (zN (eP ?_)))))))));refine ⟨rfl,_,[],(fN 1 rfl rfl fG rfl rfl iD),zA,eQ.mk ?_⟩;exact ⟨_,_,_,_,rfl,hC,kC⟩
theorem aGu (x : Int) (H : Hp) : iP Tryz.prog 43 #[.int .i64 x] H [] (eQ (fun v _ _=>v = .bool (decide (x ≠ -1)))):=by
 refine iP.intro (args:=[.int .i64 x]) Tryz.func43 rfl rfl Tryz.ntmps43 rfl rfl rfl fun G rest=>?_;refine zS ?_;refine zG rfl ?_;refine zN ?_;refine zS ?_;refine zM rfl ?_;refine zJ rfl ?_;refine zG rfl ?_;refine zN ?_;refine eP ?_;refine ⟨rfl,_,[],rfl,zA,eQ.mk ?_⟩;rfl
theorem long16_fn (a : Option Addr) (n c : Nat) (H : Hp) : iP Tryz.prog 79 #[.slice a n c] H [] (eQ (fun v _ _=>v = .bool (decide ((16 : Int) < (n : Nat))))):=by
 refine iP.intro (args:=[.slice a n c]) Tryz.func79 rfl rfl Tryz.ntmps79 rfl rfl rfl fun G rest=>?_;refine zS ?_;refine zG rfl ?_;refine zN ?_;refine zS ?_;refine zM rfl ?_;refine eD (ts:=#[]) rfl bK rfl ?_;refine zY rfl ?_;refine zG rfl ?_;refine zN ?_;refine eP ?_;refine ⟨rfl,_,[],rfl,zA,eQ.mk ?_⟩;rfl
theorem mcheck_fn (l : List (List Rat)) (w : Nat) (a : Option Addr) (c : Nat) (H : Hp) (hs : SlR mxR H a c l) (hok : aOo l w) : iP Tryz.prog 118 #[.slice a l.length c] H [] (eQ (fun v _ _=>v = .int .i64 0)):=by
 refine iP.intro (args:=[.slice a l.length c]) Tryz.func118 rfl rfl Tryz.ntmps118 rfl rfl rfl fun G rest=>?_;have hl:=hok.1;have hw:=hok.2.1;refine zS ?_;refine zG rfl ?_;refine zN ?_;refine cO ?_;refine zS ?_;refine zM rfl ?_;refine eD (ts:=#[]) rfl eI rfl ?_;refine zY rfl ?_;refine zN ?_;refine gD rfl (aI zO) ?_;refine eF ?_;refine bO ?_;refine cO ?_;refine zS ?_;refine zM rfl ?_;refine eD (ts:=#[]) rfl eI rfl ?_;refine zM rfl ?_;refine zN ?_;refine dK ?_;refine eU [14,0,12,13] rfl ?_;refine gO (base:=[(0,_),(12,_),(13,_)]) (fun ζ : Nat=>[(14,.int .i64 (ζ : Nat))]) (fun ζ Hl own=>ζ ≤ l.length ∧ rest = own) (fun ζ=>l.length - ζ) 0 (zC) zB ⟨eS _,rfl⟩ ?_;rintro k Hl0 _ gB ⟨hkk,rfl⟩;replace hs:=hs.mono gB;try dsimp only at ⊢
 refine zS (zL rfl (zN (cO (fC rfl (fun c1_1=>?_) (fun c1_1=>?_)))))
 ·refine eF (bO (cO (dK (zS (eV rfl hs rfl eI iG zO rfl ?_)))));rintro eb16 eo16 _ x16 hx16 ⟨ax16,cx16,rfl,hd16⟩ hp16;refine eH rfl (by assumption) iG rfl rfl rfl (zG rfl (zN (zS (zM rfl (eD (ts:=#[]) rfl cJ rfl (zY rfl (zN (gD rfl (aI (by have:=(hok.at hx16).1;omega)) (eF (fY (bO (dL (fR rfl rfl (dT zO zO) rfl (zM rfl (bF (eW (k + 1) (by show l.length - (k + 1) < l.length - k;omega) (zC) (⟨by show k + 1 ≤ l.length;omega,rfl⟩) zB (gB)))))))))))))))))
 refine gI (fE (eY (fU rfl (bO (cO (zS (zM rfl (eD (ts:=#[]) rfl eI rfl (zM rfl (zN (dK (eU [24,0,22,23] rfl (gO (base:=[(0,_),(22,_),(23,_)]) (fun ζ : Nat=>[(24,.int .i64 (ζ : Nat))]) (fun ζ Hl own=>ζ ≤ l.length ∧ rest = own) (fun ζ=>l.length - ζ) 0 (zC) zB ⟨eS _,rfl⟩ ?_)))))))))))));rintro i Hl1 _ iT ⟨hki,rfl⟩;replace hs:=hs.mono iT;try dsimp only at ⊢
 refine zS (zL rfl (zN (cO (fC rfl (fun c3_3=>?_) (fun c3_3=>?_)))))
 ·refine eF (bO (cO (dK (zS (eV rfl hs rfl eI iG zO rfl ?_)))));rintro eb26 eo26 _ x26 tW ⟨ax26,cx26,rfl,hd26⟩ hp26;refine eH rfl (by assumption) iG rfl rfl rfl (zG rfl (zN (zS (zM rfl (eD (ts:=#[]) rfl cJ rfl (zM rfl (eV (i:=0) rfl hs rfl eI iG zO rfl ?_)))))));rintro eb31 eo31 _ x31 hx31 ⟨ax31,cx31,rfl,hd31⟩ hp31;refine eH rfl (by assumption) iG rfl rfl rfl (eD (ts:=#[]) rfl cJ rfl (zJ rfl (zN (gD rfl (aI (by have:=(hok.at tW).1;have:=(hok.at hx31).1;omega)) (eF (fY (bO (dL (fR rfl rfl (dT zO zO) rfl (zM rfl (bF (eW (i + 1) (by show l.length - (i + 1) < l.length - i;omega) (zC) (⟨by show i + 1 ≤ l.length;omega,rfl⟩) zB (iT)))))))))))))
 refine gI (fE (eY (fU rfl (bO (cO (zS (zM rfl (eD (ts:=#[]) rfl eI rfl (zM rfl (zN (dK (eU [38,36,37] rfl (gO (base:=[(36,_),(37,_)]) (fun ζ : Nat=>[(38,.int .i64 (ζ : Nat))]) (fun ζ Hl own=>ζ ≤ l.length ∧ rest = own) (fun ζ=>l.length - ζ) 0 (zC) zB ⟨eS _,rfl⟩ ?_)))))))))))));rintro j Hl2 _ jJ ⟨hkj,rfl⟩;replace hs:=hs.mono jJ;try dsimp only at ⊢
 refine zS (zL rfl (zN (cO (fC rfl (fun c5_6=>?_) (fun c5_6=>?_)))))
 ·refine eF (bO (cO (dK (zS (eV rfl hs rfl eI iG zO rfl ?_)))));rintro eb40 eo40 _ x40 aHb ⟨ax40,cx40,rfl,hd40⟩ hp40;refine eH rfl (by assumption) iG rfl rfl rfl (zG rfl (zN (zS (zM rfl (fH rfl (aIl _ _ x40 _ hd40 (by have:=(hok.at aHb).1;omega) (hok.at aHb).2) rfl (zG rfl (zN (zS (zM rfl (zJ rfl (zN (gD rfl (aI (fun h=>h rfl)) (eF (fY (bO (dL (fR rfl rfl (dT zO zO) rfl (zM rfl (bF (eW (j + 1) (by show l.length - (j + 1) < l.length - j;omega) (zC) (⟨by show j + 1 ≤ l.length;omega,rfl⟩) zB (jJ)))))))))))))))))))))
 refine gI (fE (eY (fU rfl (bO (zS (zG rfl (zN (eP ?_))))))));refine ⟨rfl,_,[],rfl,zA,eQ.mk ?_⟩;rfl
theorem vector_fn (l : List (List Rat)) (w : Nat) (a : Option Addr) (c : Nat) (H : Hp) (hs : SlR mxR H a c l) (hok : aOo l w) (a2 : Option Addr) (c2 : Nat) (x : List Rat) (ht : SlR jX H a2 c2 x) (hx : x.length = l.length ∧ ∀ q ∈ x,smQ q) : iP Tryz.prog 102 #[.slice a l.length c,.slice a2 x.length c2,.int .i64 (l.length : Nat)] H [] (eQ (fun v _ _=>v = .int .i64 0)):=by
 refine iP.intro (args:=[.slice a l.length c,.slice a2 x.length c2,.int .i64 (l.length : Nat)]) Tryz.func102 rfl rfl Tryz.ntmps102 rfl rfl rfl fun G rest=>?_;have hl:=hok.1;have hw:=hok.2.1;refine zS ?_;refine zG rfl ?_;refine zN ?_;refine cO ?_;refine zS ?_;refine zM rfl ?_;refine fH rfl (mcheck_fn l w _ _ _ hs hok) rfl ?_;refine zG rfl ?_;refine zN ?_;refine zS ?_;refine zM rfl ?_;refine zJ rfl ?_;refine zN ?_;refine gD rfl (aI (fun h=>h rfl)) ?_;refine eF ?_;refine bO ?_;refine cO ?_;refine zS ?_;refine zM rfl ?_;refine eD (ts:=#[]) rfl cJ rfl ?_;refine zM rfl ?_;refine zJ rfl ?_;refine zN ?_;refine gD rfl (aI zO) ?_;refine eF ?_;refine bO ?_;refine zS ?_;refine zM rfl ?_;refine fH rfl (aIl _ _ x _ ht zO hx.2) rfl ?_;refine zG rfl ?_;refine zN ?_;refine eP ?_;refine ⟨rfl,_,[],rfl,zA,eQ.mk ?_⟩;rfl
theorem width_fn (l : List (List Rat)) (w : Nat) (a : Option Addr) (c : Nat) (H : Hp) (hs : SlR mxR H a c l) (hok : aOo l w) (h0 : 0 < l.length) : iP Tryz.prog 104 #[.slice a l.length c] H [] (eQ (fun v _ _=>v = .int .i64 (w : Nat))):=by
 refine iP.intro (args:=[.slice a l.length c]) Tryz.func104 rfl rfl Tryz.ntmps104 rfl rfl rfl fun G rest=>?_;have hl:=hok.1;have hw:=hok.2.1;refine zS ?_;refine zG rfl ?_;refine zN ?_;refine cO ?_;refine zS ?_;refine zM rfl ?_;refine eD (ts:=#[]) rfl eI rfl ?_;refine zZ rfl ?_;refine zN ?_;refine gD rfl (aI zO) ?_;refine eF ?_;refine bO ?_;refine zS ?_;refine zM rfl ?_;refine eV (i:=0) rfl hs rfl eI iG zO rfl ?_;rintro eb7 eo7 _ x7 hx7 ⟨ax7,cx7,rfl,hd7⟩ hp7;refine eH rfl (by assumption) iG rfl rfl rfl ?_;refine eD (ts:=#[]) rfl cJ rfl ?_;refine zG rfl ?_;refine zN ?_;refine eP ?_;refine ⟨rfl,_,[],rfl,zA,eQ.mk ?_⟩;exact congrArg (fun n : Nat=>Value.int .i64 (n : Nat)) (hok.at hx7).1
end Go.Proofs
