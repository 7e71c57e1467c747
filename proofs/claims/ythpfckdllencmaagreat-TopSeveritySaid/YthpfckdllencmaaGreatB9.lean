/- What the reference asks of marks. -/
import Derived.Test.YthpfckdllencmaaGreatB1
import Derived.Test.YthpfckdllencmaaGreatB8
import Derived.Test.YthpfckdllencmaaGreatB4
set_option maxRecDepth 100000
set_option autoImplicit false
set_option linter.unusedVariables false
set_option linter.unusedSimpArgs false
namespace Go.Proofs
open Go.XL
theorem aQg (a : Option Addr) (c : Nat) (m : Mk) (H : Hp) (hs : SlR mkR H a c m) (hl : m.length < 9223372036854775808 ∧ ∀ r ∈ m,r.length < 9223372036854775808) : iP Tryz.prog 24 #[.slice a m.length c] H [] (eQ (fun v _ _=>∃ e : Bool,v = .bool e ∧ (e = true → aXd m))):=by
 refine iP.intro (args:=[.slice a m.length c]) Tryz.func24 rfl rfl Tryz.ntmps24 rfl rfl rfl fun G rest=>?_;refine zS ?_;refine zG rfl ?_;refine zN ?_;refine cO ?_;refine zS ?_;refine zM rfl ?_;refine eD (ts:=#[]) rfl cH rfl ?_;refine zY rfl ?_;refine zM rfl ?_;refine iM rfl rfl rfl rfl (fun g1=>?_) (fun g1=>?_)
 ·have g1p:=eT g1;refine zM rfl (zT rfl g1 (eD (ts:=#[]) rfl cH rfl (zT rfl g1 (yA rfl (zV g1 rfl (zM rfl (iM rfl rfl rfl rfl (fun g2=>?_) (fun g2=>?_))))))))
  ·have g2p:=fM g2;refine zM rfl (zT rfl g2 (eD (ts:=#[]) rfl cH rfl (zT rfl g2 (zY rfl (zW g2 rfl (zN (fC rfl (fun c0_3=>?_) (fun c0_3=>?_))))))))
   ·refine zS ?_;refine zG rfl ?_;refine zN ?_;refine eP ?_;refine fD ?_;refine ⟨rfl,_,[],rfl,zA,eQ.mk ?_⟩;first | exact ⟨false,rfl,fun h=>by cases h⟩ | exact ⟨true,rfl,fun _=>⟨zO,hr⟩⟩
   refine eF (bO (cO (zS (zG rfl (zN (dK (eU [3,0] rfl (gO (base:=[(0,_)]) (fun ζ : Nat=>[(3,.int .i64 (ζ : Nat))]) (fun ζ Hl own=>ζ ≤ m.length ∧ rest = own ∧ (∀ r ∈ m.take (ζ),r.length ≤ 4 ∨ (16 < r.length ∧ r.length ≤ 30))) (fun ζ=>m.length - ζ) 0 (zC) zB ⟨eS _,rfl,by simp⟩ ?_))))))));rintro k Hl0 _ gB ⟨hkk,rfl,hr⟩;replace hs:=hs.mono gB;try dsimp only at ⊢
   refine cO (zS (zM rfl (zM rfl (eD (ts:=#[]) rfl cH rfl (zL rfl (zN (fC rfl (fun aCc=>?_) (fun aCc=>?_))))))))
   ·refine eF (bO (cO (dK (zS (zM rfl (zM rfl (eV rfl hs rfl cH gE zO rfl ?_)))))));rintro eb25 eo25 _ x25 yI ⟨ax25,cx25,rfl,hd25⟩ hp25;have hrl25:=hl.2 x25 (cF yI);refine eH rfl (by assumption) gE rfl rfl rfl (eD (ts:=#[]) rfl bK rfl (zY rfl (zM rfl (iM rfl rfl rfl rfl (fun g6=>?_) (fun g6=>?_)))))
    ·have g6p:=eT g6;refine zM rfl (zT rfl g6 (zM rfl (zT rfl g6 (eV rfl hs rfl cH gE zO rfl ?_))));rintro eb32 eo32 _ x32 hx32 ⟨ax32,cx32,rfl,yH⟩ aHa;obtain rfl:=eE (yI.symm.trans hx32);refine zT rfl g6 (eH rfl (by assumption) gE rfl rfl rfl (zT rfl g6 (eD (ts:=#[]) rfl bK rfl (zT rfl g6 (yA rfl (zV g6 rfl (zM rfl (iM rfl rfl rfl rfl (fun g8=>?_) (fun g8=>?_)))))))))
     ·have g8p:=fM g8;refine zM rfl (zT rfl g8 (zM rfl (zT rfl g8 (eV rfl hs rfl cH gE zO rfl ?_))));rintro eb40 eo40 _ x40 aHb ⟨ax40,cx40,rfl,hd40⟩ hp40;obtain rfl:=eE (yI.symm.trans aHb);refine zT rfl g8 (eH rfl (by assumption) gE rfl rfl rfl (zT rfl g8 (eD (ts:=#[]) rfl bK rfl (zT rfl g8 (zY rfl (zW g8 rfl (zN (fC rfl (fun c2_10=>?_) (fun c2_10=>?_)))))))))
      ·refine zS ?_;refine zG rfl ?_;refine zN ?_;refine eP ?_;refine iS ?_;refine fD ?_;refine jR ?_;refine iS ?_;refine fD ?_;refine ⟨rfl,_,[],rfl,zA,eQ.mk ?_⟩;first | exact ⟨false,rfl,fun h=>by cases h⟩ | exact ⟨true,rfl,fun _=>⟨zO,hr⟩⟩
      refine eF (fY (bO (dL (zM rfl (fR rfl rfl (dT zO zO) rfl (zG rfl (bF (eW (k + 1) (by show m.length - (k + 1) < m.length - k;omega) (zC) (⟨by show k + 1 ≤ m.length;omega,rfl,oI hr yI zO⟩) zB (gB)))))))))
     have g8p:=eT g8;refine zU rfl g8 ?_;refine zU rfl g8 ?_;refine zU rfl g8 ?_;refine zU rfl g8 ?_;refine zU rfl g8 ?_;refine zV g8 rfl ?_;refine zN ?_;refine jB rfl rfl ?_;refine zS ?_;refine zG rfl ?_;refine zN ?_;refine eP ?_;refine iS ?_;refine fD ?_;refine jR ?_;refine iS ?_;refine fD ?_;refine ⟨rfl,_,[],rfl,zA,eQ.mk ?_⟩;first | exact ⟨false,rfl,fun h=>by cases h⟩ | exact ⟨true,rfl,fun _=>⟨zO,hr⟩⟩
    have g6p:=fM g6;refine zU rfl g6 (zU rfl g6 (zU rfl g6 (zU rfl g6 (zU rfl g6 (zW g6 rfl (zM rfl (zT rfl rfl (zM rfl (zT rfl rfl (zM rfl (zT rfl rfl (eV rfl hs rfl cH gE zO rfl ?_))))))))))));rintro eb40 eo40 _ x40 aHb ⟨ax40,cx40,rfl,hd40⟩ hp40;obtain rfl:=eE (yI.symm.trans aHb);refine zT rfl rfl (eH rfl (by assumption) gE rfl rfl rfl (zT rfl rfl (eD (ts:=#[]) rfl bK rfl (zT rfl rfl (zY rfl (zW rfl rfl (zN (fC rfl (fun c2_12=>?_) (fun c2_12=>?_)))))))))
    ·refine zS ?_;refine zG rfl ?_;refine zN ?_;refine eP ?_;refine iS ?_;refine fD ?_;refine jR ?_;refine iS ?_;refine fD ?_;refine ⟨rfl,_,[],rfl,zA,eQ.mk ?_⟩;first | exact ⟨false,rfl,fun h=>by cases h⟩ | exact ⟨true,rfl,fun _=>⟨zO,hr⟩⟩
    refine eF (fY (bO (dL (zM rfl (fR rfl rfl (dT zO zO) rfl (zG rfl (bF (eW (k + 1) (by show m.length - (k + 1) < m.length - k;omega) (zC) (⟨by show k + 1 ≤ m.length;omega,rfl,oI hr yI zO⟩) zB (gB)))))))))
   obtain rfl : k = m.length:=zO
   rw [gF] at hr;refine gI ?_;refine fE ?_;refine eY ?_;refine fU rfl ?_;refine bO ?_;refine zS ?_;refine zG rfl ?_;refine zN ?_;refine eP ?_;refine ⟨rfl,_,[],rfl,zA,eQ.mk ?_⟩;first | exact ⟨false,rfl,fun h=>by cases h⟩ | exact ⟨true,rfl,fun _=>⟨zO,hr⟩⟩
  have g2p:=eT g2;refine zU rfl g2 ?_;refine zU rfl g2 ?_;refine zV g2 rfl ?_;refine zN ?_;refine jB rfl rfl ?_;refine zS ?_;refine zG rfl ?_;refine zN ?_;refine eP ?_;refine fD ?_;refine ⟨rfl,_,[],rfl,zA,eQ.mk ?_⟩;first | exact ⟨false,rfl,fun h=>by cases h⟩ | exact ⟨true,rfl,fun _=>⟨zO,hr⟩⟩
 have g1p:=fM g1;refine zU rfl g1 (zU rfl g1 (zW g1 rfl (zM rfl (zT rfl rfl (zM rfl (zT rfl rfl (eD (ts:=#[]) rfl cH rfl (zT rfl rfl (zY rfl (zW rfl rfl (zN (fC rfl (fun c0_13=>?_) (fun c0_13=>?_)))))))))))))
 ·refine zS ?_;refine zG rfl ?_;refine zN ?_;refine eP ?_;refine fD ?_;refine ⟨rfl,_,[],rfl,zA,eQ.mk ?_⟩;first | exact ⟨false,rfl,fun h=>by cases h⟩ | exact ⟨true,rfl,fun _=>⟨zO,hr⟩⟩
 refine eF (bO (cO (zS (zG rfl (zN (dK (eU [3,0] rfl (gO (base:=[(0,_)]) (fun ζ : Nat=>[(3,.int .i64 (ζ : Nat))]) (fun ζ Hl own=>ζ ≤ m.length ∧ rest = own ∧ (∀ r ∈ m.take (ζ),r.length ≤ 4 ∨ (16 < r.length ∧ r.length ≤ 30))) (fun ζ=>m.length - ζ) 0 (zC) zB ⟨eS _,rfl,by simp⟩ ?_))))))));rintro k Hl0 _ gB ⟨hkk,rfl,hr⟩;replace hs:=hs.mono gB;try dsimp only at ⊢
 refine cO (zS (zM rfl (zM rfl (eD (ts:=#[]) rfl cH rfl (zL rfl (zN (fC rfl (fun c1_14=>?_) (fun c1_14=>?_))))))))
 ·refine eF (bO (cO (dK (zS (zM rfl (zM rfl (eV rfl hs rfl cH gE zO rfl ?_)))))));rintro eb25 eo25 _ x25 yI ⟨ax25,cx25,rfl,hd25⟩ hp25;have hrl25:=hl.2 x25 (cF yI);refine eH rfl (by assumption) gE rfl rfl rfl (eD (ts:=#[]) rfl bK rfl (zY rfl (zM rfl (iM rfl rfl rfl rfl (fun g16=>?_) (fun g16=>?_)))))
  ·have g16p:=eT g16;refine zM rfl (zT rfl g16 (zM rfl (zT rfl g16 (eV rfl hs rfl cH gE zO rfl ?_))));rintro eb32 eo32 _ x32 hx32 ⟨ax32,cx32,rfl,yH⟩ aHa;obtain rfl:=eE (yI.symm.trans hx32);refine zT rfl g16 (eH rfl (by assumption) gE rfl rfl rfl (zT rfl g16 (eD (ts:=#[]) rfl bK rfl (zT rfl g16 (yA rfl (zV g16 rfl (zM rfl (iM rfl rfl rfl rfl (fun g18=>?_) (fun g18=>?_)))))))))
   ·have g18p:=fM g18;refine zM rfl (zT rfl g18 (zM rfl (zT rfl g18 (eV rfl hs rfl cH gE zO rfl ?_))));rintro eb40 eo40 _ x40 aHb ⟨ax40,cx40,rfl,hd40⟩ hp40;obtain rfl:=eE (yI.symm.trans aHb);refine zT rfl g18 (eH rfl (by assumption) gE rfl rfl rfl (zT rfl g18 (eD (ts:=#[]) rfl bK rfl (zT rfl g18 (zY rfl (zW g18 rfl (zN (fC rfl (fun c2_20=>?_) (fun c2_20=>?_)))))))))
    ·refine zS ?_;refine zG rfl ?_;refine zN ?_;refine eP ?_;refine iS ?_;refine fD ?_;refine jR ?_;refine iS ?_;refine fD ?_;refine ⟨rfl,_,[],rfl,zA,eQ.mk ?_⟩;first | exact ⟨false,rfl,fun h=>by cases h⟩ | exact ⟨true,rfl,fun _=>⟨zO,hr⟩⟩
    refine eF (fY (bO (dL (zM rfl (fR rfl rfl (dT zO zO) rfl (zG rfl (bF (eW (k + 1) (by show m.length - (k + 1) < m.length - k;omega) (zC) (⟨by show k + 1 ≤ m.length;omega,rfl,oI hr yI zO⟩) zB (gB)))))))))
   have g18p:=eT g18;refine zU rfl g18 ?_;refine zU rfl g18 ?_;refine zU rfl g18 ?_;refine zU rfl g18 ?_;refine zU rfl g18 ?_;refine zV g18 rfl ?_;refine zN ?_;refine jB rfl rfl ?_;refine zS ?_;refine zG rfl ?_;refine zN ?_;refine eP ?_;refine iS ?_;refine fD ?_;refine jR ?_;refine iS ?_;refine fD ?_;refine ⟨rfl,_,[],rfl,zA,eQ.mk ?_⟩;first | exact ⟨false,rfl,fun h=>by cases h⟩ | exact ⟨true,rfl,fun _=>⟨zO,hr⟩⟩
  have g16p:=fM g16;refine zU rfl g16 (zU rfl g16 (zU rfl g16 (zU rfl g16 (zU rfl g16 (zW g16 rfl (zM rfl (zT rfl rfl (zM rfl (zT rfl rfl (zM rfl (zT rfl rfl (eV rfl hs rfl cH gE zO rfl ?_))))))))))));rintro eb40 eo40 _ x40 aHb ⟨ax40,cx40,rfl,hd40⟩ hp40;obtain rfl:=eE (yI.symm.trans aHb);refine zT rfl rfl (eH rfl (by assumption) gE rfl rfl rfl (zT rfl rfl (eD (ts:=#[]) rfl bK rfl (zT rfl rfl (zY rfl (zW rfl rfl (zN (fC rfl (fun c2_22=>?_) (fun c2_22=>?_)))))))))
  ·refine zS ?_;refine zG rfl ?_;refine zN ?_;refine eP ?_;refine iS ?_;refine fD ?_;refine jR ?_;refine iS ?_;refine fD ?_;refine ⟨rfl,_,[],rfl,zA,eQ.mk ?_⟩;first | exact ⟨false,rfl,fun h=>by cases h⟩ | exact ⟨true,rfl,fun _=>⟨zO,hr⟩⟩
  refine eF (fY (bO (dL (zM rfl (fR rfl rfl (dT zO zO) rfl (zG rfl (bF (eW (k + 1) (by show m.length - (k + 1) < m.length - k;omega) (zC) (⟨by show k + 1 ≤ m.length;omega,rfl,oI hr yI zO⟩) zB (gB)))))))))
 obtain rfl : k = m.length:=zO
 rw [gF] at hr;refine gI ?_;refine fE ?_;refine eY ?_;refine fU rfl ?_;refine bO ?_;refine zS ?_;refine zG rfl ?_;refine zN ?_;refine eP ?_;refine ⟨rfl,_,[],rfl,zA,eQ.mk ?_⟩;first | exact ⟨false,rfl,fun h=>by cases h⟩ | exact ⟨true,rfl,fun _=>⟨zO,hr⟩⟩
set_option maxRecDepth 100000 in
set_option maxHeartbeats 1600000 in
theorem aP9 (a : Option Addr) (c : Nat) (m : Mk) (H : Hp) (hs : SlR mkR H a c m) (hl : m.length < 9223372036854775808 ∧ ∀ r ∈ m,r.length < 9223372036854775808) : iP Tryz.prog 7 #[.slice a m.length c] H [] (eQ (fun v _ _=>∃ e : Int,v = .int .i64 e ∧ (e = 0 → aXq m))):=by
 refine iP.intro (args:=[.slice a m.length c]) Tryz.func7 rfl rfl Tryz.ntmps7 rfl rfl rfl fun G rest=>?_;refine zS ?_;refine zG rfl ?_;refine zN ?_;refine cO ?_;refine zS ?_;refine zM rfl ?_;refine eD (ts:=#[]) rfl cH rfl ?_;refine zY rfl ?_;refine zN ?_;refine fC rfl (fun nY=>?_) (fun nY=>?_)
 ·refine zS ?_;refine zG rfl ?_;refine zN ?_;refine eP ?_;refine fD ?_;refine ⟨rfl,_,[],rfl,zA,eQ.mk ?_⟩;first | exact ⟨_,rfl,fun h=>absurd h zD⟩ | exact ⟨0,rfl,fun _=>⟨zO,fun r h=>⟨hr r h,hr2 r h⟩⟩⟩
 refine eF (bO (cO (zS (zG rfl (zN (dK (eU [3,0] rfl (gO (base:=[(0,_)]) (fun ζ : Nat=>[(3,.int .i64 (ζ : Nat))]) (fun ζ Hl own=>ζ ≤ m.length ∧ rest = own ∧ (∀ r ∈ m.take (ζ),r.length ≤ 16)) (fun ζ=>m.length - ζ) 0 (zC) zB ⟨eS _,rfl,by simp⟩ ?_))))))));rintro k Hl0 _ gB ⟨hkk,rfl,hr⟩;replace hs:=hs.mono gB;try dsimp only at ⊢
 refine cO (zS (zM rfl (zM rfl (eD (ts:=#[]) rfl cH rfl (zL rfl (zN (fC rfl (fun c1_2=>?_) (fun c1_2=>?_))))))))
 ·refine eF (bO (cO (dK (zS (zM rfl (zM rfl (eV rfl hs rfl cH gE zO rfl ?_)))))));rintro eb17 eo17 _ x17 hx17 ⟨ax17,cx17,rfl,hd17⟩ hp17;have hrl17:=hl.2 x17 (cF hx17);refine eH rfl (by assumption) gE rfl rfl rfl (eD (ts:=#[]) rfl bK rfl (zY rfl (zN (fC rfl (fun c2_4=>?_) (fun c2_4=>?_)))))
  ·refine zS ?_;refine zG rfl ?_;refine zN ?_;refine eP ?_;refine iS ?_;refine fD ?_;refine jR ?_;refine iS ?_;refine fD ?_;refine ⟨rfl,_,[],rfl,zA,eQ.mk ?_⟩;first | exact ⟨_,rfl,fun h=>absurd h zD⟩ | exact ⟨0,rfl,fun _=>⟨zO,fun r h=>⟨hr r h,hr2 r h⟩⟩⟩
  refine eF (fY (bO (dL (zM rfl (fR rfl rfl (dT zO zO) rfl (zG rfl (bF (eW (k + 1) (by show m.length - (k + 1) < m.length - k;omega) (zC) (⟨by show k + 1 ≤ m.length;omega,rfl,oI hr hx17 zO⟩) zB (gB)))))))))
 obtain rfl : k = m.length:=zO
 rw [gF] at hr;refine gI (fE (eY (fU rfl (bO (cO (zS (zG rfl (zN (dK (eU [4,0] rfl (gO (base:=[(0,_)]) (fun ζ : Nat=>[(4,.int .i64 (ζ : Nat))]) (fun ζ Hl own=>ζ ≤ m.length ∧ rest = own ∧ (∀ r ∈ m.take (ζ),r.length = fO m ∧ ∀ x ∈ r,-1 ≤ x ∧ x ≤ 1000)) (fun ζ=>m.length - ζ) 0 (zC) zB ⟨eS _,rfl,by simp⟩ ?_)))))))))));rintro k Hl1 _ iT ⟨hkk,rfl,hr2⟩;replace hs:=hs.mono iT;try dsimp only at ⊢
 refine cO (zS (zM rfl (zM rfl (eD (ts:=#[]) rfl cH rfl (zL rfl (zN (fC rfl (fun c3_5=>?_) (fun c3_5=>?_))))))))
 ·refine eF (bO (cO (dK (cO (cO (eU [0,4] rfl ?_))))));obtain ⟨bEA,oEA,rfl⟩:=hs.addr zO;obtain ⟨_,xA,hxA,⟨axA,cxA,rfl,hdA⟩,hpA⟩:=hs.elem (k) zO;obtain ⟨_,xB,hxB,⟨axB,cxB,rfl,hdB⟩,hpB⟩:=hs.elem (0) zO;have hrlA:=hl.2 xA (cF hxA);have hrlB:=hl.2 xB (cF hxB);have hwB:=tC hxB;apply pI 9 [gC _,gC _,gC _,gC _,gC _,gC _,gC _,gC _,gC _] follows zK zK ⟨aH _,aH _,aH _,aH _,aH _,aH _,aH _,aH _,aH _,trivial⟩ ?steps6 ?tail6
  case steps6 =>
   refine dF rfl ?_ ?_
   ·intro X;exact aF rfl (zM rfl zQ)
   refine dF rfl ?_ ?_
   ·intro X;exact aF rfl (zM rfl zQ)
   refine dF rfl ?_ ?_
   ·intro X;exact gL rfl (gL rfl (aF rfl (fK rfl rfl cH gE zO zO rfl zQ)))
   refine dF rfl ?_ ?_
   ·intro X;exact gL rfl (aF rfl (eH rfl (by assumption) gE rfl rfl rfl zQ))
   refine dF rfl ?_ ?_
   ·intro X;exact gL rfl (aF rfl (eD (ts:=#[]) rfl bK rfl zQ))
   refine dF rfl ?_ ?_
   ·intro X;exact aF rfl (zM rfl zQ)
   refine dF rfl ?_ ?_
   ·intro X;exact gL rfl (aF rfl (fK rfl rfl cH gE zO zO rfl zQ))
   refine dF rfl ?_ ?_
   ·intro X;exact gL rfl (aF rfl (eH rfl (by assumption) gE rfl rfl rfl zQ))
   refine dF rfl ?_ ?_
   ·intro X;exact gL rfl (aF rfl (eD (ts:=#[]) rfl bK rfl zQ))
   exact jH rfl
  case tail6 =>
   refine gL rfl (gL rfl (gL rfl (gL rfl (gL rfl (gL rfl (gL rfl (gL rfl (gL rfl (aF rfl (zJ rfl (zN (fC rfl (fun c4_9=>?_) (fun c4_9=>?_)))))))))))))
   ·refine zS ?_;refine zG rfl ?_;refine zN ?_;refine eP ?_;refine fD ?_;refine iS ?_;refine fD ?_;refine jR ?_;refine iS ?_;refine fD ?_;refine ⟨rfl,_,[],rfl,zA,eQ.mk ?_⟩;first | exact ⟨_,rfl,fun h=>absurd h zD⟩ | exact ⟨0,rfl,fun _=>⟨zO,fun r h=>⟨hr r h,hr2 r h⟩⟩⟩
   have hwA : xA.length = fO m:=zO
   refine eF (bO (zS (zG rfl (zN (dK (eU [5,0,4] rfl (gO (base:=[(0,_),(4,_)]) (fun ζ : Nat=>[(5,.int .i64 (ζ : Nat))]) (fun ζ Hl own=>ζ ≤ xA.length ∧ rest = own ∧ (∀ x ∈ xA.take (ζ),-1 ≤ x ∧ x ≤ 1000)) (fun ζ=>xA.length - ζ) 0 (zC) zB ⟨eS _,rfl,by simp⟩ ?_)))))));rintro j Hl2 _ jJ ⟨hkj,rfl,hr3⟩;replace hs:=hs.mono jJ;replace hpA:=hpA.mono jJ;replace hdA:=hdA.mono jJ;replace hpB:=hpB.mono jJ;replace hdB:=hdB.mono jJ;replace iT:=iT.trans jJ;try dsimp only at ⊢
   refine cO (zS (zM rfl (zM rfl (zM rfl (eV rfl hs rfl cH gE zO rfl ?_)))));rintro eb40 eo40 _ x40 aHb ⟨ax40,cx40,rfl,hd40⟩ hp40;obtain rfl:=eE (hxA.symm.trans aHb);refine eH rfl (by assumption) gE rfl rfl rfl (eD (ts:=#[]) rfl bK rfl (zL rfl (zN (fC rfl (fun c5_11=>?_) (fun c5_11=>?_)))))
   ·refine eF (bO (cO (dK (zS (zM rfl (zM rfl (eV rfl hs rfl cH gE zO rfl ?_)))))));rintro eb48 eo48 _ x48 hx48 ⟨ax48,cx48,rfl,hd48⟩ hp48;obtain rfl:=eE (hxA.symm.trans hx48);refine eH rfl (by assumption) gE rfl rfl rfl (zM rfl (eV rfl (by assumption) rfl bK gK zO rfl ?_));rintro eb51 eo51 _ x51 aAg rfl hp51;refine eH rfl (by assumption) gK rfl rfl rfl (zJ rfl (zM rfl (iM rfl rfl rfl rfl (fun g14=>?_) (fun g14=>?_))))
    ·have g14p:=eT g14;refine zM rfl (zT rfl g14 (zM rfl (zT rfl g14 (eV rfl hs rfl cH gE zO rfl ?_))));rintro eb57 eo57 _ x57 hx57 ⟨ax57,cx57,rfl,hd57⟩ hp57;obtain rfl:=eE (hxA.symm.trans hx57);refine zT rfl g14 (eH rfl (by assumption) gE rfl rfl rfl (zT rfl g14 (zM rfl (zT rfl g14 (eV rfl (by assumption) rfl bK gK zO rfl ?_)))));rintro eb60 eo60 _ x60 hx60 rfl hp60;obtain rfl:=eE (aAg.symm.trans hx60);refine zT rfl g14 (eH rfl (by assumption) gK rfl rfl rfl (zT rfl g14 (zL rfl (zT rfl g14 (zM rfl (iM rfl rfl rfl rfl (fun g17=>?_) (fun g17=>?_)))))))
     ·have g17p:=fM g17;refine zM rfl (zT rfl g17 (zM rfl (zT rfl g17 (eV rfl hs rfl cH gE zO rfl ?_))));rintro eb66 eo66 _ x66 hx66 ⟨ax66,cx66,rfl,hd66⟩ hp66;obtain rfl:=eE (hxA.symm.trans hx66);refine zT rfl g17 (eH rfl (by assumption) gE rfl rfl rfl (zT rfl g17 (zM rfl (zT rfl g17 (eV rfl (by assumption) rfl bK gK zO rfl ?_)))));rintro eb69 eo69 _ x69 hx69 rfl hp69;obtain rfl:=eE (aAg.symm.trans hx69);refine zT rfl g17 (eH rfl (by assumption) gK rfl rfl rfl (zT rfl g17 (zY rfl (zT rfl g14 (zW g17 rfl (zV g14 rfl (zN (fC rfl (fun c6_20=>?_) (fun c6_20=>?_)))))))))
      ·refine zS ?_;refine zG rfl ?_;refine zN ?_;refine eP ?_;refine iS ?_;refine fD ?_;refine jR ?_;refine iS ?_;refine iS ?_;refine fD ?_;refine jR ?_;refine iS ?_;refine fD ?_;refine ⟨rfl,_,[],rfl,zA,eQ.mk ?_⟩;first | exact ⟨_,rfl,fun h=>absurd h zD⟩ | exact ⟨0,rfl,fun _=>⟨zO,fun r h=>⟨hr r h,hr2 r h⟩⟩⟩
      refine eF (fY (bO (dL (zM rfl (fR rfl rfl (dT zO zO) rfl (zG rfl (bF (eW (j + 1) (by show xA.length - (j + 1) < xA.length - j;omega) (zC) (⟨by show j + 1 ≤ xA.length;omega,rfl,oI hr3 aAg zO⟩) zB (jJ)))))))))
     have g17p:=eT g17;refine zU rfl g17 ?_;refine zU rfl g17 ?_;refine zU rfl g17 ?_;refine zU rfl g17 ?_;refine zU rfl g17 ?_;refine zU rfl g17 ?_;refine zU rfl g17 ?_;refine zT rfl g14 ?_;refine zV g17 rfl ?_;refine zV g14 rfl ?_;refine zN ?_;refine jB rfl rfl ?_;refine zS ?_;refine zG rfl ?_;refine zN ?_;refine eP ?_;refine iS ?_;refine fD ?_;refine jR ?_;refine iS ?_;refine iS ?_;refine fD ?_;refine jR ?_;refine iS ?_;refine fD ?_;refine ⟨rfl,_,[],rfl,zA,eQ.mk ?_⟩;first | exact ⟨_,rfl,fun h=>absurd h zD⟩ | exact ⟨0,rfl,fun _=>⟨zO,fun r h=>⟨hr r h,hr2 r h⟩⟩⟩
    have g14p:=fM g14;refine zU rfl g14 (zU rfl g14 (zU rfl g14 (zU rfl g14 (zU rfl g14 (zU rfl g14 (zU rfl g14 (zU rfl g14 (jY rfl rfl rfl rfl (jY rfl rfl rfl rfl (jY rfl rfl rfl rfl (jY rfl rfl rfl rfl (jY rfl rfl rfl rfl (jY rfl rfl rfl rfl (jY rfl rfl rfl rfl (jY rfl rfl rfl rfl (zU rfl g14 (zW g14 rfl (zN (gD rfl rfl (eF (fY (bO (dL (zM rfl (fR rfl rfl (dT zO zO) rfl (zG rfl (bF (eW (j + 1) (by show xA.length - (j + 1) < xA.length - j;omega) (zC) (⟨by show j + 1 ≤ xA.length;omega,rfl,oI hr3 aAg zO⟩) zB (jJ)))))))))))))))))))))))))))))
   obtain rfl : j = xA.length:=zO
   rw [gF] at hr3;refine gI (fE (eY (fU rfl (fY (bO (dL (zM rfl (fR rfl rfl (dT zO zO) rfl (zG rfl (bF (eW (k + 1) (by show m.length - (k + 1) < m.length - k;omega) (zC) (⟨by show k + 1 ≤ m.length;omega,rfl,oI hr2 hxA ⟨hwA,hr3⟩⟩) zB (iT))))))))))))
 obtain rfl : k = m.length:=zO
 rw [gF] at hr2;refine gI ?_;refine fE ?_;refine eY ?_;refine fU rfl ?_;refine bO ?_;refine zS ?_;refine zG rfl ?_;refine zN ?_;refine eP ?_;refine ⟨rfl,_,[],rfl,zA,eQ.mk ?_⟩;first | exact ⟨_,rfl,fun h=>absurd h zD⟩ | exact ⟨0,rfl,fun _=>⟨zO,fun r h=>⟨hr r h,hr2 r h⟩⟩⟩
end Go.Proofs

namespace Go.Proofs
open Go.XL
theorem aQx (a : Option Addr) (c : Nat) (m : Mk) (b : Option Addr) (d : Nat) (ms : Tb) (H : Hp) (hs : SlR mkR H a c m) (ht : SlR tbR H b d ms) (hl : m.length < 9223372036854775808 ∧ ∀ r ∈ m,r.length < 9223372036854775808) (hl2 : ms.length < 9223372036854775808 ∧ ∀ r ∈ ms,r.length < 9223372036854775808) : iP Tryz.prog 5 #[.slice a m.length c,.slice b ms.length d] H [] (eQ (fun v _ _=>∃ e : Bool,v = .bool e ∧ (e = true → aXd m ∧ ms.length ≤ 80 ∧ ∀ r ∈ ms,r.length ≤ 30))):=by
 refine iP.intro (args:=[.slice a m.length c,.slice b ms.length d]) Tryz.func5 rfl rfl Tryz.ntmps5 rfl rfl rfl fun G rest=>?_;refine zS ?_;refine zG rfl ?_;refine zN ?_;refine cO ?_;refine zS ?_;refine zG rfl ?_;refine zN ?_;refine dK ?_;refine eU [5,0,1] rfl ?_;refine gO (base:=[(0,_),(1,_)]) (fun ζ : Nat=>[(5,.int .i64 (ζ : Nat))]) (fun ζ Hl own=>ζ ≤ ms.length ∧ rest = own ∧ (∀ r ∈ ms.take (ζ),r.length ≤ 30)) (fun ζ=>ms.length - ζ) 0 (zC) zB ⟨eS _,rfl,by simp⟩ ?_;rintro k Hl0 _ gB ⟨hkk,rfl,hr⟩;replace hs:=hs.mono gB;replace ht:=ht.mono gB;try dsimp only at ⊢
 refine cO (zS (zM rfl (zM rfl (eD (ts:=#[]) rfl gP rfl (zL rfl (zM rfl (iM rfl rfl rfl rfl (fun g1=>?_) (fun g1=>?_))))))))
 ·have g1p:=eT g1;refine zM rfl (zT rfl g1 (zL rfl (zV g1 rfl (zN (fC rfl (fun qK=>?_) (fun qK=>?_))))))
  ·refine eF (bO (cO (dK (zS (zM rfl (zM rfl (eV rfl ht rfl gP qL zO rfl ?_)))))));rintro eb18 eo18 _ x18 hx18 ⟨ax18,cx18,rfl,hd18⟩ hp18;have hrl18:=hl2.2 x18 (cF hx18);refine eH rfl (by assumption) qL rfl rfl rfl (eD (ts:=#[]) rfl iZ rfl (zY rfl (zN (fC rfl (fun aCc=>?_) (fun aCc=>?_)))))
   ·refine zS (zG rfl (zN (eP (iS (fD (jR (iS (fD ?_))))))));refine ⟨rfl,_,[],rfl,zA,eQ.mk ?_⟩
    first | exact ⟨false,rfl,fun h=>by cases h⟩ | exact ⟨_,rfl,fun he=>by
     have h80:=eT he
     exact ⟨hfw (by assumption),zO,fun r h=>hr r (by rw [fJ zO];exact h)⟩⟩
   refine eF (fY (bO (dL (zM rfl (fR rfl rfl (dT zO zO) rfl (zG rfl (bF (eW (k + 1) (by show ms.length - (k + 1) < ms.length - k;omega) (zC) (⟨by show k + 1 ≤ ms.length;omega,rfl,oI hr hx18 zO⟩) zB (gB)))))))))
  refine gI (fE (eY (fU rfl (bO (zS (zM rfl (kO rfl (aQg _ _ m _ hs hl) rfl ?_)))))));rintro _ ⟨e23,rfl,hfw⟩;refine zM rfl (iM rfl rfl rfl rfl (fun g6=>?_) (fun g6=>?_))
  ·have g6p:=g6;refine zM rfl (zT rfl g6 (eD (ts:=#[]) rfl gP rfl (zT rfl g6 (yA rfl (zV g6 rfl (zG rfl (zN (eP ?_))))))));refine ⟨rfl,_,[],rfl,zA,eQ.mk ?_⟩
   first | exact ⟨false,rfl,fun h=>by cases h⟩ | exact ⟨_,rfl,fun he=>by
    have h80:=eT he
    exact ⟨hfw (by assumption),zO,fun r h=>hr r (by rw [fJ zO];exact h)⟩⟩
  have g6p:=g6;refine zU rfl g6 (zU rfl g6 (zW g6 rfl (zG rfl (zN (eP ?_)))));refine ⟨rfl,_,[],rfl,zA,eQ.mk ?_⟩
  first | exact ⟨false,rfl,fun h=>by cases h⟩ | exact ⟨_,rfl,fun he=>by
   have h80:=eT he
   exact ⟨hfw (by assumption),zO,fun r h=>hr r (by rw [fJ zO];exact h)⟩⟩
 have g1p:=fM g1;refine zU rfl g1 (zW g1 rfl (zN (gD rfl rfl (gI (fE (eY (fU rfl (bO (zS (zM rfl (kO rfl (aQg _ _ m _ hs hl) rfl ?_)))))))))));rintro _ ⟨e23,rfl,hfw⟩;refine zM rfl (iM rfl rfl rfl rfl (fun g8=>?_) (fun g8=>?_))
 ·have g8p:=g8;refine zM rfl (zT rfl g8 (eD (ts:=#[]) rfl gP rfl (zT rfl g8 (yA rfl (zV g8 rfl (zG rfl (zN (eP ?_))))))));refine ⟨rfl,_,[],rfl,zA,eQ.mk ?_⟩
  first | exact ⟨false,rfl,fun h=>by cases h⟩ | exact ⟨_,rfl,fun he=>by
   have h80:=eT he
   exact ⟨hfw (by assumption),zO,fun r h=>hr r (by rw [fJ zO];exact h)⟩⟩
 have g8p:=g8;refine zU rfl g8 (zU rfl g8 (zW g8 rfl (zG rfl (zN (eP ?_)))));refine ⟨rfl,_,[],rfl,zA,eQ.mk ?_⟩
 first | exact ⟨false,rfl,fun h=>by cases h⟩ | exact ⟨_,rfl,fun he=>by
  have h80:=eT he
  exact ⟨hfw (by assumption),zO,fun r h=>hr r (by rw [fJ zO];exact h)⟩⟩
theorem fewfit_fn (Q S : List (Raw × Raw)) (a b : Option Addr) (c d : Nat) (H : Hp) (hs : SlR lS H a c Q) (ht : SlR lS H b d S) (hl : Q.length < 9223372036854775808 ∧ S.length < 9223372036854775808) : iP Tryz.prog 6 #[.agg ⟨[.slice a Q.length c,.slice b S.length d]⟩] H [] (eQ (fun v _ _=>∃ e : Bool,v = .bool e ∧ (e = true → Q.length ≤ 20 ∧ S.length ≤ 20 ∧ ∀ x ∈ Q ++ S,aIp x))):=by
 refine iP.intro (args:=[.agg ⟨[.slice a Q.length c,.slice b S.length d]⟩]) Tryz.func6 rfl rfl Tryz.ntmps6 rfl rfl rfl fun G rest=>?_;refine zS ?_;refine iW rfl rfl rfl (fun b1=>?_);refine zG rfl ?_;refine zN ?_;refine cO ?_;refine zS ?_;refine bJ rfl pT rfl ?_;refine bT 0 rfl rfl iG rfl rfl rfl ?_;refine eD (ts:=#[]) rfl cJ rfl ?_;refine zY rfl ?_;refine zM rfl ?_;refine iM rfl rfl rfl rfl (fun g1=>?_) (fun g1=>?_)
 ·have g1p:=fM g1;refine bJ rfl nU rfl (zT rfl g1 (bT 0 rfl rfl iG rfl rfl rfl (zT rfl g1 (eD (ts:=#[]) rfl cJ rfl (zT rfl g1 (zY rfl (zW g1 rfl (zN (fC rfl (fun qK=>?_) (fun qK=>?_))))))))))
  ·refine zS ?_;refine zG rfl ?_;refine zN ?_;refine eP ?_;refine fD ?_;refine ⟨rfl,_,[],rfl,zA,eQ.mk ?_⟩;first | exact ⟨false,rfl,fun h=>by cases h⟩ | exact ⟨true,rfl,fun _=>⟨zO,zO,fun x hx=>(gM.1 hx).elim (hr x) (hr2 x)⟩⟩
  refine eF (bO (cO (zS (zG rfl (zN (dK (eU [3,1] rfl (gO (base:=[(1,_)]) (fun ζ : Nat=>[(3,.int .i64 (ζ : Nat))]) (fun ζ Hl own=>ζ ≤ Q.length ∧ (b1,.cells 26 [.slice a Q.length c,.slice b S.length d]) :: rest = own ∧ (∀ x ∈ Q.take (ζ),aIp x)) (fun ζ=>Q.length - ζ) 0 (zC) zB ⟨eS _,rfl,by simp⟩ ?_))))))));rintro k Hl0 _ gB ⟨hkk,rfl,hr⟩;replace hs:=hs.mono gB;replace ht:=ht.mono gB;try dsimp only at ⊢
  refine cO (zS (zM rfl (bJ rfl pT rfl (bT 0 rfl rfl iG rfl rfl rfl (eD (ts:=#[]) rfl cJ rfl (zL rfl (zN (fC rfl (fun c1_3=>?_) (fun c1_3=>?_)))))))))
  ·refine eF (bO (cO (dK (zS (bJ rfl pT rfl (bT 0 rfl rfl iG rfl rfl rfl (zM rfl (eV rfl hs rfl cJ fG zO rfl ?_))))))));rintro eb25 eo25 _ x25 yI ⟨ax25,cx25,bx25,dx25,rfl,hd25,he25⟩ hp25;refine eH rfl (by assumption) fG rfl rfl rfl (kO rfl (aR7 x25.1 x25.2 _ _ _ _ _) rfl ?_);rintro _ ⟨e27,rfl,hf27⟩;refine lB rfl rfl (zN (mN rfl (fun c2_6=>?_) (fun c2_6=>?_)))
   ·refine zS ?_;refine zG rfl ?_;refine zN ?_;refine eP ?_;refine iS ?_;refine fD ?_;refine jR ?_;refine iS ?_;refine fD ?_;refine ⟨rfl,_,[],rfl,zA,eQ.mk ?_⟩;first | exact ⟨false,rfl,fun h=>by cases h⟩ | exact ⟨true,rfl,fun _=>⟨zO,zO,fun x hx=>(gM.1 hx).elim (hr x) (hr2 x)⟩⟩
   refine eF (fY (bO (dL (zM rfl (fR rfl rfl (dT zO zO) rfl (zG rfl (bF (eW (k + 1) (by show Q.length - (k + 1) < Q.length - k;omega) (zC) (⟨by show k + 1 ≤ Q.length;omega,rfl,oI hr yI (hf27.1 (by simp_all))⟩) zB (gB)))))))))
  obtain rfl : k = Q.length:=zO
  rw [gF] at hr;refine gI (fE (eY (fU rfl (bO (cO (zS (zG rfl (zN (dK (eU [4,1] rfl (gO (base:=[(1,_)]) (fun ζ : Nat=>[(4,.int .i64 (ζ : Nat))]) (fun ζ Hl own=>ζ ≤ S.length ∧ (b1,.cells 26 [.slice a Q.length c,.slice b S.length d]) :: rest = own ∧ (∀ x ∈ S.take (ζ),aIp x)) (fun ζ=>S.length - ζ) 0 (zC) zB ⟨eS _,rfl,by simp⟩ ?_)))))))))));rintro k Hl1 _ iT ⟨hkk,rfl,hr2⟩;replace hs:=hs.mono iT;replace ht:=ht.mono iT;try dsimp only at ⊢
  refine cO (zS (zM rfl (bJ rfl nU rfl (bT 0 rfl rfl iG rfl rfl rfl (eD (ts:=#[]) rfl cJ rfl (zL rfl (zN (fC rfl (fun c3_7=>?_) (fun c3_7=>?_)))))))))
  ·refine eF (bO (cO (dK (zS (bJ rfl nU rfl (bT 0 rfl rfl iG rfl rfl rfl (zM rfl (eV rfl ht rfl cJ fG zO rfl ?_))))))));rintro eb39 eo39 _ x39 hx39 ⟨ax39,cx39,bx39,dx39,rfl,mV,he39⟩ mW;refine eH rfl (by assumption) fG rfl rfl rfl (kO rfl (aR7 x39.1 x39.2 _ _ _ _ _) rfl ?_);rintro _ ⟨e41,rfl,hf41⟩;refine lB rfl rfl (zN (mN rfl (fun c4_10=>?_) (fun c4_10=>?_)))
   ·refine zS ?_;refine zG rfl ?_;refine zN ?_;refine eP ?_;refine iS ?_;refine fD ?_;refine jR ?_;refine iS ?_;refine fD ?_;refine ⟨rfl,_,[],rfl,zA,eQ.mk ?_⟩;first | exact ⟨false,rfl,fun h=>by cases h⟩ | exact ⟨true,rfl,fun _=>⟨zO,zO,fun x hx=>(gM.1 hx).elim (hr x) (hr2 x)⟩⟩
   refine eF (fY (bO (dL (zM rfl (fR rfl rfl (dT zO zO) rfl (zG rfl (bF (eW (k + 1) (by show S.length - (k + 1) < S.length - k;omega) (zC) (⟨by show k + 1 ≤ S.length;omega,rfl,oI hr2 hx39 (hf41.1 (by simp_all))⟩) zB (iT)))))))))
  obtain rfl : k = S.length:=zO
  rw [gF] at hr2;refine gI ?_;refine fE ?_;refine eY ?_;refine fU rfl ?_;refine bO ?_;refine zS ?_;refine zG rfl ?_;refine zN ?_;refine eP ?_;refine ⟨rfl,_,[],rfl,zA,eQ.mk ?_⟩;first | exact ⟨false,rfl,fun h=>by cases h⟩ | exact ⟨true,rfl,fun _=>⟨zO,zO,fun x hx=>(gM.1 hx).elim (hr x) (hr2 x)⟩⟩
 have g1p:=eT g1;refine zU rfl g1 ?_;refine zU rfl g1 ?_;refine zU rfl g1 ?_;refine zV g1 rfl ?_;refine zN ?_;refine jB rfl rfl ?_;refine zS ?_;refine zG rfl ?_;refine zN ?_;refine eP ?_;refine fD ?_;refine ⟨rfl,_,[],rfl,zA,eQ.mk ?_⟩;first | exact ⟨false,rfl,fun h=>by cases h⟩ | exact ⟨true,rfl,fun _=>⟨zO,zO,fun x hx=>(gM.1 hx).elim (hr x) (hr2 x)⟩⟩
theorem aGy (a : Option Addr) (c : Nat) (m : Mk) (H : Hp) (hs : SlR mkR H a c m) (hok : oF m) : iP Tryz.prog 9 #[.slice a m.length c] H [] (eQ (fun v H2 _=>∃ a2 c2,v = .slice a2 (rL m).length c2 ∧ SlR tbR H2 a2 c2 (rL m))):=by
 refine iP.intro (args:=[.slice a m.length c]) Tryz.func9 rfl rfl Tryz.ntmps9 rfl rfl rfl fun G rest=>?_;have hl:=hok.1;have hwd:=hok.2.1;refine zS ?_;refine zG rfl ?_;refine zN ?_;refine zS ?_;refine zG rfl ?_;refine zN ?_;refine cO ?_;refine zS ?_;refine zG rfl ?_;refine zN ?_;refine dK ?_;refine eU [3,4,0] rfl ?_;refine lR 0 ?_;refine gO (base:=[(0,_)]) (fun ζ : Nat × ((Nat × SObj) × Option Addr × Nat)=>[(3,.slice ζ.2.2.1 ((rL m).take (ζ.1)).length ζ.2.2.2),(4,.int .i64 (ζ.1 : Nat))]) (fun ζ Hl own=>ζ.1 ≤ m.length ∧ ζ.2.1 :: rest = own ∧ Acc tbR 34 Hl ζ.2.1 ζ.2.2.1 ζ.2.2.2 ((rL m).take (ζ.1))) (fun ζ=>m.length - ζ.1) (0,((0,.nothing),none,0)) (zC) zB ⟨eS _,rfl,Acc.nil _ _ _ _⟩ ?_;rintro ⟨k,⟨pw,aw,cw⟩⟩ Hl0 _ gB ⟨hkk,rfl,haccw⟩;replace hs:=hs.mono gB;try dsimp only at hkk haccw ⊢
 refine cO (zS (zM rfl (zM rfl (eD (ts:=#[]) rfl cH rfl (zL rfl (zN (fC rfl (fun nY=>?_) (fun nY=>?_))))))))
 ·refine eF (bO (cO (dK (zS (zG rfl (zN (cO (zS ?_))))))));obtain ⟨xk,hxk⟩ : ∃ x,m[k]? = some x:=⟨_,aJ zO⟩
  have hwk:=(hok.at hxk).1;have hgk:=vU xk;refine zG rfl (zN (dK (eU [5,6,0,3,4] rfl (lR 0 (gO (base:=[(0,_),(3,_),(4,_)]) (fun ζ : Nat × ((Nat × SObj) × Option Addr × Nat)=>[(5,.slice ζ.2.2.1 ((grR xk).take (ζ.1)).length ζ.2.2.2),(6,.int .i64 (ζ.1 : Nat))]) (fun ζ Hl own=>ζ.1 ≤ xk.length ∧ ζ.2.1 :: pw :: rest = own ∧ Acc aE2 4 Hl ζ.2.1 ζ.2.2.1 ζ.2.2.2 ((grR xk).take (ζ.1))) (fun ζ=>xk.length - ζ.1) (0,((0,.nothing),none,0)) (zC) zB ⟨eS _,rfl,Acc.nil _ _ _ _⟩ ?_)))));rintro ⟨j,⟨pg,ag,cg⟩⟩ Hl1 _ iT ⟨hkj,rfl,haccg⟩;replace hs:=hs.mono iT;replace haccw:=haccw.mono iT;replace gB:=gB.trans iT;try dsimp only at hkj haccg ⊢
  refine cO (zS (zM rfl (zM rfl (zM rfl (eV rfl hs rfl cH gE zO rfl ?_)))));rintro eb16 eo16 _ x16 hx16 ⟨ax16,cx16,rfl,hd16⟩ hp16;obtain rfl:=eE (hxk.symm.trans hx16);refine eH rfl (by assumption) gE rfl rfl rfl (eD (ts:=#[]) rfl bK rfl (zL rfl (zN (fC rfl (fun c1_3=>?_) (fun c1_3=>?_)))))
  ·refine eF (bO (cO (dK (dL (zM rfl (zM rfl (zM rfl (eV rfl hs rfl cH gE zO rfl ?_))))))));rintro eb25 eo25 _ x25 yI ⟨ax25,cx25,rfl,hd25⟩ hp25;obtain rfl:=eE (hxk.symm.trans yI);refine eH rfl (by assumption) gE rfl rfl rfl (zM rfl (eV rfl (by assumption) rfl bK gK zO rfl ?_));rintro eb28 eo28 _ x28 hx28 rfl hp28;refine eH rfl (by assumption) gK rfl rfl rfl (zJ rfl (fS rfl iZ oA aQd rfl rfl rfl (fun b31=>fT 0 rfl rfl rfl (fun HP31 oP31 hleP31 hbP31 hoP31=>?_))));have hsl31:=SlR.lit (ρ:=aE2) (l:=[_]) hbP31 hoP31 (iH.one1 rfl);replace haccg:=haccg.mono hleP31;replace iT:=iT.trans hleP31;refine iV 0 rfl rfl haccg rfl rfl hsl31 rfl iZ oA aQd rfl aV3 zI rfl (fun p32 a32 c32 hacc32=>zG rfl (bF (fY (bO (dL (zM rfl (fR rfl rfl (dT zO zO) rfl (zG rfl (bF (eW ((j + 1,(p32,a32,c32))) (by show xk.length - (j + 1) < xk.length - j;omega) (iL (by first | rfl | (rw [jK (aC3 hx28)];rfl)) (zC)) (⟨by show j + 1 ≤ xk.length;omega,rfl,by first | (exact hacc32) | (rw [jK (aC3 hx28)];exact hacc32)⟩) zB (iT)))))))))))
  obtain rfl : j = xk.length:=zO
  rw [show (grR xk).take xk.length = grR xk from fJ (by rw [vU];omega)] at haccg ⊢;refine gI (fE (eY (fU rfl (bO (dL (zM rfl (iO 0 rfl haccg rfl (fun HQ7 hleQ7 hsQ7=>?_))))))));replace haccw:=haccw.mono hleQ7;replace gB:=gB.trans hleQ7;refine zM rfl (fS rfl gP qL aMn rfl rfl rfl (fun b35=>fT 0 rfl rfl rfl (fun HP35 oP35 hleP35 hbP35 hoP35=>?_)));replace haccw:=haccw.mono hleP35;replace hsQ7:=hsQ7.mono hleP35;replace gB:=gB.trans hleP35;have hsl35:=SlR.lit (ρ:=tbR) (l:=[grR xk]) hbP35 hoP35 (iH.one1 ⟨_,_,rfl,hsQ7⟩);refine iV 0 rfl rfl haccw rfl rfl hsl35 rfl gP qL aMn rfl aUk zI rfl (fun p36 a36 c36 hacc36=>zG rfl (bF (fY (bO (dL (zM rfl (fR rfl rfl (dT zO zO) rfl (zG rfl (bF (eW ((k + 1,(p36,a36,c36))) (by show m.length - (k + 1) < m.length - k;omega) (iL (by first | rfl | (rw [jK (aC8 hxk)];rfl)) (zC)) (⟨by show k + 1 ≤ m.length;omega,rfl,by first | (exact hacc36) | (rw [jK (aC8 hxk)];exact hacc36)⟩) zB (gB)))))))))))
 obtain rfl : k = m.length:=zO
 rw [show (rL m).take m.length = rL m from fJ (by rw [mY];omega)] at haccw ⊢;refine gI (fE (eY (fU rfl (bO (zS (iO 0 rfl haccw rfl (fun HQ9 hleQ9 hsQ9=>?_)))))));replace hs:=hs.mono hleQ9;refine zM rfl (zG rfl (zN (eP ?_)));refine ⟨rfl,_,[],rfl,zA,eQ.mk ?_⟩;exact ⟨_,_,rfl,by assumption⟩
end Go.Proofs

namespace Go.Proofs
open Go.XL
theorem aKk (x : Raw) (a b : Option Addr) (c d : Nat) (H : Hp) (hs : SlR (gV .i64) H a c x.2) (ht : SlR (gV .i64) H b d x.2) (hl : x.2.length < 9223372036854775808) : iP Tryz.prog 97 #[.agg ⟨[.bool x.1,.slice a x.2.length c]⟩,.agg ⟨[.bool x.1,.slice b x.2.length d]⟩] H [] (eQ (fun v _ _=>v = .bool true)):=by
 refine iP.intro (args:=[.agg ⟨[.bool x.1,.slice a x.2.length c]⟩,.agg ⟨[.bool x.1,.slice b x.2.length d]⟩]) Tryz.func97 rfl rfl Tryz.ntmps97 rfl rfl rfl fun G rest=>?_;refine zS ?_;refine iW rfl rfl rfl (fun b2=>?_);refine iW rfl rfl rfl (fun b3=>?_);refine zG rfl ?_;refine zN ?_;refine cO ?_;refine zS ?_;refine bJ rfl mG rfl ?_;refine bT 1 rfl rfl oA rfl rfl rfl ?_;refine bJ rfl mG rfl ?_;refine bT 0 rfl rfl oA rfl rfl rfl ?_;refine aI4 rfl rfl nR rfl ?_;refine zM rfl ?_;refine zT rfl tB ?_;refine bJ rfl kY rfl ?_;refine zT rfl tB ?_;refine bT 1 rfl rfl gE rfl rfl rfl ?_;refine zT rfl tB ?_;refine eD (ts:=#[]) rfl bK rfl ?_;refine zT rfl tB ?_;refine bJ rfl kY rfl ?_;refine zT rfl tB ?_;refine bT 0 rfl rfl gE rfl rfl rfl ?_;refine zT rfl tB ?_;refine eD (ts:=#[]) rfl bK rfl ?_;refine zT rfl tB ?_;refine zJ rfl ?_;refine zW tB rfl ?_;refine zN ?_;refine gD rfl (aI zO) ?_;refine eF ?_;refine bO ?_;refine cO ?_;refine zS ?_;refine zG rfl ?_;refine zN ?_;refine dK ?_;refine eU [5,2,3] rfl ?_;refine gO (base:=[(2,_),(3,_)]) (fun ζ : Nat=>[(5,.int .i64 (ζ : Nat))]) (fun ζ Hl own=>ζ ≤ x.2.length ∧ (b3,.cells 54 [.bool x.1,.slice b x.2.length d]) :: (b2,.cells 54 [.bool x.1,.slice a x.2.length c]) :: rest = own) (fun ζ=>x.2.length - ζ) 0 (zC) zB ⟨eS _,rfl⟩ ?_;rintro k Hl0 _ gB ⟨hkk,rfl⟩;replace hs:=hs.mono gB;replace ht:=ht.mono gB;try dsimp only at ⊢
 refine cO (zS (zM rfl (bJ rfl kY rfl (bT 1 rfl rfl gE rfl rfl rfl (eD (ts:=#[]) rfl bK rfl (zL rfl (zN (fC rfl (fun c1_2=>?_) (fun c1_2=>?_)))))))))
 ·refine eF (bO (cO (dK (cO (eU [2,3,5] rfl ?_)))));obtain ⟨bEA,oEA,rfl⟩:=hs.addr zO;obtain ⟨_,xA,hxA,rfl,hpA⟩:=hs.elem (k) zO;obtain ⟨bEB,oEB,rfl⟩:=ht.addr zO;obtain ⟨_,xB,hxB,rfl,hpB⟩:=ht.elem (k) zO;obtain rfl:=eE (hxA.symm.trans hxB);apply pI 10 [gC _,gC _,gC _,gC _,gC _,gC _,gC _,gC _,gC _,gC _] follows zK zK ⟨aH _,aH _,aH _,aH _,aH _,aH _,aH _,aH _,aH _,aH _,trivial⟩ ?steps3 ?tail3
  case steps3 =>
   refine dF rfl ?_ ?_
   ·intro X;exact aF rfl (bJ rfl kY rfl zQ)
   refine dF rfl ?_ ?_
   ·intro X;exact gL rfl (aF rfl (bT 1 rfl rfl gE rfl rfl rfl zQ))
   refine dF rfl ?_ ?_
   ·intro X;exact aF rfl (zM rfl zQ)
   refine dF rfl ?_ ?_
   ·intro X;exact gL rfl (gL rfl (aF rfl (fK rfl rfl bK gK zO zO rfl zQ)))
   refine dF rfl ?_ ?_
   ·intro X;exact gL rfl (aF rfl (eH rfl (by assumption) gK rfl rfl rfl zQ))
   refine dF rfl ?_ ?_
   ·intro X;exact aF rfl (bJ rfl kY rfl zQ)
   refine dF rfl ?_ ?_
   ·intro X;exact gL rfl (aF rfl (bT 0 rfl rfl gE rfl rfl rfl zQ))
   refine dF rfl ?_ ?_
   ·intro X;exact aF rfl (zM rfl zQ)
   refine dF rfl ?_ ?_
   ·intro X;exact gL rfl (gL rfl (aF rfl (fK rfl rfl bK gK zO zO rfl zQ)))
   refine dF rfl ?_ ?_
   ·intro X;exact gL rfl (aF rfl (eH rfl (by assumption) gK rfl rfl rfl zQ))
   exact jH rfl
  case tail3 =>
   refine gL rfl (gL rfl (gL rfl (gL rfl (gL rfl (gL rfl (gL rfl (gL rfl (gL rfl (gL rfl (aF rfl (zJ rfl (zN (gD rfl (aI (fun h=>h rfl)) (eF (fY (bO (dL (zM rfl (fR rfl rfl (dT zO zO) rfl (zG rfl (bF (eW (k + 1) (by show x.2.length - (k + 1) < x.2.length - k;omega) (zC) (⟨by show k + 1 ≤ x.2.length;omega,rfl⟩) zB (gB)))))))))))))))))))))))
 refine gI (fE (eY (fU rfl (bO (zS (zG rfl (zN (eP ?_))))))));refine ⟨rfl,_,[],rfl,zA,eQ.mk ?_⟩;rfl
theorem samer_fn (x : Raw × Raw) (a1 a2 e1 e2 : Option Addr) (c1 c2 d1 d2 : Nat) (H : Hp) (h1 : SlR (gV .i64) H a1 c1 x.1.2) (h2 : SlR (gV .i64) H a2 c2 x.2.2) (h3 : SlR (gV .i64) H e1 d1 x.1.2) (h4 : SlR (gV .i64) H e2 d2 x.2.2) (hl : x.1.2.length < 9223372036854775808 ∧ x.2.2.length < 9223372036854775808) : iP Tryz.prog 56 #[.agg ⟨[.bool x.1.1,.slice a1 x.1.2.length c1,.bool x.2.1,.slice a2 x.2.2.length c2]⟩,.agg ⟨[.bool x.1.1,.slice e1 x.1.2.length d1,.bool x.2.1,.slice e2 x.2.2.length d2]⟩] H [] (eQ (fun v _ _=>v = .bool true)):=by
 refine iP.intro (args:=[.agg ⟨[.bool x.1.1,.slice a1 x.1.2.length c1,.bool x.2.1,.slice a2 x.2.2.length c2]⟩,.agg ⟨[.bool x.1.1,.slice e1 x.1.2.length d1,.bool x.2.1,.slice e2 x.2.2.length d2]⟩]) Tryz.func56 rfl rfl Tryz.ntmps56 rfl rfl rfl fun G rest=>?_;refine zS ?_;refine iW rfl rfl rfl (fun b2=>?_);refine iW rfl rfl rfl (fun b3=>?_);refine zG rfl ?_;refine zN ?_;refine zS ?_;refine bJ rfl nM rfl ?_;refine bT 1 rfl rfl iE rfl rfl rfl ?_;refine bJ rfl nM rfl ?_;refine bT 0 rfl rfl iE rfl rfl rfl ?_;refine fH rfl (aKk x.1 _ _ _ _ _ h1 h3 hl.1) rfl ?_;refine zM rfl ?_;refine zT rfl rfl ?_;refine bJ rfl oU rfl ?_;refine zT rfl rfl ?_;refine bT 1 rfl rfl iE rfl rfl rfl ?_;refine zT rfl rfl ?_;refine bJ rfl oU rfl ?_;refine zT rfl rfl ?_;refine bT 0 rfl rfl iE rfl rfl rfl ?_;refine zT rfl rfl ?_;refine fH rfl (aKk x.2 _ _ _ _ _ h2 h4 hl.2) rfl ?_;refine zV rfl rfl ?_;refine zG rfl ?_;refine zN ?_;refine eP ?_;refine ⟨rfl,_,[],rfl,zA,eQ.mk ?_⟩;rfl
theorem yU (l : List (Raw × Raw)) (a b : Option Addr) (c d : Nat) (H : Hp) (hs : SlR lS H a c l) (ht : SlR lS H b d l) (hl : l.length < 9223372036854775808 ∧ ∀ x ∈ l,x.1.2.length < 9223372036854775808 ∧ x.2.2.length < 9223372036854775808) : iP Tryz.prog 17 #[.slice a l.length c,.slice b l.length d] H [] (eQ (fun v _ _=>v = .bool true)):=by
 refine iP.intro (args:=[.slice a l.length c,.slice b l.length d]) Tryz.func17 rfl rfl Tryz.ntmps17 rfl rfl rfl fun G rest=>?_;refine zS ?_;refine zG rfl ?_;refine zN ?_;refine cO ?_;refine zS ?_;refine zM rfl ?_;refine eD (ts:=#[]) rfl cJ rfl ?_;refine zM rfl ?_;refine eD (ts:=#[]) rfl cJ rfl ?_;refine zJ rfl ?_;refine zN ?_;refine gD rfl (aI (fun h=>h rfl)) ?_;refine eF ?_;refine bO ?_;refine cO ?_;refine zS ?_;refine zG rfl ?_;refine zN ?_;refine dK ?_;refine eU [5,0,1] rfl ?_;refine gO (base:=[(0,_),(1,_)]) (fun ζ : Nat=>[(5,.int .i64 (ζ : Nat))]) (fun ζ Hl own=>ζ ≤ l.length ∧ rest = own) (fun ζ=>l.length - ζ) 0 (zC) zB ⟨eS _,rfl⟩ ?_;rintro k Hl0 _ gB ⟨hkk,rfl⟩;replace hs:=hs.mono gB;replace ht:=ht.mono gB;try dsimp only at ⊢
 refine cO (zS (zM rfl (zM rfl (eD (ts:=#[]) rfl cJ rfl (zL rfl (zN (fC rfl (fun c1_1=>?_) (fun c1_1=>?_))))))))
 ·refine eF (bO (cO (dK (cO (eU [0,1,5] rfl ?_)))));obtain ⟨bEA,oEA,rfl⟩:=hs.addr zO;obtain ⟨_,xA,hxA,⟨axA,cxA,bxA,dxA,rfl,hdA,heA⟩,hpA⟩:=hs.elem (k) zO;obtain ⟨bEB,oEB,rfl⟩:=ht.addr zO;obtain ⟨_,xB,hxB,⟨axB,cxB,bxB,dxB,rfl,hdB,heB⟩,hpB⟩:=ht.elem (k) zO;obtain rfl:=eE (hxA.symm.trans hxB);apply pI 8 [gC _,gC _,gC _,gC _,gC _,gC _,gC _,gC _] follows zK zK ⟨aH _,aH _,aH _,aH _,aH _,aH _,aH _,aH _,trivial⟩ ?steps2 ?tail2
  case steps2 =>
   refine dF rfl ?_ ?_
   ·intro X;exact aF rfl (zM rfl zQ)
   refine dF rfl ?_ ?_
   ·intro X;exact aF rfl (zM rfl zQ)
   refine dF rfl ?_ ?_
   ·intro X;exact gL rfl (gL rfl (aF rfl (fK rfl rfl cJ fG zO zO rfl zQ)))
   refine dF rfl ?_ ?_
   ·intro X;exact gL rfl (aF rfl (eH rfl (by assumption) fG rfl rfl rfl zQ))
   refine dF rfl ?_ ?_
   ·intro X;exact aF rfl (zM rfl zQ)
   refine dF rfl ?_ ?_
   ·intro X;exact aF rfl (zM rfl zQ)
   refine dF rfl ?_ ?_
   ·intro X;exact gL rfl (gL rfl (aF rfl (fK rfl rfl cJ fG zO zO rfl zQ)))
   refine dF rfl ?_ ?_
   ·intro X;exact gL rfl (aF rfl (eH rfl (by assumption) fG rfl rfl rfl zQ))
   exact jH rfl
  case tail2 =>
   refine gL rfl (gL rfl (gL rfl (gL rfl (gL rfl (gL rfl (gL rfl (gL rfl (aF rfl (fH rfl (samer_fn xA _ _ _ _ _ _ _ _ _ hdA heA hdB heB (hl.2 xA (cF hxA))) rfl (lB rfl rfl (zN (gD rfl rfl (eF (fY (bO (dL (zM rfl (fR rfl rfl (dT zO zO) rfl (zG rfl (bF (eW (k + 1) (by show l.length - (k + 1) < l.length - k;omega) (zC) (⟨by show k + 1 ≤ l.length;omega,rfl⟩) zB (gB))))))))))))))))))))))
 refine gI (fE (eY (fU rfl (bO (zS (zG rfl (zN (eP ?_))))))));refine ⟨rfl,_,[],rfl,zA,eQ.mk ?_⟩;rfl
theorem samefit_fn (Q S : List (Raw × Raw)) (a b a2 b2 : Option Addr) (c d c2 d2 : Nat) (H : Hp) (h1 : SlR lS H a c Q) (h2 : SlR lS H b d S) (h3 : SlR lS H a2 c2 Q) (h4 : SlR lS H b2 d2 S) (hl : Q.length < 9223372036854775808 ∧ ∀ x ∈ Q,x.1.2.length < 9223372036854775808 ∧ x.2.2.length < 9223372036854775808) (hl2 : S.length < 9223372036854775808 ∧ ∀ x ∈ S,x.1.2.length < 9223372036854775808 ∧ x.2.2.length < 9223372036854775808) : iP Tryz.prog 20 #[.agg ⟨[.slice a Q.length c,.slice b S.length d]⟩,.agg ⟨[.slice a2 Q.length c2,.slice b2 S.length d2]⟩] H [] (eQ (fun v _ _=>v = .bool true)):=by
 refine iP.intro (args:=[.agg ⟨[.slice a Q.length c,.slice b S.length d]⟩,.agg ⟨[.slice a2 Q.length c2,.slice b2 S.length d2]⟩]) Tryz.func20 rfl rfl Tryz.ntmps20 rfl rfl rfl fun G rest=>?_;refine zS ?_;refine iW rfl rfl rfl (fun b2=>?_);refine iW rfl rfl rfl (fun b3=>?_);refine zG rfl ?_;refine zN ?_;refine zS ?_;refine bJ rfl pT rfl ?_;refine bT 1 rfl rfl iG rfl rfl rfl ?_;refine bJ rfl pT rfl ?_;refine bT 0 rfl rfl iG rfl rfl rfl ?_;refine fH rfl (yU Q _ _ _ _ _ h1 h3 hl) rfl ?_;refine zM rfl ?_;refine zT rfl rfl ?_;refine bJ rfl nU rfl ?_;refine zT rfl rfl ?_;refine bT 1 rfl rfl iG rfl rfl rfl ?_;refine zT rfl rfl ?_;refine bJ rfl nU rfl ?_;refine zT rfl rfl ?_;refine bT 0 rfl rfl iG rfl rfl rfl ?_;refine zT rfl rfl ?_;refine fH rfl (yU S _ _ _ _ _ h2 h4 hl2) rfl ?_;refine zV rfl rfl ?_;refine zG rfl ?_;refine zN ?_;refine eP ?_;refine ⟨rfl,_,[],rfl,zA,eQ.mk ?_⟩;rfl
end Go.Proofs

namespace Go.Proofs
open Go.XL
theorem rneed_bad (b : Bool) (y : Int) (hb : b = false) (H : Hp) : iP Tryz.prog 95 #[.bool b,.int .i64 y] H [] (aFq [{ v:=.iface 27 (.int .i64 y),recovered:=false }]):=by
 refine iP.intro (args:=[.bool b,.int .i64 y]) Tryz.func95 rfl rfl Tryz.ntmps95 rfl rfl rfl fun G rest=>?_;refine zS ?_;refine zM rfl ?_;refine lB rfl rfl ?_;refine zN ?_;refine jB rfl (by rw [hb];rfl) ?_;refine dL ?_;refine zM rfl ?_;refine uC rfl pU (by intro _ h;cases h) rfl ?_;refine aLc rfl ?_;refine ⟨rfl,[],zA,aFq.mk⟩
theorem rvalid_bad (a : Option Addr) (c : Nat) (l : List (Raw × Raw)) (H : Hp) (hs : SlR lS H a c l) (hl : l.length < 9223372036854775808) (hsz : ∀ x ∈ l,(x.1.2.length ≤ 1000 ∨ 2048 < x.1.2.length) ∧ (x.2.2.length ≤ 1000 ∨ 2048 < x.2.2.length) ∧ x.1.2.length < 9223372036854775808 ∧ x.2.2.length < 9223372036854775808) (hbad : ¬ ∀ x ∈ l,okQ x.1 x.2) : iP Tryz.prog 58 #[.slice a l.length c] H [] (aFq [{ v:=.iface 27 (.int .i64 100),recovered:=false }]):=by
 refine iP.intro (args:=[.slice a l.length c]) Tryz.func58 rfl rfl Tryz.ntmps58 rfl rfl rfl fun G rest=>?_;refine zS ?_;refine zM rfl ?_;refine eD (ts:=#[]) rfl cJ rfl ?_;refine zM rfl ?_;refine zN ?_;refine dK ?_;refine eU [6,4,5] rfl ?_;refine gO (base:=[(4,_),(5,_)]) (fun ζ : Nat=>[(6,.int .i64 (ζ : Nat))]) (fun ζ Hl own=>ζ ≤ l.length ∧ rest = own ∧ (∀ x ∈ l.take ζ,okQ x.1 x.2)) (fun ζ=>l.length - ζ) 0 (zC) zB ⟨eS _,rfl,by simp⟩ ?_;rintro k Hl0 _ gB ⟨hkk,rfl,hgo⟩;replace hs:=hs.mono gB;try dsimp only at ⊢
 refine zS (zL rfl (zN (cO (fC rfl (fun nY=>?_) (fun nY=>?_)))))
 ·refine eF (bO (cO (dK (zS (eV rfl hs rfl cJ fG zO rfl ?_)))));rintro eb8 eo8 _ x8 hx8 ⟨ax8,cx8,bx8,dx8,rfl,hd8,he8⟩ hp8;refine eH rfl (by assumption) fG rfl rfl rfl (fI jD rfl (fun b3=>eG 0 rfl rfl rfl rfl fG rfl rfl rfl rfl rfl (zN (dL (bT 0 rfl rfl fG rfl rfl rfl ?_)))));obtain ⟨hz1,hz2,hz3,hz4⟩:=hsz x8 (cF hx8);refine kO rfl (aAn x8.1 x8.2 _ _ _ _ _ hd8 he8 hz1 hz2 hz3 hz4) rfl ?_;rintro _ ⟨e,rfl,hce⟩;refine zZ rfl ?_;by_cases he0 : e = 0
  ·subst he0;have hok1:=hce.1 rfl;refine fH rfl (wT _ _ (bG rfl) _) rfl (bF (fY (bO (dL (fR rfl rfl (dT zO zO) rfl (zM rfl (bF (eW (k + 1) (by show l.length - (k + 1) < l.length - k;omega) (zC) (⟨by show k + 1 ≤ l.length;omega,rfl,oI (p:=fun x : Raw × Raw=>okQ x.1 x.2) hgo hx8 hok1⟩) zB (gB)))))))))
  refine sO rfl (rneed_bad _ _ (aI he0) _) rfl ?_;intro HPn hlePn;refine aN6 (pV (aH9 (aN6 ?_)));refine ⟨rfl,[],zA,aFq.mk⟩
 refine gI (fE (eY (fU rfl ?_)));obtain rfl : k = l.length:=zO
 rw [gF] at hgo;exact absurd hgo hbad
theorem radd_bad (x : Rat) (y : Raw × Raw) (a1 a2 e1 e2 : Option Addr) (c1 c2 d1 d2 : Nat) (H : Hp) (hs : SlR (gV .i64) H a1 c1 (dg x.num.natAbs)) (hs2 : SlR (gV .i64) H a2 c2 (dg x.den)) (ht : SlR (gV .i64) H e1 d1 y.1.2) (ht2 : SlR (gV .i64) H e2 d2 y.2.2) (hx : mZ x 499) (hy : aIp y) (hbad : ¬ okQ y.1 y.2) : iP Tryz.prog 52 #[.agg ⟨[.bool (decide (x.num < 0)),.slice a1 (dg x.num.natAbs).length c1,.bool false,.slice a2 (dg x.den).length c2]⟩,.agg ⟨[.bool y.1.1,.slice e1 y.1.2.length d1,.bool y.2.1,.slice e2 y.2.2.length d2]⟩] H [] (eQ (fun v H2 own=>v = .tuple #[.agg ⟨[.bool false,.slice none 0 0,.bool false,.slice none 0 0]⟩,.int .i64 100])):=by
 refine iP.introD (args:=[.agg ⟨[.bool (decide (x.num < 0)),.slice a1 (dg x.num.natAbs).length c1,.bool false,.slice a2 (dg x.den).length c2]⟩,.agg ⟨[.bool y.1.1,.slice e1 y.1.2.length d1,.bool y.2.1,.slice e2 y.2.2.length d2]⟩]) Tryz.func52 rfl rfl Tryz.ntmps52 rfl rfl rfl fun G rest=>?_;refine zS ?_;refine iW rfl rfl rfl (fun b2=>?_);refine iW rfl rfl rfl (fun b3=>?_);refine fI jD rfl (fun b4=>?_);refine fI sJ rfl (fun b5=>?_);refine zN ?_;refine zS ?_;refine mL (L:=[_,_,_,_]) rfl rfl rfl rfl rfl (fun msD rest hrest=>?_);simp only [fP,gN];refine zN ?_;refine zS ?_;refine bT 3 rfl rfl fG rfl rfl rfl ?_;refine bT 2 rfl rfl fG rfl rfl rfl ?_;refine fS rfl cJ fG jD rfl rfl rfl (fun b9=>?_);refine fT 0 rfl rfl rfl (fun HP9 oP9 rI hbP9 hoP9=>?_);replace hs:=hs.mono rI;replace hs2:=hs2.mono rI;replace ht:=ht.mono rI;replace ht2:=ht2.mono rI;have vG:=SlR.lit (ρ:=lS) (l:=[oB x,y]) hbP9 hoP9 (iH.cons1 (cs:=[_,_,_,_]) ⟨_,_,_,_,rfl,hs,hs2⟩ (iH.one1 ⟨_,_,_,_,rfl,ht,ht2⟩))
 refine sO rfl (rvalid_bad _ _ [oB x,y] _ (by assumption) zP (fun z hz=>by
  simp only [List.mem_cons,List.not_mem_nil,or_false] at hz;rcases hz with rfl | rfl
  ·exact ⟨.inl (eK hx.1 zD),.inl (eK hx.2 zD),jS hx.1 zD,jS hx.2 zD⟩
  exact ⟨aUv hy,aUn hy,by have:=aPa hy;omega,by have:=aPa hy;omega⟩) (fun h=>hbad (h y zP))) rfl ?_
 intro HPn hlePn;refine pV (jO 0 (L:=[_,_,_,_]) rfl hrest rfl ((rcaught_pan _ _ _ _).mono (fun u2 HE own2 lF hD=>?_)));obtain ⟨h1,h2⟩:=hD;subst h2;refine ⟨h1,_,_,rfl,(fN 1 rfl rfl fG rfl rfl (fN 0 rfl rfl jZ rfl rfl iD)),eQ.mk ?_⟩;rfl
end Go.Proofs

namespace Go.Proofs
open Go.XL
theorem aLb (l : List Rat) (a : Option Addr) (c : Nat) (H : Hp) (hs : SlR jX H a c l) (hl : l.length < 9223372036854775808) (hsz : pW l 499) : iP Tryz.prog 18 #[.slice a l.length c] H [] (eQ (fun v H2 _=>∃ u,v = .tuple #[u,.bool true] ∧ lJ (mP l) H2 u)):=by
 refine iP.introC (args:=[.slice a l.length c]) Tryz.func18 rfl rfl Tryz.ntmps18 rfl rfl rfl fun G rest=>?_;refine zS ?_;refine fI jD rfl (fun b2=>?_);refine zG rfl ?_;refine zN ?_;refine zS ?_;refine eZ rfl (aEq 0 zD _) rfl ?_;rintro _ HZ hleZ hNZ;rw [show (((0 : Nat) : Int) : Rat) = 0 from rfl] at hNZ;obtain ⟨aZ,cZ,bZ,dZ,rfl,hZ,kZ⟩:=hNZ;replace hs:=hs.mono hleZ;refine eG 0 rfl rfl rfl rfl fG rfl rfl rfl rfl rfl ?_;refine zN ?_;refine cO ?_;refine zS ?_;refine zG rfl ?_;refine zN ?_;refine dK ?_;refine eU [4,0,2] rfl ?_;refine gO (base:=[(0,_),(2,_)]) (fun ζ : Nat × (List Value)=>[(4,.int .i64 (ζ.1 : Nat))]) (fun ζ Hl own=>ζ.1 ≤ l.length ∧ (b2,.cells 56 ζ.2) :: rest = own ∧ (jX.R Hl ζ.2 (mP (l.take (ζ.1))))) (fun ζ=>l.length - ζ.1) (0,_) (zC) zB ⟨eS _,rfl,⟨_,_,_,_,rfl,hZ,kZ⟩⟩ ?_;rintro ⟨k,cs⟩ Hl0 _ gB ⟨hkk,rfl,hq9⟩;replace hs:=hs.mono gB;replace hZ:=hZ.mono gB;replace kZ:=kZ.mono gB;try dsimp only at hkk hq9 ⊢
 obtain ⟨a9,c9,b9,d9,rfl,h9,k9⟩:=hq9;refine cO (zS (zM rfl (zM rfl (eD (ts:=#[]) rfl cJ rfl (zL rfl (zN (fC rfl (fun qK=>?_) (fun qK=>?_))))))))
 ·refine eF (bO (cO (dK (cO (eU [0,2,4] rfl ?_)))));obtain ⟨bEV,oEV,rfl⟩:=hs.addr zO;obtain ⟨_,xV,hxV,⟨axV,cxV,bxV,dxV,rfl,hdV,heV⟩,hpV⟩:=hs.elem (k) zO;apply aGq (fun _=>True) trivial [9] zD [(10,9)] (fun _ v p _=>v = .pointer (some ⟨p.1,0,none⟩) ∧ p.2 = .cells 56 [.bool false,.slice none 0 0,.bool false,.slice none 0 0]) (fun _ v p H=>v = .pointer (some ⟨p.1,0,none⟩) ∧ ∃ cs,p.2 = .cells 56 cs ∧ jX.R H cs (mP (l.take k) + xV)) (fun _ _ _ _ _ _ h=>h) (fun _ _ _ _ _ hle ⟨h,cs,h2,h3⟩=>⟨h,cs,h2,jX.mono hle h3⟩) 11 [gC _,gC _,gC _,gC _,gC _,fun v H=>∃ u,v = .tuple #[u,.int .i64 0] ∧ lJ (mP (l.take k) + xV) H u,fun v H=>∃ u,v = .tuple #[u,.int .i64 0] ∧ lJ (mP (l.take k) + xV) H u,fun v H=>lJ (mP (l.take k) + xV) H v,gC _,vA,vA] follows zK ⟨aH _,aH _,aH _,aH _,aH _,fun _ _ _ hle ⟨u,h,k⟩=>⟨u,h,k.mono hle⟩,fun _ _ _ hle ⟨u,h,k⟩=>⟨u,h,k.mono hle⟩,kG _,aH _,lN,lN,trivial⟩ zD zK ?steps3 ?tail3
  case steps3 =>
   refine iN rfl rfl ?_ ?_
   ·intro X ext HD bI _;exact aO rfl (bT 0 rfl rfl fG rfl rfl rfl zR)
   refine iN rfl rfl ?_ ?_
   ·intro X ext HD bI _;exact aO rfl (zM rfl zR)
   refine iN rfl rfl ?_ ?_
   ·intro X ext HD bI _;exact aO rfl (zM rfl zR)
   refine iN rfl rfl ?_ ?_
   ·intro X ext HD bI _;exact fX rfl (fX rfl (aO rfl (fK rfl rfl cJ fG zO zO rfl zR)))
   refine iN rfl rfl ?_ ?_
   ·intro X ext HD bI _;replace hs:=hs.mono bI;replace hZ:=hZ.mono bI;replace kZ:=kZ.mono bI;replace h9:=h9.mono bI;replace k9:=k9.mono bI;replace hpV:=hpV.mono bI;replace hdV:=hdV.mono bI;replace heV:=heV.mono bI;exact fX rfl (aO rfl (eH rfl (by assumption) fG rfl rfl rfl zR))
   refine iN rfl rfl ?_ ?_
   ·intro X ext HD bI _;replace h9:=h9.mono bI;replace k9:=k9.mono bI;replace hdV:=hdV.mono bI;replace heV:=heV.mono bI;refine fX rfl (fX rfl (aO rfl (eZ rfl (aN5 ⟨_,_,_,_,rfl,h9,k9⟩ ⟨_,_,_,_,rfl,hdV,heV⟩ (hsz.1 k) (hsz.2 xV (cF hxV))) rfl ?_)));rintro _ HN kI ⟨_,rfl,⟨aP,cP,bP,dP,rfl,hP,kP⟩⟩;exact bF (mU rfl trivial (⟨_,rfl,⟨_,_,_,_,rfl,hP,kP⟩⟩))
   refine iN rfl rfl ?_ ?_
   ·intro X ext HD bI _;refine eR rfl rfl ?_;rintro _ ⟨_,rfl,aP,cP,bP,dP,rfl,hP,kP⟩;exact aO rfl (zM rfl (bF (mU rfl trivial (⟨_,rfl,⟨_,_,_,_,rfl,hP,kP⟩⟩))))
   refine iN rfl rfl ?_ ?_
   ·intro X ext HD bI _;refine eR rfl rfl ?_;rintro _ ⟨_,rfl,aP,cP,bP,dP,rfl,hP,kP⟩;exact aO rfl (zX rfl (bF (mU rfl trivial (⟨_,_,_,_,rfl,hP,kP⟩))))
   refine iN rfl rfl ?_ ?_
   ·intro X ext HD bI _;refine eR rfl rfl ?_;rintro _ ⟨_,rfl,aP,cP,bP,dP,rfl,hP,kP⟩;exact aO rfl (zX rfl zR)
   refine iN rfl rfl ?_ ?_
   ·intro X ext HD bI _;exact aO rfl (fI jD rfl (fun b5=>bF (aBr rfl trivial trivial (⟨rfl,rfl⟩))))
   refine aBi rfl rfl ?_ ?_
   ·intro X ext p HD bI _;refine eR rfl rfl ?_;rintro _ _;refine eR rfl rfl ?_;rintro _ ⟨aP,cP,bP,dP,rfl,hP,kP⟩;refine aO rfl ?_;intro hfo;obtain ⟨be9,se9⟩:=p;obtain ⟨rfl,hse9⟩:=hfo _ _ rfl rfl;simp only at hse9;subst hse9;exact eG 0 rfl rfl rfl rfl fG rfl rfl rfl rfl rfl (bF (aD9 trivial (trivial) (fun u t h1 h2=>by cases (show some _ = some t from h1);cases (show some (Value.pointer _) = some u from h2);exact ⟨rfl,_,rfl,⟨_,_,_,_,rfl,hP,kP⟩⟩)))
   exact aB8 rfl
  case tail3 =>
   intro HD bI _;replace gB:=gB.trans bI;refine fX rfl (fX rfl (fX rfl (fX rfl (fX rfl (eR rfl rfl ?_)))));rintro _ ⟨_,rfl,aP,cP,bP,dP,rfl,hP,kP⟩;refine eR rfl rfl ?_;rintro _ ⟨_,rfl,aP,cP,bP,dP,rfl,hP,kP⟩;refine eR rfl rfl ?_;rintro _ ⟨aP,cP,bP,dP,rfl,hP,kP⟩;refine fX rfl (eR rfl rfl ?_);rintro _ _;refine pY rfl rfl (aO rfl (uQ ?_));intro pe hpe;obtain ⟨rfl,csP,hpe2,⟨aP2,cP2,bP2,dP2,rfl,hP2,kP2⟩⟩:=hpe _ ⟨_,rfl,rfl⟩;obtain ⟨be5,se5⟩:=pe;simp only at hpe2;subst hpe2;refine nT (zG rfl (zN (cO (zS (zM rfl (zJ rfl (zN (gD rfl (aI (fun h=>h rfl)) (eF (bO (dL (bT 0 rfl rfl fG rfl rfl rfl (eG 1 rfl rfl rfl rfl fG rfl rfl rfl rfl rfl (bF (fY (bO (dL (zM rfl (fR rfl rfl (dT zO zO) rfl (zG rfl (bF (eW ((k + 1,_)) (by show l.length - (k + 1) < l.length - k;omega) (zC) (⟨by show k + 1 ≤ l.length;omega,rfl,by rw [jK hxV,aMe];exact ⟨_,_,_,_,rfl,hP2,kP2⟩⟩) zB (gB)))))))))))))))))))))))
 obtain rfl : k = l.length:=zO
 rw [gF] at h9 k9 ⊢;refine gI (fE (eY (fU rfl (bO (zS (bT 0 rfl rfl fG rfl rfl rfl (eG 0 rfl rfl rfl rfl fG rfl rfl rfl rfl rfl (zG rfl (zN (eP ?_))))))))));refine ⟨rfl,_,[],(fN 0 rfl rfl fG rfl rfl (mM rfl iD)),zA,eQ.mk ?_⟩;exact ⟨_,rfl,_,_,_,_,rfl,h9,k9⟩
end Go.Proofs

namespace Go.Proofs
open Go.XL
theorem sum40_bad (l : List (Raw × Raw)) (a : Option Addr) (c : Nat) (H : Hp) (hs : SlR lS H a c l) (hl : l.length ≤ 20) (hsz : ∀ x ∈ l,aIp x) (hbad : ¬ ∀ x ∈ l,okQ x.1 x.2) : iP Tryz.prog 18 #[.slice a l.length c] H [] (eQ (fun v H2 _=>∃ u q,v = .tuple #[u,.bool false] ∧ lJ q H2 u ∧ mZ q 499)):=by
 refine iP.introC (args:=[.slice a l.length c]) Tryz.func18 rfl rfl Tryz.ntmps18 rfl rfl rfl fun G rest=>?_;refine zS ?_;refine fI jD rfl (fun b2=>?_);refine zG rfl ?_;refine zN ?_;refine zS ?_;refine eZ rfl (aEq 0 zD _) rfl ?_;rintro _ HZ hleZ hNZ;rw [show (((0 : Nat) : Int) : Rat) = 0 from rfl] at hNZ;obtain ⟨aZ,cZ,bZ,dZ,rfl,hZ,kZ⟩:=hNZ;replace hs:=hs.mono hleZ;refine eG 0 rfl rfl rfl rfl fG rfl rfl rfl rfl rfl ?_;refine zN ?_;refine cO ?_;refine zS ?_;refine zG rfl ?_;refine zN ?_;refine dK ?_;refine eU [4,0,2] rfl ?_;refine gO (base:=[(0,_),(2,_)]) (fun ζ : Nat × (List Value) × (Rat)=>[(4,.int .i64 (ζ.1 : Nat))]) (fun ζ Hl own=>ζ.1 ≤ l.length ∧ (b2,.cells 56 ζ.2.1) :: rest = own ∧ (jX.R Hl ζ.2.1 ζ.2.2) ∧ (mZ ζ.2.2 (4 * (ζ.1) + 1)) ∧ (∀ x ∈ l.take (ζ.1),okQ x.1 x.2)) (fun ζ=>l.length - ζ.1) (0,_,0) (zC) zB ⟨eS _,rfl,⟨_,_,_,_,rfl,hZ,kZ⟩,aDm,by simp⟩ ?_;rintro ⟨k,cs,q⟩ Hl0 _ gB ⟨hkk,rfl,hq9,hqz,hgo⟩;replace hs:=hs.mono gB;replace hZ:=hZ.mono gB;replace kZ:=kZ.mono gB;try dsimp only at hkk hq9 hqz hgo ⊢
 obtain ⟨a9,c9,b9,d9,rfl,h9,k9⟩:=hq9;refine cO (zS (zM rfl (zM rfl (eD (ts:=#[]) rfl cJ rfl (zL rfl (zN (fC rfl (fun qK=>?_) (fun qK=>?_))))))))
 ·obtain ⟨xw,hxw⟩ : ∃ x,l[k]? = some x:=⟨_,aJ zO⟩
  refine eF (bO (cO (dK (cO ?_))));by_cases hox : okQ xw.1 xw.2
  ·skip
   refine eU [0,2,4] rfl ?_;obtain ⟨bEV,oEV,rfl⟩:=hs.addr zO;obtain ⟨_,xV,hxV,⟨axV,cxV,bxV,dxV,rfl,hdV,heV⟩,hpV⟩:=hs.elem (k) zO;obtain rfl:=eE (hxw.symm.trans hxV);obtain ⟨r,rfl⟩:=aVc hox;have hrz : mZ r 3:=aJz (hsz _ (cF hxw)) hox;apply aGq (fun _=>True) trivial [9] zD [(10,9)] (fun _ v p _=>v = .pointer (some ⟨p.1,0,none⟩) ∧ p.2 = .cells 56 [.bool false,.slice none 0 0,.bool false,.slice none 0 0]) (fun _ v p H=>v = .pointer (some ⟨p.1,0,none⟩) ∧ ∃ cs,p.2 = .cells 56 cs ∧ jX.R H cs (q + r)) (fun _ _ _ _ _ _ h=>h) (fun _ _ _ _ _ hle ⟨h,cs,h2,h3⟩=>⟨h,cs,h2,jX.mono hle h3⟩) 11 [gC _,gC _,gC _,gC _,gC _,fun v H=>∃ u,v = .tuple #[u,.int .i64 0] ∧ lJ (q + r) H u,fun v H=>∃ u,v = .tuple #[u,.int .i64 0] ∧ lJ (q + r) H u,fun v H=>lJ (q + r) H v,gC _,vA,vA] follows zK ⟨aH _,aH _,aH _,aH _,aH _,fun _ _ _ hle ⟨u,h,k⟩=>⟨u,h,k.mono hle⟩,fun _ _ _ hle ⟨u,h,k⟩=>⟨u,h,k.mono hle⟩,kG _,aH _,lN,lN,trivial⟩ zD zK ?steps3 ?tail3
   case steps3 =>
    refine iN rfl rfl ?_ ?_
    ·intro X ext HD bI _;exact aO rfl (bT 0 rfl rfl fG rfl rfl rfl zR)
    refine iN rfl rfl ?_ ?_
    ·intro X ext HD bI _;exact aO rfl (zM rfl zR)
    refine iN rfl rfl ?_ ?_
    ·intro X ext HD bI _;exact aO rfl (zM rfl zR)
    refine iN rfl rfl ?_ ?_
    ·intro X ext HD bI _;exact fX rfl (fX rfl (aO rfl (fK rfl rfl cJ fG zO zO rfl zR)))
    refine iN rfl rfl ?_ ?_
    ·intro X ext HD bI _;replace hs:=hs.mono bI;replace hZ:=hZ.mono bI;replace kZ:=kZ.mono bI;replace h9:=h9.mono bI;replace k9:=k9.mono bI;replace hpV:=hpV.mono bI;replace hdV:=hdV.mono bI;replace heV:=heV.mono bI;exact fX rfl (aO rfl (eH rfl (by assumption) fG rfl rfl rfl zR))
    refine iN rfl rfl ?_ ?_
    ·intro X ext HD bI _;replace h9:=h9.mono bI;replace k9:=k9.mono bI;replace hdV:=hdV.mono bI;replace heV:=heV.mono bI;refine fX rfl (fX rfl (aO rfl (eZ rfl (aN5 ⟨_,_,_,_,rfl,h9,k9⟩ (show lJ r _ _ from ⟨_,_,_,_,rfl,hdV,heV⟩) (sV hqz zO) (sV hrz zO)) rfl ?_)));rintro _ HN kI ⟨_,rfl,⟨aP,cP,bP,dP,rfl,hP,kP⟩⟩;exact bF (mU rfl trivial (⟨_,rfl,⟨_,_,_,_,rfl,hP,kP⟩⟩))
    refine iN rfl rfl ?_ ?_
    ·intro X ext HD bI _;refine eR rfl rfl ?_;rintro _ ⟨_,rfl,aP,cP,bP,dP,rfl,hP,kP⟩;exact aO rfl (zM rfl (bF (mU rfl trivial (⟨_,rfl,⟨_,_,_,_,rfl,hP,kP⟩⟩))))
    refine iN rfl rfl ?_ ?_
    ·intro X ext HD bI _;refine eR rfl rfl ?_;rintro _ ⟨_,rfl,aP,cP,bP,dP,rfl,hP,kP⟩;exact aO rfl (zX rfl (bF (mU rfl trivial (⟨_,_,_,_,rfl,hP,kP⟩))))
    refine iN rfl rfl ?_ ?_
    ·intro X ext HD bI _;refine eR rfl rfl ?_;rintro _ ⟨_,rfl,aP,cP,bP,dP,rfl,hP,kP⟩;exact aO rfl (zX rfl zR)
    refine iN rfl rfl ?_ ?_
    ·intro X ext HD bI _;exact aO rfl (fI jD rfl (fun b5=>bF (aBr rfl trivial trivial (⟨rfl,rfl⟩))))
    refine aBi rfl rfl ?_ ?_
    ·intro X ext p HD bI _;refine eR rfl rfl ?_;rintro _ _;refine eR rfl rfl ?_;rintro _ ⟨aP,cP,bP,dP,rfl,hP,kP⟩;refine aO rfl ?_;intro hfo;obtain ⟨be9,se9⟩:=p;obtain ⟨rfl,hse9⟩:=hfo _ _ rfl rfl;simp only at hse9;subst hse9;exact eG 0 rfl rfl rfl rfl fG rfl rfl rfl rfl rfl (bF (aD9 trivial (trivial) (fun u t h1 h2=>by cases (show some _ = some t from h1);cases (show some (Value.pointer _) = some u from h2);exact ⟨rfl,_,rfl,⟨_,_,_,_,rfl,hP,kP⟩⟩)))
    exact aB8 rfl
   case tail3 =>
    intro HD bI _;replace gB:=gB.trans bI;refine fX rfl (fX rfl (fX rfl (fX rfl (fX rfl (eR rfl rfl ?_)))));rintro _ ⟨_,rfl,aP,cP,bP,dP,rfl,hP,kP⟩;refine eR rfl rfl ?_;rintro _ ⟨_,rfl,aP,cP,bP,dP,rfl,hP,kP⟩;refine eR rfl rfl ?_;rintro _ ⟨aP,cP,bP,dP,rfl,hP,kP⟩;refine fX rfl (eR rfl rfl ?_);rintro _ _;refine pY rfl rfl (aO rfl (uQ ?_));intro pe hpe;obtain ⟨rfl,csP,hpe2,⟨aP2,cP2,bP2,dP2,rfl,hP2,kP2⟩⟩:=hpe _ ⟨_,rfl,rfl⟩;obtain ⟨be5,se5⟩:=pe;simp only at hpe2;subst hpe2;refine nT (zG rfl (zN (cO (zS (zM rfl (zJ rfl (zN (gD rfl (aI (fun h=>h rfl)) (eF (bO (dL (bT 0 rfl rfl fG rfl rfl rfl (eG 1 rfl rfl rfl rfl fG rfl rfl rfl rfl rfl (bF (fY (bO (dL (zM rfl (fR rfl rfl (dT zO zO) rfl (zG rfl (bF (eW ((k + 1,_,q + r)) (by show l.length - (k + 1) < l.length - k;omega) (zC) (⟨by show k + 1 ≤ l.length;omega,rfl,⟨_,_,_,_,rfl,hP2,kP2⟩,sV (aNl hqz hrz) zO,oI (p:=fun x : Raw × Raw=>okQ x.1 x.2) hgo hxw hox⟩) zB (gB)))))))))))))))))))))))
  skip
  refine eU [0,2,4] rfl ?_;obtain ⟨bEV,oEV,rfl⟩:=hs.addr zO;obtain ⟨_,xV,hxV,⟨axV,cxV,bxV,dxV,rfl,hdV,heV⟩,hpV⟩:=hs.elem (k) zO;obtain rfl:=eE (hxw.symm.trans hxV);apply aGq (fun _=>True) trivial [9] zD [(10,9)] (fun _ v p _=>v = .pointer (some ⟨p.1,0,none⟩) ∧ p.2 = .cells 56 [.bool false,.slice none 0 0,.bool false,.slice none 0 0]) (fun _ v p _=>v = .pointer (some ⟨p.1,0,none⟩) ∧ p.2 = .cells 56 [.bool false,.slice none 0 0,.bool false,.slice none 0 0]) (fun _ _ _ _ _ _ h=>h) (fun _ _ _ _ _ _ h=>h) 11 [gC _,gC _,gC _,gC _,gC _,gC _,gC _,gC _,gC _,vA,vA] follows zK ⟨aH _,aH _,aH _,aH _,aH _,aH _,aH _,aH _,aH _,lN,lN,trivial⟩ zD zK ?steps5 ?tail5
  case steps5 =>
   refine iN rfl rfl ?_ ?_
   ·intro X ext HD bI _;exact aO rfl (bT 0 rfl rfl fG rfl rfl rfl zR)
   refine iN rfl rfl ?_ ?_
   ·intro X ext HD bI _;exact aO rfl (zM rfl zR)
   refine iN rfl rfl ?_ ?_
   ·intro X ext HD bI _;exact aO rfl (zM rfl zR)
   refine iN rfl rfl ?_ ?_
   ·intro X ext HD bI _;exact fX rfl (fX rfl (aO rfl (fK rfl rfl cJ fG zO zO rfl zR)))
   refine iN rfl rfl ?_ ?_
   ·intro X ext HD bI _;replace hs:=hs.mono bI;replace hZ:=hZ.mono bI;replace kZ:=kZ.mono bI;replace h9:=h9.mono bI;replace k9:=k9.mono bI;replace hpV:=hpV.mono bI;replace hdV:=hdV.mono bI;replace heV:=heV.mono bI;exact fX rfl (aO rfl (eH rfl (by assumption) fG rfl rfl rfl zR))
   refine iN rfl rfl ?_ ?_
   ·intro X ext HD bI _;replace h9:=h9.mono bI;replace k9:=k9.mono bI;replace hdV:=hdV.mono bI;replace heV:=heV.mono bI;exact fX rfl (fX rfl (aO rfl (fH rfl (radd_bad q xw _ _ _ _ _ _ _ _ _ h9 k9 hdV heV (sV hqz zO) (hsz _ (cF hxw)) hox) rfl zR)))
   refine iN rfl rfl ?_ ?_
   ·intro X ext HD bI _;exact fX rfl (aO rfl (zM rfl zR))
   refine iN rfl rfl ?_ ?_
   ·intro X ext HD bI _;exact fX rfl (aO rfl (zX rfl zR))
   refine iN rfl rfl ?_ ?_
   ·intro X ext HD bI _;exact fX rfl (aO rfl (zX rfl zR))
   refine iN rfl rfl ?_ ?_
   ·intro X ext HD bI _;exact aO rfl (fI jD rfl (fun b5=>bF (aBr rfl trivial trivial (⟨rfl,rfl⟩))))
   refine aBi rfl rfl ?_ ?_
   ·intro X ext p HD bI _;refine eR rfl rfl ?_;rintro _ _;refine fX rfl (aO rfl ?_);intro hfo;obtain ⟨be9,se9⟩:=p;obtain ⟨rfl,hse9⟩:=hfo _ _ rfl rfl;simp only at hse9;subst hse9;exact eG 0 rfl rfl rfl rfl fG rfl rfl rfl rfl rfl (bF (aD9 trivial (trivial) (fun u t h1 h2=>by cases (show some _ = some t from h1);cases (show some (Value.pointer _) = some u from h2);exact ⟨rfl,rfl⟩)))
   exact aB8 rfl
  case tail5 =>
   intro HD bI _;replace h9:=h9.mono bI;replace k9:=k9.mono bI;refine fX rfl (fX rfl (fX rfl (fX rfl (fX rfl (fX rfl (fX rfl (fX rfl (fX rfl (eR rfl rfl ?_)))))))));rintro _ _;refine pY rfl rfl (aO rfl (uQ ?_));intro pe hpe;obtain ⟨rfl,hpe2⟩:=hpe _ ⟨_,rfl,rfl⟩;obtain ⟨be5,se5⟩:=pe;simp only at hpe2;subst hpe2;refine nT (zG rfl (zN (cO (zS (zM rfl (zJ rfl (zN (jB rfl (bG zD) (zS (bT 1 rfl rfl fG rfl rfl rfl (eG 1 rfl rfl rfl rfl fG rfl rfl rfl rfl rfl (zG rfl (zN (eP (fD (iS (fD (jR (iS (fD ?_))))))))))))))))))));refine ⟨rfl,_,[],(fN 1 rfl rfl fG rfl rfl (mM rfl iD)),zA,eQ.mk ?_⟩;exact ⟨_,q,rfl,⟨_,_,_,_,rfl,h9,k9⟩,sV hqz zO⟩
 obtain rfl : k = l.length:=zO
 rw [gF] at hgo;exact absurd hgo hbad
end Go.Proofs

namespace Go.Proofs
open Go.XL
theorem aM2 (l : List Rat) (a : Option Addr) (c : Nat) (H : Hp) (hs : SlR jX H a c l) (hl : l.length < 9223372036854775808) (hsz : pW l 499) : iP Tryz.prog 13 #[.slice a l.length c] H [] (eQ (fun v _ _=>v = .bool (decide (mP l = 0)))):=by
 refine iP.intro (args:=[.slice a l.length c]) Tryz.func13 rfl rfl Tryz.ntmps13 rfl rfl rfl fun G rest=>?_;refine zS ?_;refine zG rfl ?_;refine zN ?_;refine zS ?_;refine zM rfl ?_;refine eZ rfl (aLb l _ _ _ hs hl hsz) rfl ?_;rintro _ HS hleS ⟨_,rfl,⟨aS,cS,bS,dS,rfl,hS,kS⟩⟩;refine zM rfl ?_;refine zX rfl ?_;refine zX rfl ?_;refine fI jD rfl (fun b3=>?_);refine eG 0 rfl rfl rfl rfl fG rfl rfl rfl rfl rfl ?_;refine zG rfl ?_;refine zN ?_;refine cO ?_;refine eU [3,4] rfl ?_;apply nX (fun _=>True) trivial 7 [gC _,fun v H=>lJ (0) H v,gC _,gC _,gC _,gC _,gC _] follows zK zK ⟨aH _,kG _,aH _,aH _,aH _,aH _,aH _,trivial⟩ ?steps2 ?tail2
 case steps2 =>
  refine dH rfl ?_ ?_
  ·intro X HD bI _;exact aF rfl (bT 0 rfl rfl fG rfl rfl rfl (bF (eO trivial rfl)))
  refine dH rfl ?_ ?_
  ·intro X HD bI _;refine aF rfl (eZ rfl (aEq 0 zD _) rfl ?_);rintro _ HN kI hNZ;rw [show (((0 : Nat) : Int) : Rat) = 0 from rfl] at hNZ;obtain ⟨aZ,cZ,bZ,dZ,rfl,hZ,kZ⟩:=hNZ;exact bF (eO trivial (⟨_,_,_,_,rfl,hZ,kZ⟩))
  refine dH rfl ?_ ?_
  ·intro X HD bI _;replace hS:=hS.mono bI;replace kS:=kS.mono bI;refine gL rfl (eJ rfl rfl ?_);rintro _ ⟨aZ,cZ,bZ,dZ,rfl,hZ,kZ⟩;exact aF rfl (fH rfl (aOc ⟨_,_,_,_,rfl,hS,kS⟩ ⟨_,_,_,_,rfl,hZ,kZ⟩ (by have:=hsz.1 l.length;rwa [gF] at this) aDm) rfl (bF (eO trivial rfl)))
  refine dH rfl ?_ ?_
  ·intro X HD bI _;exact gL rfl (aF rfl (zM rfl (bF (eO trivial rfl))))
  refine dH rfl ?_ ?_
  ·intro X HD bI _;exact gL rfl (aF rfl (zX rfl (bF (eO trivial rfl))))
  refine dH rfl ?_ ?_
  ·intro X HD bI _;exact gL rfl (aF rfl (zX rfl (bF (eO trivial rfl))))
  refine dH rfl ?_ ?_
  ·intro X HD bI _;exact gL rfl (aF rfl (zG rfl (bF (eO trivial rfl))))
  exact jH rfl
 case tail2 =>
  intro HD bI _;refine gL rfl (eJ rfl rfl ?_);rintro _ ⟨aZ,cZ,bZ,dZ,rfl,hZ,kZ⟩;refine gL rfl (gL rfl (gL rfl (gL rfl (gL rfl (aF rfl (zG rfl (zN (zS (zM rfl (zM rfl (zT rfl rfl (zM rfl (zT rfl rfl (zZ rfl (zV rfl rfl (zM rfl (zT rfl (bG rfl) (zM rfl (zT rfl (bG rfl) (zZ rfl (zV (bG rfl) rfl (zG rfl (zN (eP ?_))))))))))))))))))))))));refine ⟨rfl,_,[],rfl,zA,eQ.mk ?_⟩;exact congrArg Value.bool (decide_eq_decide.2 cmpQ_zero)
theorem zero40_bad (l : List (Raw × Raw)) (a : Option Addr) (c : Nat) (H : Hp) (hs : SlR lS H a c l) (hl : l.length ≤ 20) (hsz : ∀ x ∈ l,aIp x) (hbad : ¬ ∀ x ∈ l,okQ x.1 x.2) : iP Tryz.prog 13 #[.slice a l.length c] H [] (eQ (fun v _ _=>v = .bool false)):=by
 refine iP.intro (args:=[.slice a l.length c]) Tryz.func13 rfl rfl Tryz.ntmps13 rfl rfl rfl fun G rest=>?_;refine zS ?_;refine zG rfl ?_;refine zN ?_;refine zS ?_;refine zM rfl ?_;refine eZ rfl (sum40_bad l _ _ _ hs hl hsz hbad) rfl ?_;rintro _ HS hleS ⟨_,q,rfl,⟨aS,cS,bS,dS,rfl,hS,kS⟩,hqz⟩;refine zM rfl ?_;refine zX rfl ?_;refine zX rfl ?_;refine fI jD rfl (fun b3=>?_);refine eG 0 rfl rfl rfl rfl fG rfl rfl rfl rfl rfl ?_;refine zG rfl ?_;refine zN ?_;refine cO ?_;refine eU [3,4] rfl ?_;apply nX (fun _=>True) trivial 7 [gC _,fun v H=>lJ (0) H v,gC _,gC _,gC _,gC _,gC _] follows zK zK ⟨aH _,kG _,aH _,aH _,aH _,aH _,aH _,trivial⟩ ?steps2 ?tail2
 case steps2 =>
  refine dH rfl ?_ ?_
  ·intro X HD bI _;exact aF rfl (bT 0 rfl rfl fG rfl rfl rfl (bF (eO trivial rfl)))
  refine dH rfl ?_ ?_
  ·intro X HD bI _;refine aF rfl (eZ rfl (aEq 0 zD _) rfl ?_);rintro _ HN kI hNZ;rw [show (((0 : Nat) : Int) : Rat) = 0 from rfl] at hNZ;obtain ⟨aZ,cZ,bZ,dZ,rfl,hZ,kZ⟩:=hNZ;exact bF (eO trivial (⟨_,_,_,_,rfl,hZ,kZ⟩))
  refine dH rfl ?_ ?_
  ·intro X HD bI _;replace hS:=hS.mono bI;replace kS:=kS.mono bI;refine gL rfl (eJ rfl rfl ?_);rintro _ ⟨aZ,cZ,bZ,dZ,rfl,hZ,kZ⟩;exact aF rfl (fH rfl (aOc ⟨_,_,_,_,rfl,hS,kS⟩ ⟨_,_,_,_,rfl,hZ,kZ⟩ (hqz) aDm) rfl (bF (eO trivial rfl)))
  refine dH rfl ?_ ?_
  ·intro X HD bI _;exact gL rfl (aF rfl (zM rfl (bF (eO trivial rfl))))
  refine dH rfl ?_ ?_
  ·intro X HD bI _;exact gL rfl (aF rfl (zX rfl (bF (eO trivial rfl))))
  refine dH rfl ?_ ?_
  ·intro X HD bI _;exact gL rfl (aF rfl (zX rfl (bF (eO trivial rfl))))
  refine dH rfl ?_ ?_
  ·intro X HD bI _;exact gL rfl (aF rfl (zG rfl (bF (eO trivial rfl))))
  exact jH rfl
 case tail2 =>
  intro HD bI _;refine gL rfl (eJ rfl rfl ?_);rintro _ ⟨aZ,cZ,bZ,dZ,rfl,hZ,kZ⟩;refine gL rfl (gL rfl (gL rfl (gL rfl (gL rfl (aF rfl (zG rfl (zN (zS (zM rfl (zM rfl (zU rfl rfl (zU rfl rfl (zW rfl rfl (zM rfl (zU rfl rfl (zU rfl rfl (zW rfl rfl (zG rfl (zN (eP ?_))))))))))))))))))));refine ⟨rfl,_,[],rfl,zA,eQ.mk ?_⟩;rfl
end Go.Proofs

namespace Go.Proofs
open Go.XL
theorem aH6 : ∀ (l : List Rat) (c : Rat),l.foldl (· + ·) c = c + l.foldl (· + ·) 0
 | [],c=>(Rat.add_zero c).symm
 | x :: l,c=>by rw [List.foldl_cons,aH6 l (c + x),List.foldl_cons,aH6 l (0 + x),Rat.zero_add,Rat.add_assoc]
theorem aC6 (a b : List Rat) : mP (a ++ b) = mP a + mP b:=by unfold mP;rw [List.foldl_append,aH6]
theorem aF8 (x : Rat) : mP [x] = x:=Rat.zero_add x
theorem aEa (x : Rat) (l : List Rat) : mP (x :: l) = x + mP l:=by
 rw [show x :: l = [x] ++ l from rfl,aC6,aF8]
def Wf (x : Mk) (i k : Nat) : Rat:=if thB x i k then 1 else 0
def Mf (x : Mk) (i k : Nat) : Int:=(x.getD i []).getD k (-1)
theorem aKy {x : Mk} {i k : Nat} (h : Mf x i k ≠ -1) : Wf x i k = 1:=by unfold Wf thB;unfold Mf at h;rw [bG h];rfl
theorem aTk {x : Mk} {i k : Nat} (h : ¬ Mf x i k ≠ -1) : Wf x i k = 0:=by unfold Wf thB;unfold Mf at h;rw [aI h];rfl
theorem aVw (x : Mk) (i k : Nat) : 0 ≤ Wf x i k:=by unfold Wf;split <;> grind
theorem aMg (f : Kn → Rat) (i : Nat) (l : List Int) : ∀ k,mP ((qN i l k).map f) = iK (fun j=>if l.getD j (-1) ≠ -1 then f ((i,j),l.getD j (-1)) else 0) k
 | 0=>rfl
 | k + 1=>by
  rw [qN,List.map_append,aC6,aMg f i l k,iK]
  congr 1
  split
  ·exact aF8 _
  rfl
theorem aNb (f : Kn → Rat) (x : Mk) : ∀ n,mP ((sA x n).map f) = iK (fun a=>iK (fun j=>if Mf x a j ≠ -1 then f ((a,j),Mf x a j) else 0) (x.getD a []).length) n
 | 0=>rfl
 | n + 1=>by
  rw [sA,List.map_append,aC6,aNb f x n,iK,aMg];rfl
theorem tR {x : Mk} (hok : oF x) {a : Nat} (ha : a < x.length) : (x.getD a []).length = fO x:=by
 rw [jE (aJ ha)];exact (hok.2.2 _ (List.getElem_mem ha)).1
theorem aRc {x : Mk} (hok : oF x) (f : Kn → Rat) : mP ((jW x).map f) = iK (fun a=>iK (fun j=>Wf x a j * f ((a,j),Mf x a j)) (fO x)) x.length:=by
 unfold jW;rw [aNb];refine gX fun a ha=>?_;rw [tR hok ha];refine gX fun j _=>?_;by_cases h : Mf x a j ≠ -1
 ·rw [eX h,aKy h,Rat.one_mul]
 rw [dG h,aTk h,Rat.zero_mul]
theorem aFi (P : Kn → Bool) (f : Kn → Rat) : ∀ K : List Kn,mP ((K.filter P).map f) = mP (K.map fun p=>if P p then f p else 0)
 | []=>rfl
 | p :: K=>by
  rw [List.filter_cons,List.map_cons,aEa,← aFi P f K];by_cases h : P p = true
  ·rw [eX h,eX h,List.map_cons,aEa]
  rw [dG h,dG h,Rat.zero_add]
theorem aEf : ∀ l : List Int,((aA5 l : Int) : Rat) = mP (l.map fun z : Int=>(z : Rat))
 | []=>rfl
 | z :: l=>by rw [aA6,List.map_cons,aEa,← aEf l,Rat.intCast_add]
theorem aPj {α : Type} : ∀ l : List α,((l.length : Nat) : Rat) = mP (l.map fun _=>1)
 | []=>rfl
 | z :: l=>by rw [jL,List.map_cons,aEa,← aPj l,Rat.natCast_add,Rat.add_comm];rfl
theorem aEo {n i : Nat} (g : Nat → Rat) (hi : i < n) : iK (fun a=>if a = i then g a else 0) n = g i:=by
 have : iK (fun a=>if a = i then g a else 0) n = iK (fun a=>if a = i then g i else 0) n:=gX fun a _=>by split <;> simp_all
 rw [this];exact tJ hi (g i)
theorem aNo {x : Mk} (hok : oF x) {i : Nat} (hi : i < x.length) (f : Kn → Rat) : mP (((jW x).filter fun p=>p.1.1 == i).map f) = iK (fun j=>Wf x i j * f ((i,j),Mf x i j)) (fO x):=by
 rw [aFi,aRc hok]
 have : iK (fun a=>iK (fun j=>Wf x a j * (if ((((a,j),Mf x a j) : Kn).1.1 == i) = true then f ((a,j),Mf x a j) else 0)) (fO x)) x.length = iK (fun a=>if a = i then iK (fun j=>Wf x a j * f ((a,j),Mf x a j)) (fO x) else 0) x.length:=by
  refine gX fun a _=>?_;by_cases h : a = i
  ·subst h;rw [eX rfl];exact gX fun j _=>by simp
  rw [dG h];exact oX fun j _=>by simp [h]
 rw [this];exact aEo _ hi
theorem aO3 {x : Mk} (hok : oF x) {k : Nat} (hk : k < fO x) (f : Kn → Rat) : mP (((jW x).filter fun p=>p.1.2 == k).map f) = iK (fun a=>Wf x a k * f ((a,k),Mf x a k)) x.length:=by
 rw [aFi,aRc hok];refine gX fun a _=>?_
 have : iK (fun j=>Wf x a j * (if ((((a,j),Mf x a j) : Kn).1.2 == k) = true then f ((a,j),Mf x a j) else 0)) (fO x) = iK (fun j=>if j = k then Wf x a j * f ((a,j),Mf x a j) else 0) (fO x) :=
  gX fun j _=>by
   by_cases h : j = k
   ·subst h;simp
   simp [h]
 rw [this];exact aEo (fun j=>Wf x a j * f ((a,j),Mf x a j)) hk
def Cf (x : Mk) (i : Nat) : Rat:=iK (fun j=>Wf x i j) (fO x)
def Tf (x : Mk) (i : Nat) : Rat:=iK (fun j=>Wf x i j * (Mf x i j : Rat)) (fO x)
theorem aId {x : Mk} (hok : oF x) {i : Nat} (hi : i < x.length) : ((qO (jW x) i : Nat) : Rat) = Cf x i:=by
 unfold qO Cf;rw [aPj,aNo hok hi];exact gX fun j _=>Rat.mul_one _
theorem aT8 {x : Mk} (hok : oF x) {i : Nat} (hi : i < x.length) : ((rQ (jW x) i : Int) : Rat) = Tf x i:=by
 unfold rQ Tf;rw [aEf,List.map_map,aNo hok hi];rfl
theorem aSa {x : Mk} (hok : oF x) {i : Nat} (hi : i < x.length) : qO (jW x) i ≤ 4:=by
 have h1 : ∀ n,iK (fun j=>Wf x i j) n ≤ (n : Rat):=by
  intro n
  induction n with
  | zero=>exact Rat.le_refl
  | succ n ih =>
   have h : Wf x i n ≤ 1:=by unfold Wf;split <;> grind
   rw [iK,Rat.natCast_add];have : ((1 : Nat) : Rat) = 1:=rfl;rw [this];grind
 have h2 : ((qO (jW x) i : Nat) : Rat) ≤ (fO x : Nat):=by rw [aId hok hi];exact h1 _
 have h3:=hok.2.1;have h4 : qO (jW x) i ≤ fO x:=by exact_mod_cast h2
 omega
theorem sh_F {x : Mk} (hok : oF x) {i : Nat} (hi : i < x.length) (h0 : 0 < qO (jW x) i) : ((shK (jW x) i : Int) : Rat) * Cf x i = 720720:=by
 have h4:=aSa hok hi;rw [← aId hok hi];unfold shK;generalize qO (jW x) i = c at *;have : c = 1 ∨ c = 2 ∨ c = 3 ∨ c = 4:=zO
 have e : (720720 / ((c : Nat) : Int)) * ((c : Nat) : Int) = 720720:=by rcases this with rfl | rfl | rfl | rfl <;> decide
 have e2:=congrArg (fun z : Int=>(z : Rat)) e;simp only [Rat.intCast_mul] at e2;exact e2
end Go.Proofs

namespace Go.Proofs
open Go.XL
def If (x : Mk) (i : Nat) : Rat:=((shK (jW x) i : Int) : Rat) / 720720
theorem aXo {x : Mk} (hok : oF x) {i : Nat} (hi : i < x.length) (h0 : 0 < qO (jW x) i) : If x i * Cf x i = 1:=by
 have h:=sh_F hok hi h0;unfold If;grind
theorem aQm {x : Mk} (hok : oF x) {i k : Nat} (hi : i < x.length) (hk : k < fO x) (h : Mf x i k ≠ -1) : 0 < qO (jW x) i:=by
 have h1 : x[i]? = some (x.getD i []):=by rw [dB,aJ hi];rfl
 have h2 : (x.getD i [])[k]? = some (Mf x i k):=by
  have hl:=tR hok hi;unfold Mf;rw [dB (l:=x.getD i []),aJ zO];rfl
 exact aQa (x:=((i,k),Mf x i k)) (aLy h1 h2 h)
theorem aXx {x : Mk} (hok : oF x) {i k : Nat} (hi : i < x.length) (hk : k < fO x) : Wf x i k * (If x i * Cf x i) = Wf x i k:=by
 by_cases h : Mf x i k ≠ -1
 ·rw [aXo hok hi (aQm hok hi hk h),Rat.mul_one]
 rw [aTk h,Rat.zero_mul]
theorem aAz (z : Int) : uZ z = (z : Rat) / 720720:=by unfold uZ;rw [Rat.divInt_eq_div];rfl
def Af (x : Mk) (k j : Nat) : Rat:=iK (fun i=>Wf x i k * ((if j = k then 1 else 0) - Wf x i j * If x i)) x.length
def Bf (x : Mk) (k : Nat) : Rat:=iK (fun i=>Wf x i k * ((Mf x i k : Rat) - Tf x i * If x i)) x.length
theorem aQe (f : Nat → Rat) (c : Rat) : ∀ n,iK (fun i=>f i / c) n = iK f n / c:=by
 intro n;have:=lQ (1 / c) f n;rw [show iK (fun i=>f i / c) n = iK (fun i=>1 / c * f i) n from gX fun i _=>by grind,this];grind
theorem aWy {x : Mk} (hok : oF x) {k j : Nat} (hk : k < fO x) : uZ (aE x (jW x) (jW x) k j) = Af x k j:=by
 rw [aAz];unfold aE Af;rw [aEf,List.map_map,aO3 hok hk,← aQe];refine gX fun i hi=>?_
 have : (((fun z : Int=>(z : Rat)) ∘ aT1 x (jW x) k j) (((i,k),Mf x i k) : Kn)) = 720720 * ((if j = k then (1 : Rat) else 0) - Wf x i j * If x i):=by
  simp only [Function.comp,aT1];rw [Rat.intCast_sub];have e1 : (((if j = k then 720720 else 0 : Int) : Int) : Rat) = 720720 * (if j = k then (1 : Rat) else 0):=by split <;> grind
  have e2 : (((if thB x i j = true then shK (jW x) i else 0 : Int) : Int) : Rat) = 720720 * (Wf x i j * If x i):=by
   unfold Wf If;split <;> grind
  rw [e1,e2];grind
 rw [this];grind
theorem aWi {x : Mk} (hok : oF x) {k : Nat} (hk : k < fO x) : uZ (bE (jW x) (jW x) k) = Bf x k:=by
 rw [aAz];unfold bE Bf;rw [aEf,List.map_map,aO3 hok hk,← aQe];refine gX fun i hi=>?_
 have : (((fun z : Int=>(z : Rat)) ∘ bT1 (jW x)) (((i,k),Mf x i k) : Kn)) = 720720 * ((Mf x i k : Rat) - Tf x i * If x i):=by
  simp only [Function.comp,bT1];rw [Rat.intCast_sub,Rat.intCast_mul,Rat.intCast_mul,aT8 hok hi];unfold If;grind
 rw [this];grind
def Zf (x : Mk) (z : Nat → Rat) (i : Nat) : Rat:=iK (fun j=>Wf x i j * z j) (fO x)
theorem aWg {x : Mk} {k : Nat} (hk : k < fO x) (z : Nat → Rat) : iK (fun j=>Af x k j * z j) (fO x) = iK (fun i=>Wf x i k * (z k - If x i * Zf x z i)) x.length:=by
 have e1 : iK (fun j=>Af x k j * z j) (fO x) = iK (fun j=>iK (fun i=>Wf x i k * ((if j = k then 1 else 0) - Wf x i j * If x i) * z j) x.length) (fO x) :=
  gX fun j _=>by
   unfold Af;rw [Rat.mul_comm,← lQ];exact gX fun i _=>by grind
 rw [e1,wI];refine gX fun i _=>?_
 have e2 : iK (fun j=>Wf x i k * ((if j = k then 1 else 0) - Wf x i j * If x i) * z j) (fO x) = iK (fun j=>Wf x i k * ((if j = k then z j else 0) - If x i * (Wf x i j * z j))) (fO x) :=
  gX fun j _=>by split <;> grind
 rw [e2,lQ,oZ,lQ,aEo _ hk];rfl
theorem aDv {f : Nat → Rat} : ∀ {n : Nat},(∀ i,i < n → 0 ≤ f i) → 0 ≤ iK f n
 | 0,_=>Rat.le_refl
 | n + 1,h=>by
  have h1:=aDv (f:=f) (n:=n) fun i hi=>h i zO;have h2:=h n zO;rw [iK];grind
theorem aA1 {f : Nat → Rat} : ∀ {n : Nat},(∀ i,i < n → 0 ≤ f i) → iK f n = 0 → ∀ i,i < n → f i = 0
 | 0,_,_,i,hi=>zO
 | n + 1,h,h0,i,hi=>by
  have h1:=aDv (f:=f) (n:=n) fun i hi=>h i zO;have h2:=h n zO;rw [iK] at h0;have h3 : iK f n = 0:=by grind
  have h4 : f n = 0:=by grind
  by_cases e : i = n
  ·rw [e];exact h4
  exact aA1 (fun i hi=>h i zO) h3 i zO
theorem W_Z {x : Mk} (hok : oF x) {i : Nat} (hi : i < x.length) (z : Nat → Rat) : Zf x z i = If x i * Cf x i * Zf x z i :=
 (show Zf x z i = iK (fun j=>(If x i * Cf x i) * (Wf x i j * z j)) (fO x) from gX fun j hj=>by have:=aXx hok hi hj;grind).trans (lQ _ _ _)
theorem row_sq {x : Mk} (hok : oF x) {i : Nat} (hi : i < x.length) (z : Nat → Rat) :
  iK (fun k=>z k * (Wf x i k * (z k - If x i * Zf x z i))) (fO x) = iK (fun k=>Wf x i k * ((z k - If x i * Zf x z i) * (z k - If x i * Zf x z i))) (fO x):=by
 have e : iK (fun k=>Wf x i k * (z k - If x i * Zf x z i)) (fO x) = 0:=by
  have e1 : iK (fun k=>Wf x i k * (z k - If x i * Zf x z i)) (fO x) = iK (fun k=>Wf x i k * z k - (If x i * Zf x z i) * Wf x i k) (fO x):=gX fun k _=>by grind
  rw [e1,oZ,lQ];have:=W_Z hok hi z;show Zf x z i - If x i * Zf x z i * Cf x i = 0
  grind
 have e2 : iK (fun k=>Wf x i k * ((z k - If x i * Zf x z i) * (z k - If x i * Zf x z i))) (fO x) = iK (fun k=>z k * (Wf x i k * (z k - If x i * Zf x z i)) - (If x i * Zf x z i) * (Wf x i k * (z k - If x i * Zf x z i))) (fO x):=gX fun k _=>by grind
 rw [e2,oZ,lQ,e];grind
theorem aVk (a : Rat) : 0 ≤ a * a:=by
 rcases Rat.le_total (a:=0) (b:=a) with h | h
 ·exact Rat.mul_nonneg h h
 have h2:=Rat.mul_nonneg (show 0 ≤ -a by grind) (show 0 ≤ -a by grind);have h3 : -a * -a = a * a:=by grind
 rwa [h3] at h2
theorem ker_edge {x : Mk} (hok : oF x) {z : Nat → Rat} (h : ∀ k,k < fO x → iK (fun j=>Af x k j * z j) (fO x) = 0) {i k : Nat} (hi : i < x.length) (hk : k < fO x) (hm : Mf x i k ≠ -1) : z k = If x i * Zf x z i:=by
 have h1 : iK (fun k=>z k * iK (fun j=>Af x k j * z j) (fO x)) (fO x) = 0:=oX fun k hk=>by rw [h k hk];exact Rat.mul_zero _
 have h2 : iK (fun k=>z k * iK (fun j=>Af x k j * z j) (fO x)) (fO x) = iK (fun i=>iK (fun k=>Wf x i k * ((z k - If x i * Zf x z i) * (z k - If x i * Zf x z i))) (fO x)) x.length:=by
  have e1 : iK (fun k=>z k * iK (fun j=>Af x k j * z j) (fO x)) (fO x) = iK (fun k=>iK (fun i=>z k * (Wf x i k * (z k - If x i * Zf x z i))) x.length) (fO x) :=
   gX fun k hk=>by rw [aWg hk,← lQ]
  rw [e1,wI];exact gX fun i hi=>row_sq hok hi z
 rw [h1] at h2;have sq : ∀ a : Rat,0 ≤ a * a:=aVk;have t1 : ∀ i k,0 ≤ Wf x i k * ((z k - If x i * Zf x z i) * (z k - If x i * Zf x z i)):=fun i k=>Rat.mul_nonneg (aVw x i k) (sq _);have h3:=aA1 (fun i _=>aDv fun k _=>t1 i k) h2.symm i hi;have h4:=aA1 (fun k _=>t1 i k) h3 k hk;rw [aKy hm,Rat.one_mul] at h4
 have h5 : z k - If x i * Zf x z i = 0:=by
  rcases Rat.mul_eq_zero.1 h4 with h | h <;> exact h
 grind
end Go.Proofs

namespace Go.Proofs
open Go.XL
theorem aC1 (x : Mk) : lA (rL x) = fO x:=by
 cases x with
 | nil=>rfl
 | cons r l=>simp [rL,lA,fO,grR]
theorem grB_getD (x : Mk) (i k : Nat) : ((rL x).getD i []).getD k false = decide (Mf x i k ≠ -1):=by
 unfold Mf;by_cases hi : i < x.length
 ·rw [jE (aC8 (aJ hi)),jE (aJ hi)];by_cases hk : k < x[i].length
  ·rw [jE (aC3 (aJ hk)),jE (aJ hk)]
  rw [dB,dJ (by rw [vU];omega),dB,dJ zO];rfl
 rw [show (rL x).getD i [] = [] by rw [dB,dJ (by rw [mY];omega)];rfl,show x.getD i [] = [] by rw [dB,dJ zO];rfl];rfl
theorem aI3 {x : Mk} (hok : oF x) : okG (rL x):=by
 refine ⟨by rw [mY];have:=hok.1;omega,fun r hr=>?_⟩;obtain ⟨l,hl,rfl⟩:=gS.1 hr;rw [aC1,vU];have h1:=(hok.2.2 l hl).1;have h2:=hok.2.1;exact ⟨h1,zO⟩
theorem aN8 {x : Mk} (hok : oF x) : qV (rL x) = 0:=aI2.2 (aI3 hok)
theorem aFo {x : Mk} (hok : oF x) (htr : trP (rL x)) {f : Nat → Rat} (h : ∀ i k,i < x.length → k < fO x → Mf x i k ≠ -1 → f i = f (x.length + k)) {u v : Nat} (hu : u < x.length + fO x) (hv : v < x.length + fO x) : f u = f v:=by
 have hall:=(p_iff (aI3 hok) (aL1 _)).1 htr.2;have hc:=hall u v (aNw.2 (by rw [mY,aC1];exact hu)) (aNw.2 (by rw [mY,aC1];exact hv));rw [mY] at hc;clear hu hv
 induction hc with
 | refl x=>rfl
 | edge e he =>
  obtain ⟨h1,h2,h3⟩:=aOx (aI3 hok) he;obtain ⟨_,g2,_⟩:=(aJn _).1 he;rw [grB_getD] at g2;rw [mY] at h1;rw [aC1] at h2;exact h e.1 e.2 h1 h2 (eT g2)
 | symm _ ih=>exact ih.symm
 | trans _ _ ih1 ih2=>exact ih1.trans ih2
theorem aJb (c : Rat) : ∀ n : Nat,iK (fun _=>c) n = n * c
 | 0=>by rw [iK];exact (Rat.zero_mul c).symm
 | n + 1=>by rw [iK,aJb c n,Rat.natCast_add];have : ((1 : Nat) : Rat) = 1:=rfl;rw [this];grind
theorem aJk {n : Nat} {z : Nat → Rat} (hn : 0 < n) (hc : ∀ k,k < n → z k = z 0) (hs : iK z n = 0) : ∀ k,k < n → z k = 0:=by
 have h1 : iK z n = n * z 0:=(gX hc).trans (aJb (z 0) n);rw [hs] at h1;have h2 : (n : Rat) ≠ 0:=aV6 hn
 have h3 : z 0 = 0:=by
  rcases Rat.mul_eq_zero.1 h1.symm with h | h
  ·exact absurd h h2
  exact h
 intro k hk;rw [hc k hk,h3]
theorem aQq {x : Mk} (hok : oF x) (htr : trP (rL x)) (hw0 : 0 < fO x) {z : Nat → Rat} (h : ∀ k,k < fO x → iK (fun j=>Af x k j * z j) (fO x) = 0) (hs : iK z (fO x) = 0) : ∀ k,k < fO x → z k = 0:=by
 refine aJk hw0 (fun k hk=>?_) hs
 have:=aFo hok htr (f:=fun u=>if u < x.length then If x u * Zf x z u else z (u - x.length)) (fun i k hi hk hm=>by
  show (if i < x.length then If x i * Zf x z i else z (i - x.length)) = (if x.length + k < x.length then If x (x.length + k) * Zf x z (x.length + k) else z (x.length + k - x.length))
  rw [eX hi,dG zO,show x.length + k - x.length = k by omega,ker_edge hok h hi hk hm]) (u:=x.length + k) (v:=x.length + 0) zO zO
 change (if x.length + k < x.length then If x (x.length + k) * Zf x z (x.length + k) else z (x.length + k - x.length)) = (if x.length + 0 < x.length then If x (x.length + 0) * Zf x z (x.length + 0) else z (x.length + 0 - x.length)) at this;rw [dG zO,dG zO,show x.length + k - x.length = k by omega,show x.length + 0 - x.length = 0 by omega] at this;exact this
abbrev aEt (x : Mk) : List (List Rat):=aAc (aQ x) (bQ x)
theorem aFin_at {x : Mk} {k : Nat} (hk : k < fO x) : (aH0 x)[k]? = some (uL x (jW x) (jW x) (fO x) k):=by
 unfold aH0;rw [List.getElem?_set_ne zO,aDt zO]
theorem aFin_last (x : Mk) : (aH0 x)[fO x]? = some (List.replicate (fO x) 720720):=by
 unfold aH0;rw [List.getElem?_set_self (by rw [uT];omega)]
theorem aVg {x : Mk} {k : Nat} (hk : k < fO x + 1) : (bQ x)[k]? = some (uZ (bE (jW x) (jW x) k)):=aBb (aEe hk)
theorem aRk {x : Mk} {k : Nat} (hk : k < fO x) : (aEt x)[k]? = some (aCr (uL x (jW x) (jW x) (fO x) k) ++ [uZ (bE (jW x) (jW x) k)]):=aI9 (aRs (aFin_at hk)) (aVg zO)
theorem aK4 (x : Mk) : (aEt x)[fO x]? = some (aCr (List.replicate (fO x) 720720) ++ [uZ (bE (jW x) (jW x) (fO x))]):=aI9 (aRs (aFin_last x)) (aVg zO)
theorem bE_last {x : Mk} (hok : oF x) : bE (jW x) (jW x) (fO x) = 0:=by
 have : (jW x).filter (fun p=>p.1.2 == fO x) = []:=List.filter_eq_nil_iff.2 fun p hp h=>by
  obtain ⟨l,h1,h2,_⟩:=aAf hp;have h3:=(hok.at h1).1;have h4:=(bY.1 h2).1;have h5 : p.1.2 = fO x:=by simpa using h
  omega
 unfold bE;rw [this];rfl
theorem aEp {r : List Rat} {q : Rat} {j : Nat} : (r ++ [q]).getD j 0 = if j < r.length then r.getD j 0 else if j = r.length then q else 0:=by
 rw [dB,dB];by_cases h : j < r.length
 ·rw [eX h,List.getElem?_append_left h]
 rw [dG h,List.getElem?_append_right zO];by_cases e : j = r.length
 ·rw [eX e,e];simp
 rw [dG e,dJ zI];rfl
theorem aUl {x : Mk} (hok : oF x) {k j : Nat} (hk : k < fO x) (hj : j < fO x) : kJ (aEt x) k j = Af x k j:=by
 rw [sU (aRk hk),aEp,eX (by rw [qX,mT];exact hj),jE (aBb (aBe hj)),aWy hok hk]
theorem aWv {x : Mk} (hok : oF x) {k : Nat} (hk : k < fO x) : kJ (aEt x) k (fO x) = Bf x k:=by
 rw [sU (aRk hk),aEp,dG (by rw [qX,mT];omega),eX (by rw [qX,mT]),aWi hok hk]
theorem aT2 {x : Mk} {j : Nat} (hj : j < fO x) : kJ (aEt x) (fO x) j = 1:=by
 rw [sU (aK4 x),aEp,eX (by rw [qX,gR];exact hj),jE (aBb (r:=List.replicate (fO x) 720720) (z:=720720) (by rw [List.getElem?_replicate,eX hj])),aAz];grind
theorem ent_B1 {x : Mk} (hok : oF x) : kJ (aEt x) (fO x) (fO x) = 0:=by
 rw [sU (aK4 x),aEp,dG (by rw [qX,gR];omega),eX (by rw [qX,gR]),bE_last hok,aAz];grind
theorem aug_wide (x : Mk) : pP (aEt x) (fO x + 1) (fO x + 1):=by
 have hl : (aEt x).length = fO x + 1:=by rw [aJ4 (by rw [aOt,aHk]),aHk]
 refine ⟨hl,fun r hr=>?_⟩;obtain ⟨k,hk⟩:=List.getElem?_of_mem hr;have hkl:=(bY.1 hk).1;by_cases e : k < fO x
 ·rw [aRk e] at hk;rw [← eE hk];simp [qX,mT]
 have e : k = fO x:=zO
 subst e;rw [aK4] at hk;rw [← eE hk];simp [qX]
theorem col_zero {x : Mk} (hok : oF x) {j : Nat} (hj : j < fO x) : iK (fun k=>Af x k j) (fO x) = 0:=by
 unfold Af;rw [wI];refine oX fun i hi=>?_
 have e : iK (fun k=>Wf x i k * ((if j = k then 1 else 0) - Wf x i j * If x i)) (fO x) = iK (fun k=>(if k = j then Wf x i k else 0) - (Wf x i j * If x i) * Wf x i k) (fO x) :=
  gX fun k _=>by
   by_cases h : k = j
   ·rw [eX h,eX h.symm];grind
   rw [dG h,dG (fun e=>h e.symm)];grind
 rw [e,oZ,lQ,aEo _ hj];have:=aXx hok hi hj;show Wf x i j - Wf x i j * If x i * Cf x i = 0
 grind
theorem rhs_zero {x : Mk} (hok : oF x) : iK (fun k=>Bf x k) (fO x) = 0:=by
 unfold Bf;rw [wI];refine oX fun i hi=>?_;have e : iK (fun k=>Wf x i k * ((Mf x i k : Rat) - Tf x i * If x i)) (fO x) = iK (fun k=>Wf x i k * (Mf x i k : Rat) - (Tf x i * If x i) * Wf x i k) (fO x):=gX fun k _=>by grind
 rw [e,oZ,lQ];have h:=W_Z hok hi fun k=>(Mf x i k : Rat)
 show Tf x i - Tf x i * If x i * Cf x i = 0;have h2 : Zf x (fun k=>(Mf x i k : Rat)) i = Tf x i:=rfl;rw [h2] at h
 grind
theorem aOq {x : Mk} (hok : oF x) (htr : trP (rL x)) (hw0 : 0 < fO x) : StR (aEt x) (fO x + 1) (fO x) 0 where
 wide:=aug_wide x
 rig:=fun z hz k hk=>by
  refine aQq hok htr hw0 (fun k hk=>?_) ?_ k hk
  ·have:=hz k zO;rw [← this];exact gX fun j hj=>by show _ = kJ (aEt x) k j * z j;rw [aUl hok hk hj]
  have:=hz (fO x) zO;rw [← this];exact gX fun j hj=>by show _ = kJ (aEt x) (fO x) j * z j;rw [aT2 hj,Rat.one_mul]
 id:=fun c hc=>zO
 ln:=by
  refine ⟨fun j=>if j < fO x then 1 else 0,⟨0,zO,by simp [hw0]⟩,fun j hj=>zO,fun c hc=>?_⟩;rw [iK];show _ + (if fO x < fO x then (1 : Rat) else 0) * _ = 0;rw [dG zO,Rat.zero_mul,Rat.add_zero];have e : ∀ c,iK (fun j=>(if j < fO x then (1 : Rat) else 0) * kJ (mB (aEt x) 0) j c) (fO x) = iK (fun j=>kJ (aEt x) j c) (fO x):=fun c=>gX fun j hj=>by rw [eX hj,Rat.one_mul];rfl
  rw [e];by_cases h : c < fO x
  ·rw [show iK (fun j=>kJ (aEt x) j c) (fO x) = iK (fun k=>Af x k c) (fO x) from gX fun j hj=>aUl hok hj h];exact col_zero hok h
  obtain rfl : c = fO x:=zO
  rw [show iK (fun j=>kJ (aEt x) j (fO x)) (fO x) = iK (fun k=>Bf x k) (fO x) from gX fun j hj=>aWv hok hj];exact rhs_zero hok
 sol:=fun y hy=>hy
end Go.Proofs

set_option linter.unusedSectionVars false
namespace Go.Proofs
open Go.XL
def Sv (x : Mk) (k : Nat) : Rat:=(jV x).getD k 0
def Qv (x : Mk) (i : Nat) : Rat:=(rA x (jV x)).getD i 0
section
variable {x : Mk} (hok : oF x) (htr : trP (rL x)) (hw0 : 0 < fO x)
include hok htr hw0
theorem aU6 {k : Nat} (hk : k < fO x) : Sv x k = kJ (mB (aEt x) (fO x)) k (fO x):=jE (aR0 hk)
theorem aWj {k : Nat} (hk : k < fO x) : iK (fun j=>Af x k j * Sv x j) (fO x) = Bf x k:=by
 have h:=(StR.all (aOq hok htr hw0) zO (fO x) (gT _)).solves k zO;rw [aWv hok hk] at h;rw [← h];exact gX fun j hj=>by rw [aU6 hok htr hw0 hj,aUl hok hk hj]
theorem aSu : iK (Sv x) (fO x) = 0:=by
 have h:=(StR.all (aOq hok htr hw0) zO (fO x) (gT _)).solves (fO x) zO;rw [ent_B1 hok] at h;rw [← h];exact gX fun j hj=>by rw [aU6 hok htr hw0 hj,aT2 hj,Rat.one_mul]
theorem aAs {i : Nat} (hi : i < x.length) : 0 < qO (jW x) i:=by
 refine Nat.pos_of_ne_zero fun h0=>?_
 have:=aFo hok htr (f:=fun u=>if u = i then 1 else 0) (fun a k ha hk hm=>by
  show (if a = i then (1 : Rat) else 0) = if x.length + k = i then 1 else 0
  rw [dG (fun e=>by subst e;have:=aQm hok ha hk hm;omega),dG zO]) (u:=i) (v:=x.length + 0) zO zO
 change (if i = i then (1 : Rat) else 0) = if x.length + 0 = i then 1 else 0 at this
 rw [eX rfl,dG zO] at this;exact absurd this zD
omit htr hw0 hok in
theorem aF7 (X : List Rat) (l : List Int) (q : Rat) : ∀ k,tT X l q k = q - iK (fun j=>(if l.getD j (-1) ≠ -1 then 1 else 0) * X.getD j 0) k
 | 0=>by rw [tT,iK];grind
 | k + 1=>by
  rw [tT,iK,aF7 X l q k];split <;> grind
theorem aOr {i : Nat} (hi : i < x.length) : Qv x i * Cf x i = Tf x i - Zf x (Sv x) i:=by
 have h0:=aAs hok htr hw0 hi;have hc : Cf x i ≠ 0:=by rw [← aId hok hi];exact aV6 h0
 have h1 : Qv x i = aPq x (jV x) i:=jE (aD2 hi);rw [h1];unfold aPq;rw [aF7,tR hok hi,aT8 hok hi];have h2 : (((qO (jW x) i : Nat) : Int) : Rat) = Cf x i:=aId hok hi;rw [h2]
 have h3 : iK (fun j=>(if (x.getD i []).getD j (-1) ≠ -1 then (1 : Rat) else 0) * (jV x).getD j 0) (fO x) = Zf x (Sv x) i:=by
  unfold Zf Wf thB Sv
  exact gX fun j _=>by
   by_cases h : (x.getD i []).getD j (-1) ≠ -1
   ·rw [eX h,bG h];rfl
   rw [dG h,aI h];rfl
 rw [h3,Rat.div_mul_cancel hc]
theorem qua_If {i : Nat} (hi : i < x.length) : Qv x i = (Tf x i - Zf x (Sv x) i) * If x i:=by
 have h1:=aOr hok htr hw0 hi;have h2:=aXo hok hi (aAs hok htr hw0 hi);rw [← h1]
 grind
theorem aS7 {i : Nat} (hi : i < x.length) : iK (fun j=>Wf x i j * ((Mf x i j : Rat) - Qv x i - Sv x j)) (fO x) = 0:=by
 have e : iK (fun j=>Wf x i j * ((Mf x i j : Rat) - Qv x i - Sv x j)) (fO x) = iK (fun j=>(Wf x i j * (Mf x i j : Rat) - Qv x i * Wf x i j) - Wf x i j * Sv x j) (fO x):=gX fun j _=>by grind
 rw [e,oZ,oZ,lQ];have:=aOr hok htr hw0 hi;show Tf x i - Qv x i * Cf x i - Zf x (Sv x) i = 0
 grind
theorem aNp {k : Nat} (hk : k < fO x) : iK (fun i=>Wf x i k * ((Mf x i k : Rat) - Qv x i - Sv x k)) x.length = 0:=by
 have e : iK (fun i=>Wf x i k * ((Mf x i k : Rat) - Qv x i - Sv x k)) x.length = iK (fun i=>Wf x i k * ((Mf x i k : Rat) - Tf x i * If x i) - Wf x i k * (Sv x k - If x i * Zf x (Sv x) i)) x.length :=
  gX fun i hi=>by rw [qua_If hok htr hw0 hi];grind
 rw [e,oZ,← aWg hk,aWj hok htr hw0 hk];show Bf x k - Bf x k = 0
 grind
end
theorem aHv : ∀ l : List Rat,mP l = iK (fun k=>l.getD k 0) l.length:=by
 intro l
 have h : ∀ n,n ≤ l.length → mP (l.take n) = iK (fun k=>l.getD k 0) n:=by
  intro n
  induction n with
  | zero=>intro _;rfl
  | succ n ih =>
   intro hn;obtain ⟨y,hy⟩ : ∃ y,l[n]? = some y:=⟨_,aJ zO⟩
   rw [jK hy,aB0,ih zO,iK,jE hy]
 have:=h l.length (gT _);rwa [gF] at this
theorem aUm {x : Mk} (hok : oF x) (Q S : List Rat) : aDp x Q S = iK (fun i=>iK (fun k=>Wf x i k * (((Mf x i k : Rat) - Q.getD i 0 - S.getD k 0) * ((Mf x i k : Rat) - Q.getD i 0 - S.getD k 0))) (fO x)) x.length:=by
 unfold aDp;rw [aRc hok];rfl
section
variable {x : Mk} (hok : oF x) (htr : trP (rL x)) (hw0 : 0 < fO x)
include hok htr hw0
theorem fit_chk : aXp x (rA x (jV x)) (jV x):=by
 intro l hl;rcases gM.1 hl with h | h
 ·rcases gM.1 h with h | h
  ·obtain ⟨i,hi,rfl⟩:=gS.1 h;have hi:=fA.1 hi;rw [aNo hok hi];exact aS7 hok htr hw0 hi
  obtain ⟨k,hk,rfl⟩:=gS.1 h;have hk:=fA.1 hk;rw [aO3 hok hk];exact aNp hok htr hw0 hk
 obtain rfl:=lW.1 h;rw [aHv,tM];exact aSu hok htr hw0
theorem sev_sum : mP (jV x) = 0:=by rw [aHv,tM];exact aSu hok htr hw0
theorem aLs (Q S : List Rat) : aDp x Q S = aDp x (rA x (jV x)) (jV x) + iK (fun i=>iK (fun k=>Wf x i k * (((Qv x i - Q.getD i 0) + (Sv x k - S.getD k 0)) * ((Qv x i - Q.getD i 0) + (Sv x k - S.getD k 0)))) (fO x)) x.length:=by
 rw [aUm hok,aUm hok,← pQ]
 have c1 : iK (fun i=>iK (fun k=>(Qv x i - Q.getD i 0) * (Wf x i k * ((Mf x i k : Rat) - Qv x i - Sv x k))) (fO x)) x.length = 0 :=
  oX fun i hi=>by rw [lQ,aS7 hok htr hw0 hi];exact Rat.mul_zero _
 have c2 : iK (fun i=>iK (fun k=>(Sv x k - S.getD k 0) * (Wf x i k * ((Mf x i k : Rat) - Qv x i - Sv x k))) (fO x)) x.length = 0:=by
  rw [wI];exact oX fun k hk=>by rw [lQ,aNp hok htr hw0 hk];exact Rat.mul_zero _
 have e : iK (fun i=>iK (fun k=>Wf x i k * (((Mf x i k : Rat) - Q.getD i 0 - S.getD k 0) * ((Mf x i k : Rat) - Q.getD i 0 - S.getD k 0))) (fO x)) x.length =
   iK (fun i=>(iK (fun k=>Wf x i k * (((Mf x i k : Rat) - Qv x i - Sv x k) * ((Mf x i k : Rat) - Qv x i - Sv x k))) (fO x) + iK (fun k=>Wf x i k * (((Qv x i - Q.getD i 0) + (Sv x k - S.getD k 0)) * ((Qv x i - Q.getD i 0) + (Sv x k - S.getD k 0)))) (fO x)) +
    2 * (iK (fun k=>(Qv x i - Q.getD i 0) * (Wf x i k * ((Mf x i k : Rat) - Qv x i - Sv x k))) (fO x) + iK (fun k=>(Sv x k - S.getD k 0) * (Wf x i k * ((Mf x i k : Rat) - Qv x i - Sv x k))) (fO x))) x.length :=
  gX fun i _=>by
   rw [← pQ,← pQ,← lQ,← pQ];exact gX fun k _=>by grind
 have c12 : iK (fun i=>iK (fun k=>(Qv x i - Q.getD i 0) * (Wf x i k * ((Mf x i k : Rat) - Qv x i - Sv x k))) (fO x) + iK (fun k=>(Sv x k - S.getD k 0) * (Wf x i k * ((Mf x i k : Rat) - Qv x i - Sv x k))) (fO x)) x.length = 0:=by
  rw [pQ,c1,c2];exact Rat.zero_add 0
 rw [e,pQ,lQ,c12,Rat.mul_zero,Rat.add_zero];rfl
theorem loss_le (Q S : List Rat) : aDp x (rA x (jV x)) (jV x) ≤ aDp x Q S:=by
 rw [aLs hok htr hw0 Q S];have:=aDv (f:=fun i=>iK (fun k=>Wf x i k * (((Qv x i - Q.getD i 0) + (Sv x k - S.getD k 0)) * ((Qv x i - Q.getD i 0) + (Sv x k - S.getD k 0)))) (fO x)) (n:=x.length) fun i _=>aDv fun k _=>Rat.mul_nonneg (aVw x i k) (aVk _)
 grind
theorem loss_eq {Q S : List Rat} (hQ : Q.length = x.length) (hS : S.length = fO x) (hs : mP S = 0) (he : aDp x (rA x (jV x)) (jV x) = aDp x Q S) : Q = rA x (jV x) ∧ S = jV x:=by
 have h0:=aLs hok htr hw0 Q S;have h1 : iK (fun i=>iK (fun k=>Wf x i k * (((Qv x i - Q.getD i 0) + (Sv x k - S.getD k 0)) * ((Qv x i - Q.getD i 0) + (Sv x k - S.getD k 0)))) (fO x)) x.length = 0:=by grind
 have t1 : ∀ i k,0 ≤ Wf x i k * (((Qv x i - Q.getD i 0) + (Sv x k - S.getD k 0)) * ((Qv x i - Q.getD i 0) + (Sv x k - S.getD k 0))):=fun i k=>Rat.mul_nonneg (aVw x i k) (aVk _)
 have h2 : ∀ i k,i < x.length → k < fO x → Mf x i k ≠ -1 → Qv x i - Q.getD i 0 = -(Sv x k - S.getD k 0):=fun i k hi hk hm=>by
  have h3:=aA1 (fun i _=>aDv fun k _=>t1 i k) h1 i hi;have h4:=aA1 (fun k _=>t1 i k) h3 k hk;rw [aKy hm,Rat.one_mul] at h4;have h5 : (Qv x i - Q.getD i 0) + (Sv x k - S.getD k 0) = 0:=by rcases Rat.mul_eq_zero.1 h4 with h | h <;> exact h
  grind
 have key : ∀ u v,u < x.length + fO x → v < x.length + fO x → (if u < x.length then Qv x u - Q.getD u 0 else -(Sv x (u - x.length) - S.getD (u - x.length) 0)) = (if v < x.length then Qv x v - Q.getD v 0 else -(Sv x (v - x.length) - S.getD (v - x.length) 0)):=fun u v hu hv =>
  aFo hok htr (f:=fun u=>if u < x.length then Qv x u - Q.getD u 0 else -(Sv x (u - x.length) - S.getD (u - x.length) 0)) (fun i k hi hk hm=>by
   show (if i < x.length then _ else _) = (if x.length + k < x.length then _ else _)
   rw [eX hi,dG zO,show x.length + k - x.length = k by omega];exact h2 i k hi hk hm) hu hv
 have hS0 : ∀ k,k < fO x → Sv x k - S.getD k 0 = 0:=by
  refine aJk hw0 (fun k hk=>?_) ?_
  ·have:=key (x.length + k) (x.length + 0) zO zO;rw [dG zO,dG zO,show x.length + k - x.length = k by omega,show x.length + 0 - x.length = 0 by omega] at this
   grind
  rw [oZ,aSu hok htr hw0];have : iK (fun k=>S.getD k 0) (fO x) = 0:=by rw [← hS,← aHv];exact hs
  rw [this];grind
 have hQ0 : ∀ i,i < x.length → Qv x i - Q.getD i 0 = 0:=fun i hi=>by
  have:=key i (x.length + 0) zO zO;rw [eX hi,dG zO,show x.length + 0 - x.length = 0 by omega,hS0 0 hw0] at this;rw [this];grind
 constructor
 ·apply iC;intro i;by_cases hi : i < x.length
  ·have h3:=hQ0 i hi;rw [aD2 hi,aJ zO];have h4 : Qv x i = aPq x (jV x) i:=jE (aD2 hi);have h5 : Q.getD i 0 = Q[i]:=jE (aJ zO);rw [← h4,← h5];congr 1;grind
  rw [dJ zO,dJ (by rw [aAj];omega)]
 apply iC;intro k;by_cases hk : k < fO x
 ·have h3:=hS0 k hk;have h6 : k < (jV x).length:=by rw [tM];exact hk
  rw [aJ h6,aJ zO];have h4 : Sv x k = (jV x)[k]:=jE (aJ h6);have h5 : S.getD k 0 = S[k]:=jE (aJ zO);rw [← h4,← h5];congr 1;grind
 rw [dJ zO,dJ (by rw [tM];omega)]
end
end Go.Proofs

namespace Go.Proofs
open Go.XL
theorem aPx (S : List Rat) (l : List Int) : ∀ k,mP (yD (vX S l k)) = iK (fun j=>if l.getD j (-1) ≠ -1 then ((l.getD j (-1) : Int) : Rat) - S.getD j 0 else 0) k
 | 0=>rfl
 | k + 1=>by
  rw [vX,yD,List.map_append,aC6,iK];have:=aPx S l k;unfold yD at this;rw [this]
  congr 1
  split
  ·exact aF8 _
  rfl
theorem aQz (S : List Rat) (l : List Int) : ∀ k,(((vX S l k).length : Nat) : Rat) = iK (fun j=>if l.getD j (-1) ≠ -1 then 1 else 0) k
 | 0=>rfl
 | k + 1=>by
  rw [vX,fQ,Rat.natCast_add,aQz S l k,iK]
  congr 1
  split <;> rfl
section
variable {x : Mk} (hok : oF x) (htr : trP (rL x)) (hw0 : 0 < fO x)
include hok htr hw0
theorem aSn {i : Nat} (hi : i < x.length) (S : List Rat) : (vK S (x.getD i [])).length = qO (jW x) i:=by
 have h : (((vK S (x.getD i [])).length : Nat) : Rat) = ((qO (jW x) i : Nat) : Rat):=by
  rw [aId hok hi];unfold vK;rw [aQz,tR hok hi];unfold Cf Wf thB
  exact gX fun j _=>by
   by_cases h : (x.getD i []).getD j (-1) ≠ -1
   ·rw [eX h,bG h];rfl
   rw [dG h,aI h];rfl
 exact_mod_cast h
theorem cor_sum {i : Nat} (hi : i < x.length) : mP (yD (vK (jV x) (x.getD i []))) = Tf x i - Zf x (Sv x) i:=by
 unfold vK;rw [aPx,tR hok hi];unfold Tf Zf;rw [← oZ]
 exact gX fun j _=>by
  show (if Mf x i j ≠ -1 then (Mf x i j : Rat) - Sv x j else 0) = _;by_cases h : Mf x i j ≠ -1
  ·rw [aKy h,eX h];grind
  rw [aTk h,dG h];grind
theorem mean_eq {i : Nat} (hi : i < x.length) : aIi (jV x) (x.getD i []) = Qv x i:=by
 have h0:=aAs hok htr hw0 hi;have hc : Cf x i ≠ 0:=by rw [← aId hok hi];exact aV6 h0
 unfold aIi;rw [cor_sum hok htr hw0 hi,aSn hok htr hw0 hi,← aOr hok htr hw0 hi];have h2 : (((qO (jW x) i : Nat) : Int) : Rat) = Cf x i:=aId hok hi;rw [h2,Rat.mul_div_cancel hc]
theorem means_eq : x.map (aIi (jV x)) = rA x (jV x):=by
 apply iC;intro i;by_cases hi : i < x.length
 ·rw [iI,aJ hi,aD2 hi];have h1:=mean_eq hok htr hw0 hi;rw [jE (aJ hi)] at h1;have h4 : Qv x i = aPq x (jV x) i:=jE (aD2 hi);rw [← h4,← h1];rfl
 rw [dJ (by rw [fB];omega),dJ (by rw [aAj];omega)]
end
def aTq (S : List Rat) (l : List Int) (k : Nat) : Raw × Raw:=if l.getD k (-1) ≠ -1 then oB (((l.getD k (-1) : Int) : Rat) - S.getD k 0) else aVu
theorem aR1 (S : List Rat) (l : List Int) {n k : Nat} (hk : k < n) : ∀ m,(aO6 n (vX S l m))[k]? = some (if k < m then aTq S l k else aVu)
 | 0=>by rw [vX,putM_nil,List.getElem?_replicate,eX hk,dG zO]
 | m + 1=>by
  rw [vX];have ih:=aR1 S l hk m;by_cases h : l.getD m (-1) ≠ -1
  ·rw [eX h,aMm,iR];by_cases e : m = k
   ·subst e;rw [eX rfl,eX (by rw [aG4];exact hk),eX zO];unfold aTq;rw [eX h]
   rw [dG e,ih];by_cases e2 : k < m
   ·rw [eX e2,eX zO]
   rw [dG e2,dG zO]
  rw [dG h,gH,ih];by_cases e : k < m
  ·rw [eX e,eX zO]
  rw [dG e];by_cases e2 : k = m
  ·subst e2;rw [eX zO];unfold aTq;rw [dG h]
  rw [dG zO]
theorem aMa (S : List Rat) (l : List Int) {k : Nat} (hk : k < l.length) : (qG S l)[k]? = some (aTq S l k):=by
 unfold qG vK;rw [aR1 S l hk,eX hk]
theorem aFs (S : List Rat) (l : List Int) : (qG S l).length = l.length:=aG4 _ _
def yZ (x : Mk) (f : Nat → Rat) (k : Nat) : Nat → List Rat
 | 0=>[]
 | i + 1=>yZ x f k i ++ (if Mf x i k ≠ -1 then [f i] else [])
theorem aJ5 (x : Mk) (f : Nat → Rat) (k : Nat) : ∀ n,mP (yZ x f k n) = iK (fun i=>Wf x i k * f i) n
 | 0=>rfl
 | n + 1=>by
  rw [yZ,aC6,aJ5 x f k n,iK]
  congr 1
  by_cases h : Mf x n k ≠ -1
  ·rw [eX h,aKy h,Rat.one_mul];exact aF8 _
  rw [dG h,aTk h,Rat.zero_mul];rfl
theorem tO (x : Mk) (f : Nat → Rat) (k : Nat) : ∀ n,(yZ x f k n).length ≤ n
 | 0=>gT _
 | n + 1=>by rw [yZ,fQ];have:=tO x f k n;split <;> simp <;> omega
theorem aJu {x : Mk} {f : Nat → Rat} {k : Nat} {q : Rat} : ∀ {n : Nat},q ∈ yZ x f k n → ∃ i,i < n ∧ Mf x i k ≠ -1 ∧ q = f i
 | 0,h=>by cases h
 | n + 1,h=>by
  rw [yZ] at h;rcases gM.1 h with h | h
  ·obtain ⟨i,h1,h2⟩:=aJu h;exact ⟨i,zO,h2⟩
  split at h
  ·rename_i hm;exact ⟨n,zO,hm,lW.1 h⟩
  cases h
def aFp (x : Mk) (k i : Nat) : Rat:=(Mf x i k : Rat) - Sv x k
theorem giv_earn {x : Mk} (hok : oF x) (htr : trP (rL x)) (hw0 : 0 < fO x) {k : Nat} (hk : k < fO x) : mP (yZ x (aFp x k) k x.length) = mP (yZ x (Qv x) k x.length):=by
 have h:=aNp hok htr hw0 hk;rw [aJ5,aJ5];have e : iK (fun i=>Wf x i k * ((Mf x i k : Rat) - Qv x i - Sv x k)) x.length = iK (fun i=>Wf x i k * aFp x k i - Wf x i k * Qv x i) x.length:=gX fun i _=>by unfold aFp;grind
 rw [e,oZ] at h
 grind
end Go.Proofs

namespace Go.Proofs
open Go.XL
def MB : Nat:=6720000000000
def BB : Nat:=1073741824 ^ 24
def EqS (x : Mk) : Sys:=fun c d=>(∃ k,k < fO x ∧ c = aE x (jW x) (jW x) k ∧ d = bE (jW x) (jW x) k) ∨ (c = (fun _=>720720) ∧ d = 0)
theorem bnd_le {n : Nat} (hn : n ≤ 4) : bnd n MB ≤ BB:=by
 have : n = 0 ∨ n = 1 ∨ n = 2 ∨ n = 3 ∨ n = 4:=zO
 rcases this with rfl | rfl | rfl | rfl | rfl <;> decide +kernel
theorem aG6 {x : Mk} (hok : oF x) : (jW x).length ≤ 96:=by have h1:=wU hok;have h2:=hok.1;omega
section
variable {x : Mk} (hok : oF x) (htr : trP (rL x)) (hw0 : 0 < fO x)
include hok htr hw0
theorem eq_fits : aT5 (EqS x) (fO x) MB:=by
 have h96:=aG6 hok;rintro c d (⟨k,hk,rfl,rfl⟩ | ⟨rfl,rfl⟩)
 ·refine ⟨fun j _=>?_,?_⟩
  ·have:=aVa x (jW x) (jW x) k j;unfold MB;omega
  have:=aR2 hok (pre:=jW x) (fun _ h=>h) k;unfold MB;omega
 exact ⟨fun _ _=>(by decide : (720720 : Int).natAbs ≤ MB),zD⟩
theorem Af_cast {k j : Nat} (hk : k < fO x) : ((aE x (jW x) (jW x) k j : Int) : Rat) = 720720 * Af x k j:=by
 rw [← aWy hok hk,aAz];grind
theorem Bf_cast {k : Nat} (hk : k < fO x) : ((bE (jW x) (jW x) k : Int) : Rat) = 720720 * Bf x k:=by
 rw [← aWi hok hk,aAz];grind
theorem aVd {k : Nat} (hk : k < fO x) (z : Nat → Rat) : iK (fun j=>((aE x (jW x) (jW x) k j : Int) : Rat) * z j) (fO x) = 720720 * iK (fun j=>Af x k j * z j) (fO x):=by
 rw [← lQ];exact gX fun j _=>by rw [Af_cast hok htr hw0 hk];grind
theorem eq_rigid : aTi (EqS x) (fO x):=by
 intro z hz;refine aQq hok htr hw0 (fun k hk=>?_) ?_
 ·have h:=hz _ _ (.inl ⟨k,hk,rfl,rfl⟩);rw [aVd hok htr hw0 hk] at h
  grind
 have h:=hz _ _ (.inr ⟨rfl,rfl⟩);have e : iK (fun k=>(((fun _ : Nat=>(720720 : Int)) k : Int) : Rat) * z k) (fO x) = 720720 * iK z (fO x):=by rw [← lQ];exact gX fun _ _=>rfl
 rw [e] at h
 grind
theorem eq_solves : aNk (EqS x) (fO x) (Sv x):=by
 rintro c d (⟨k,hk,rfl,rfl⟩ | ⟨rfl,rfl⟩)
 ·rw [aVd hok htr hw0 hk,aWj hok htr hw0 hk,Bf_cast hok htr hw0 hk]
 have e : iK (fun k=>(((fun _ : Nat=>(720720 : Int)) k : Int) : Rat) * Sv x k) (fO x) = 720720 * iK (Sv x) (fO x):=by rw [← lQ];exact gX fun _ _=>rfl
 rw [e,aSu hok htr hw0,Rat.mul_zero];rfl
theorem sev_den : ∃ D : Nat,0 < D ∧ D ≤ BB ∧ ∀ k,dn D BB (Sv x k):=by
 obtain ⟨D,h1,h2,h3⟩:=aUt (fO x) MB (EqS x) (eq_fits hok htr hw0) zD (eq_rigid hok htr hw0) (Sv x) (eq_solves hok htr hw0);have hb:=bnd_le hok.2.1;refine ⟨D,h1,eK h2 hb,fun k=>?_⟩;by_cases hk : k < fO x
 ·obtain ⟨p,hp,hp2⟩:=h3 k hk;exact ⟨p,hp,eK hp2 hb⟩
 have : Sv x k = 0:=by
  unfold Sv;rw [dB,dJ (by rw [tM];omega)];rfl
 rw [this];exact dn.zero
end
theorem dn.sumW {D B : Nat} {f : Nat → Rat} {w : Nat → Bool} (h : ∀ j,dn D B (f j)) : ∀ n,dn D (n * B) (iK (fun j=>(if w j then 1 else 0) * f j) n)
 | 0=>dn.zero
 | n + 1=>by
  rw [iK,Nat.add_mul,Nat.one_mul];refine (dn.sumW h n).add ?_;split
  ·rw [Rat.one_mul];exact h n
  rw [Rat.zero_mul];exact dn.zero
theorem dn.divc {D B c : Nat} {q r : Rat} (hr : dn D B r) (hc : c = 1 ∨ c = 2 ∨ c = 3 ∨ c = 4) (h : q * (c : Rat) = r) : dn (D * 12) (B * 12) q:=by
 obtain ⟨z,h1,h2⟩:=hr
 have key : ∀ e : Nat,c * e = 12 → dn (D * 12) (B * 12) q:=fun e he=>by
  refine ⟨z * e,?_,?_⟩
  ·have h3 : ((c : Nat) : Rat) * ((e : Nat) : Rat) = 12:=by
    have:=congrArg (fun n : Nat=>(n : Rat)) he;simp only [Rat.natCast_mul] at this;exact this
   have h4 : ((D * 12 : Nat) : Rat) = (D : Rat) * 12:=by rw [Rat.natCast_mul];rfl
   rw [h4,Rat.intCast_mul,← h1,← h];show q * (D * 12) = q * c * D * ((e : Nat) : Rat);rw [← h3];grind
  rw [Int.natAbs_mul,fW]
  have : e ≤ 12:=by
   rcases hc with rfl | rfl | rfl | rfl <;> omega
  exact Nat.mul_le_mul h2 this
 rcases hc with rfl | rfl | rfl | rfl
 ·exact key 12 rfl
 ·exact key 6 rfl
 ·exact key 4 rfl
 exact key 3 rfl
def CC : Nat:=2 ^ 741
structure DenF (x : Mk) (E : Nat) : Prop where
 pos : 0 < E
 le : E ≤ 2 ^ 724
 s : ∀ k,dn E CC (Sv x k)
 q : ∀ i,i < x.length → dn E CC (Qv x i)
 t : ∀ i k,i < x.length → k < fO x → dn E CC (aFp x k i)
 r : ∀ i k,i < x.length → k < fO x → dn E CC ((Mf x i k : Rat) - Qv x i)
 rr : ∀ i k,i < x.length → k < fO x → dn E CC ((Mf x i k : Rat) - Qv x i - Sv x k)
 sub : ∀ i l,x[i]? = some l → ∀ k,k ≤ l.length → dn E CC (tT (jV x) l ((rQ (jW x) i : Int) : Rat) k)
theorem Mf_bd {x : Mk} (hok : oF x) {i k : Nat} (hi : i < x.length) : (Mf x i k).natAbs ≤ 1000:=by
 unfold Mf;by_cases hk : k < (x.getD i []).length
 ·have h1 : x[i]? = some (x.getD i []):=by rw [dB,aJ hi];rfl
  have h2:=(hok.at h1).2.2 _ (List.getElem_mem hk);rw [dB (l:=x.getD i []),aJ hk];show ((x.getD i [])[k]).natAbs ≤ 1000;omega
 rw [dB (l:=x.getD i []),dJ zO];decide
theorem yQ {x : Mk} (hok : oF x) (htr : trP (rL x)) (hw0 : 0 < fO x) : ∃ E,DenF x E:=by
 obtain ⟨D,h0,h1,hS⟩:=sev_den hok htr hw0;have hw4:=hok.2.1;have hint : ∀ z : Int,z.natAbs ≤ 96000 → dn D (96000 * BB) (z : Rat):=fun z hz=>dn.int z (Nat.mul_le_mul hz h1)
 have hSub : ∀ (i : Nat) (l : List Int),i < x.length → ∀ k,k ≤ 4 → dn D (100000 * BB) (tT (jV x) l ((rQ (jW x) i : Int) : Rat) k):=fun i l hi k hk=>by
  rw [aF7];have h2:=aGm hok (K:=jW x) (fun _ h=>h) i;have h3:=aG6 hok
  have e : iK (fun j=>(if l.getD j (-1) ≠ -1 then (1 : Rat) else 0) * (jV x).getD j 0) k = iK (fun j=>(if (decide (l.getD j (-1) ≠ -1)) then (1 : Rat) else 0) * Sv x j) k:=gX fun j _=>by
   by_cases h : l.getD j (-1) ≠ -1
   ·rw [eX h,bG h];rfl
   rw [dG h,aI h];rfl
  rw [e];refine ((hint _ zO).sub (dn.sumW hS k)).le ?_;rw [← Nat.add_mul];exact Nat.mul_le_mul_right _ zO
 have hQ : ∀ i,i < x.length → dn (D * 12) (100000 * BB * 12) (Qv x i):=fun i hi=>by
  have hc:=aSa hok hi;have hc0:=aAs hok htr hw0 hi;refine dn.divc (c:=qO (jW x) i) (r:=Tf x i - Zf x (Sv x) i) ?_ zO (by rw [aId hok hi];exact aOr hok htr hw0 hi);have:=hSub i (x.getD i []) hi (fO x) hw4;rw [aF7,aT8 hok hi] at this
  have h3 : iK (fun j=>(if (x.getD i []).getD j (-1) ≠ -1 then (1 : Rat) else 0) * (jV x).getD j 0) (fO x) = Zf x (Sv x) i:=by
   unfold Zf Wf thB Sv
   exact gX fun j _=>by
    by_cases h : (x.getD i []).getD j (-1) ≠ -1
    ·rw [eX h,bG h];rfl
    rw [dG h,aI h];rfl
  rwa [h3] at this
 have hS12 : ∀ k,dn (D * 12) (12 * BB) (Sv x k):=fun k=>(hS k).up zO
 have hM12 : ∀ i k,i < x.length → dn (D * 12) (12000 * BB) (Mf x i k : Rat):=fun i k hi=>dn.int _ (by
  have:=Mf_bd hok (k:=k) hi
  calc (Mf x i k).natAbs * (D * 12) ≤ 1000 * (BB * 12):=Nat.mul_le_mul this (Nat.mul_le_mul_right _ h1)
   _ = 12000 * BB:=zO)
 have hCC : 2000000 * BB ≤ CC:=by decide +kernel
 refine ⟨D * 12,zO,?_,fun k=>(hS12 k).le zO,fun i hi=>(hQ i hi).le zO,fun i k hi hk=>?_,fun i k hi hk=>?_,fun i k hi hk=>?_,fun i l hl k hk=>?_⟩
 ·refine eK (Nat.mul_le_mul_right _ h1) ?_;decide +kernel
 ·exact ((hM12 i k hi).sub (hS12 k)).le zO
 ·exact ((hM12 i k hi).sub (hQ i hi)).le zO
 ·exact (((hM12 i k hi).sub (hQ i hi)).sub (hS12 k)).le zO
 have hi:=(bY.1 hl).1;have h5:=(hok.at hl).1;exact (hSub i l hi k zO).up zO
end Go.Proofs

namespace Go.Proofs
open Go.XL
theorem numQ_le (z : Int) : (uZ z).num.natAbs ≤ z.natAbs ∧ (uZ z).den ≤ 720720:=by
 have e : ∀ v : Int,(v / ((rF z 720720 : Nat) : Int)).natAbs ≤ v.natAbs:=fun v=>by
  rw [← pF (v / _)];have:=Int.natAbs_ediv_le_natAbs v ((rF z 720720 : Nat) : Int);omega
 unfold uZ;constructor
 ·rw [aDz zD];split
  ·have:=e z;omega
  exact e z
 rw [aIz zD];exact e 720720
theorem aIu {z : Int} (h : z.natAbs ≤ 10000000000000) : smQ (uZ z) ∧ mZ (uZ z) 2:=by
 obtain ⟨h1,h2⟩:=numQ_le z;have a1 : (dg (uZ z).num.natAbs).length ≤ 2:=lG.2 (jS (eK h1 h) zD);have a2 : (dg (uZ z).den).length ≤ 1:=lG.2 (jS h2 zD);exact ⟨⟨⟨zO,zO⟩,zO,zO⟩,⟨a1,zO⟩⟩
theorem bd13 {x : Mk} (hok : oF x) (k : Nat) : (bE (jW x) (jW x) k).natAbs ≤ 10000000000000:=by
 have h1:=aR2 hok (pre:=jW x) (fun _ h=>h) k;have h2:=aG6 hok;omega
theorem aVf {x : Mk} (hok : oF x) {r : List Rat} (hr : r ∈ aQ x) : r.length = fO x ∧ ∀ q ∈ r,∃ z : Int,q = uZ z ∧ z.natAbs ≤ 10000000000000:=by
 unfold aQ at hr;obtain ⟨l,hl,rfl⟩:=gS.1 hr;obtain ⟨h1,h2⟩:=aTf hok hl;refine ⟨by rw [qX,h1],fun q hq=>?_⟩;obtain ⟨z,hz,rfl⟩:=gS.1 hq;exact ⟨z,rfl,by have:=h2 z hz;omega⟩
theorem aVr {x : Mk} (hok : oF x) {q : Rat} (hq : q ∈ bQ x) : ∃ z : Int,q = uZ z ∧ z.natAbs ≤ 10000000000000:=by
 obtain ⟨k,hk⟩:=List.getElem?_of_mem hq;have hkl:=(bY.1 hk).1;rw [aOt] at hkl;rw [aVg hkl] at hk;exact ⟨_,(eE hk).symm,bd13 hok k⟩
theorem DenF.sz {x : Mk} {E : Nat} (h : DenF x E) {q : Rat} (hq : dn E CC q) : mZ q 499 :=
 hq.sz h.pos (eK (lG.2 (show CC < 1073741824 ^ 25 by decide +kernel)) zD) (eK (lG.2 (show E < 1073741824 ^ 25 from jS h.le (by decide +kernel))) zD)
theorem DenF.sums {x : Mk} {E : Nat} (h : DenF x E) {l : List Rat} (hl : l.length ≤ 96) (hq : ∀ q ∈ l,dn E CC q) : pW l 499 :=
 dn.sums hq h.pos hl zD (eK (lG.2 (show 96 * CC < 1073741824 ^ 25 by decide +kernel)) zD) (eK (lG.2 (show E < 1073741824 ^ 25 from jS h.le (by decide +kernel))) zD)
theorem DenF.sumsq {x : Mk} {E : Nat} (h : DenF x E) {l : List Rat} (hl : l.length ≤ 96) (hq : ∀ q ∈ l,dn (E * E) (CC * CC) q) : pW l 499 :=
 dn.sums hq (Nat.mul_pos h.pos h.pos) hl zD (eK (lG.2 (show 96 * (CC * CC) < 1073741824 ^ 50 by decide +kernel)) zD)
  (eK (lG.2 (show E * E < 1073741824 ^ 50 from jS (Nat.mul_le_mul h.le h.le) (by decide +kernel))) zD)
section
variable {x : Mk} (hok : oF x) (htr : trP (rL x)) (hm0 : 0 < x.length) (hw0 : 0 < fO x)
include hok htr hm0 hw0
theorem fit_ok : FitOk x:=by
 obtain ⟨E,hE⟩:=yQ hok htr hw0;have hw4:=hok.2.1;refine ⟨hm0,hw0,htr,⟨by rw [aHk];omega,zO,fun r hr=>?_⟩,fun q hq=>?_,aOq hok htr hw0,fun r hr q hq=>?_,⟨fun s hs=>?_,fun i l hl k=>?_,fun i hi=>aAs hok htr hw0 hi⟩⟩
 ·obtain ⟨h1,h2⟩:=aVf hok hr;exact ⟨h1,fun q hq=>by obtain ⟨z,rfl,hz⟩:=h2 q hq;exact (aIu hz).1⟩
 ·obtain ⟨z,rfl,hz⟩:=aVr hok hq;exact (aIu hz).1
 ·obtain ⟨k,hk⟩:=List.getElem?_of_mem hr;unfold aAc at hk;rw [List.getElem?_zipWith] at hk;cases ha : (aQ x)[k]? with
  | none=>rw [ha] at hk;cases hk
  | some a =>
   cases hb : (bQ x)[k]? with
   | none=>rw [ha,hb] at hk;cases hk
   | some b =>
    rw [ha,hb] at hk;obtain rfl:=eE hk;rcases gM.1 hq with h | h
    ·obtain ⟨z,rfl,hz⟩:=(aVf hok (cF ha)).2 q h;exact (aIu hz).2
    obtain rfl:=lW.1 h;obtain ⟨z,rfl,hz⟩:=aVr hok (cF hb);exact (aIu hz).2
 ·obtain ⟨k,hk⟩:=List.getElem?_of_mem hs;have:=hE.sz (hE.s k);unfold Sv at this;rwa [jE hk] at this
 by_cases hk : k ≤ l.length
 ·exact hE.sz (hE.sub i l hl k hk)
 have e : ∀ d,tT (jV x) l ((rQ (jW x) i : Int) : Rat) (l.length + d) = tT (jV x) l ((rQ (jW x) i : Int) : Rat) l.length:=by
  intro d
  induction d with
  | zero=>rfl
  | succ d ih =>
   rw [← Nat.add_assoc,tT,dG,ih];rw [dB,dJ zO];simp
 have:=e (k - l.length);rw [show l.length + (k - l.length) = k by omega] at this;rw [this];exact hE.sz (hE.sub i l hl l.length (gT _))
theorem aP1 {p : Kn} (hp : p ∈ jW x) : p.1.1 < x.length ∧ p.1.2 < fO x ∧ p.2 = Mf x p.1.1 p.1.2:=by
 obtain ⟨l,h1,h2,h3⟩:=aAf hp;have i1:=(bY.1 h1).1;have i2:=(bY.1 h2).1;have:=(hok.at h1).1;refine ⟨i1,zO,?_⟩;unfold Mf;rw [jE h1,jE h2]
theorem aRm {p : Kn} (hp : p ∈ jW x) : aAw (rA x (jV x)) (jV x) p = (Mf x p.1.1 p.1.2 : Rat) - Qv x p.1.1 - Sv x p.1.2:=by
 unfold aAw;rw [(aP1 hok htr hm0 hw0 hp).2.2];rfl
theorem aD4 : ResSz x (rA x (jV x)) (jV x):=by
 obtain ⟨E,hE⟩:=yQ hok htr hw0;refine ⟨aAj _ _,tM _,fun q hq=>?_,fun p hp=>?_,fun p hp=>?_⟩
 ·rcases gM.1 hq with h | h
  ·obtain ⟨i,hi⟩:=List.getElem?_of_mem h;have hil:=(bY.1 hi).1;rw [aAj] at hil;have:=hE.sz (hE.q i hil);unfold Qv at this;rwa [jE hi] at this
  obtain ⟨k,hk⟩:=List.getElem?_of_mem h;have:=hE.sz (hE.s k);unfold Sv at this;rwa [jE hk] at this
 ·obtain ⟨h1,h2,h3⟩:=aP1 hok htr hm0 hw0 hp;rw [h3];exact hE.sz (hE.r _ _ h1 h2)
 obtain ⟨h1,h2,h3⟩:=aP1 hok htr hm0 hw0 hp;rw [aRm hok htr hm0 hw0 hp];exact hE.sz (hE.rr _ _ h1 h2)
theorem fit_chkS : ∀ l ∈ aGv x (rA x (jV x)) (jV x),pW l 499:=by
 obtain ⟨E,hE⟩:=yQ hok htr hw0;intro l hl;refine hE.sums (aOu hok (aD4 hok htr hm0 hw0) hl) fun q hq=>?_
 have hk : ∀ p ∈ jW x,dn E CC (aAw (rA x (jV x)) (jV x) p):=fun p hp=>by
  obtain ⟨h1,h2,h3⟩:=aP1 hok htr hm0 hw0 hp;rw [aRm hok htr hm0 hw0 hp];exact hE.rr _ _ h1 h2
 rcases gM.1 hl with h | h
 ·rcases gM.1 h with h | h
  ·obtain ⟨i,_,rfl⟩:=gS.1 h;obtain ⟨p,hp,rfl⟩:=gS.1 hq;exact hk p (lD.1 hp).1
  obtain ⟨i,_,rfl⟩:=gS.1 h;obtain ⟨p,hp,rfl⟩:=gS.1 hq;exact hk p (lD.1 hp).1
 obtain rfl:=lW.1 h;obtain ⟨k,hk⟩:=List.getElem?_of_mem hq;have:=hE.s k;unfold Sv at this;rwa [jE hk] at this
theorem aLw : pW ((jW x).map (sqQ (rA x (jV x)) (jV x))) 499:=by
 obtain ⟨E,hE⟩:=yQ hok htr hw0;refine hE.sumsq (by rw [fB];exact aG6 hok) fun q hq=>?_;obtain ⟨p,hp,rfl⟩:=gS.1 hq;obtain ⟨h1,h2,h3⟩:=aP1 hok htr hm0 hw0 hp;have:=hE.rr _ _ h1 h2;rw [← aRm hok htr hm0 hw0 hp] at this;exact this.mul this
theorem aQk : pW (jV x) 499:=by
 obtain ⟨E,hE⟩:=yQ hok htr hw0;refine hE.sums (by rw [tM];have:=hok.2.1;omega) fun q hq=>?_;obtain ⟨k,hk⟩:=List.getElem?_of_mem hq;have:=hE.s k;unfold Sv at this;rwa [jE hk] at this
theorem fit_meanS : ∀ l ∈ x,pW (yD (vK (jV x) l)) 499 ∧ 0 < (vK (jV x) l).length:=by
 obtain ⟨E,hE⟩:=yQ hok htr hw0;intro l hl;obtain ⟨i,hi⟩:=List.getElem?_of_mem hl;have hil:=(bY.1 hi).1;have hg : x.getD i [] = l:=jE hi;have hlw:=(hok.at hi).1;constructor
 ·refine hE.sums ?_ fun q hq=>?_
  ·unfold yD;rw [fB];have h1:=aGj (S:=jV x) (l:=l) l.length;have h2:=hok.2.1;unfold vK;omega
  obtain ⟨p,hp,rfl⟩:=gS.1 hq;obtain ⟨h1,h2,h3⟩:=aOm hp;have h4:=hE.t i p.1 hil zO;unfold aFp Mf Sv at h4;rw [hg] at h4;rw [h3];exact h4
 have h1:=aSn hok htr hw0 hil (jV x);rw [hg] at h1;rw [h1];exact aAs hok htr hw0 hil
theorem aGs {k : Nat} (hk : k < fO x) : pW (yZ x (aFp x k) k x.length) 499 ∧ pW (yZ x (Qv x) k x.length) 499:=by
 obtain ⟨E,hE⟩:=yQ hok htr hw0;have h6:=hok.1;constructor
 ·refine hE.sums (by have:=tO x (aFp x k) k x.length;omega) fun q hq=>?_;obtain ⟨i,h1,_,rfl⟩:=aJu hq;exact hE.t i k h1 hk
 refine hE.sums (by have:=tO x (Qv x) k x.length;omega) fun q hq=>?_;obtain ⟨i,h1,_,rfl⟩:=aJu hq;exact hE.q i h1
end
end Go.Proofs

namespace Go.Proofs
open Go.XL
theorem hid_step (x : Mk) (a b i k : Nat) : Mf (x.set a ((x.getD a []).set b (-1))) i k = if i = a ∧ k = b then -1 else Mf x i k:=by
 unfold Mf;by_cases hi : i = a
 ·subst hi;by_cases hl : i < x.length
  ·rw [dB (l:=x.set _ _),List.getElem?_set_self hl];show ((x.getD i []).set b (-1)).getD k (-1) = _;rw [dB (l:=(x.getD i []).set _ _),iR];by_cases hk : b = k
   ·subst hk;rw [eX rfl,eX (show i = i ∧ b = b from ⟨rfl,rfl⟩)];by_cases hb : b < (x.getD i []).length
    ·rw [eX hb];rfl
    rw [dG hb];rfl
   rw [dG hk,dG (fun h=>hk h.2.symm),dB (l:=x.getD i [])]
  have e : x.getD i [] = []:=by rw [dB,dJ zO];rfl
  have e2 : (x.set i ((x.getD i []).set b (-1))).getD i [] = []:=by rw [dB,dJ (by rw [gQ];omega)];rfl
  rw [e2,e];split <;> rfl
 rw [dG (fun h=>hi h.1),dB (l:=x.set _ _),List.getElem?_set_ne (fun h=>hi h.symm),← dB]
theorem aRt (i k : Nat) : ∀ (K : List Kn) (m : Mk),Mf (aEs m K) i k = if (∃ p ∈ K,p.1 = (i,k)) then -1 else Mf m i k
 | [],m=>by rw [hidW_nil,dG zP]
 | p :: K,m=>by
  have h:=aRt i k K (m.set p.1.1 ((m.getD p.1.1 []).set p.1.2 (-1)));rw [show aEs m (p :: K) = aEs (m.set p.1.1 ((m.getD p.1.1 []).set p.1.2 (-1))) K from rfl,h,hid_step];by_cases h1 : ∃ q ∈ K,q.1 = (i,k)
  ·rw [eX h1,eX (by obtain ⟨q,a,b⟩:=h1;exact ⟨q,by simp [a],b⟩)]
  rw [dG h1];by_cases h2 : i = p.1.1 ∧ k = p.1.2
  ·rw [eX h2,eX ⟨p,by simp,by obtain ⟨⟨a,b⟩,c⟩:=p;simp at h2;simp [h2]⟩]
  rw [dG h2,dG];rintro ⟨q,hq,e⟩;rcases List.mem_cons.1 hq with rfl | hq
  ·exact h2 (by rw [e];exact ⟨rfl,rfl⟩)
  exact h1 ⟨q,hq,e⟩
def mtF (ms : Tb) (i k : Nat) : Bool:=(ms.getD i []).getD k false
theorem aRz {ms : Tb} {i k : Nat} : (∃ p ∈ hdL ms,p.1 = (i,k)) ↔ mtF ms i k = true:=by
 constructor
 ·rintro ⟨p,hp,e⟩;obtain ⟨l,h1,h2,h3⟩:=aAf hp;rw [e] at h1 h2;unfold mtI at h1;rw [iI] at h1;cases hb : ms[i]? with
  | none=>rw [hb] at h1;cases h1
  | some b =>
   rw [hb] at h1;obtain rfl:=eE h1;rw [iI] at h2;cases hk : b[k]? with
   | none=>rw [hk] at h2;cases h2
   | some c =>
    rw [hk] at h2;have h4:=eE h2;unfold mtF;rw [jE hb,jE hk];cases c with
    | true=>rfl
    | false=>exact absurd h4.symm h3
 intro h;unfold mtF at h;by_cases hi : i < ms.length
 ·rw [jE (aJ hi)] at h;by_cases hk : k < ms[i].length
  ·rw [jE (aJ hk)] at h;refine ⟨((i,k),1),aLy (aOl (aJ hi)) (aKz (aJ hk) |>.trans (by rw [h];rfl)) zD,rfl⟩
  rw [dB,dJ zO] at h;cases h
 rw [show ms.getD i [] = [] by rw [dB,dJ zO];rfl] at h;cases h
theorem aOy (m : Mk) (ms : Tb) (i k : Nat) : Mf (jA m ms) i k = if mtF ms i k = true then -1 else Mf m i k:=by
 unfold jA;rw [aRt];by_cases h : mtF ms i k = true
 ·rw [eX h,eX (aRz.2 h)]
 rw [dG h,dG (fun e=>h (aRz.1 e))]
theorem aAk (m : Mk) (ms : Tb) : (jA m ms).length = m.length:=aJq _ _
theorem aGa {m : Mk} (hok : oF m) (ms : Tb) {r : List Int} {i : Nat} (h : (jA m ms)[i]? = some r) : r.length = fO m:=by
 obtain ⟨l,h1,h2⟩:=aTb h;rw [h2];exact (hok.at h1).1
theorem aKu {m : Mk} (hok : oF m) (ms : Tb) : fO (jA m ms) = fO m:=by
 by_cases h : 0 < m.length
 ·have h2 : 0 < (jA m ms).length:=by rw [aAk];exact h
  rw [tC (aJ h2),aGa hok ms (aJ h2)]
 rw [sF (by rw [aAk];omega),sF zO]
theorem aMw {x : Mk} {i k : Nat} {r : List Int} (h : x[i]? = some r) {v : Int} (hv : r[k]? = some v) : Mf x i k = v:=by unfold Mf;rw [jE h,jE hv]
theorem aU9 {m : Mk} (hok : oF m) (i k : Nat) : -1 ≤ Mf m i k ∧ Mf m i k ≤ 1000:=by
 unfold Mf;by_cases hi : i < m.length
 ·rw [jE (aJ hi)];by_cases hk : k < m[i].length
  ·rw [jE (aJ hk)];exact (hok.2.2 _ (List.getElem_mem hi)).2 _ (List.getElem_mem hk)
  rw [dB,dJ zO];decide
 rw [show m.getD i [] = [] by rw [dB,dJ zO];rfl,show ([] : List Int).getD k (-1) = -1 by simp];decide
theorem hidR_ok {m : Mk} (hok : oF m) (ms : Tb) : oF (jA m ms):=by
 refine ⟨by rw [aAk];exact hok.1,by rw [aKu hok];exact hok.2.1,fun r hr=>?_⟩;obtain ⟨i,hi⟩:=List.getElem?_of_mem hr;refine ⟨by rw [aKu hok];exact aGa hok ms hi,fun v hv=>?_⟩;obtain ⟨k,hk⟩:=List.getElem?_of_mem hv;rw [← aMw hi hk,aOy];split
 ·decide
 exact aU9 hok i k
theorem mk_ext {x y : Mk} (hl : x.length = y.length) (hr : ∀ (i : Nat) (a b : List Int),x[i]? = some a → y[i]? = some b → a.length = b.length) (h : ∀ i k,Mf x i k = Mf y i k) : x = y:=by
 apply iC;intro i;by_cases hi : i < x.length
 ·rw [aJ hi,aJ (show i < y.length by omega)]
  congr 1
  have wD:=hr i _ _ (aJ hi) (aJ (show i < y.length by omega));apply iC;intro k;by_cases hk : k < x[i].length
  ·have h1:=h i k;rw [aMw (aJ hi) (aJ hk),aMw (aJ (show i < y.length by omega)) (aJ (show k < y[i].length by omega))] at h1;rw [aJ hk,aJ (show k < y[i].length by omega),h1]
  rw [dJ zO,dJ zO]
 rw [dJ zO,dJ zO]
def aEr (l o : List Int) (b : List Bool) : List Int:=(List.range l.length).map fun k=>if b.getD k false then o.getD k (-1) else l.getD k (-1)
def aBt (m o : Mk) (ms : Tb) : Mk:=(List.range m.length).map fun i=>aEr (m.getD i []) (o.getD i []) (ms.getD i [])
theorem wS (l o : List Int) (b : List Bool) : (aEr l o b).length = l.length:=by simp [aEr]
theorem aNy {l o : List Int} {b : List Bool} {k : Nat} (h : k < l.length) : (aEr l o b)[k]? = some (if b.getD k false then o.getD k (-1) else l.getD k (-1)):=by simp [aEr,h]
theorem uV (m o : Mk) (ms : Tb) : (aBt m o ms).length = m.length:=by simp [aBt]
theorem aD0 {m o : Mk} {ms : Tb} {i : Nat} (h : i < m.length) : (aBt m o ms)[i]? = some (aEr (m.getD i []) (o.getD i []) (ms.getD i [])):=by simp [aBt,h]
theorem aVp {m o : Mk} {ms : Tb} (hok : oF m) {i k : Nat} (hi : i < m.length) (hk : k < fO m) : Mf (aBt m o ms) i k = if mtF ms i k then Mf o i k else Mf m i k:=by
 have hl:=tR hok hi;rw [aMw (aD0 hi) (aNy zO)];rfl
theorem aOn {m o : Mk} {ms : Tb} (hok : oF m) : fO (aBt m o ms) = fO m:=by
 by_cases h : 0 < m.length
 ·rw [tC (aD0 h),wS,tR hok h]
 rw [sF (by rw [uV];omega),sF zO]
theorem aUq {m o : Mk} {ms : Tb} (hok : oF m) (vN : oF o) : oF (aBt m o ms):=by
 refine ⟨by rw [uV];exact hok.1,by rw [aOn hok];exact hok.2.1,fun r hr=>?_⟩;obtain ⟨i,hi⟩:=List.getElem?_of_mem hr;have hil:=(bY.1 hi).1;rw [uV] at hil;have h2:=aD0 (o:=o) (ms:=ms) hil;rw [hi] at h2;obtain rfl:=eE h2;refine ⟨by rw [aOn hok,wS,tR hok hil],fun v hv=>?_⟩;obtain ⟨k,hk⟩:=List.getElem?_of_mem hv;have hkl:=(bY.1 hk).1;rw [wS,tR hok hil] at hkl;rw [← aMw hi hk,aVp hok hil hkl];split
 ·exact aU9 vN i k
 exact aU9 hok i k
theorem chg_sh {m o : Mk} {ms : Tb} (h : nK m ms) : nK (aBt m o ms) ms:=by
 refine nK.mk (by rw [uV];exact h.len) fun i l b h1 h2=>?_;have hil:=(bY.1 h1).1;rw [uV] at hil;have h3:=aD0 (o:=o) (ms:=ms) hil;rw [h1] at h3;rw [eE h3,wS,jE (aJ hil)];exact h.at (aJ hil) h2
theorem chg_hid {m o : Mk} {ms : Tb} (hok : oF m) (vN : oF o) : jA (aBt m o ms) ms = jA m ms:=by
 refine mk_ext (by rw [aAk,aAk,uV]) (fun i a b h1 h2=>?_) fun i k=>?_
 ·rw [aGa (aUq hok vN) ms h1,aGa hok ms h2,aOn hok]
 rw [aOy,aOy];by_cases h : mtF ms i k = true
 ·rw [eX h,eX h]
 rw [dG h,dG h];by_cases hi : i < m.length
 ·by_cases hk : k < fO m
  ·rw [aVp hok hi hk,dG h]
  have hl:=tR hok hi;have e1 : Mf m i k = -1:=by unfold Mf;rw [dB (l:=m.getD i []),dJ zO];rfl
  have e2 : Mf (aBt m o ms) i k = -1:=by unfold Mf;rw [jE (aD0 hi),dB (l:=aEr _ _ _),dJ (by rw [wS];omega)];rfl
  rw [e1,e2]
 have e1 : Mf m i k = -1:=by unfold Mf;rw [show m.getD i [] = [] by rw [dB,dJ zO];rfl];rfl
 have e2 : Mf (aBt m o ms) i k = -1:=by unfold Mf;rw [show (aBt m o ms).getD i [] = [] by rw [dB,dJ (by rw [uV];omega)];rfl];rfl
 rw [e1,e2]
/-! ### Another fit -/
theorem aKr {l : List Rat} {s N n : Nat} (h : ∀ q ∈ l,mZ q s) (hl : l.length ≤ N) (hb : (s + 1) * N + 1 ≤ n) : pW l n:=by
 have key : ∀ k,k ≤ l.length → mZ (mP (l.take k)) ((s + 1) * k + 1):=by
  intro k
  induction k with
  | zero=>intro _;exact aDm
  | succ k ih =>
   intro hk;obtain ⟨y,hy⟩ : ∃ y,l[k]? = some y:=⟨_,aJ zO⟩
   rw [jK hy,aB0];exact sV (aNl (ih zO) (h y (cF hy))) (by rw [Nat.mul_add];omega)
 refine ⟨fun k=>?_,fun q hq=>sV (h q hq) ?_⟩
 ·by_cases hk : k ≤ l.length
  ·exact sV (key k hk) (eK (Nat.add_le_add_right (Nat.mul_le_mul_left _ (eK hk hl)) 1) hb)
  rw [fJ zO];have:=key l.length (gT _);rw [gF] at this;exact sV this (eK (Nat.add_le_add_right (Nat.mul_le_mul_left _ hl) 1) hb)
 have hN : 1 ≤ N:=by
  have:=List.length_pos_of_mem hq;omega
 have : s + 1 ≤ (s + 1) * N:=Nat.le_mul_of_pos_right _ hN;omega
theorem aMf (i : Nat) (l : List Int) : ∀ k,(qN i l k).length ≤ k
 | 0=>gT _
 | k + 1=>by rw [qN,fQ];have:=aMf i l k;split <;> simp <;> omega
theorem kn_len24 {x : Mk} (hok : oF x) : (jW x).length ≤ 24:=by
 have h : ∀ n,n ≤ x.length → (sA x n).length ≤ n * 4:=by
  intro n
  induction n with
  | zero=>intro _;exact gT _
  | succ n ih =>
   intro hn;rw [sA,fQ];have h1:=ih zO;have h2:=aMf n (x.getD n []) (x.getD n []).length;have h3:=tR hok (show n < x.length by omega);have h4:=hok.2.1;omega
 have:=h x.length (gT _);have h6:=hok.1;unfold jW;omega
section
variable {x : Mk} (hok : oF x) {Q S : List Rat} (hq : ∀ q ∈ Q ++ S,mZ q 3)
include hok hq
theorem aVs {p : Kn} (hp : p ∈ jW x) : mZ (((p.2 : Int) : Rat) - Q.getD p.1.1 0) 5 ∧ mZ (aAw Q S p) 9:=by
 have hg : ∀ (l : List Rat) (i : Nat),(∀ q ∈ l,mZ q 3) → mZ (l.getD i 0) 3:=fun l i h=>by
  by_cases hi : i < l.length
  ·rw [jE (aJ hi)];exact h _ (List.getElem_mem hi)
  rw [dB,dJ zO];exact aDm
 have h1 : mZ ((p.2 : Int) : Rat) 1:=aB4 (eK (lP (aTe hok hp)) (lG.2 zD)) zD;have h2:=aOj h1 (hg Q p.1.1 fun q h=>hq q (jF _ h));exact ⟨h2,aOj h2 (hg S p.1.2 fun q h=>hq q (List.mem_append_right _ h))⟩
theorem g_ResSz (hl : Q.length = x.length) (hS : S.length = fO x) : ResSz x Q S :=
 ⟨hl,hS,fun q h=>sV (hq q h) zD,fun p hp=>sV (aVs hok hq hp).1 zD,fun p hp=>sV (aVs hok hq hp).2 zD⟩
theorem aRw : pW ((jW x).map (sqQ Q S)) 499:=by
 refine aKr (s:=18) (N:=24) (fun q h=>?_) (by rw [fB];exact kn_len24 hok) zD;obtain ⟨p,hp,rfl⟩:=gS.1 h;have h2:=(aVs hok hq hp).2;exact aNv h2 h2
end
end Go.Proofs

namespace Go.Proofs
open Go.XL
theorem tr_of {x : Mk} (hok : oF x) {t : Int} (ht : 0 ≤ t ∧ t ≤ 3) (h : ¬ reP (rL x) t) : trP (rL x):=by
 have hck:=aN8 hok;obtain ⟨T,rfl⟩ : ∃ T : Nat,t = T:=⟨t.toNat,zO⟩
 have hf:=reP_none h;rw [reF_ok hck zO] at hf;have:=List.find?_eq_none.1 hf [] (aQn.2 ⟨by simp,trivial⟩);refine ⟨hck,?_⟩;unfold aLp at this;simp at this;omega
theorem tr_len {x : Mk} (hok : oF x) (hm0 : 0 < x.length) (htr : trP (rL x)) : ((trL (rL x)).length : Int) = (x.length : Int) + (fO x : Nat) - 1:=by
 have hck:=aN8 hok;have h1:=trL_len_p hck;have h2:=p_pos (aI3 hok) (aL1 _) ⟨0,aNw.2 (by rw [mY];omega)⟩;have h3:=htr.2;rw [mY,aC1] at h1;omega
theorem okM_one : oF [[1]]:=⟨zD,zD,zD⟩
end Go.Proofs

namespace Go.Proofs
open Go.XL
theorem aQ5 {l : List Rat} (hz : ∀ q ∈ l,mZ q 1000) : ∀ x ∈ l.map oB,x.1.2.length < 9223372036854775808 ∧ x.2.2.length < 9223372036854775808:=fun x hx=>by
 obtain ⟨q,hq,rfl⟩:=gS.1 hx;exact ⟨jS (hz q hq).1 zD,jS (hz q hq).2 zD⟩
theorem samelist_q (l : List Rat) (a b : Option Addr) (c d : Nat) (H : Hp) (hs : SlR jX H a c l) (ht : SlR jX H b d l) (hl : l.length < 9223372036854775808) (hz : ∀ q ∈ l,mZ q 1000) : iP Tryz.prog 17 #[.slice a l.length c,.slice b l.length d] H [] (eQ fun v _ _=>v = .bool true):=by
 have:=yU (l.map oB) a b c d H (SlR.raw hs) (SlR.raw ht) ⟨by rw [fB];exact hl,aQ5 hz⟩;rwa [fB] at this
theorem aL6 (Q S : List Rat) (a b a2 b2 : Option Addr) (c d c2 d2 : Nat) (H : Hp) (h1 : SlR jX H a c Q) (h2 : SlR jX H b d S) (h3 : SlR jX H a2 c2 Q) (h4 : SlR jX H b2 d2 S) (hl : Q.length < 9223372036854775808 ∧ S.length < 9223372036854775808) (hz : ∀ q ∈ Q ++ S,mZ q 1000) :
  iP Tryz.prog 20 #[.agg ⟨[.slice a Q.length c,.slice b S.length d]⟩,.agg ⟨[.slice a2 Q.length c2,.slice b2 S.length d2]⟩] H [] (eQ fun v _ _=>v = .bool true):=by
 have:=samefit_fn (Q.map oB) (S.map oB) a b a2 b2 c d c2 d2 H (SlR.raw h1) (SlR.raw h2) (SlR.raw h3) (SlR.raw h4) ⟨by rw [fB];exact hl.1,aQ5 fun q hq=>hz q (jF _ hq)⟩ ⟨by rw [fB];exact hl.2,aQ5 fun q hq=>hz q (List.mem_append_right _ hq)⟩;simp only [fB] at this;exact this
theorem uY {x : Mk} {f : Nat → Rat} {k i : Nat} (h : Mf x i k ≠ -1) : yZ x f k (i + 1) = yZ x f k i ++ [f i]:=by rw [yZ,eX h]
theorem yL {x : Mk} {f : Nat → Rat} {k i : Nat} (h : ¬ Mf x i k ≠ -1) : yZ x f k (i + 1) = yZ x f k i:=by rw [yZ,dG h,gH]
theorem cmpQ_self {x y : Rat} (h : x = y) : aLn x y = 0:=by subst h;unfold aLn;rw [dG Rat.lt_irrefl,eX rfl]
theorem marks_bd {x : Mk} (hok : oF x) (htr : trP (rL x)) (hw0 : 0 < fO x) {i : Nat} {r : List (Raw × Raw)} (h : (x.map (qG (jV x)))[i]? = some r) : r.length < 9223372036854775808 ∧ ∀ y ∈ r,y.1.2.length < 9223372036854775808 ∧ y.2.2.length < 9223372036854775808:=by
 obtain ⟨E,hE⟩:=yQ hok htr hw0;rw [iI] at h;cases hl : x[i]? with
 | none=>rw [hl] at h;cases h
 | some l =>
  rw [hl] at h;obtain rfl:=eE h;have hil:=(bY.1 hl).1;have hlw:=(hok.at hl).1;have hw4:=hok.2.1;refine ⟨by rw [aFs];omega,fun y hy=>?_⟩;obtain ⟨k,hk⟩:=List.getElem?_of_mem hy;have hkl:=(bY.1 hk).1;rw [aFs] at hkl;rw [aMa _ _ hkl] at hk;obtain rfl:=eE hk;unfold aTq;split
  ·have h4:=hE.sz (hE.t i k hil zO);unfold aFp Mf Sv at h4;rw [jE hl] at h4;exact ⟨jS h4.1 zD,jS h4.2 zD⟩
  exact ⟨zD,zD⟩
theorem aSe {x : Mk} {Q S : List Rat} (h : pW ((jW x).map (sqQ Q S)) 499) : mZ (aDp x Q S) 499:=by
 have:=h.1 ((jW x).map (sqQ Q S)).length;rwa [gF] at this
theorem cmpQ_eq {x y : Rat} (h : aLn x y = 0) : x = y:=by
 unfold aLn at h;split at h
 ·cases h
 split at h
 ·assumption
 cases h
theorem cmpQ_cases {x y : Rat} (h : x ≤ y) : aLn x y = -1 ∨ aLn x y = 0:=by
 unfold aLn;by_cases h1 : x < y
 ·rw [eX h1];exact .inl rfl
 rw [dG h1,eX (by grind)];exact .inr rfl
end Go.Proofs
