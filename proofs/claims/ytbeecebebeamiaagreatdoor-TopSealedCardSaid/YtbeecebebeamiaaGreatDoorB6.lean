/- The walks of the functions under TopSealed: what each of them computes,at any input. -/
import Derived.Test.YtbeecebebeamiaaGreatDoorB5
import Derived.Laws.IdiomCopy
set_option maxRecDepth 100000
set_option autoImplicit false
set_option linter.unusedVariables false
set_option linter.unusedSimpArgs false
namespace Go.Proofs
open Go.XL
theorem yR : fW Tryz.prog 54 0 = some 0:=by kernel_rfl
theorem aA9 : fW Tryz.prog 54 1 = some 1:=by kernel_rfl
theorem yT : fW Tryz.prog 54 2 = some 2:=by kernel_rfl
theorem aA1 : fW Tryz.prog 56 0 = some 0:=by kernel_rfl
theorem lG : tyF Tryz.prog 56 34 true = true:=by kernel_rfl
theorem risesX_fn (a : Option Addr) (c : Nat) (l : List Shwn) (H : Hp) (hs : SlR iZ H a c l) (hl : l.length < 9223372036854775808) (g : Value) (q : Shwn → Shwn → Int) (hg : ∀ (x y : Shwn) (ax ay : Option Addr) (cx cy : Nat) (H2 : Hp),LeW H H2 → x ∈ l → y ∈ l → SlR (eO .i64) H2 ax cx x.K → SlR (eO .i64) H2 ay cy y.K → x.D.length = 32 → y.D.length = 32 → FnV Tryz.prog g [.agg ⟨oR x.J x.K.length x.D ax cx⟩,.agg ⟨oR y.J y.K.length y.D ay cy⟩] H2 [] (bX fun v _ _=>v = .int .i64 (q x y))) : FnC Tryz.prog 60 #[.slice a l.length c,g] H [] (bX (fun v _ _=>v = .bool (fV q l))):=by
 refine FnC.intro (args:=[.slice a l.length c,g]) Tryz.func60 rfl rfl Tryz.ntmps60 rfl rfl rfl fun G rest=>?_
 refine aZ (aH (bA rfl rfl (aE (aR (aZ (aZ (aH (bA rfl rfl (aE (aR (bT (cE [5,0,1] rfl (eE (base:=[(0,_),(1,_)]) (fun ζ : Nat=>[(5,.int .i64 ((ζ + 1 : Nat) : Int))]) (fun ζ Hl own=>ζ ≤ (l.length + 1) ∧ rest = own ∧ (fV q l = fV q (l.drop (ζ))) ∧ (LeW H Hl)) (fun ζ=>(l.length + 1) - ζ) 0 (aQ rfl (aQ rfl (aQ rfl bP))) (by repeat(first|exact sL _|apply sD|apply sC)) ⟨Nat.zero_le _,rfl,rfl,Le.refl _⟩ ?_)))))))))))));rintro k Hl0 _ bM ⟨hkk,rfl,hr,hLH⟩;replace hs:=hs.mono bM
 try dsimp only at ⊢
 refine aZ (aZ (aH (aU rfl rfl (aU rfl rfl (cH (ts:=#[]) rfl Tryz.underlying29 rfl (dN rfl rfl rfl (aE (aR (cW rfl (fun gJ=>?_) (fun gJ=>?_))))))))))
 ·refine bS (aR (aZ (bT (aZ (cE [0,1,5] rfl ?_)))));obtain ⟨bEX,oEX,rfl⟩:=hs.addr (by omega);obtain ⟨_,xX,hxX,⟨axX,cxX,rfl,hdX,hDX⟩,hpX⟩:=hs.elem (k) (by omega);obtain ⟨_,xY,hxY,⟨axY,cxY,rfl,hdY,hDY⟩,hpY⟩:=hs.elem (k + 1) (by omega)
  apply iJ (fun _=>True) trivial 10 [eqF _,eqF _,eqF _,eqF _,eqF _,eqF _,eqF _,eqF _,eqF _,eqF _] follows (by kernel_rfl) (by kernel_rfl) ⟨bB _,bB _,bB _,bB _,bB _,bB _,bB _,bB _,bB _,bB _,trivial⟩ ?steps2 ?tail2
  case steps2 =>
   refine bI rfl ?_ ?_
   ·intro X HD aD _
    replace hs:=hs.mono aD;replace hLH:=hLH.mono aD;replace hpX:=hpX.mono aD;replace hdX:=hdX.mono aD;replace hpY:=hpY.mono aD;replace hdY:=hdY.mono aD;replace bM:=bM.trans aD;refine aW rfl (aU rfl rfl (aE ?_))
    exact bH trivial rfl
   refine bI rfl ?_ ?_
   ·intro X HD aD _
    replace hs:=hs.mono aD;replace hLH:=hLH.mono aD;replace hpX:=hpX.mono aD;replace hdX:=hdX.mono aD;replace hpY:=hpY.mono aD;replace hdY:=hdY.mono aD;replace bM:=bM.trans aD;refine aW rfl (aU rfl rfl (aE ?_))
    exact bH trivial rfl
   refine bI rfl ?_ ?_
   ·intro X HD aD _
    replace hs:=hs.mono aD;replace hLH:=hLH.mono aD;replace hpX:=hpX.mono aD;replace hdX:=hdX.mono aD;replace hpY:=hpY.mono aD;replace hdY:=hdY.mono aD;replace bM:=bM.trans aD;refine aW rfl (aU rfl rfl (aE ?_))
    exact bH trivial rfl
   refine bI rfl ?_ ?_
   ·intro X HD aD _
    replace hs:=hs.mono aD;replace hLH:=hLH.mono aD;replace hpX:=hpX.mono aD;replace hdX:=hdX.mono aD;replace hpY:=hpY.mono aD;replace hdY:=hdY.mono aD;replace bM:=bM.trans aD;refine wPq rfl rfl rfl (aW rfl (iF (c:=((k : Nat) : Int)) rfl rfl ((bU (by omega) (by omega)).trans (by omega)) rfl (aE ?_)))
    exact bH trivial rfl
   refine bI rfl ?_ ?_
   ·intro X HD aD _
    replace hs:=hs.mono aD;replace hLH:=hLH.mono aD;replace hpX:=hpX.mono aD;replace hdX:=hdX.mono aD;replace hpY:=hpY.mono aD;replace hdY:=hdY.mono aD;replace bM:=bM.trans aD;refine wPq rfl rfl rfl (wPq rfl rfl rfl (aW rfl (fG rfl rfl Tryz.underlying29 lG (by omega) (by omega) rfl (aE ?_))))
    exact bH trivial rfl
   refine bI rfl ?_ ?_
   ·intro X HD aD _
    replace hs:=hs.mono aD;replace hLH:=hLH.mono aD;replace hpX:=hpX.mono aD;replace hdX:=hdX.mono aD;replace hpY:=hpY.mono aD;replace hdY:=hdY.mono aD;replace bM:=bM.trans aD;refine wPq rfl rfl rfl (aW rfl (cQ rfl (by assumption) lG rfl rfl rfl (aE ?_)))
    exact bH trivial rfl
   refine bI rfl ?_ ?_
   ·intro X HD aD _
    replace hs:=hs.mono aD;replace hLH:=hLH.mono aD;replace hpX:=hpX.mono aD;replace hdX:=hdX.mono aD;replace hpY:=hpY.mono aD;replace hdY:=hdY.mono aD;replace bM:=bM.trans aD;refine aW rfl (aU rfl rfl (aE ?_))
    exact bH trivial rfl
   refine bI rfl ?_ ?_
   ·intro X HD aD _
    replace hs:=hs.mono aD;replace hLH:=hLH.mono aD;replace hpX:=hpX.mono aD;replace hdX:=hdX.mono aD;replace hpY:=hpY.mono aD;replace hdY:=hdY.mono aD;replace bM:=bM.trans aD;refine aW rfl (aU rfl rfl (aE ?_))
    exact bH trivial rfl
   refine bI rfl ?_ ?_
   ·intro X HD aD _
    replace hs:=hs.mono aD;replace hLH:=hLH.mono aD;replace hpX:=hpX.mono aD;replace hdX:=hdX.mono aD;replace hpY:=hpY.mono aD;replace hdY:=hdY.mono aD;replace bM:=bM.trans aD;refine wPq rfl rfl rfl (wPq rfl rfl rfl (aW rfl (fG rfl rfl Tryz.underlying29 lG (by omega) (by omega) rfl (aE ?_))))
    exact bH trivial rfl
   refine bI rfl ?_ ?_
   ·intro X HD aD _
    replace hs:=hs.mono aD;replace hLH:=hLH.mono aD;replace hpX:=hpX.mono aD;replace hdX:=hdX.mono aD;replace hpY:=hpY.mono aD;replace hdY:=hdY.mono aD;replace bM:=bM.trans aD;refine wPq rfl rfl rfl (aW rfl (cQ rfl (by assumption) lG rfl rfl rfl (aE ?_)))
    exact bH trivial rfl
   exact eU rfl
  case tail2 =>
   intro HD aD _
   replace hs:=hs.mono aD;replace hLH:=hLH.mono aD;replace hpX:=hpX.mono aD;replace hdX:=hdX.mono aD;replace hpY:=hpY.mono aD;replace hdY:=hdY.mono aD;replace bM:=bM.trans aD;refine wPq rfl rfl rfl (wPq rfl rfl rfl (wPq rfl rfl rfl (wPq rfl rfl rfl (wPq rfl rfl rfl (wPq rfl rfl rfl (wPq rfl rfl rfl (wPq rfl rfl rfl (wPq rfl rfl rfl (wPq rfl rfl rfl (aW rfl (iI rfl trivial rfl (hg xX xY _ _ _ _ _ hLH (List.mem_of_getElem? hxX) (List.mem_of_getElem? hxY) hdX hdY hDX hDY) rfl ?_)))))))))));rintro _ HN oN fO rfl;replace hs:=hs.mono fO;replace hLH:=hLH.mono fO;replace hpX:=hpX.mono fO;replace hdX:=hdX.mono fO;replace hpY:=hpY.mono fO;replace hdY:=hdY.mono fO;replace bM:=bM.trans fO;refine jC rfl rfl rfl (aE (aR (cW rfl (fun c1_6=>?_) (fun c1_6=>?_))))
   ·refine aZ (aH (bA rfl rfl (aE (aR (bW (dQ (bY (eG (dQ (bY ?_))))))))));refine ⟨rfl,_,[],rfl,(by repeat(first|exact sL _|apply sC)),bX.mk ?_⟩
    first | exact congrArg Value.bool (pG hr hxX hxY (by omega)) | exact congrArg Value.bool (pJ hr (by omega))
   refine bS (dP (aR (aH (aU rfl rfl (dJ rfl rfl (bU (by omega) (by omega)) rfl (bA rfl rfl (aE (cR (k + 1) (by show (l.length + 1) - (k + 1) < (l.length + 1) - k;omega) (aQ rfl (aQ rfl (aQ rfl bP))) (⟨by show k + 1 ≤ (l.length + 1);omega,rfl,zJ hr hxX hxY (by omega),hLH⟩) (by repeat(first|exact sL _|apply sD|apply sC)) (bM)))))))))
 skip
 refine dX (dA (cZ (dI rfl (aR (aZ (aH (bA rfl rfl (aE (aR (bW ?_))))))))));refine ⟨rfl,_,[],rfl,(by repeat(first|exact sL _|apply sC)),bX.mk ?_⟩
 first | exact congrArg Value.bool (pG hr hxX hxY (by omega)) | exact congrArg Value.bool (pJ hr (by omega))
theorem aBx (s t : Shwn) (a b : Option Addr) (c d : Nat) (H : Hp) (hs : SlR (eO .i64) H a c s.K) (ht : SlR (eO .i64) H b d t.K) (hD : s.D.length = 32) (hE : t.D.length = 32) : FnC Tryz.prog 61 #[.agg ⟨oR s.J s.K.length s.D a c⟩,.agg ⟨oR t.J t.K.length t.D b d⟩] H [] (bX (fun v _ _=>v = .int .i64 (sgn s.J t.J))):=by
 refine FnC.intro (args:=[.agg ⟨oR s.J s.K.length s.D a c⟩,.agg ⟨oR t.J t.K.length t.D b d⟩]) Tryz.func61 rfl rfl Tryz.ntmps61 rfl rfl rfl fun G rest=>?_
 refine aZ (aH (dZ rfl rfl rfl (fun b2=>dZ rfl rfl rfl (fun b3=>bA rfl rfl (aE (aR (aZ (aH (bD rfl aA1 rfl (bK 1 rfl rfl dT rfl rfl rfl (bD rfl aA1 rfl (bK 0 rfl rfl dT rfl rfl rfl (bR rfl (tQ _ _ _) rfl (bA rfl rfl (aE (aR (bW ?_)))))))))))))))));refine ⟨rfl,_,[],rfl,(by repeat(first|exact sL _|apply sC)),bX.mk ?_⟩
 rfl
theorem aB2 (s t : KeySh) (H : Hp) : FnC Tryz.prog 56 #[.agg ⟨pK s⟩,.agg ⟨pK t⟩] H [] (bX (fun v _ _=>v = .int .i64 (orL [sgn s.O t.O,sgn s.C t.C,sgn s.W t.W]))):=by
 refine FnC.intro (args:=[.agg ⟨pK s⟩,.agg ⟨pK t⟩]) Tryz.func56 rfl rfl Tryz.ntmps56 rfl rfl rfl fun G rest=>?_
 refine aZ (aH (dZ rfl rfl rfl (fun b2=>dZ rfl rfl rfl (fun b3=>bA rfl rfl (aE (aR (aZ (cE [2,3] rfl ?_))))))))
 apply iJ (fun _=>True) trivial 14 [eqF _,eqF _,eqF _,eqF _,eqF _,eqF _,eqF _,eqF _,eqF _,eqF _,eqF _,eqF _,eqF _,eqF _] follows (by kernel_rfl) (by kernel_rfl) ⟨bB _,bB _,bB _,bB _,bB _,bB _,bB _,bB _,bB _,bB _,bB _,bB _,bB _,bB _,trivial⟩ ?steps1 ?tail1
 case steps1 =>
  refine bI rfl ?_ ?_
  ·intro X HD aD _
   refine aW rfl (bD rfl yR rfl (aE ?_))
   exact bH trivial rfl
  refine bI rfl ?_ ?_
  ·intro X HD aD _
   refine wPq rfl rfl rfl (aW rfl (bK 1 rfl rfl dT rfl rfl rfl (aE ?_)))
   exact bH trivial rfl
  refine bI rfl ?_ ?_
  ·intro X HD aD _
   refine aW rfl (bD rfl yR rfl (aE ?_))
   exact bH trivial rfl
  refine bI rfl ?_ ?_
  ·intro X HD aD _
   refine wPq rfl rfl rfl (aW rfl (bK 0 rfl rfl dT rfl rfl rfl (aE ?_)))
   exact bH trivial rfl
  refine bI rfl ?_ ?_
  ·intro X HD aD _
   refine wPq rfl rfl rfl (wPq rfl rfl rfl (aW rfl (bR rfl (tQ s.O t.O _) rfl (aE ?_))))
   exact bH trivial rfl
  refine bI rfl ?_ ?_
  ·intro X HD aD _
   refine aW rfl (bD rfl aA9 rfl (aE ?_))
   exact bH trivial rfl
  refine bI rfl ?_ ?_
  ·intro X HD aD _
   refine wPq rfl rfl rfl (aW rfl (bK 1 rfl rfl dT rfl rfl rfl (aE ?_)))
   exact bH trivial rfl
  refine bI rfl ?_ ?_
  ·intro X HD aD _
   refine aW rfl (bD rfl aA9 rfl (aE ?_))
   exact bH trivial rfl
  refine bI rfl ?_ ?_
  ·intro X HD aD _
   refine wPq rfl rfl rfl (aW rfl (bK 0 rfl rfl dT rfl rfl rfl (aE ?_)))
   exact bH trivial rfl
  refine bI rfl ?_ ?_
  ·intro X HD aD _
   refine wPq rfl rfl rfl (wPq rfl rfl rfl (aW rfl (bR rfl (tQ s.C t.C _) rfl (aE ?_))))
   exact bH trivial rfl
  refine bI rfl ?_ ?_
  ·intro X HD aD _
   refine aW rfl (bD rfl yT rfl (aE ?_))
   exact bH trivial rfl
  refine bI rfl ?_ ?_
  ·intro X HD aD _
   refine wPq rfl rfl rfl (aW rfl (bK 1 rfl rfl dT rfl rfl rfl (aE ?_)))
   exact bH trivial rfl
  refine bI rfl ?_ ?_
  ·intro X HD aD _
   refine aW rfl (bD rfl yT rfl (aE ?_))
   exact bH trivial rfl
  refine bI rfl ?_ ?_
  ·intro X HD aD _
   refine wPq rfl rfl rfl (aW rfl (bK 0 rfl rfl dT rfl rfl rfl (aE ?_)))
   exact bH trivial rfl
  exact eU rfl
 case tail1 =>
  intro HD aD _
  refine wPq rfl rfl rfl (wPq rfl rfl rfl (wPq rfl rfl rfl (wPq rfl rfl rfl (wPq rfl rfl rfl (wPq rfl rfl rfl (wPq rfl rfl rfl (wPq rfl rfl rfl (wPq rfl rfl rfl (wPq rfl rfl rfl (wPq rfl rfl rfl (wPq rfl rfl rfl (wPq rfl rfl rfl (wPq rfl rfl rfl (aW rfl (bR rfl (tQ s.W t.W _) rfl (dB rfl Tryz.underlying26 dT uI rfl rfl rfl (fun b20=>dF 0 rfl rfl rfl (fun HP20 oP20 hleP20 hbP20 hoP20=>?_))))))))))))))))))
  have hsl20:=SlR.lit (ρ:=(eO .i64)) (l:=[sgn s.O t.O,sgn s.C t.C,sgn s.W t.W]) hbP20 hoP20 (eN.cons1 (cs:=[_]) rfl (eN.cons1 (cs:=[_]) rfl (eN.one1 rfl)))
  refine bR rfl (aNa _ _ [sgn s.O t.O,sgn s.C t.C,sgn s.W t.W] _ hsl20 (show (3 : Nat) < 9223372036854775808 by decide)) rfl (bA rfl rfl (aE (aR (bW ?_))));refine ⟨rfl,_,[],rfl,(by repeat(first|exact sL _|apply sC)),bX.mk ?_⟩
  rfl
end Go.Proofs

namespace Go.Proofs
open Go.XL
theorem aNd : Tryz.prog.eqGuardType Tryz.prog.depth 34 = false:=by kernel_rfl
theorem aJf : fW Tryz.prog 56 1 = some 1:=by kernel_rfl
theorem aI0 : fW Tryz.prog 56 2 = some 2:=by kernel_rfl
theorem oA : tyF Tryz.prog 34 32 true = true:=by kernel_rfl
end Go.Proofs

namespace Go.Proofs
open Go.XL
end Go.Proofs

namespace Go.Proofs
open Go.XL
theorem indexC_fn (a : Option Addr) (c : Nat) (l : List Card) (H : Hp) (hs : SlR eV H a c l) (hl : l.length < 9223372036854775808) (g : Value) (q : Card → Prop) (hg : ∀ (x : Card) (ax : Option Addr) (cx : Nat) (H2 : Hp),LeW H H2 → x ∈ l → SlR (eO .i64) H2 ax cx x.C → x.D.length = 32 → FnV Tryz.prog g [.agg ⟨fA x.R x.E x.J x.C.length x.D ax cx⟩] H2 [] (bX fun u _ _=>∃ b : Bool,u = .bool b ∧ (b = true ↔ q x))) : FnC Tryz.prog 136 #[.slice a l.length c,g] H [] (bX (fun v _ _=>∃ i : Int,v = .int .i64 i ∧ (0 ≤ i ↔ ∃ x ∈ l,q x))):=by
 refine FnC.intro (args:=[.slice a l.length c,g]) Tryz.func136 rfl rfl Tryz.ntmps136 rfl rfl rfl fun G rest=>?_
 refine aZ (aH (bA rfl rfl (aE (aR (aZ (aZ (aH (aU rfl rfl (cH (ts:=#[]) rfl Tryz.underlying27 rfl (aU rfl rfl (aE (aR (bT (cE [8,0,1,7] rfl (eE (base:=[(0,_),(1,_),(7,_)]) (fun ζ : Nat=>[(8,.int .i64 (ζ : Nat))]) (fun ζ Hl own=>ζ ≤ l.length ∧ rest = own ∧ (∀ x ∈ l.take (ζ),¬ q x) ∧ (LeW H Hl)) (fun ζ=>l.length - ζ) 0 (aQ rfl (aQ rfl (aQ rfl (aQ rfl bP)))) (by repeat(first|exact sL _|apply sD|apply sC)) ⟨Nat.zero_le _,rfl,by simp,Le.refl _⟩ ?_)))))))))))))));rintro k Hl0 _ bM ⟨hkk,rfl,hno,hLH⟩;replace hs:=hs.mono bM
 try dsimp only at ⊢
 refine aZ (aH (dN rfl rfl rfl (aE (aR (aZ (cW rfl (fun gJ=>?_) (fun gJ=>?_)))))))
 ·refine bS (aR (aZ (bT (aZ (aH (aU rfl rfl (bA rfl rfl (aE (aR (aZ (aH (aU rfl rfl (aU rfl rfl (aU rfl rfl (dK rfl hs rfl Tryz.underlying27 eI (by omega) rfl ?_)))))))))))))));rintro eb14 eo14 _ x14 gO ⟨ax14,cx14,rfl,iN,hD14⟩ gW;refine cQ rfl (by assumption) eI rfl rfl rfl (iI rfl trivial rfl (hg x14 _ _ _ hLH (List.mem_of_getElem? gO) iN hD14) rfl ?_);rintro _ HN oN fO ⟨bq,rfl,hqq⟩;replace hs:=hs.mono fO;replace hLH:=hLH.mono fO;replace gW:=gW.mono fO;replace iN:=iN.mono fO;replace bM:=bM.trans fO;refine aE (aR (gN rfl (fun qU=>?_) (fun qU=>?_)))
  ·refine aZ (aH (aU rfl rfl (bA rfl rfl (aE (aR (bW (dQ (bY (eG (dQ (bY ?_)))))))))));refine ⟨rfl,_,[],rfl,(by repeat(first|exact sL _|apply sC)),bX.mk ?_⟩
   exact ⟨_,rfl,⟨fun _=>⟨x14,List.mem_of_getElem? gO,hqq.1 (by assumption)⟩,fun _=>by omega⟩⟩
  refine bS (dP (aR (aH (dJ rfl rfl (bU (by omega) (by omega)) rfl (aU rfl rfl (aE (cR (k + 1) (by show l.length - (k + 1) < l.length - k;omega) (aQ rfl (aQ rfl (aQ rfl (aQ rfl bP)))) (⟨by show k + 1 ≤ l.length;omega,rfl,lP (p:=fun x=>¬ q x) hno gO (fun h=>by have:=hqq.2 h;simp_all),hLH⟩) (by repeat(first|exact sL _|apply sD|apply sC)) (bM))))))))
 obtain rfl : k = l.length:=by omega
 rw [List.take_length] at hno
 refine dX (dA (cZ (dI rfl (aR (aZ (aH (bA rfl rfl (aE (aR (bW ?_))))))))));refine ⟨rfl,_,[],rfl,(by repeat(first|exact sL _|apply sC)),bX.mk ?_⟩
 exact ⟨-1,rfl,⟨fun h=>absurd h (by decide),fun ⟨x,hx,hq⟩=>absurd hq (hno x hx)⟩⟩
theorem containsC_fn (a : Option Addr) (c : Nat) (l : List Card) (H : Hp) (hs : SlR eV H a c l) (hl : l.length < 9223372036854775808) (g : Value) (q : Card → Prop) (hg : ∀ (x : Card) (ax : Option Addr) (cx : Nat) (H2 : Hp),LeW H H2 → x ∈ l → SlR (eO .i64) H2 ax cx x.C → x.D.length = 32 → FnV Tryz.prog g [.agg ⟨fA x.R x.E x.J x.C.length x.D ax cx⟩] H2 [] (bX fun u _ _=>∃ b : Bool,u = .bool b ∧ (b = true ↔ q x))) : FnC Tryz.prog 98 #[.slice a l.length c,g] H [] (bX (fun v _ _=>∃ b : Bool,v = .bool b ∧ (b = true ↔ ∃ x ∈ l,q x))):=by
 refine FnC.intro (args:=[.slice a l.length c,g]) Tryz.func98 rfl rfl Tryz.ntmps98 rfl rfl rfl fun G rest=>?_
 refine aZ (aH (bA rfl rfl (aE (aR (aZ (aH (aU rfl rfl (aU rfl rfl (jO rfl (indexC_fn _ _ _ _ hs hl _ _ hg) rfl ?_)))))))));rintro _ ⟨iX,rfl,hX⟩;refine jC rfl rfl rfl (bA rfl rfl (aE (aR (bW ?_))));refine ⟨rfl,_,[],rfl,(by repeat(first|exact sL _|apply sC)),bX.mk ?_⟩
 exact ⟨_,rfl,by rw [decide_eq_true_iff];exact hX⟩
theorem indexK_fn (a : Option Addr) (c : Nat) (l : List KeySh) (H : Hp) (hs : SlR iY H a c l) (hl : l.length < 9223372036854775808) (g : Value) (q : KeySh → Prop) (hg : ∀ (x : KeySh) (H2 : Hp),LeW H H2 → x ∈ l → FnV Tryz.prog g [.agg ⟨pK x⟩] H2 [] (bX fun u _ _=>∃ b : Bool,u = .bool b ∧ (b = true ↔ q x))) : FnC Tryz.prog 138 #[.slice a l.length c,g] H [] (bX (fun v _ _=>∃ i : Int,v = .int .i64 i ∧ (0 ≤ i ↔ ∃ x ∈ l,q x))):=by
 refine FnC.intro (args:=[.slice a l.length c,g]) Tryz.func138 rfl rfl Tryz.ntmps138 rfl rfl rfl fun G rest=>?_
 refine aZ (aH (bA rfl rfl (aE (aR (aZ (aZ (aH (aU rfl rfl (cH (ts:=#[]) rfl Tryz.underlying28 rfl (aU rfl rfl (aE (aR (bT (cE [8,0,1,7] rfl (eE (base:=[(0,_),(1,_),(7,_)]) (fun ζ : Nat=>[(8,.int .i64 (ζ : Nat))]) (fun ζ Hl own=>ζ ≤ l.length ∧ rest = own ∧ (∀ x ∈ l.take (ζ),¬ q x) ∧ (LeW H Hl)) (fun ζ=>l.length - ζ) 0 (aQ rfl (aQ rfl (aQ rfl (aQ rfl bP)))) (by repeat(first|exact sL _|apply sD|apply sC)) ⟨Nat.zero_le _,rfl,by simp,Le.refl _⟩ ?_)))))))))))))));rintro k Hl0 _ bM ⟨hkk,rfl,hno,hLH⟩;replace hs:=hs.mono bM
 try dsimp only at ⊢
 refine aZ (aH (dN rfl rfl rfl (aE (aR (aZ (cW rfl (fun gJ=>?_) (fun gJ=>?_)))))))
 ·refine bS (aR (aZ (bT (aZ (aH (aU rfl rfl (bA rfl rfl (aE (aR (aZ (aH (aU rfl rfl (aU rfl rfl (aU rfl rfl (dK rfl hs rfl Tryz.underlying28 mH (by omega) rfl ?_)))))))))))))));rintro eb14 eo14 _ x14 gO rfl gW;refine cQ rfl (by assumption) mH rfl rfl rfl (iI rfl trivial rfl (hg x14 _ hLH (List.mem_of_getElem? gO)) rfl ?_);rintro _ HN oN fO ⟨bq,rfl,hqq⟩;replace hs:=hs.mono fO;replace hLH:=hLH.mono fO;replace gW:=gW.mono fO;replace bM:=bM.trans fO;refine aE (aR (gN rfl (fun qU=>?_) (fun qU=>?_)))
  ·refine aZ (aH (aU rfl rfl (bA rfl rfl (aE (aR (bW (dQ (bY (eG (dQ (bY ?_)))))))))));refine ⟨rfl,_,[],rfl,(by repeat(first|exact sL _|apply sC)),bX.mk ?_⟩
   exact ⟨_,rfl,⟨fun _=>⟨x14,List.mem_of_getElem? gO,hqq.1 (by assumption)⟩,fun _=>by omega⟩⟩
  refine bS (dP (aR (aH (dJ rfl rfl (bU (by omega) (by omega)) rfl (aU rfl rfl (aE (cR (k + 1) (by show l.length - (k + 1) < l.length - k;omega) (aQ rfl (aQ rfl (aQ rfl (aQ rfl bP)))) (⟨by show k + 1 ≤ l.length;omega,rfl,lP (p:=fun x=>¬ q x) hno gO (fun h=>by have:=hqq.2 h;simp_all),hLH⟩) (by repeat(first|exact sL _|apply sD|apply sC)) (bM))))))))
 obtain rfl : k = l.length:=by omega
 rw [List.take_length] at hno
 refine dX (dA (cZ (dI rfl (aR (aZ (aH (bA rfl rfl (aE (aR (bW ?_))))))))));refine ⟨rfl,_,[],rfl,(by repeat(first|exact sL _|apply sC)),bX.mk ?_⟩
 exact ⟨-1,rfl,⟨fun h=>absurd h (by decide),fun ⟨x,hx,hq⟩=>absurd hq (hno x hx)⟩⟩
theorem containsK_fn (a : Option Addr) (c : Nat) (l : List KeySh) (H : Hp) (hs : SlR iY H a c l) (hl : l.length < 9223372036854775808) (g : Value) (q : KeySh → Prop) (hg : ∀ (x : KeySh) (H2 : Hp),LeW H H2 → x ∈ l → FnV Tryz.prog g [.agg ⟨pK x⟩] H2 [] (bX fun u _ _=>∃ b : Bool,u = .bool b ∧ (b = true ↔ q x))) : FnC Tryz.prog 102 #[.slice a l.length c,g] H [] (bX (fun v _ _=>∃ b : Bool,v = .bool b ∧ (b = true ↔ ∃ x ∈ l,q x))):=by
 refine FnC.intro (args:=[.slice a l.length c,g]) Tryz.func102 rfl rfl Tryz.ntmps102 rfl rfl rfl fun G rest=>?_
 refine aZ (aH (bA rfl rfl (aE (aR (aZ (aH (aU rfl rfl (aU rfl rfl (jO rfl (indexK_fn _ _ _ _ hs hl _ _ hg) rfl ?_)))))))));rintro _ ⟨iX,rfl,hX⟩;refine jC rfl rfl rfl (bA rfl rfl (aE (aR (bW ?_))));refine ⟨rfl,_,[],rfl,(by repeat(first|exact sL _|apply sC)),bX.mk ?_⟩
 exact ⟨_,rfl,by rw [decide_eq_true_iff];exact hX⟩
theorem indexX_fn (a : Option Addr) (c : Nat) (l : List Shwn) (H : Hp) (hs : SlR iZ H a c l) (hl : l.length < 9223372036854775808) (g : Value) (q : Shwn → Prop) (hg : ∀ (x : Shwn) (ax : Option Addr) (cx : Nat) (H2 : Hp),LeW H H2 → x ∈ l → SlR (eO .i64) H2 ax cx x.K → x.D.length = 32 → FnV Tryz.prog g [.agg ⟨oR x.J x.K.length x.D ax cx⟩] H2 [] (bX fun u _ _=>∃ b : Bool,u = .bool b ∧ (b = true ↔ q x))) : FnC Tryz.prog 139 #[.slice a l.length c,g] H [] (bX (fun v _ _=>∃ i : Int,v = .int .i64 i ∧ (0 ≤ i ↔ ∃ x ∈ l,q x))):=by
 refine FnC.intro (args:=[.slice a l.length c,g]) Tryz.func139 rfl rfl Tryz.ntmps139 rfl rfl rfl fun G rest=>?_
 refine aZ (aH (bA rfl rfl (aE (aR (aZ (aZ (aH (aU rfl rfl (cH (ts:=#[]) rfl Tryz.underlying29 rfl (aU rfl rfl (aE (aR (bT (cE [8,0,1,7] rfl (eE (base:=[(0,_),(1,_),(7,_)]) (fun ζ : Nat=>[(8,.int .i64 (ζ : Nat))]) (fun ζ Hl own=>ζ ≤ l.length ∧ rest = own ∧ (∀ x ∈ l.take (ζ),¬ q x) ∧ (LeW H Hl)) (fun ζ=>l.length - ζ) 0 (aQ rfl (aQ rfl (aQ rfl (aQ rfl bP)))) (by repeat(first|exact sL _|apply sD|apply sC)) ⟨Nat.zero_le _,rfl,by simp,Le.refl _⟩ ?_)))))))))))))));rintro k Hl0 _ bM ⟨hkk,rfl,hno,hLH⟩;replace hs:=hs.mono bM
 try dsimp only at ⊢
 refine aZ (aH (dN rfl rfl rfl (aE (aR (aZ (cW rfl (fun gJ=>?_) (fun gJ=>?_)))))))
 ·refine bS (aR (aZ (bT (aZ (aH (aU rfl rfl (bA rfl rfl (aE (aR (aZ (aH (aU rfl rfl (aU rfl rfl (aU rfl rfl (dK rfl hs rfl Tryz.underlying29 lG (by omega) rfl ?_)))))))))))))));rintro eb14 eo14 _ x14 gO ⟨ax14,cx14,rfl,iN,hD14⟩ gW;refine cQ rfl (by assumption) lG rfl rfl rfl (iI rfl trivial rfl (hg x14 _ _ _ hLH (List.mem_of_getElem? gO) iN hD14) rfl ?_);rintro _ HN oN fO ⟨bq,rfl,hqq⟩;replace hs:=hs.mono fO;replace hLH:=hLH.mono fO;replace gW:=gW.mono fO;replace iN:=iN.mono fO;replace bM:=bM.trans fO;refine aE (aR (gN rfl (fun qU=>?_) (fun qU=>?_)))
  ·refine aZ (aH (aU rfl rfl (bA rfl rfl (aE (aR (bW (dQ (bY (eG (dQ (bY ?_)))))))))));refine ⟨rfl,_,[],rfl,(by repeat(first|exact sL _|apply sC)),bX.mk ?_⟩
   exact ⟨_,rfl,⟨fun _=>⟨x14,List.mem_of_getElem? gO,hqq.1 (by assumption)⟩,fun _=>by omega⟩⟩
  refine bS (dP (aR (aH (dJ rfl rfl (bU (by omega) (by omega)) rfl (aU rfl rfl (aE (cR (k + 1) (by show l.length - (k + 1) < l.length - k;omega) (aQ rfl (aQ rfl (aQ rfl (aQ rfl bP)))) (⟨by show k + 1 ≤ l.length;omega,rfl,lP (p:=fun x=>¬ q x) hno gO (fun h=>by have:=hqq.2 h;simp_all),hLH⟩) (by repeat(first|exact sL _|apply sD|apply sC)) (bM))))))))
 obtain rfl : k = l.length:=by omega
 rw [List.take_length] at hno
 refine dX (dA (cZ (dI rfl (aR (aZ (aH (bA rfl rfl (aE (aR (bW ?_))))))))));refine ⟨rfl,_,[],rfl,(by repeat(first|exact sL _|apply sC)),bX.mk ?_⟩
 exact ⟨-1,rfl,⟨fun h=>absurd h (by decide),fun ⟨x,hx,hq⟩=>absurd hq (hno x hx)⟩⟩
theorem containsX_fn (a : Option Addr) (c : Nat) (l : List Shwn) (H : Hp) (hs : SlR iZ H a c l) (hl : l.length < 9223372036854775808) (g : Value) (q : Shwn → Prop) (hg : ∀ (x : Shwn) (ax : Option Addr) (cx : Nat) (H2 : Hp),LeW H H2 → x ∈ l → SlR (eO .i64) H2 ax cx x.K → x.D.length = 32 → FnV Tryz.prog g [.agg ⟨oR x.J x.K.length x.D ax cx⟩] H2 [] (bX fun u _ _=>∃ b : Bool,u = .bool b ∧ (b = true ↔ q x))) : FnC Tryz.prog 104 #[.slice a l.length c,g] H [] (bX (fun v _ _=>∃ b : Bool,v = .bool b ∧ (b = true ↔ ∃ x ∈ l,q x))):=by
 refine FnC.intro (args:=[.slice a l.length c,g]) Tryz.func104 rfl rfl Tryz.ntmps104 rfl rfl rfl fun G rest=>?_
 refine aZ (aH (bA rfl rfl (aE (aR (aZ (aH (aU rfl rfl (aU rfl rfl (jO rfl (indexX_fn _ _ _ _ hs hl _ _ hg) rfl ?_)))))))));rintro _ ⟨iX,rfl,hX⟩;refine jC rfl rfl rfl (bA rfl rfl (aE (aR (bW ?_))));refine ⟨rfl,_,[],rfl,(by repeat(first|exact sL _|apply sC)),bX.mk ?_⟩
 exact ⟨_,rfl,by rw [decide_eq_true_iff];exact hX⟩
end Go.Proofs

namespace Go.XL
theorem aNu {v : Value} : ∀ {cs : List Value} {o : Nat},cs[o]? = some v → zR cs o 1 = some [v]
  | [],o,h=>by simp at h
  | x :: xs,0,h=>by simp at h;subst h;cases xs <;> rfl
  | x :: xs,o + 1,h=>by
    have:=aNu (cs:=xs) (o:=o) (by simpa using h)
    simpa [zR] using this
theorem aOg {v : Value} : ∀ {cs : List Value} {o : Nat},o < cs.length → wJ cs o [v] = some (cs.set o v)
  | [],o,h=>by simp at h
  | x :: xs,0,h=>by cases xs <;> rfl
  | x :: xs,o + 1,h=>by
    have:=aOg (v:=v) (cs:=xs) (o:=o) (by simpa using h)
    simp [wJ,this]
abbrev wds (k : IntKind) (l : List Int) : List Value:=l.map (Value.int k)
abbrev qQ (l : List Int) (i : Nat) : Int:=l.getD i 0
theorem kB {k : IntKind} {l : List Int} {i : Nat} (h : i < l.length) : (wds k l)[i]? = some (Value.int k (qQ l i)):=by
 simp [wds,List.getD,h]
theorem yJ {k : IntKind} {l : List Int} {i : Nat} {x : Int} : (wds k l).set i (.int k x) = wds k (l.set i x):=by simp [wds,List.map_set]
def itN {α : Type} (f : Nat → α → α) : Nat → α → α
 | 0,x=>x
 | n + 1,x=>f n (itN f n x)
section
variable {C : Ctx} {ops : Array Oper} {Q : Exit → St → Prop} {rest : List Oper} {env : Env} {df : List Deferred} {H : Hp} {own : Own} {dst : Option Tmp} {ty : TypeId} {pos : String} {af : Array Edge}
theorem iH (i : Nat) (n : Nat) {t T : TypeId} {x : Operand} {b o : Nat} {cs : List Value} {v : Value} (hx : ev env x = some (.pointer (some ⟨b,o,none⟩))) (hn : o = n) (ho : Own.at own i = some (b,.cells T cs))
  (ht : tyF C.P t 1 false = true) (hl : cs[n]? = some v) (hd : eP C.N dst = true) (h : XO C ops Q rest ⟨fJ dst v env,df,H,own⟩) :
  XO C ops Q (⟨dst,.load t x,ty,pos,af,none⟩ :: rest) ⟨env,df,H,own⟩:=bK i hx ho ht (aNu (by rw [hn];exact hl)) rfl hd h
theorem oO (i : Nat) (n : Nat) {t T : TypeId} {x y : Operand} {b o : Nat} {cs cs' : List Value} {own' : Own} {v : Value} (hx : ev env x = some (.pointer (some ⟨b,o,none⟩))) (hn : o = n) (hy : ev env y = some v)
  (ho : Own.at own i = some (b,.cells T cs)) (hv : wT v = some [v]) (ht : tyF C.P t 1 false = true) (h1 : mX [v] = true) (hl : n < cs.length) (hs : cs.set n v = cs') (hp : Own.put own i (.cells T cs') = some own') (hd : eP C.N dst = true)
  (h : XO C ops Q rest ⟨fJ dst undef env,df,H,own'⟩) : XO C ops Q (⟨dst,.store t x y,ty,pos,af,none⟩ :: rest) ⟨env,df,H,own⟩ :=
 bZ i hx hy ho hv ht rfl h1 (by rw [hn,aOg hl,hs]) hp hd h
theorem sY {t e : TypeId} {x : Operand} {lo hi mx : Option Operand} {a : Option Addr} {c n sz : Nat} {agg : Bool} {lo' hi' m' : Int} (hx : ev env x = some (.slice a n c))
    (hl : ev? env lo 0 lo') (hh : ev? env hi n hi') (hm : ev? env mx c m') (hnm : mx.isSome = true → hi.isSome = true) (h0 : 0 ≤ lo') (h1 : lo' ≤ hi') (h3 : hi' ≤ m') (h4 : m' ≤ c)
    (ht : C.P.underlying t = some (.slice e)) (he : tyF C.P e sz agg = true) (hd : eP C.N dst = true)
    (h : XO C ops Q rest ⟨fJ dst (.slice (if m'.toNat = lo'.toNat then a else a.map (·.add (lo'.toNat * sz))) (hi'.toNat - lo'.toNat) (m'.toNat - lo'.toNat)) env,df,H,own⟩) :
    XO C ops Q (⟨dst,.slice t x lo hi mx,ty,pos,af,none⟩ :: rest) ⟨env,df,H,own⟩:=by
  refine fN rfl rfl hd (fun ρ' ha w=>?_) h
  have hb : (Instr.sliceBounds true n c (lo.map ρ') (hi.map ρ') (mx.map ρ')).run C.P w = .ok (lo'.toNat,hi'.toNat,m'.toNat) w:=by
    have bd : ∀ (x : Operand) (n : Int) (y : Nat) (code : BoundsCode) (w : World),(∃ k,ev env x = some (.int k n)) → 0 ≤ n → n ≤ y → (Instr.sliceBound (ρ' x) y code).run C.P w = .ok n.toNat w:=by
      rintro x n y code w ⟨k,hk⟩ g0 g1
      rw [ha _ _ hk];exact aAb g0 g1
    unfold Instr.sliceBounds
    cases mx with
    | none =>
      have e : m' = c:=hm
      subst e
      cases hi with
      | none =>
        have e : hi' = n:=hh
        subst e
        cases lo with
        | none=>have e : lo' = 0:=hl;subst e;simp [Sem.run,Pure.pure,Sem.run_bind,Result.andThen,bind,Sem.bind]
        | some z=>simp only [Option.map_none,Option.map_some,Sem.run_bind];simp only [Pure.pure,Sem.run,Result.andThen,Sem.run_bind,bd z lo' _ _ _ hl h0 h1,Int.toNat_natCast]
      | some y =>
        have b1:=fun code w=>bd y hi' c code w hh (by omega) (by omega)
        cases lo with
        | none =>
          have e : lo' = 0:=hl
          subst e
          simp only [Option.map_none,Option.map_some,Sem.run_bind];simp only [Pure.pure,Sem.run,Result.andThen,Sem.run_bind,if_true,b1,Int.toNat_natCast,Int.toNat_zero]
        | some z =>
          have b2:=fun code w=>bd z lo' hi'.toNat code w hl h0 (by omega)
          simp only [Option.map_none,Option.map_some,Sem.run_bind];simp only [Pure.pure,Sem.run,Result.andThen,Sem.run_bind,if_true,b1,b2,Int.toNat_natCast]
    | some q =>
      have b0:=fun code w=>bd q m' c code w hm (by omega) h4
      cases hi with
      | none=>exact absurd (hnm rfl) (by simp)
      | some y =>
        have b1:=fun code w=>bd y hi' m'.toNat code w hh (by omega) (by omega)
        cases lo with
        | none =>
          have e : lo' = 0:=hl
          subst e
          simp only [Option.map_none,Option.map_some,Sem.run_bind];simp only [Pure.pure,Sem.run,Result.andThen,Sem.run_bind,if_true,b0,b1,Int.toNat_zero]
        | some z =>
          have b2:=fun code w=>bd z lo' hi'.toNat code w hl h0 (by omega)
          simp only [Option.map_none,Option.map_some,Sem.run_bind];simp only [Pure.pure,Sem.run,Result.andThen,Sem.run_bind,if_true,b0,b1,b2]
  have hr : (Instr.sliceAt t (.slice a n c) (lo.map ρ') (hi.map ρ') (mx.map ρ')).run C.P w = .ok (.slice (if m'.toNat = lo'.toNat then a else a.map (·.add (lo'.toNat * sz))) (hi'.toNat - lo'.toNat) (m'.toNat - lo'.toNat)) w:=by
    unfold Instr.sliceAt
    rw [Sem.run_bind,dR ht]
    simp only [Result.andThen,Instr.slice]
    rw [Sem.run_bind,dR ht]
    simp only [Result.andThen,Sem.run_bind,hb,gU he]
    rfl
  simp only [execOp,ha _ _ hx,Sem.run_bind,hr,Result.andThen]
  rfl
theorem zK {t e : TypeId} {x : Operand} {lo hi : Option Operand} {b o c n : Nat} (lo' hi' : Nat) (hx : ev env x = some (.slice (some ⟨b,o,none⟩) n c))
  (hl : ev? env lo 0 (lo' : Nat)) (hh : ev? env hi n (hi' : Nat)) (h1 : lo' ≤ hi') (h3 : hi' ≤ c) (h4 : lo' < c ∨ lo' = 0)
  (ht : C.P.underlying t = some (.slice e)) (he : tyF C.P e 1 false = true) (hd : eP C.N dst = true)
  (h : XO C ops Q rest ⟨fJ dst (.slice (some ⟨b,o + lo',none⟩) (hi' - lo') (c - lo')) env,df,H,own⟩) :
  XO C ops Q (⟨dst,.slice t x lo hi none,ty,pos,af,none⟩ :: rest) ⟨env,df,H,own⟩:=by
 refine sY (lo':=lo') (hi':=hi') (m':=c) hx hl hh fF (by simp) (by omega) (by omega) (by omega) (by omega) ht he hd ?_
 have e : (if (c : Int).toNat = (lo' : Int).toNat then (some ⟨b,o,none⟩ : Option Addr) else (some ⟨b,o,none⟩ : Option Addr).map (·.add ((lo' : Int).toNat * 1))) = some ⟨b,o + lo',none⟩:=by
  split
  ·have : lo' = 0:=by omega
   subst this;rfl
  simp [jV]
 rw [e]
 simpa using h
theorem tC {t e : TypeId} {x : Operand} {lo hi : Option Operand} {b o n : Nat} (lo' hi' : Nat) (hx : ev env x = some (.pointer (some ⟨b,o,none⟩)))
    (hl : ev? env lo 0 (lo' : Nat)) (hh : ev? env hi n (hi' : Nat)) (h1 : lo' ≤ hi') (h3 : hi' ≤ n) (h4 : lo' < n)
    (ht : C.P.underlying t = some (.array n e)) (he : tyF C.P e 1 false = true) (hd : eP C.N dst = true)
    (h : XO C ops Q rest ⟨fJ dst (.slice (some ⟨b,o + lo',none⟩) (hi' - lo') (n - lo')) env,df,H,own⟩) :
    XO C ops Q (⟨dst,.slice t x lo hi none,ty,pos,af,none⟩ :: rest) ⟨env,df,H,own⟩:=by
  refine fN rfl rfl hd (fun ρ' ha w=>?_) h
  have hb : (Instr.sliceBounds false n n (lo.map ρ') (hi.map ρ') none).run C.P w = .ok (lo',hi',n) w:=by
    have bd : ∀ (x : Operand) (m : Nat) (y : Nat) (code : BoundsCode) (w : World),(∃ k,ev env x = some (.int k (m : Nat))) → m ≤ y → (Instr.sliceBound (ρ' x) y code).run C.P w = .ok m w:=by
      rintro x m y code w ⟨k,hk⟩ g1
      rw [ha _ _ hk]
      have:=aAb (P:=C.P) (w:=w) (k:=k) (x:=(m : Int)) (y:=y) (code:=code) (by omega) (by omega)
      simpa using this
    unfold Instr.sliceBounds
    cases hi with
    | none =>
      have e : hi' = n:=by have : ((hi' : Nat) : Int) = (n : Nat):=hh;omega
      subst e
      cases lo with
      | none=>have e : lo' = 0:=by have : ((lo' : Nat) : Int) = 0:=hl;omega
              subst e;simp [Sem.run,Pure.pure,Sem.run_bind,Result.andThen,bind,Sem.bind]
      | some z=>simp only [Option.map_none,Option.map_some,Sem.run_bind];simp only [Pure.pure,Sem.run,Result.andThen,Sem.run_bind,bd z lo' _ _ _ hl h1]
    | some y =>
      have b1:=fun code w=>bd y hi' n code w hh h3
      cases lo with
      | none =>
        have e : lo' = 0:=by have : ((lo' : Nat) : Int) = 0:=hl;omega
        subst e
        simp only [Option.map_none,Option.map_some,Sem.run_bind];simp only [Pure.pure,Sem.run,Result.andThen,Sem.run_bind,Bool.false_eq_true,if_false,b1]
      | some z =>
        have b2:=fun code w=>bd z lo' hi' code w hl h1
        simp only [Option.map_none,Option.map_some,Sem.run_bind];simp only [Pure.pure,Sem.run,Result.andThen,Sem.run_bind,Bool.false_eq_true,if_false,b1,b2]
  simp only [execOp,ha _ _ hx,Sem.run_bind,Instr.sliceAt,dR ht,Result.andThen,Option.map_none]
  simp only [Instr.sureAddr,hb,Pure.pure,Sem.run,Result.andThen,Sem.run_bind,gU he,jV,Nat.mul_one]
  have hne : ¬ n = lo':=by omega
  simp only [hne,if_false]
theorem XO.capS {t e : TypeId} {x : Operand} {a : Option Addr} {n c : Nat} (hx : ev env x = some (.slice a n c)) (ht : C.P.underlying t = some (.slice e)) (hc : c < 9223372036854775808) (hd : eP C.N dst = true)
  (h : XO C ops Q rest ⟨fJ dst (.int .i64 (c : Nat)) env,df,H,own⟩) : XO C ops Q (⟨dst,.call { callee:=.builtin .cap,args:=#[x],argTypes:=#[t] },ty,pos,af,none⟩ :: rest) ⟨env,df,H,own⟩ :=
 fN rfl rfl hd (fun ρ ha w=>by
  have h1 : (Builtin.cap_ #[t] ty #[.slice a n c]).run C.P w = .ok (goInt c) w:=by
   simp [Builtin.cap_,dR ht]
  simp only [execOp,resolve,Sem.run_bind]
  simp only [Pure.pure,Sem.run,Result.andThen,invoke,builtin,Sem.run_bind]
  simp only [List.map_toArray,List.map_cons,List.map_nil,ha _ _ hx]
  rw [show (#[Value.slice a n c] : Array Value) = [Value.slice a n c].toArray from rfl] at h1
  rw [h1]
  simp only [goInt]
  ) h
theorem XO.indexV {t e : TypeId} {x y : Operand} {k kd : IntKind} {n i : Nat} {cs : List Value} {v : Value} (hx : ev env x = some (.agg ⟨cs⟩)) (hy : ev env y = some (.int k (i : Nat))) (hi : i < n) (hv : cs[i]? = some v)
  (ht : C.P.underlying t = some (.array n e)) (he : C.P.underlying e = some (.int kd)) (hs : tyF C.P e 1 false = true) (hd : eP C.N dst = true)
  (h : XO C ops Q rest ⟨fJ dst v env,df,H,own⟩) : XO C ops Q (⟨dst,.index t x y,ty,pos,af,none⟩ :: rest) ⟨env,df,H,own⟩ :=
 fN rfl rfl hd (fun ρ ha w=>by
  have hp : (part e ⟨cs⟩ (i * 1)).run C.P w = .ok v w:=tJ he (by simpa using hv)
  simp only [execOp,ha _ _ hx,ha _ _ hy,Instr.index,asIntOf,Sem.run_bind]
  simp only [Pure.pure,Sem.run,Result.andThen,dR ht,Sem.run_bind]
  have h2 : (0 : Int) ≤ (i : Int) ∧ (i : Int) < (n : Int):=by omega
  simp only [h2,and_self,if_true,Sem.run_bind,gU hs,Result.andThen,Int.toNat_natCast,hp]) h
theorem XO.copyO (i : Nat) {t t2 e : TypeId} {x y : Operand} {b o n c n2 c2 : Nat} {a2 : Option Addr} {T : TypeId} {cs vs cs' : List Value} {own' : Own} (hx : ev env x = some (.slice (some ⟨b,o,none⟩) n c)) (hy : ev env y = some (.slice a2 n2 c2))
    (ho : Own.at own i = some (b,.cells T cs)) (ht : C.P.underlying t = some (.slice e)) (he : tyF C.P e 1 false = true) (rF : vs.length = min n2 n)
    (hsrc : 0 < vs.length → ∃ a,a2 = some a ∧ ∀ w fr,Ok C.G H (own ++ fr) w → ∀ j v,vs[j]? = some v → w.cell? (a.add j) = some v) (hfit : o + vs.length ≤ cs.length) (h1 : ∀ v ∈ vs,v.oneCell' = true)
    (hcs : cs.take o ++ vs ++ cs.drop (o + vs.length) = cs') (hp : Own.put own i (.cells T cs') = some own') (hd : eP C.N dst = true)
    (h : XO C ops Q rest ⟨fJ dst (.int .i64 (vs.length : Nat)) env,df,H,own'⟩) :
    XO C ops Q (⟨dst,.call { callee:=.builtin .copy,args:=#[x,y],argTypes:=#[t,t2] },ty,pos,af,none⟩ :: rest) ⟨env,df,H,own⟩:=by
  refine lJ rfl rfl hd fun ρ w fr ha hok=>?_
  have hb:=wI hok (List.mem_append_left fr (Own.at_mem ho))
  obtain ⟨_,inf,hi,hsz⟩:=nQ he
  have hs1 : (C.P.info? e).map (·.size) = some 1:=by simp [hi,hsz]
  have hlen' : vs.length = Nat.min n2 n:=rF
  have hrun : (Builtin.copy_ #[t,t2] ty #[.slice (some ⟨b,o,none⟩) n c,.slice a2 n2 c2]).run C.P w = .ok (goInt vs.length) (w.setRow b cs'.toArray):=by
    by_cases h0 : 0 < vs.length
    · obtain ⟨a,rfl,hc⟩:=hsrc h0
      have:=run_copy_row (P:=C.P) w t t2 ty e b o n c a n2 c2 cs.toArray T vs ht hs1 hb hlen' (fun j v hj=>hc w fr hok j v hj) (by simpa using hfit) h1
      rw [this,← hcs]
    have hv0 : vs = []:=by cases vs with | nil=>rfl | cons x xs=>simp at h0
    subst hv0
    have e1 : cs' = cs:=by rw [← hcs];simp
    have e2 : w.setRow b cs'.toArray = w:=by
      rw [e1]
      have hlt:=pU hb
      have hg : w.heap[b] = .cells cs.toArray T (0,0):=by
        have:=hb;rw [Array.getElem?_eq_getElem hlt] at this;exact Option.some.inj this
      cases w with
      | mk heap rest2 =>
        simp only [World.setRow]
        congr 1
        apply Array.ext
        · simp
        intro j h1 h2
        by_cases hj : b = j
        · subst hj;simp [Array.getElem_modify];simp at hg;rw [hg]
        simp [Array.getElem_modify,hj]
    rw [e2]
    have:=run_copy_none (P:=C.P) w t t2 ty e (some ⟨b,o,none⟩) a2 n c n2 c2 ht hs1 (by rw [← hlen'];rfl)
    simpa using this
  refine ⟨.value (goInt vs.length),_,w.setRow b cs'.toArray,H,own',?_,.inl rfl,Le.refl _,?_,?_⟩
  · simp only [execOp,resolve,Sem.run_bind]
    simp only [Pure.pure,Sem.run,Result.andThen,invoke,builtin,Sem.run_bind]
    simp only [List.map_toArray,List.map_cons,List.map_nil,ha _ _ hx,ha _ _ hy]
    rw [show (#[Value.slice (some ⟨b,o,none⟩) n c,Value.slice a2 n2 c2] : Array Value) = [Value.slice (some ⟨b,o,none⟩) n c,Value.slice a2 n2 c2].toArray from rfl] at hrun
    rw [hrun]
  · obtain ⟨pre,post,rfl,rfl⟩:=Own.at_split ho
    rw [Own.put_split] at hp
    cases hp
    simp only [List.append_assoc,List.cons_append] at hok ⊢
    refine hok.write (s':=.cells T cs') (o':=.cells cs'.toArray T (0,0)) rfl rfl rfl rfl rfl ?_ ?_
    · exact setRow_heap w b _ _ T _ hb
    intro k hk
    simp [World.setRow,Array.getElem?_modify,Ne.symm hk]
  exact h
theorem src_own {G : World} {own : Own} {j b o : Nat} {T : TypeId} {cs vs : List Value} {H : Hp} (h : Own.at own j = some (b,.cells T cs)) (hv : ∀ q v,vs[q]? = some v → cs[o + q]? = some v) :
  ∃ a,(some ⟨b,o,none⟩ : Option Addr) = some a ∧ ∀ w fr,Ok G H (own ++ fr) w → ∀ q v,vs[q]? = some v → w.cell? (a.add q) = some v :=
 ⟨_,rfl,fun w fr hok q v hq=>by
  have hb:=wI hok (List.mem_append_left fr (Own.at_mem h))
  rw [jV]
  simp [World.cell?,hb,hv q v hq]⟩
abbrev c8s (l : List UInt8) : List Value:=l.map fun b=>Value.int .u8 (b.toNat : Nat)
theorem src_pub {G : World} {own : Own} {a2 : Option Addr} {c2 : Nat} {l : List UInt8} {H : Hp} (hs : SlR u8R H a2 c2 l) (h0 : 0 < l.length) :
    ∃ a,a2 = some a ∧ ∀ w fr,Ok G H (own ++ fr) w → ∀ q v,(c8s l)[q]? = some v → w.cell? (a.add q) = some v:=by
  obtain ⟨b,o,rfl⟩:=hs.addr h0
  refine ⟨_,rfl,fun w fr hok q v hq=>?_⟩
  rw [List.getElem?_map] at hq
  cases hx : l[q]? with
  | none=>rw [hx] at hq;cases hq
  | some x =>
    rw [hx] at hq;cases hq
    have hlt : q < l.length:=by
      rcases Nat.lt_or_ge q l.length with h | h
      · exact h
      rw [List.getElem?_eq_none h] at hx;cases hx
    obtain ⟨cs,u,hu,hR,hp⟩:=hs.elem q hlt
    rw [hx] at hu;cases hu
    obtain ⟨c,T,fz,h1,h2⟩:=hp
    have h3 : cs = [.int .u8 (x.toNat : Nat)]:=hR
    subst h3
    have:=h2 0 _ rfl
    rw [jV]
    simp only [World.cell?,hok.pub _ _ h1]
    simpa [u8R] using this
theorem c8s_one (l : List UInt8) : ∀ v ∈ c8s l,v.oneCell' = true:=by
 intro v hv
 obtain ⟨x,_,rfl⟩:=List.mem_map.1 hv
 rfl
theorem aF2 (k : IntKind) (l : List Int) : ∀ v ∈ wds k l,v.oneCell' = true:=by
 intro v hv
 obtain ⟨x,_,rfl⟩:=List.mem_map.1 hv
 rfl
theorem XO.makeLC {t e : TypeId} {x y : Operand} {k k' : IntKind} {n m : Nat} {z : Value} (hx : ev env x = some (.int k (n : Nat))) (hy : ev env y = some (.int k' (m : Nat))) (ht : C.P.underlying t = some (.slice e)) (he : tyF C.P e 1 false = true) (hz : gH C.P e = some [z])
  (hby : Nat.ble (C.P.bytesOf e) 4096 = true) (hn : n ≤ m) (hm : m ≤ 1073741824) (hm0 : 0 < m) (hd : eP C.N dst = true)
  (h : ∀ b,XO C ops Q rest ⟨fJ dst (.slice (some ⟨b,0,none⟩) n m) env,df,H,(b,.cells e (List.replicate m z)) :: own⟩) :
  XO C ops Q (⟨dst,.makeSlice t x y,ty,pos,af,none⟩ :: rest) ⟨env,df,H,own⟩:=by
 refine lJ rfl rfl hd fun ρ' w fr ha hok=>?_
 have hby:=Nat.le_of_ble_eq_true hby
 obtain ⟨_,inf,hi,hsz⟩:=nQ he
 have hby' : inf.bytes ≤ 4096:=by simpa [Program.bytesOf,hi] using hby
 have hmul : inf.bytes * m ≤ 4398046511104:=Nat.le_trans (Nat.mul_le_mul hby' hm) (by decide)
 have hmuln : inf.bytes * n ≤ 4398046511104:=Nat.le_trans (Nat.mul_le_mul hby' (Nat.le_trans hn hm)) (by decide)
 obtain ⟨zz,hzr,hzc⟩:=uX (w:=w) hz
 have hrep : qI [z] m = List.replicate m z:=by
  clear hm0 hmul hm hy hn h
  induction m with
  | zero=>rfl
  | succ m ih=>simp [qI,ih,List.replicate_succ]
 have hcells : (Array.map (fun x=>[z].toArray[x % [z].toArray.size]!) (Array.range (m * 1))) = (List.replicate m z).toArray:=by
  rw [← hrep];exact aC0 [z] (by simp) m
 refine ⟨.value (.slice (some ⟨w.heap.size,0,none⟩) n m),_,{ w with heap:=w.heap.push (.cells (List.replicate m z).toArray e (0,0)) },H,_,?_,.inl rfl,Le.refl _,hok.new (s:=.cells e (List.replicate m z)) rfl,h _⟩
 have hb : (Instr.makeSlice t (.int k (n : Nat)) (.int k' (m : Nat))).run C.P w = .ok (.slice (some ⟨w.heap.size,0,none⟩) n m) { w with heap:=w.heap.push (.cells (List.replicate m z).toArray e (0,0)) }:=by
  have hw : IntKind.i64.wrap (m : Int) = m:=bU (by omega) (by omega)
  have hw0 : IntKind.i64.wrap (n : Int) = n:=bU (by omega) (by omega)
  unfold Instr.makeSlice
  rw [Sem.run_bind,dR ht]
  simp only [Result.andThen,asInt,asIntOf,Sem.run_bind]
  have hti : (typeInfo e).run C.P w = .ok inf w:=by simp [typeInfo,program,hi,Sem.run,Pure.pure,bind,Sem.bind]
  simp only [Pure.pure,Sem.run,Result.andThen,Sem.run_bind,hti,hw,hw0]
  have hcond : ((decide ((n : Int) < 0) || decide (((inf.bytes : Nat) : Int) * (n : Int) > 2 ^ 48))) = false:=by
   have hc : ((inf.bytes : Nat) : Int) * (n : Int) ≤ 4398046511104:=by rw [← Int.natCast_mul];exact Int.ofNat_le.2 hmuln
   rw [decide_eq_false (show ¬ ((n : Int) < 0) by omega),decide_eq_false (show ¬ (((inf.bytes : Nat) : Int) * (n : Int) > 2 ^ 48) by omega)]
   rfl
  have hcond2 : ((decide ((m : Int) < 0) || decide (((inf.bytes : Nat) : Int) * (m : Int) > 2 ^ 48) || decide ((n : Int) < 0)) || decide ((n : Int) > m)) = false:=by
   have hc : ((inf.bytes : Nat) : Int) * (m : Int) ≤ 4398046511104:=by rw [← Int.natCast_mul];exact Int.ofNat_le.2 hmul
   rw [decide_eq_false (show ¬ ((m : Int) < 0) by omega),decide_eq_false (show ¬ (((inf.bytes : Nat) : Int) * (m : Int) > 2 ^ 48) by omega),decide_eq_false (show ¬ ((n : Int) < 0) by omega),decide_eq_false (show ¬ ((n : Int) > m) by omega)]
   rfl
  simp only [hcond,hcond2,Bool.false_eq_true,if_false,Int.toNat_natCast,gU he,Sem.run_bind]
  have hroom : ∀ w : World,(askRoom (m * inf.bytes)).run C.P w = .ok () w:=by
   intro w;unfold askRoom;split <;> rfl
  rw [hroom]
  simp only [Result.andThen]
  rw [if_neg (by omega : ¬ m * 1 = 0)]
  simp only [Sem.run_bind,hzr,Result.andThen]
  simp only [Pure.pure,Sem.run,Result.andThen,hzc,hcells]
  simp [newRow,newObj,Sem.run,bind,Sem.bind,Pure.pure]
 simp only [execOp,ha _ _ hx,ha _ _ hy,Sem.run_bind,hb,Result.andThen]
 rfl
theorem XO.growZ {t e kt : TypeId} {y : Operand} {x : Operand} {kk : IntKind} {n : Nat} {zs : List Value} {agg : Bool} (hx : ev env x = some (.slice none 0 0)) (hy : ev env y = some (.int .i64 (n : Nat)))
  (ht : C.P.underlying t = some (.slice e)) (hk : C.P.underlying kt = some (.int kk)) (he : tyF C.P e 1 agg = true) (hz : gH C.P e = some zs) (hzl : Nat.beq zs.length 1 = true) (hby : Nat.ble (C.P.bytesOf e) 4096 = true) (hn : n ≤ 1073741824) (hn0 : 0 < n) (hd : eP C.N dst = true)
  (h : ∀ b c,n ≤ c → XO C ops Q rest ⟨fJ dst (.slice (some ⟨b,0,none⟩) n c) env,df,H,(b,.row e c []) :: own⟩) :
  XO C ops Q (⟨dst,.call { callee:=.builtin .append,args:=#[x,y],argTypes:=#[t,kt] },ty,pos,af,none⟩ :: rest) ⟨env,df,H,own⟩:=by
 refine lJ rfl rfl hd fun ρ' w fr ha hok=>?_
 obtain ⟨_,inf,hi,hsz⟩:=nQ he
 have hzl:=Nat.eq_of_beq_eq_true hzl
 have hby:=Nat.le_of_ble_eq_true hby
 have hby' : inf.bytes ≤ 4096:=by simpa [Program.bytesOf,hi] using hby
 have hmul : n * inf.bytes ≤ 4398046511104:=Nat.le_trans (Nat.mul_le_mul hn hby') (by decide)
 obtain ⟨z,hzz,hzc⟩ : ∃ z,inf.zero = some z ∧ z.cells = zs.toArray:=by
  unfold gH at hz
  rw [hi] at hz
  simp only at hz
  split at hz
  ·rename_i z hzz;exact ⟨z,hzz,lQ hz⟩
  cases hz
 have hge:=grownCap_ge w n 0 e
 have hw : IntKind.i64.wrap (n : Int) = n:=bU (by omega) (by omega)
 have hn' : ¬ n = 0:=by omega
 have h48 : ¬ (281474976710656 < Builtin.nextslicecap n 0 * inf.bytes):=by rw [nextslicecap_zero hn0];omega
 have h48' : ¬ (281474976710656 < (n : Int) * (inf.bytes : Nat)):=by
  have : ((n * inf.bytes : Nat) : Int) ≤ 4398046511104:=Int.ofNat_le.2 hmul
  rw [Int.natCast_mul] at this;omega
 have h63 : ¬ (9223372036854775807 < (n : Int)):=by omega
 have hrun : (Builtin.append_ #[t,kt] ty #[.slice none 0 0,.int .i64 (n : Nat)]).run C.P w = .ok (.slice (some ⟨w.heap.size,0,none⟩) n (grownCap w n 0 e)) (w.drew.alloc (.cells (Builtin.zeroCells z.cells n ++ Builtin.zeroCells z.cells (grownCap w n 0 e - n)) e)):=by
  have hneg : ¬ ((n : Int) < 0):=by omega
  simp [Builtin.append_,dR ht,dR hk,sizeOf,typeInfo,zeroValue,hi,hzz,asInt,asIntOf,hw,hneg,h48',hn',hsz,h63,h48,Question.forced,run_firstCells_none,newRow,grownCap]
 refine ⟨.value (.slice (some ⟨w.heap.size,0,none⟩) n (grownCap w n 0 e)),_,_,H,_,?_,.inl rfl,Le.refl _,hok.drew.new (o:=.cells (Builtin.zeroCells z.cells n ++ Builtin.zeroCells z.cells (grownCap w n 0 e - n)) e (0,0)) (s:=.row e (grownCap w n 0 e) []) ⟨(Builtin.zeroCells z.cells n ++ Builtin.zeroCells z.cells (grownCap w n 0 e - n)).toList,by simp,?_⟩,h _ _ (by simpa using hge)⟩
 ·simp only [execOp,resolve,Sem.run_bind]
  simp only [Pure.pure,Sem.run,Result.andThen,invoke,builtin,Sem.run_bind]
  simp only [List.map_toArray,List.map_cons,List.map_nil,ha _ _ hx,ha _ _ hy]
  rw [show (#[Value.slice none 0 0,Value.int .i64 (n : Nat)] : Array Value) = [Value.slice none 0 0,Value.int .i64 (n : Nat)].toArray from rfl] at hrun
  rw [hrun]
  rfl
 rw [Array.toList_append,List.nil_append,List.length_append,hzc,kK,kK,hzl]
 have:=hge
 omega
theorem aMd {cs : List Value} {n : Nat} (h : cs.length = n) : zR cs 0 n = some cs:=by
 subst h
 induction cs with
 | nil=>rfl
 | cons x xs ih=>simp [zR,ih]
theorem aIj : ∀ {cs vs : List Value},cs.length = vs.length → wJ cs 0 vs = some vs
  | [],[],_=>rfl
  | x :: xs,v :: vs,h=>by
    have:=aIj (cs:=xs) (vs:=vs) (by simpa using h)
    simp [wJ,this]
theorem aDx {vs : List Value} (h : ∀ v ∈ vs,v.oneCell' = true) : mX vs = true:=by
 induction vs with
 | nil=>rfl
 | cons x xs ih=>simp [mX,h x (by simp),ih (fun v hv=>h v (by simp [hv]))]
theorem XO.loadG (n : Nat) {t : TypeId} {x : Operand} {b o : Nat} {cs : List Value} {v : Value} (hx : ev env x = some (.pointer (some ⟨b,o,none⟩))) (hn : o = n) (hp : PtH H b 0 cs)
  (ht : tyF C.P t 1 false = true) (hl : cs[n]? = some v) (hd : eP C.N dst = true) (h : XO C ops Q rest ⟨fJ dst v env,df,H,own⟩) :
  XO C ops Q (⟨dst,.load t x,ty,pos,af,none⟩ :: rest) ⟨env,df,H,own⟩:=by
 subst hn
 exact gG (off:=o) (by rw [Nat.zero_add];exact hx) hp ht (aNu hl) rfl hd h
theorem qE (i : Nat) {x : Operand} {xs : List Operand} {ts : Array TypeId} {fv : Value} {vs : List Value} {p : Nat × SObj} {K : Value → Hp → Own → Prop} (hx : ev env x = some fv) (hnf : match x with | .func _=>False | _=>True) (hxs : evs env xs = some vs) (hf : FnV C.P fv vs H [p] (bX K)) (hd : eP C.N dst = true) (ho : Own.at own i = some p)
  (h : ∀ v H' own',Le H H' → K v H' own' → ∃ p',own' = [p'] ∧ XO C ops Q rest ⟨fJ dst v env,df,H',Own.set2 own i p'⟩) :
  XO C ops Q (⟨dst,.call { callee:=.value x,args:=xs.toArray,argTypes:=ts },ty,pos,af,none⟩ :: rest) ⟨env,df,H,own⟩:=by
 refine tF (vV own i p ho) (rL (l:=[]) (lH:=[p]) (rst:=own.eraseIdx i) hx hnf hxs hf hd rfl (fun v H' own' hle hR=>?_) (fun _ _ _ _ hR=>hR.elim));obtain ⟨p',rfl,hk⟩:=h v H' own' hle hR
 exact ⟨H',[p'] ++ own.eraseIdx i,hle,Le.refl _,List.Sublist.refl _,tF (zF own i p p' ho).symm hk⟩
end
end Go.XL

namespace Go.Proofs
open Go.XL
abbrev w32 : Int → Int:=IntKind.u32.wrap
def z64 : List Int:=List.replicate 64 0
theorem rJ {α : Type} {f : Nat → α → α} {q : α → Prop} (h : ∀ k x,q x → q (f k x)) : ∀ (n : Nat) (x : α),q x → q (itN f n x)
 | 0,_,hx=>hx
 | n + 1,x,hx=>h n _ (rJ h n x hx)
def stA (b : List UInt8) (t : Nat) (w : List Int) : List Int:=w.set t (aNo (b.drop (4 * t)))
def sgB (x a b n : Int) : Int:=aKq .u32 (aKq .u32 (aKk x a) (aKk x b)) (aN4 .u32 x n)
def stB (t : Nat) (w : List Int) : List Int :=
 w.set (16 + t) (w32 (w32 (w32 (qQ w t + sgB (qQ w (1 + t)) (-7) (-18) 3) + qQ w (9 + t)) + sgB (qQ w (14 + t)) (-17) (-19) 10))
def pV (ns w : List Int) (t : Nat) (v : List Int) : Int :=
 w32 (w32 (w32 (w32 (qQ v 7 + aNw (qQ v 4) 6 11 25) + aKq .u32 (qQ v 6) (aMm .u32 (qQ v 4) (aKq .u32 (qQ v 5) (qQ v 6)))) + qQ ns t) + qQ w t)
def qV (v : List Int) : Int:=w32 (aNw (qQ v 0) 2 13 22 + orK .u32 (aMm .u32 (qQ v 0) (qQ v 1)) (aMm .u32 (qQ v 2) (orK .u32 (qQ v 0) (qQ v 1))))
def shV (v : List Int) : List Int:=v.take 1 ++ v.take 7 ++ v.drop 8
def stC (ns w : List Int) (t : Nat) (v : List Int) : List Int :=
 ((shV v).set 4 (w32 (qQ (shV v) 4 + pV ns w t v))).set 0 (w32 (pV ns w t v + qV v))
def stD (v : List Int) (i : Nat) (s : List Int) : List Int:=s.set i (w32 (qQ s i + qQ v i))
def aIq (b : List UInt8) : List Int:=itN stB 48 (itN (stA b) 16 z64)
def aMk (ns : List Int) (b : List UInt8) (s : List Int) : List Int:=itN (stC ns (aIq b)) 64 s
def aN3 (ns : List Int) (s : List Int) (b : List UInt8) : List Int:=itN (stD (aMk ns b s)) 8 s
theorem aIz (b : List UInt8) (n : Nat) : (itN (stA b) n z64).length = 64:=rJ (q:=fun w : List Int=>w.length = 64) (fun k x h=>by simp [stA,h]) n _ (by simp [z64])
theorem vS (b : List UInt8) (n : Nat) : (itN stB n (itN (stA b) 16 z64)).length = 64:=rJ (q:=fun w : List Int=>w.length = 64) (fun k x h=>by simp [stB,h]) n _ (aIz b 16)
theorem schW_len (b : List UInt8) : (aIq b).length = 64:=vS b 48
theorem yU {v : List Int} (h : v.length = 8) : (shV v).length = 8:=by simp [shV,h]
theorem jY (ns w : List Int) {s : List Int} (hs : s.length = 8) (n : Nat) : (itN (stC ns w) n s).length = 8:=rJ (q:=fun w : List Int=>w.length = 8) (fun k x h=>by simp [stC,yU h]) n _ hs
theorem aFe (v : List Int) {s : List Int} (hs : s.length = 8) (n : Nat) : (itN (stD v) n s).length = 8:=rJ (q:=fun w : List Int=>w.length = 8) (fun k x h=>by simp [stD,h]) n _ hs
theorem absF_len (ns : List Int) {s : List Int} (hs : s.length = 8) (b : List UInt8) : (aN3 ns s b).length = 8:=aFe _ hs 8
structure TB (H : Hp) (tb : List Int × List Int) : Prop where
 l1 : tb.1.length = 8
 l2 : tb.2.length = 64
 p1 : PtH H 0 0 (wds .u32 tb.1)
 p2 : PtH H 2 0 (wds .u32 tb.2)
theorem TB.mono {H H' : Hp} {tb : List Int × List Int} (hle : Le H H') (h : TB H tb) : TB H' tb:=⟨h.l1,h.l2,h.p1.mono hle,h.p2.mono hle⟩
def byF (v : Int) (i : Nat) : UInt8:=UInt8.ofNat (IntKind.u8.wrap (v.fdiv (2 ^ min (8 * (i : Int)).toNat 64))).toNat
theorem u8w (z : Int) : ((UInt8.ofNat (IntKind.u8.wrap z).toNat).toNat : Int) = IntKind.u8.wrap z:=by
 have h1 : 0 ≤ IntKind.u8.wrap z ∧ IntKind.u8.wrap z < 256:=by
  simp only [IntKind.wrap,IntKind.bits,IntKind.signed,Bool.false_and,Bool.false_eq_true,if_false]
  omega
 rw [UInt8.toNat_ofNat']
 omega
def puS (o n : Nat) (v : Int) (i : Nat) (l : List UInt8) : List UInt8:=l.set (o + (n - 1 - i)) (byF v i)
def puF (l : List UInt8) (o n : Nat) (v : Int) : List UInt8:=itN (puS o n v) n l
theorem aEy (l : List UInt8) (o n : Nat) (v : Int) (k : Nat) : (itN (puS o n v) k l).length = l.length:=rJ (q:=fun w : List UInt8=>w.length = l.length) (fun k x h=>by simp [puS,h]) k _ rfl
theorem c8s_set {l : List UInt8} {i : Nat} {z : Int} : (c8s l).set i (.int .u8 (IntKind.u8.wrap z)) = c8s (l.set i (UInt8.ofNat (IntKind.u8.wrap z).toNat)):=by
 simp only [c8s,List.map_set,u8w]
theorem take_at {α : Type} {l : List α} {n q : Nat} {v : α} (h : (l.take n)[q]? = some v) : l[0 + 0 + q]? = some v:=by
 rw [List.getElem?_take] at h
 split at h
 ·simpa using h
 cases h
theorem copy_sh {k : IntKind} {v : List Int} (h : v.length = 8) : (wds k v).take (0 + 1) ++ (wds k v).take 7 ++ (wds k v).drop (0 + 1 + ((wds k v).take 7).length) = wds k (shV v):=by
 have e : ((wds k v).take 7).length = 7:=by rw [List.length_take,List.length_map,h];rfl
 rw [e]
 simp [shV,wds,List.map_take,List.map_drop]
end Go.Proofs

namespace Go.Proofs
open Go.XL
theorem fR : tyF Tryz.prog 222 1 false = true:=by kernel_rfl
theorem aF3 : tyF Tryz.prog 224 8 true = true:=by kernel_rfl
theorem aMe : gH Tryz.prog 224 = some [.int .u32 0,.int .u32 0,.int .u32 0,.int .u32 0,.int .u32 0,.int .u32 0,.int .u32 0,.int .u32 0]:=by kernel_rfl
theorem ze_231 : gH Tryz.prog 231 = some [.int .u32 0,.int .u32 0,.int .u32 0,.int .u32 0,.int .u32 0,.int .u32 0,.int .u32 0,.int .u32 0,.int .u32 0,.int .u32 0,.int .u32 0,.int .u32 0,.int .u32 0,.int .u32 0,.int .u32 0,.int .u32 0,.int .u32 0,.int .u32 0,.int .u32 0,.int .u32 0,.int .u32 0,.int .u32 0,.int .u32 0,.int .u32 0,.int .u32 0,.int .u32 0,.int .u32 0,.int .u32 0,.int .u32 0,.int .u32 0,.int .u32 0,.int .u32 0,.int .u32 0,.int .u32 0,.int .u32 0,.int .u32 0,.int .u32 0,.int .u32 0,.int .u32 0,.int .u32 0,.int .u32 0,.int .u32 0,.int .u32 0,.int .u32 0,.int .u32 0,.int .u32 0,.int .u32 0,.int .u32 0,.int .u32 0,.int .u32 0,.int .u32 0,.int .u32 0,.int .u32 0,.int .u32 0,.int .u32 0,.int .u32 0,.int .u32 0,.int .u32 0,.int .u32 0,.int .u32 0,.int .u32 0,.int .u32 0,.int .u32 0,.int .u32 0]:=by kernel_rfl
theorem aKc (b o n c : Nat) (T : TypeId) (l : List UInt8) (v : Int) (hn : n ≤ 1000) (ho : o + n ≤ l.length) (H : Hp) : FnC Tryz.prog 156 #[.slice (some ⟨b,o,none⟩) n c,.int .u64 v] H [(b,.cells T (c8s l))] (bX (fun _ _ own=>own = [(b,.cells T (c8s (puF l o n v)))])):=by
 refine FnC.intro (args:=[.slice (some ⟨b,o,none⟩) n c,.int .u64 v]) Tryz.func156 rfl rfl Tryz.ntmps156 rfl rfl rfl fun G rest=>?_
 refine aZ (aH (aU rfl rfl (cH (ts:=#[]) rfl Tryz.underlying157 rfl (aU rfl rfl (aE (aR (bT (cE [7,0,1,6] rfl (eE (base:=[(0,_),(1,_),(6,_)]) (fun ζ : Nat=>[(7,.int .i64 (ζ : Nat))]) (fun ζ Hl own=>ζ ≤ n ∧ (b,.cells T (c8s (itN (puS o n v) (ζ) l))) :: rest = own) (fun ζ=>n - ζ) 0 (aQ rfl (aQ rfl (aQ rfl (aQ rfl bP)))) (by repeat(first|exact sL _|apply sD|apply sC)) ⟨Nat.zero_le _,rfl⟩ ?_)))))))));rintro k Hl0 _ bM ⟨hkk,rfl⟩
 try dsimp only at ⊢
 refine aZ (aH (dN rfl rfl rfl (aE (aR (aZ (cW rfl (fun gJ=>?_) (fun gJ=>?_)))))))
 ·refine bS (aR (aZ (bT (aZ (aH (aU rfl rfl (bA rfl rfl (aE (aR (aH (aU rfl rfl (aU rfl rfl (cH (ts:=#[]) rfl Tryz.underlying157 rfl (iF rfl rfl (bU (by omega) (by omega)) rfl (aU rfl rfl (iF rfl rfl (bU (by omega) (by omega)) rfl (aU rfl rfl (aU rfl rfl (zV rfl rfl (bU (by omega) (by omega)) rfl (qF rfl rfl (by omega) rfl (gT rfl Tryz.underlying220 Tryz.underlying5 rfl rfl (fG rfl rfl Tryz.underlying157 lR (by omega) (by omega) rfl (oO 0 (o + (n - 1 - k)) rfl (by omega) rfl rfl rfl lR rfl (by rw [List.length_map,aEy];omega) c8s_set rfl rfl (aE (dP (aR (aH (dJ rfl rfl (bU (by omega) (by omega)) rfl (aU rfl rfl (aE ?_))))))))))))))))))))))))))))));refine cR (k + 1) (by show n - (k + 1) < n - k;omega) (aQ rfl (aQ rfl (aQ rfl (aQ rfl bP)))) (⟨by show k + 1 ≤ n;omega,rfl⟩) (by repeat(first|exact sL _|apply sD|apply sC)) (bM)
 obtain rfl : k = n:=by omega
 refine dX (dA (cZ (dI rfl ?_)));refine ⟨rfl,_,[_],rfl,(by repeat(first|exact sL _|apply sC)),bX.mk ?_⟩
 rfl
set_option maxRecDepth 100000 in
set_option maxHeartbeats 1600000 in
theorem aC8 (tb : List Int × List Int) (H : Hp) (hT : TB H tb) (bs : Nat) (s : List Int) (h8 : s.length = 8) (a : Option Addr) (c : Nat) (l : List UInt8) (hs : SlR u8R H a c l) (hl : 64 ≤ l.length) (hm : l.length < 9223372036854775808) : FnC Tryz.prog 155 #[.pointer (some ⟨bs,0,none⟩),.slice a l.length c] H [(bs,.cells 224 (wds .u32 s))] (bX (fun _ _ own=>own = [(bs,.cells 224 (wds .u32 (aN3 tb.2 s l)))])):=by
 refine FnC.intro (args:=[.pointer (some ⟨bs,0,none⟩),.slice a l.length c]) Tryz.func155 rfl rfl Tryz.ntmps155 rfl rfl rfl fun G rest=>?_
 refine aZ (aH (dC ze_231 rfl (fun b4=>aE (aR (aZ (aZ (aH (aU rfl rfl (aE (aR (bT (cE [14,0,1,4] rfl (eE (base:=[(0,_),(1,_),(4,_)]) (fun ζ : Nat=>[(14,.int .i64 (ζ : Nat))]) (fun ζ Hl own=>ζ ≤ 16 ∧ (b4,.cells 231 (wds .u32 (itN (stA l) (ζ) z64))) :: (bs,.cells 224 (wds .u32 s)) :: rest = own) (fun ζ=>16 - ζ) 0 (aQ rfl (aQ rfl (aQ rfl (aQ rfl bP)))) (by repeat(first|exact sL _|apply sD|apply sC)) ⟨Nat.zero_le _,rfl⟩ ?_)))))))))))));rintro k Hl0 _ bM ⟨hkk,rfl⟩;replace hT:=hT.mono bM;replace hs:=hs.mono bM
 try dsimp only at ⊢
 refine aZ (aH (dN rfl rfl rfl (aE (aR (aZ (cW rfl (fun gJ=>?_) (fun gJ=>?_)))))))
 ·refine bS (aR (aZ (bT (aZ (aH (aU rfl rfl (bA rfl rfl (aE (aR (aH (aU rfl rfl (aU rfl rfl (aU rfl rfl (zV rfl rfl (bU (by omega) (by omega)) rfl (iP (lo':=4 * (k : Int)) (hi':=((l.length : Nat) : Int)) (m':=((c : Nat) : Int)) rfl hs (fT rfl) fF fF (by simp) (by omega) (by omega) (by omega) (by have:=hs.le;omega) (by omega) Tryz.underlying157 lR rfl (fun as4 ls4 hls4 hss4=>?_))))))))))))))))
  obtain rfl : ls4 = l.drop (4 * k):=by rw [hls4,show (4 * (k : Int)).toNat = 4 * k by omega,Int.toNat_natCast];exact List.take_of_length_le (by rw [List.length_drop];exact Nat.le_refl _)
  refine bR rfl (word_fn _ _ (l.drop (4 * k)) _ hss4 (by rw [List.length_drop];omega)) rfl (eF rfl rfl Tryz.underlying231 fR (by first|decide|omega) (by first|decide|omega) rfl (oO 0 (k) rfl (by omega) rfl rfl rfl fR rfl (by rw [List.length_map,aIz];omega) yJ rfl rfl (aE (dP (aR (aH (dJ rfl rfl (bU (by omega) (by omega)) rfl (aU rfl rfl (aE (cR (k + 1) (by show 16 - (k + 1) < 16 - k;omega) (aQ rfl (aQ rfl (aQ rfl (aQ rfl bP)))) (⟨by show k + 1 ≤ 16;omega,rfl⟩) (by repeat(first|exact sL _|apply sD|apply sC)) (bM)))))))))))
 obtain rfl : k = 16:=by omega
 refine dX (dA (cZ (dI rfl (aR (aZ (aZ (aH (bA rfl rfl (aE (aR (bT (cE [6,0,4] rfl (eE (base:=[(0,_),(4,_)]) (fun ζ : Nat=>[(6,.int .i64 ((16 + ζ : Nat) : Int))]) (fun ζ Hl own=>ζ ≤ 48 ∧ (b4,.cells 231 (wds .u32 (itN stB (ζ) (itN (stA l) 16 z64)))) :: (bs,.cells 224 (wds .u32 s)) :: rest = own) (fun ζ=>48 - ζ) 0 (aQ rfl (aQ rfl (aQ rfl bP))) (by repeat(first|exact sL _|apply sD|apply sC)) ⟨Nat.zero_le _,rfl⟩ ?_)))))))))))));rintro k Hl1 _ cD ⟨hkk,rfl⟩;replace hT:=hT.mono cD;replace hs:=hs.mono cD;replace bM:=bM.trans cD
 try dsimp only at ⊢
 refine aZ (aZ (aH (aU rfl rfl (dN rfl rfl rfl (aE (aR (cW rfl (fun uB=>?_) (fun uB=>?_))))))))
 ·refine bS (aR (aZ (bT (aZ (cE [0,4,6] rfl ?_)))))
  apply jR 9 [eqF _,eqF _,eqF _,eqF _,eqF _,eqF _,eqF _,eqF _,eqF _] follows (by kernel_rfl) (by kernel_rfl) ⟨bB _,bB _,bB _,bB _,bB _,bB _,bB _,bB _,bB _,trivial⟩ ?steps5 ?tail5
  case steps5 =>
   refine bO rfl ?_ ?_
   ·intro X
    refine aW rfl (aU rfl rfl (aE ?_))
    exact bH rfl rfl
   refine bO rfl ?_ ?_
   ·intro X
    refine wPq rfl rfl rfl (aW rfl (iF rfl rfl (bU (by omega) (by omega)) rfl (aE ?_)))
    exact bH rfl rfl
   refine bO rfl ?_ ?_
   ·intro X
    refine wPq rfl rfl rfl (aW rfl (eF rfl rfl Tryz.underlying231 fR (by first|decide|omega) (by first|decide|omega) rfl (aE ?_)))
    exact bH rfl rfl
   refine bO rfl ?_ ?_
   ·intro X
    refine wPq rfl rfl rfl (aW rfl (iH 0 (1 + k) rfl (by omega) rfl fR (kB (by rw [vS];omega)) rfl (aE ?_)))
    exact bH rfl rfl
   refine bO rfl ?_ ?_
   ·intro X
    refine aW rfl (aU rfl rfl (aE ?_))
    exact bH rfl rfl
   refine bO rfl ?_ ?_
   ·intro X
    refine wPq rfl rfl rfl (aW rfl (iF rfl rfl (bU (by omega) (by omega)) rfl (aE ?_)))
    exact bH rfl rfl
   refine bO rfl ?_ ?_
   ·intro X
    refine wPq rfl rfl rfl (aW rfl (eF rfl rfl Tryz.underlying231 fR (by first|decide|omega) (by first|decide|omega) rfl (aE ?_)))
    exact bH rfl rfl
   refine bO rfl ?_ ?_
   ·intro X
    refine wPq rfl rfl rfl (aW rfl (iH 0 (14 + k) rfl (by omega) rfl fR (kB (by rw [vS];omega)) rfl (aE ?_)))
    exact bH rfl rfl
   refine bO rfl ?_ ?_
   ·intro X
    refine wPq rfl rfl rfl (aW rfl (bA rfl rfl (aE ?_)))
    exact bH rfl rfl
   exact eU rfl
  case tail5 =>
   refine wPq rfl rfl rfl (wPq rfl rfl rfl (wPq rfl rfl rfl (wPq rfl rfl rfl (wPq rfl rfl rfl (wPq rfl rfl rfl (wPq rfl rfl rfl (wPq rfl rfl rfl (wPq rfl rfl rfl (aW rfl (bA rfl rfl (aE (aR (cE [0,4,6,7,8] rfl ?_)))))))))))))
   apply jR 28 [eqF _,eqF _,eqF _,eqF _,eqF _,eqF _,eqF _,eqF _,eqF _,eqF _,eqF _,eqF _,eqF _,eqF _,eqF _,eqF _,eqF _,eqF _,eqF _,eqF _,eqF _,eqF _,eqF _,eqF _,eqF _,eqF _,eqF _,eqF _] follows (by kernel_rfl) (by kernel_rfl) ⟨bB _,bB _,bB _,bB _,bB _,bB _,bB _,bB _,bB _,bB _,bB _,bB _,bB _,bB _,bB _,bB _,bB _,bB _,bB _,bB _,bB _,bB _,bB _,bB _,bB _,bB _,bB _,bB _,trivial⟩ ?steps8 ?tail8
   case steps8 =>
    refine bO rfl ?_ ?_
    ·intro X
     refine aW rfl (aU rfl rfl (aE ?_))
     exact bH rfl rfl
    refine bO rfl ?_ ?_
    ·intro X
     refine aW rfl (aU rfl rfl (aE ?_))
     exact bH rfl rfl
    refine bO rfl ?_ ?_
    ·intro X
     refine wPq rfl rfl rfl (aW rfl (iF rfl rfl (bU (by omega) (by omega)) rfl (aE ?_)))
     exact bH rfl rfl
    refine bO rfl ?_ ?_
    ·intro X
     refine wPq rfl rfl rfl (aW rfl (eF rfl rfl Tryz.underlying231 fR (by first|decide|omega) (by first|decide|omega) rfl (aE ?_)))
     exact bH rfl rfl
    refine bO rfl ?_ ?_
    ·intro X
     refine wPq rfl rfl rfl (aW rfl (iH 0 (k) rfl (by omega) rfl fR (kB (by rw [vS];omega)) rfl (aE ?_)))
     exact bH rfl rfl
    refine bO rfl ?_ ?_
    ·intro X
     refine aW rfl (aU rfl rfl (aE ?_))
     exact bH rfl rfl
    refine bO rfl ?_ ?_
    ·intro X
     refine wPq rfl rfl rfl (aW rfl (bR rfl (wX _ (-7) _) rfl (aE ?_)))
     exact bH rfl rfl
    refine bO rfl ?_ ?_
    ·intro X
     refine aW rfl (aU rfl rfl (aE ?_))
     exact bH rfl rfl
    refine bO rfl ?_ ?_
    ·intro X
     refine wPq rfl rfl rfl (aW rfl (bR rfl (wX _ (-18) _) rfl (aE ?_)))
     exact bH rfl rfl
    refine bO rfl ?_ ?_
    ·intro X
     refine wPq rfl rfl rfl (wPq rfl rfl rfl (aW rfl (pT rfl rfl rfl (aE ?_))))
     exact bH rfl rfl
    refine bO rfl ?_ ?_
    ·intro X
     refine aW rfl (aU rfl rfl (aE ?_))
     exact bH rfl rfl
    refine bO rfl ?_ ?_
    ·intro X
     refine wPq rfl rfl rfl (aW rfl (qF rfl rfl (by omega) rfl (aE ?_)))
     exact bH rfl rfl
    refine bO rfl ?_ ?_
    ·intro X
     refine wPq rfl rfl rfl (wPq rfl rfl rfl (aW rfl (pT rfl rfl rfl (aE ?_))))
     exact bH rfl rfl
    refine bO rfl ?_ ?_
    ·intro X
     refine wPq rfl rfl rfl (wPq rfl rfl rfl (aW rfl (dJ rfl rfl rfl rfl (aE ?_))))
     exact bH rfl rfl
    refine bO rfl ?_ ?_
    ·intro X
     refine aW rfl (aU rfl rfl (aE ?_))
     exact bH rfl rfl
    refine bO rfl ?_ ?_
    ·intro X
     refine wPq rfl rfl rfl (aW rfl (iF rfl rfl (bU (by omega) (by omega)) rfl (aE ?_)))
     exact bH rfl rfl
    refine bO rfl ?_ ?_
    ·intro X
     refine wPq rfl rfl rfl (aW rfl (eF rfl rfl Tryz.underlying231 fR (by first|decide|omega) (by first|decide|omega) rfl (aE ?_)))
     exact bH rfl rfl
    refine bO rfl ?_ ?_
    ·intro X
     refine wPq rfl rfl rfl (aW rfl (iH 0 (9 + k) rfl (by omega) rfl fR (kB (by rw [vS];omega)) rfl (aE ?_)))
     exact bH rfl rfl
    refine bO rfl ?_ ?_
    ·intro X
     refine wPq rfl rfl rfl (wPq rfl rfl rfl (aW rfl (dJ rfl rfl rfl rfl (aE ?_))))
     exact bH rfl rfl
    refine bO rfl ?_ ?_
    ·intro X
     refine aW rfl (aU rfl rfl (aE ?_))
     exact bH rfl rfl
    refine bO rfl ?_ ?_
    ·intro X
     refine wPq rfl rfl rfl (aW rfl (bR rfl (wX _ (-17) _) rfl (aE ?_)))
     exact bH rfl rfl
    refine bO rfl ?_ ?_
    ·intro X
     refine aW rfl (aU rfl rfl (aE ?_))
     exact bH rfl rfl
    refine bO rfl ?_ ?_
    ·intro X
     refine wPq rfl rfl rfl (aW rfl (bR rfl (wX _ (-19) _) rfl (aE ?_)))
     exact bH rfl rfl
    refine bO rfl ?_ ?_
    ·intro X
     refine wPq rfl rfl rfl (wPq rfl rfl rfl (aW rfl (pT rfl rfl rfl (aE ?_))))
     exact bH rfl rfl
    refine bO rfl ?_ ?_
    ·intro X
     refine aW rfl (aU rfl rfl (aE ?_))
     exact bH rfl rfl
    refine bO rfl ?_ ?_
    ·intro X
     refine wPq rfl rfl rfl (aW rfl (qF rfl rfl (by omega) rfl (aE ?_)))
     exact bH rfl rfl
    refine bO rfl ?_ ?_
    ·intro X
     refine wPq rfl rfl rfl (wPq rfl rfl rfl (aW rfl (pT rfl rfl rfl (aE ?_))))
     exact bH rfl rfl
    refine bO rfl ?_ ?_
    ·intro X
     refine wPq rfl rfl rfl (wPq rfl rfl rfl (aW rfl (dJ rfl rfl rfl rfl (aE ?_))))
     exact bH rfl rfl
    exact eU rfl
   case tail8 =>
    refine wPq rfl rfl rfl (wPq rfl rfl rfl (wPq rfl rfl rfl (wPq rfl rfl rfl (wPq rfl rfl rfl (wPq rfl rfl rfl (wPq rfl rfl rfl (wPq rfl rfl rfl (wPq rfl rfl rfl (wPq rfl rfl rfl (wPq rfl rfl rfl (wPq rfl rfl rfl (wPq rfl rfl rfl (wPq rfl rfl rfl (wPq rfl rfl rfl (wPq rfl rfl rfl (wPq rfl rfl rfl (wPq rfl rfl rfl (wPq rfl rfl rfl (wPq rfl rfl rfl (wPq rfl rfl rfl (wPq rfl rfl rfl (wPq rfl rfl rfl (wPq rfl rfl rfl (wPq rfl rfl rfl (wPq rfl rfl rfl (wPq rfl rfl rfl (wPq rfl rfl rfl (aW rfl (eF rfl rfl Tryz.underlying231 fR (by first|decide|omega) (by first|decide|omega) rfl (oO 0 (16 + k) rfl (by omega) rfl rfl rfl fR rfl (by rw [List.length_map,vS];omega) yJ rfl rfl ?_))))))))))))))))))))))))))))));refine aE (dP (aR (aH (aU rfl rfl (dJ rfl rfl (bU (by omega) (by omega)) rfl (bA rfl rfl (aE (cR (k + 1) (by show 48 - (k + 1) < 48 - k;omega) (aQ rfl (aQ rfl (aQ rfl bP))) (⟨by show k + 1 ≤ 48;omega,rfl⟩) (by repeat(first|exact sL _|apply sD|apply sC)) (cD)))))))))
 obtain rfl : k = 48:=by omega
 refine dX (dA (cZ (dI rfl (aR (aZ (aH (aU rfl rfl (eC rfl rfl (bK 1 rfl rfl aF3 (aMd (by rw [List.length_map,h8])) rfl rfl (dC aMe rfl (fun b9=>bZ 0 rfl rfl rfl rfl aF3 (by rw [List.length_map];exact h8) (aDx (aF2 _ _)) (aIj (by rw [List.length_map,h8];rfl)) rfl rfl (aE (aR (aZ (aZ (aH (aU rfl rfl (aE (aR (bT (cE [69,0,4,9] rfl (eE (base:=[(0,_),(4,_),(9,_)]) (fun ζ : Nat=>[(69,.int .i64 (ζ : Nat))]) (fun ζ Hl own=>ζ ≤ 64 ∧ (b9,.cells 224 (wds .u32 (itN (stC tb.2 (aIq l)) (ζ) s))) :: (b4,.cells 231 (wds .u32 (aIq l))) :: (bs,.cells 224 (wds .u32 s)) :: rest = own) (fun ζ=>64 - ζ) 0 (aQ rfl (aQ rfl (aQ rfl (aQ rfl bP)))) (by repeat(first|exact sL _|apply sD|apply sC)) ⟨Nat.zero_le _,rfl⟩ ?_))))))))))))))))))))));rintro k Hl2 _ eM ⟨hkk,rfl⟩;replace hT:=hT.mono eM;replace hs:=hs.mono eM;replace bM:=bM.trans eM;replace cD:=cD.trans eM
 try dsimp only at ⊢
 refine aZ (aH (dN rfl rfl rfl (aE (aR (aZ (cW rfl (fun c2_18=>?_) (fun c2_18=>?_)))))))
 ·refine bS (aR (aZ (bT (aZ (aH (aU rfl rfl (bA rfl rfl (aE (aR (aZ (cE [0,4,9,10,69] rfl ?_)))))))))))
  apply jR 25 [eqF _,eqF _,eqF _,eqF _,eqF _,eqF _,eqF _,eqF _,eqF _,eqF _,eqF _,eqF _,eqF _,eqF _,eqF _,eqF _,eqF _,eqF _,eqF _,eqF _,eqF _,eqF _,eqF _,eqF _,eqF _] follows (by kernel_rfl) (by kernel_rfl) ⟨bB _,bB _,bB _,bB _,bB _,bB _,bB _,bB _,bB _,bB _,bB _,bB _,bB _,bB _,bB _,bB _,bB _,bB _,bB _,bB _,bB _,bB _,bB _,bB _,bB _,trivial⟩ ?steps19 ?tail19
  case steps19 =>
   refine bO rfl ?_ ?_
   ·intro X
    refine aW rfl (eF rfl rfl Tryz.underlying224 fR (by first|decide|omega) (by first|decide|omega) rfl (aE ?_))
    exact bH rfl rfl
   refine bO rfl ?_ ?_
   ·intro X
    refine wPq rfl rfl rfl (aW rfl (iH 0 (7) rfl (by omega) rfl fR (kB (by rw [jY _ _ h8];decide)) rfl (aE ?_)))
    exact bH rfl rfl
   refine bO rfl ?_ ?_
   ·intro X
    refine aW rfl (eF rfl rfl Tryz.underlying224 fR (by first|decide|omega) (by first|decide|omega) rfl (aE ?_))
    exact bH rfl rfl
   refine bO rfl ?_ ?_
   ·intro X
    refine wPq rfl rfl rfl (aW rfl (iH 0 (4) rfl (by omega) rfl fR (kB (by rw [jY _ _ h8];decide)) rfl (aE ?_)))
    exact bH rfl rfl
   refine bO rfl ?_ ?_
   ·intro X
    refine wPq rfl rfl rfl (aW rfl (bR rfl (aC3 _ 6 11 25 (by decide) (by decide) (by decide) _) rfl (aE ?_)))
    exact bH rfl rfl
   refine bO rfl ?_ ?_
   ·intro X
    refine wPq rfl rfl rfl (wPq rfl rfl rfl (aW rfl (dJ rfl rfl rfl rfl (aE ?_))))
    exact bH rfl rfl
   refine bO rfl ?_ ?_
   ·intro X
    refine aW rfl (eF rfl rfl Tryz.underlying224 fR (by first|decide|omega) (by first|decide|omega) rfl (aE ?_))
    exact bH rfl rfl
   refine bO rfl ?_ ?_
   ·intro X
    refine wPq rfl rfl rfl (aW rfl (iH 0 (6) rfl (by omega) rfl fR (kB (by rw [jY _ _ h8];decide)) rfl (aE ?_)))
    exact bH rfl rfl
   refine bO rfl ?_ ?_
   ·intro X
    refine aW rfl (eF rfl rfl Tryz.underlying224 fR (by first|decide|omega) (by first|decide|omega) rfl (aE ?_))
    exact bH rfl rfl
   refine bO rfl ?_ ?_
   ·intro X
    refine wPq rfl rfl rfl (aW rfl (iH 0 (4) rfl (by omega) rfl fR (kB (by rw [jY _ _ h8];decide)) rfl (aE ?_)))
    exact bH rfl rfl
   refine bO rfl ?_ ?_
   ·intro X
    refine aW rfl (eF rfl rfl Tryz.underlying224 fR (by first|decide|omega) (by first|decide|omega) rfl (aE ?_))
    exact bH rfl rfl
   refine bO rfl ?_ ?_
   ·intro X
    refine wPq rfl rfl rfl (aW rfl (iH 0 (5) rfl (by omega) rfl fR (kB (by rw [jY _ _ h8];decide)) rfl (aE ?_)))
    exact bH rfl rfl
   refine bO rfl ?_ ?_
   ·intro X
    refine aW rfl (eF rfl rfl Tryz.underlying224 fR (by first|decide|omega) (by first|decide|omega) rfl (aE ?_))
    exact bH rfl rfl
   refine bO rfl ?_ ?_
   ·intro X
    refine wPq rfl rfl rfl (aW rfl (iH 0 (6) rfl (by omega) rfl fR (kB (by rw [jY _ _ h8];decide)) rfl (aE ?_)))
    exact bH rfl rfl
   refine bO rfl ?_ ?_
   ·intro X
    refine wPq rfl rfl rfl (wPq rfl rfl rfl (aW rfl (pT rfl rfl rfl (aE ?_))))
    exact bH rfl rfl
   refine bO rfl ?_ ?_
   ·intro X
    refine wPq rfl rfl rfl (wPq rfl rfl rfl (aW rfl (aA4 rfl rfl rfl (aE ?_))))
    exact bH rfl rfl
   refine bO rfl ?_ ?_
   ·intro X
    refine wPq rfl rfl rfl (wPq rfl rfl rfl (aW rfl (pT rfl rfl rfl (aE ?_))))
    exact bH rfl rfl
   refine bO rfl ?_ ?_
   ·intro X
    refine wPq rfl rfl rfl (wPq rfl rfl rfl (aW rfl (dJ rfl rfl rfl rfl (aE ?_))))
    exact bH rfl rfl
   refine bO rfl ?_ ?_
   ·intro X
    refine aW rfl (aU rfl rfl (aE ?_))
    exact bH rfl rfl
   refine bO rfl ?_ ?_
   ·intro X
    refine wPq rfl rfl rfl (aW rfl (eF rfl rfl Tryz.underlying231 fR (by first|decide|omega) (by first|decide|omega) rfl (aE ?_)))
    exact bH rfl rfl
   refine bO rfl ?_ ?_
   ·intro X
    refine wPq rfl rfl rfl (aW rfl (XO.loadG k rfl (by omega) hT.p2 fR (kB (by rw [hT.l2];omega)) rfl (aE ?_)))
    exact bH rfl rfl
   refine bO rfl ?_ ?_
   ·intro X
    refine wPq rfl rfl rfl (wPq rfl rfl rfl (aW rfl (dJ rfl rfl rfl rfl (aE ?_))))
    exact bH rfl rfl
   refine bO rfl ?_ ?_
   ·intro X
    refine aW rfl (aU rfl rfl (aE ?_))
    exact bH rfl rfl
   refine bO rfl ?_ ?_
   ·intro X
    refine wPq rfl rfl rfl (aW rfl (eF rfl rfl Tryz.underlying231 fR (by first|decide|omega) (by first|decide|omega) rfl (aE ?_)))
    exact bH rfl rfl
   refine bO rfl ?_ ?_
   ·intro X
    refine wPq rfl rfl rfl (aW rfl (iH 1 (k) rfl (by omega) rfl fR (kB (by rw [schW_len];omega)) rfl (aE ?_)))
    exact bH rfl rfl
   exact eU rfl
  case tail19 =>
   refine wPq rfl rfl rfl (wPq rfl rfl rfl (wPq rfl rfl rfl (wPq rfl rfl rfl (wPq rfl rfl rfl (wPq rfl rfl rfl (wPq rfl rfl rfl (wPq rfl rfl rfl (wPq rfl rfl rfl (wPq rfl rfl rfl (wPq rfl rfl rfl (wPq rfl rfl rfl (wPq rfl rfl rfl (wPq rfl rfl rfl (wPq rfl rfl rfl (wPq rfl rfl rfl (wPq rfl rfl rfl (wPq rfl rfl rfl (wPq rfl rfl rfl (wPq rfl rfl rfl (wPq rfl rfl rfl (wPq rfl rfl rfl (wPq rfl rfl rfl (wPq rfl rfl rfl (wPq rfl rfl rfl (aW rfl (dJ rfl rfl rfl rfl (bA rfl rfl (aE (aR (aZ ?_))))))))))))))))))))))))))))));refine cE [0,4,9,11,69] rfl ?_
   apply jR 17 [eqF _,eqF _,eqF _,eqF _,eqF _,eqF _,eqF _,eqF _,eqF _,eqF _,eqF _,eqF _,eqF _,eqF _,eqF _,eqF _,eqF _] follows (by kernel_rfl) (by kernel_rfl) ⟨bB _,bB _,bB _,bB _,bB _,bB _,bB _,bB _,bB _,bB _,bB _,bB _,bB _,bB _,bB _,bB _,bB _,trivial⟩ ?steps29 ?tail29
   case steps29 =>
    refine bO rfl ?_ ?_
    ·intro X
     refine aW rfl (eF rfl rfl Tryz.underlying224 fR (by first|decide|omega) (by first|decide|omega) rfl (aE ?_))
     exact bH rfl rfl
    refine bO rfl ?_ ?_
    ·intro X
     refine wPq rfl rfl rfl (aW rfl (iH 0 (0) rfl (by omega) rfl fR (kB (by rw [jY _ _ h8];decide)) rfl (aE ?_)))
     exact bH rfl rfl
    refine bO rfl ?_ ?_
    ·intro X
     refine wPq rfl rfl rfl (aW rfl (bR rfl (aC3 _ 2 13 22 (by decide) (by decide) (by decide) _) rfl (aE ?_)))
     exact bH rfl rfl
    refine bO rfl ?_ ?_
    ·intro X
     refine aW rfl (eF rfl rfl Tryz.underlying224 fR (by first|decide|omega) (by first|decide|omega) rfl (aE ?_))
     exact bH rfl rfl
    refine bO rfl ?_ ?_
    ·intro X
     refine wPq rfl rfl rfl (aW rfl (iH 0 (0) rfl (by omega) rfl fR (kB (by rw [jY _ _ h8];decide)) rfl (aE ?_)))
     exact bH rfl rfl
    refine bO rfl ?_ ?_
    ·intro X
     refine aW rfl (eF rfl rfl Tryz.underlying224 fR (by first|decide|omega) (by first|decide|omega) rfl (aE ?_))
     exact bH rfl rfl
    refine bO rfl ?_ ?_
    ·intro X
     refine wPq rfl rfl rfl (aW rfl (iH 0 (1) rfl (by omega) rfl fR (kB (by rw [jY _ _ h8];decide)) rfl (aE ?_)))
     exact bH rfl rfl
    refine bO rfl ?_ ?_
    ·intro X
     refine wPq rfl rfl rfl (wPq rfl rfl rfl (aW rfl (aA4 rfl rfl rfl (aE ?_))))
     exact bH rfl rfl
    refine bO rfl ?_ ?_
    ·intro X
     refine aW rfl (eF rfl rfl Tryz.underlying224 fR (by first|decide|omega) (by first|decide|omega) rfl (aE ?_))
     exact bH rfl rfl
    refine bO rfl ?_ ?_
    ·intro X
     refine wPq rfl rfl rfl (aW rfl (iH 0 (2) rfl (by omega) rfl fR (kB (by rw [jY _ _ h8];decide)) rfl (aE ?_)))
     exact bH rfl rfl
    refine bO rfl ?_ ?_
    ·intro X
     refine aW rfl (eF rfl rfl Tryz.underlying224 fR (by first|decide|omega) (by first|decide|omega) rfl (aE ?_))
     exact bH rfl rfl
    refine bO rfl ?_ ?_
    ·intro X
     refine wPq rfl rfl rfl (aW rfl (iH 0 (0) rfl (by omega) rfl fR (kB (by rw [jY _ _ h8];decide)) rfl (aE ?_)))
     exact bH rfl rfl
    refine bO rfl ?_ ?_
    ·intro X
     refine aW rfl (eF rfl rfl Tryz.underlying224 fR (by first|decide|omega) (by first|decide|omega) rfl (aE ?_))
     exact bH rfl rfl
    refine bO rfl ?_ ?_
    ·intro X
     refine wPq rfl rfl rfl (aW rfl (iH 0 (1) rfl (by omega) rfl fR (kB (by rw [jY _ _ h8];decide)) rfl (aE ?_)))
     exact bH rfl rfl
    refine bO rfl ?_ ?_
    ·intro X
     refine wPq rfl rfl rfl (wPq rfl rfl rfl (aW rfl (aBo rfl rfl rfl (aE ?_))))
     exact bH rfl rfl
    refine bO rfl ?_ ?_
    ·intro X
     refine wPq rfl rfl rfl (wPq rfl rfl rfl (aW rfl (aA4 rfl rfl rfl (aE ?_))))
     exact bH rfl rfl
    refine bO rfl ?_ ?_
    ·intro X
     refine wPq rfl rfl rfl (wPq rfl rfl rfl (aW rfl (aBo rfl rfl rfl (aE ?_))))
     exact bH rfl rfl
    exact eU rfl
   case tail29 =>
    refine wPq rfl rfl rfl (wPq rfl rfl rfl (wPq rfl rfl rfl (wPq rfl rfl rfl (wPq rfl rfl rfl (wPq rfl rfl rfl (wPq rfl rfl rfl (wPq rfl rfl rfl (wPq rfl rfl rfl (wPq rfl rfl rfl (wPq rfl rfl rfl (wPq rfl rfl rfl (wPq rfl rfl rfl (wPq rfl rfl rfl (wPq rfl rfl rfl (wPq rfl rfl rfl (wPq rfl rfl rfl (aW rfl (dJ rfl rfl rfl rfl (bA rfl rfl (aE (aR (aZ (cE [0,4,9,11,12,69] rfl ?_)))))))))))))))))))))))
    apply jR 2 [eqF _,eqF _] follows (by kernel_rfl) (by kernel_rfl) ⟨bB _,bB _,trivial⟩ ?steps37 ?tail37
    case steps37 =>
     refine bO rfl ?_ ?_
     ·intro X
      refine aW rfl (tC 1 8 rfl (fT rfl) fF (by decide) (by decide) (by decide) Tryz.underlying224 fR rfl ?_);refine aE ?_
      exact bH rfl rfl
     refine bO rfl ?_ ?_
     ·intro X
      refine aW rfl (tC 0 7 rfl fF (fT rfl) (by decide) (by decide) (by decide) Tryz.underlying224 fR rfl ?_);refine aE ?_
      exact bH rfl rfl
     exact eU rfl
    case tail37 =>
     refine wPq rfl rfl rfl (wPq rfl rfl rfl (aW rfl ?_))
     have hV:=jY tb.2 (aIq l) h8 k
     refine XO.copyO 0 (vs:=(wds .u32 (itN (stC tb.2 (aIq l)) k s)).take 7) rfl rfl rfl Tryz.underlying235 fR (by rw [List.length_take,List.length_map,hV];rfl) (fun _=>src_own (j:=0) rfl (fun q v hq=>take_at hq)) (by rw [List.length_take,List.length_map,hV];decide) (fun v hv=>aF2 _ _ v (List.mem_of_mem_take hv)) (copy_sh hV) rfl rfl (aE (aR (aZ (aH (eF rfl rfl Tryz.underlying224 fR (by first|decide|omega) (by first|decide|omega) rfl (iH 0 (4) rfl (by omega) rfl fR (kB (by first | (rw [yU (jY _ _ h8 k)];decide) | (simp [yU (jY tb.2 (aIq l) h8 k)];done))) rfl (aU rfl rfl (dJ rfl rfl rfl rfl (eF rfl rfl Tryz.underlying224 fR (by first|decide|omega) (by first|decide|omega) rfl (oO 0 (4) rfl (by omega) rfl rfl rfl fR rfl (by rw [List.length_map,yU (jY _ _ h8 k)];decide) yJ rfl rfl (aE (aR (aH (aU rfl rfl (aU rfl rfl (dJ rfl rfl rfl rfl (eF rfl rfl Tryz.underlying224 fR (by first|decide|omega) (by first|decide|omega) rfl (oO 0 (0) rfl (by omega) rfl rfl rfl fR rfl (by rw [List.length_map,List.length_set,yU (jY _ _ h8 k)];decide) yJ rfl rfl (aE (dP (aR (aH (dJ rfl rfl (bU (by omega) (by omega)) rfl (aU rfl rfl (aE (cR (k + 1) (by show 64 - (k + 1) < 64 - k;omega) (aQ rfl (aQ rfl (aQ rfl (aQ rfl bP)))) (⟨by show k + 1 ≤ 64;omega,rfl⟩) (by repeat(first|exact sL _|apply sD|apply sC)) (eM)))))))))))))))))))))))))))
 obtain rfl : k = 64:=by omega
 refine dX (dA (cZ (dI rfl (aR (aZ (aH (aU rfl rfl (aE (aR (bT (cE [129,0,9] rfl (eE (base:=[(0,_),(9,_)]) (fun ζ : Nat=>[(129,.int .i64 (ζ : Nat))]) (fun ζ Hl own=>ζ ≤ 8 ∧ (b9,.cells 224 (wds .u32 (aMk tb.2 l s))) :: (bs,.cells 224 (wds .u32 (itN (stD (aMk tb.2 l s)) (ζ) s))) :: rest = own) (fun ζ=>8 - ζ) 0 (aQ rfl (aQ rfl (aQ rfl bP))) (by repeat(first|exact sL _|apply sD|apply sC)) ⟨Nat.zero_le _,rfl⟩ ?_))))))))))));rintro k Hl3 _ eL ⟨hkk,rfl⟩;replace hT:=hT.mono eL;replace hs:=hs.mono eL;replace bM:=bM.trans eL;replace cD:=cD.trans eL;replace eM:=eM.trans eL
 try dsimp only at ⊢
 refine aZ (aH (dN rfl rfl rfl (aE (aR (aZ (cW rfl (fun c3_44=>?_) (fun c3_44=>?_)))))))
 ·refine bS (aR (aZ (bT (aZ (aH (aU rfl rfl (bA rfl rfl (aE (aR (cE [0,9,13,129] rfl ?_))))))))))
  apply jR 10 [eqF _,eqF _,eqF _,eqF _,eqF _,eqF _,eqF _,eqF _,eqF _,eqF _] follows (by kernel_rfl) (by kernel_rfl) ⟨bB _,bB _,bB _,bB _,bB _,bB _,bB _,bB _,bB _,bB _,trivial⟩ ?steps45 ?tail45
  case steps45 =>
   refine bO rfl ?_ ?_
   ·intro X
    refine aW rfl (aU rfl rfl (aE ?_))
    exact bH rfl rfl
   refine bO rfl ?_ ?_
   ·intro X
    refine aW rfl (aU rfl rfl (aE ?_))
    exact bH rfl rfl
   refine bO rfl ?_ ?_
   ·intro X
    refine wPq rfl rfl rfl (aW rfl (eC rfl rfl (aE ?_)))
    exact bH rfl rfl
   refine bO rfl ?_ ?_
   ·intro X
    refine wPq rfl rfl rfl (wPq rfl rfl rfl (aW rfl (eF rfl rfl Tryz.underlying224 fR (by first|decide|omega) (by first|decide|omega) rfl (aE ?_))))
    exact bH rfl rfl
   refine bO rfl ?_ ?_
   ·intro X
    refine wPq rfl rfl rfl (aW rfl (iH 1 (k) rfl (by omega) rfl fR (kB (by rw [aFe _ h8];omega)) rfl (aE ?_)))
    exact bH rfl rfl
   refine bO rfl ?_ ?_
   ·intro X
    refine aW rfl (aU rfl rfl (aE ?_))
    exact bH rfl rfl
   refine bO rfl ?_ ?_
   ·intro X
    refine wPq rfl rfl rfl (aW rfl (eF rfl rfl Tryz.underlying224 fR (by first|decide|omega) (by first|decide|omega) rfl (aE ?_)))
    exact bH rfl rfl
   refine bO rfl ?_ ?_
   ·intro X
    refine wPq rfl rfl rfl (aW rfl (iH 0 (k) rfl (by omega) rfl fR (kB (by rw [show (aMk tb.2 l s).length = 8 from jY _ _ h8 64];omega)) rfl (aE ?_)))
    exact bH rfl rfl
   refine bO rfl ?_ ?_
   ·intro X
    refine wPq rfl rfl rfl (wPq rfl rfl rfl (aW rfl (dJ rfl rfl rfl rfl (aE ?_))))
    exact bH rfl rfl
   refine bO rfl ?_ ?_
   ·intro X
    refine wPq rfl rfl rfl (aW rfl (eC rfl rfl (aE ?_)))
    exact bH rfl rfl
   exact eU rfl
  case tail45 =>
   refine wPq rfl rfl rfl (wPq rfl rfl rfl (wPq rfl rfl rfl (wPq rfl rfl rfl (wPq rfl rfl rfl (wPq rfl rfl rfl (wPq rfl rfl rfl (wPq rfl rfl rfl (wPq rfl rfl rfl (wPq rfl rfl rfl (aW rfl (eF rfl rfl Tryz.underlying224 fR (by first|decide|omega) (by first|decide|omega) rfl (oO 1 (k) rfl (by omega) rfl rfl rfl fR rfl (by rw [List.length_map,aFe _ h8];omega) yJ rfl rfl (aE (dP (aR (aH (dJ rfl rfl (bU (by omega) (by omega)) rfl (aU rfl rfl (aE (cR (k + 1) (by show 8 - (k + 1) < 8 - k;omega) (aQ rfl (aQ rfl (aQ rfl bP))) (⟨by show k + 1 ≤ 8;omega,rfl⟩) (by repeat(first|exact sL _|apply sD|apply sC)) (eL)))))))))))))))))))))
 obtain rfl : k = 8:=by omega
 refine dX (dA (cZ (dI rfl ?_)));refine ⟨rfl,_,[_],rfl,(by repeat(first|exact sL _|apply sC)),bX.mk ?_⟩
 rfl
end Go.Proofs

namespace Go.Proofs
open Go.XL
def BytesU (l : List UInt8) (H : Hp) (v : Value) : Prop:=∃ a c,v = .slice a l.length c ∧ SlR u8R H a c l
theorem aL3 {D : List UInt8} (h : D.length = 32) : d32 D = c8s D:=by
 match D,h with
 | [x0,x1,x2,x3,x4,x5,x6,x7,x8,x9,x10,x11,x12,x13,x14,x15,x16,x17,x18,x19,x20,x21,x22,x23,x24,x25,x26,x27,x28,x29,x30,x31],_=>rfl
theorem zT {α : Type} {l : List (List α)} {k : Nat} {x : List α} (h : l[k]? = some x) : (l.take (k + 1)).flatten = (l.take k).flatten ++ x:=by rw [fP h,List.flatten_append];simp
theorem aE6 {α : Type} : ∀ {l : List (List α)} {k : Nat} {x : List α},l[k]? = some x → (l.take k).flatten.length + x.length ≤ l.flatten.length
  | [],k,x,h=>by simp at h
  | y :: l,0,x,h=>by simp at h;subst h;simp
  | y :: l,k + 1,x,h=>by
    have:=aE6 (l:=l) (k:=k) (x:=x) (by simpa using h)
    simp only [List.take_succ_cons,List.flatten_cons,List.length_append]
    omega
def abS (tb : List Int × List Int) (l : List UInt8) (i : Nat) (s : List Int) : List Int:=aN3 tb.2 s ((l.drop (64 * i)).take 64)
theorem aA2 (tb : List Int × List Int) (l : List UInt8) (n : Nat) {s : List Int} (h : s.length = 8) : (itN (abS tb l) n s).length = 8:=rJ (q:=fun w : List Int=>w.length = 8) (fun k x h=>absF_len _ h _) n _ h
def rsB (l : List UInt8) : List UInt8:=l.drop (64 * (l.length / 64))
theorem wE (l : List UInt8) : (rsB l).length < 64:=by unfold rsB;rw [List.length_drop];omega
def enA (l : List UInt8) : List UInt8:=rsB l ++ List.replicate (128 - (rsB l).length) 0
theorem aJn (l : List UInt8) : (enA l).length = 128:=by have:=wE l;simp [enA];omega
def enB (l : List UInt8) : List UInt8:=(enA l).set (rsB l).length 128
theorem aJk (l : List UInt8) : (enB l).length = 128:=by simp [enB,aJn]
def nnB (l : List UInt8) : Nat:=if 55 < (rsB l).length then 128 else 64
theorem aMb (l : List UInt8) : nnB l = 64 ∨ nnB l = 128:=by unfold nnB;split <;> simp
def enC (l : List UInt8) : List UInt8:=puF (enB l) (0 + (nnB l - 8)) (nnB l - (nnB l - 8)) ((l.length : Int) * 8)
theorem aJ4 (l : List UInt8) : (enC l).length = 128:=by unfold enC puF;rw [aEy,aJk]
def enD (l : List UInt8) : List UInt8:=(enC l).take (nnB l)
theorem enD_len (l : List UInt8) : (enD l).length = nnB l:=by unfold enD;rw [List.length_take,aJ4];have:=aMb l;omega
theorem pad1 (l : List UInt8) : (c8s (List.replicate 128 0)).take 0 ++ c8s (rsB l) ++ (c8s (List.replicate 128 0)).drop (0 + (c8s (rsB l)).length) = c8s (enA l):=by
 simp only [c8s,List.take_zero,List.nil_append,Nat.zero_add,List.length_map,enA,List.map_append,List.map_replicate,List.drop_replicate]
theorem c8s_set1 {l : List UInt8} {i : Nat} (x : UInt8) : (c8s l).set i (.int .u8 (x.toNat : Nat)) = c8s (l.set i x):=by simp only [c8s,List.map_set]
def st1 (tb : List Int × List Int) (l : List UInt8) : List Int:=itN (abS tb l) (l.length / 64) tb.1
def st2 (tb : List Int × List Int) (l : List UInt8) : List Int:=itN (abS tb (enD l)) (nnB l / 64) (st1 tb l)
theorem aJr (tb : List Int × List Int) (l : List UInt8) (h : tb.1.length = 8) : (st1 tb l).length = 8:=aA2 _ _ _ h
theorem st2_len (tb : List Int × List Int) (l : List UInt8) (h : tb.1.length = 8) : (st2 tb l).length = 8:=aA2 _ _ _ (aJr tb l h)
def dgS (s : List Int) (i : Nat) (d : List UInt8) : List UInt8:=puF d (0 + 4 * i) (4 * i + 4 - 4 * i) (IntKind.u64.wrap (qQ s i))
theorem aLa (s : List Int) (n : Nat) (d : List UInt8) : (itN (dgS s) n d).length = d.length:=rJ (q:=fun w : List UInt8=>w.length = d.length) (fun k x h=>by unfold dgS puF;rw [aEy,h]) n _ rfl
def aCj (tb : List Int × List Int) (l : List UInt8) : List UInt8:=itN (dgS (st2 tb l)) 8 (List.replicate 32 0)
theorem qG (tb : List Int × List Int) (l : List UInt8) : (aCj tb l).length = 32:=by unfold aCj;rw [aLa];rfl
theorem sl_take {H : Hp} {b o c : Nat} {l : List UInt8} (h : SlR u8R H (some ⟨b,o,none⟩) c l) (n : Nat) : SlR u8R H (some ⟨b,o,none⟩) c (l.take n) :=
 ⟨by have:=h.le;rw [List.length_take];omega,(by intro h;cases h),fun i x hx=>h.el i x (by rw [List.getElem?_take] at hx;split at hx;exact hx;cases hx)⟩
theorem sl_c8s {H : Hp} {b : Nat} {T : TypeId} {l : List UInt8} {o : Obj} (hb : H b = some o) (ho : (SObj.cells T (c8s l)).Is o) : SlR u8R H (some ⟨b,0,none⟩) l.length l:=SlR.lit hb ho (aEn H l)
theorem sl_pt8 {H : Hp} {b o : Nat} {l : List UInt8} (h : PtH H b o (c8s l)) : SlR u8R H (some ⟨b,o,none⟩) l.length l:=by
 refine ⟨Nat.le_refl _,by simp,fun i x hx=>⟨b,o,[.int .u8 (x.toNat : Nat)],rfl,?_,rfl⟩⟩;obtain ⟨c,T,fz,hb,hc⟩:=h;refine ⟨c,T,fz,hb,fun j u hj=>?_⟩
 have hj0 : j = 0:=by
  have:=(List.getElem?_eq_some_iff.1 hj).1
  simp at this;exact this
 subst hj0
 simp at hj;subst hj
 have:=hc i (.int .u8 (x.toNat : Nat)) (by simp [hx])
 simpa [u8R] using this
theorem aK5 {H : Hp} {b o : Nat} {D : List UInt8} (h : PtH H b o (d32 D)) (hD : D.length = 32) : SlR u8R H (some ⟨b,o,none⟩) 32 D:=by
 rw [aL3 hD] at h
 have:=sl_pt8 h
 rwa [hD] at this
def aN0 (tb : List Int × List Int) (t b : List UInt8) : List UInt8:=aCj tb (aCj tb t ++ b)
theorem tagF_len (tb : List Int × List Int) (t b : List UInt8) : (aN0 tb t b).length = 32:=qG _ _
end Go.Proofs

namespace Go.Proofs
open Go.XL
theorem aBt : tyF Tryz.prog 157 1 false = true:=by kernel_rfl
theorem ty_223 : tyF Tryz.prog 223 8 true = true:=by kernel_rfl
theorem ze_157 : gH Tryz.prog 157 = some [.slice none 0 0]:=by kernel_rfl
theorem aJj : gH Tryz.prog 34 = some [.int .u8 0,.int .u8 0,.int .u8 0,.int .u8 0,.int .u8 0,.int .u8 0,.int .u8 0,.int .u8 0,.int .u8 0,.int .u8 0,.int .u8 0,.int .u8 0,.int .u8 0,.int .u8 0,.int .u8 0,.int .u8 0,.int .u8 0,.int .u8 0,.int .u8 0,.int .u8 0,.int .u8 0,.int .u8 0,.int .u8 0,.int .u8 0,.int .u8 0,.int .u8 0,.int .u8 0,.int .u8 0,.int .u8 0,.int .u8 0,.int .u8 0,.int .u8 0]:=by kernel_rfl
theorem grow_fn (n : Nat) (hn : n ≤ 1073741824) (h0 : 0 < n) (H : Hp) : FnC Tryz.prog 157 #[.slice none 0 0,.int .i64 (n : Nat)] H [] (bX (fun v H2 own=>∃ p a c,own = [p] ∧ v = .slice a 0 c ∧ Acc u8R 5 H2 p a c [])):=by
 refine FnC.intro (args:=[.slice none 0 0,.int .i64 (n : Nat)]) Tryz.func157 rfl rfl Tryz.ntmps157 rfl rfl rfl fun G rest=>?_
 refine aZ (aH (bA rfl rfl (aE (aR (aZ (aZ (aH (aU rfl rfl (dN rfl rfl rfl (aE (aR (dY rfl (decide_eq_false (by omega)) (bS (aR (aZ (aZ (aH (aU rfl rfl (aU rfl rfl (XO.capS rfl Tryz.underlying157 (by decide) rfl (aU rfl rfl (cH (ts:=#[]) rfl Tryz.underlying157 rfl (iF rfl rfl (bU (by omega) (by omega)) rfl (iF (c:=((n : Nat) : Int)) rfl rfl ((bU (by omega) (by omega)).trans (by omega)) rfl (bA rfl rfl (aE (aR (aZ (aH (aU rfl rfl ?_))))))))))))))))))))))))))))));refine lT rfl rfl rfl (aE (aR (eY rfl (decide_eq_true (by omega)) (aH (aU rfl rfl (aU rfl rfl (XO.capS rfl Tryz.underlying157 (by decide) rfl (sY (lo':=0) (hi':=((0 : Nat) : Int)) (m':=((0 : Nat) : Int)) rfl fF (fT rfl) fF (by simp) (by decide) (by decide) (by decide) (by decide) Tryz.underlying157 lR rfl ?_))))))));refine aU rfl rfl (XO.growZ rfl rfl Tryz.underlying157 Tryz.underlying3 lR yN rfl aE3 (by omega) (by omega) rfl (fun b22 c22 hc22=>aU rfl rfl (cH (ts:=#[]) rfl Tryz.underlying157 rfl (zK 0 0 rfl fF (fT rfl) (by omega) (by omega) (Or.inr rfl) Tryz.underlying157 lR rfl ?_))));refine bA rfl rfl (aE (aR (aZ (aH (aU rfl rfl (bA rfl rfl (aE (aR (bW ?_)))))))));refine ⟨rfl,_,[_],rfl,(by repeat(first|exact sL _|apply sC)),bX.mk ?_⟩
 exact ⟨_,_,_,rfl,rfl,.inr ⟨[],rfl,by show SObj.row 5 c22 [] = SObj.row 5 (c22 * 1) [];rw [Nat.mul_one],rfl,by simp⟩⟩
theorem concat_fn (a : Option Addr) (c : Nat) (l : List (List UInt8)) (H : Hp) (hs : SlR (slR u8R) H a c l) (hl : l.length ≤ 1000) (hn : l.flatten.length ≤ 1073741824) (h0 : 0 < l.flatten.length) : FnC Tryz.prog 134 #[.slice a l.length c] H [] (bX (fun v H2 _=>BytesU l.flatten H2 v)):=by
 refine FnC.intro (args:=[.slice a l.length c]) Tryz.func134 rfl rfl Tryz.ntmps134 rfl rfl rfl fun G rest=>?_
 refine aZ (aH (bA rfl rfl (aE (aR (aZ (aH (bA rfl rfl (aE (aR (aZ (aZ (aH (aU rfl rfl (cH (ts:=#[]) rfl Tryz.underlying227 rfl (aU rfl rfl (aE (aR (bT (cE [3,11,0,9,10] rfl (eE (base:=[(0,_),(9,_),(10,_)]) (fun ζ : Nat=>[(3,.int .i64 (((l.take (ζ)).flatten.length : Nat) : Int)),(11,.int .i64 (ζ : Nat))]) (fun ζ Hl own=>ζ ≤ l.length ∧ rest = own) (fun ζ=>l.length - ζ) 0 (aQ rfl (aQ rfl (aQ rfl (aQ rfl (aQ rfl bP))))) (by repeat(first|exact sL _|apply sD|apply sC)) ⟨Nat.zero_le _,rfl⟩ ?_))))))))))))))))))));rintro k Hl0 _ bM ⟨hkk,rfl⟩;replace hs:=hs.mono bM
 try dsimp only at ⊢
 refine aZ (aH (dN rfl rfl rfl (aE (aR (aZ (cW rfl (fun gJ=>?_) (fun gJ=>?_)))))))
 ·refine bS (aR (aZ (bT (aZ (aH (dK rfl hs rfl Tryz.underlying227 aBt (by omega) rfl ?_))))));rintro eb13 eo13 _ x13 hx13 ⟨ax13,cx13,rfl,hd13⟩ hp13;refine cQ rfl (by assumption) aBt rfl rfl rfl (bA rfl rfl (aE (aR (aZ (aH ?_)))))
  have hfl:=aE6 hx13
  refine aU rfl rfl (aU rfl rfl (cH (ts:=#[]) rfl Tryz.underlying157 rfl (dJ rfl rfl (bU (by omega) (by omega)) rfl (bA rfl rfl (aE (aR (aZ (aH (aU rfl rfl (dN rfl rfl rfl (aE (aR (dY rfl (decide_eq_false (by omega)) (bS (dP (aR (aH (dJ rfl rfl (bU (by omega) (by omega)) rfl (aU rfl rfl (aE (cR (k + 1) (by show l.length - (k + 1) < l.length - k;omega) (aQ (aDi rfl (by rw [zT hx13,List.length_append];omega)) (aQ rfl (aQ rfl (aQ rfl (aQ rfl bP))))) (⟨by show k + 1 ≤ l.length;omega,rfl⟩) (by repeat(first|exact sL _|apply sD|apply sC)) (bM))))))))))))))))))))))
 obtain rfl : k = l.length:=by omega
 refine dX (dA (cZ (dI rfl (aR (aZ (aH (aU rfl rfl (lE rfl (grow_fn _ (by rw [List.take_length];exact hn) (by rw [List.take_length];exact h0) _) rfl rfl ?_))))))));rintro _ HG _ hleG ⟨pg,ag,cg,rfl,rfl,haccg⟩
 simp only [List.cons_append,List.nil_append]
 replace hs:=hs.mono hleG;replace bM:=bM.trans hleG;refine bA rfl rfl (aE (aR (aZ (aZ (aH (aU rfl rfl (cH (ts:=#[]) rfl Tryz.underlying227 rfl (aU rfl rfl (aE (aR (bT (cE [6,27,25,26] rfl (eE (base:=[(25,_),(26,_)]) (fun ζ : Nat × ((Nat × SObj) × Option Addr × Nat)=>[(6,.slice ζ.2.2.1 ((l.take (ζ.1)).flatten).length ζ.2.2.2),(27,.int .i64 (ζ.1 : Nat))]) (fun ζ Hl own=>ζ.1 ≤ l.length ∧ ζ.2.1 :: rest = own ∧ Acc u8R 5 Hl ζ.2.1 ζ.2.2.1 ζ.2.2.2 ((l.take (ζ.1)).flatten)) (fun ζ=>l.length - ζ.1) (0,(pg,ag,cg)) (aQ rfl (aQ rfl (aQ rfl (aQ rfl bP)))) (by repeat(first|exact sL _|apply sD|apply sC)) ⟨Nat.zero_le _,rfl,haccg⟩ ?_)))))))))))));rintro ⟨j,⟨pw,aw,cw⟩⟩ Hl1 _ cD ⟨hkj,rfl,haccw⟩;replace hs:=hs.mono cD;replace bM:=bM.trans cD
 try dsimp only at hkj haccw ⊢
 refine aZ (aH (dN rfl rfl rfl (aE (aR (aZ (cW rfl (fun c2_3=>?_) (fun c2_3=>?_)))))))
 ·refine bS (aR (aZ (bT (aZ (aH (dK rfl hs rfl Tryz.underlying227 aBt (by omega) rfl ?_))))));rintro eb29 eo29 _ x29 hx29 ⟨ax29,cx29,rfl,hd29⟩ hp29;refine cQ rfl (by assumption) aBt rfl rfl rfl (bA rfl rfl (aE (aR (aH (aU rfl rfl (aU rfl rfl (fB 0 rfl rfl haccw rfl rfl (by assumption) rfl Tryz.underlying157 lR yN rfl aE3 (by have:=aE6 hx29;omega) rfl (fun p33 a33 c33 hacc33=>bA rfl rfl (aE (dP (aR (aH (dJ rfl rfl (bU (by omega) (by omega)) rfl (aU rfl rfl (aE (cR ((j + 1,(p33,a33,c33))) (by show l.length - (j + 1) < l.length - j;omega) (aQ (by first | rfl | (rw [zT hx29];rfl)) (aQ rfl (aQ rfl (aQ rfl bP)))) (⟨by show j + 1 ≤ l.length;omega,rfl,by first | (exact hacc33) | (rw [zT hx29];exact hacc33)⟩) (by repeat(first|exact sL _|apply sD|apply sC)) (cD)))))))))))))))))
 obtain rfl : j = l.length:=by omega
 rw [List.take_length] at haccw ⊢
 refine dX (dA (cZ (dI rfl (aR (aZ (aH (aU rfl rfl (gL 0 rfl haccw rfl (fun HQ6 kH nV=>?_)))))))));replace hs:=hs.mono kH;replace bM:=bM.trans kH;replace cD:=cD.trans kH;refine bA rfl rfl (aE (aR (bW ?_)));refine ⟨rfl,_,[],rfl,(by repeat(first|exact sL _|apply sC)),bX.mk ?_⟩
 exact ⟨_,_,rfl,by assumption⟩
set_option maxRecDepth 100000 in
set_option maxHeartbeats 1600000 in
theorem xC (tb : List Int × List Int) (H : Hp) (hT : TB H tb) (a : Option Addr) (c : Nat) (l : List UInt8) (hs : SlR u8R H a c l) (hl : l.length < 1152921504606846976) : FnC Tryz.prog 133 #[.slice a l.length c] H [] (bX (fun v _ _=>v = .agg ⟨d32 (aCj tb l)⟩)):=by
 refine FnC.introC (args:=[.slice a l.length c]) Tryz.func133 rfl rfl Tryz.ntmps133 rfl rfl rfl fun G rest=>?_
 refine aZ (aH (dC aJj rfl (fun b2=>aE (aR (aZ (aH (cQ rfl hT.p1 ty_223 (by rw [List.length_map,hT.l1]) rfl rfl (dC aMe rfl (fun b3=>bZ 0 rfl rfl rfl rfl aF3 (by rw [List.length_map];exact hT.l1) (aDx (aF2 _ _)) (aIj (by rw [List.length_map,hT.l1];rfl)) rfl rfl (aE (aR (aZ (aH (kZ rfl rfl rfl (bA rfl rfl (aE (aR (aZ (aH (aU rfl rfl (bA rfl rfl (aE (aR (aZ (bT (cE [5,0,2,3,4] rfl (eE (base:=[(0,_),(2,_),(3,_),(4,_)]) (fun ζ : Nat × (Option Addr) × (Nat)=>[(5,.slice ζ.2.1 (l.drop (64 * ζ.1)).length ζ.2.2)]) (fun ζ Hl own=>ζ.1 ≤ l.length / 64 ∧ (b3,.cells 224 (wds .u32 (itN (abS tb l) (ζ.1) tb.1))) :: (b2,.cells 34 (c8s (List.replicate 32 0))) :: rest = own ∧ (SlR u8R Hl ζ.2.1 ζ.2.2 (l.drop (64 * (ζ.1))))) (fun ζ=>l.length / 64 - ζ.1) (0,a,c) (aQ rfl (aQ rfl (aQ rfl (aQ rfl (aQ rfl bP))))) (by repeat(first|exact sL _|apply sD|apply sC)) ⟨Nat.zero_le _,rfl,hs⟩ ?_)))))))))))))))))))))))))));rintro ⟨k,ra,rc⟩ Hl0 _ bM ⟨hkk,rfl,hsr⟩;replace hT:=hT.mono bM;replace hs:=hs.mono bM
 try dsimp only at hkk hsr ⊢
 have hdl : (l.drop (64 * k)).length = l.length - 64 * k:=List.length_drop
 refine aZ (aZ (aH (aU rfl rfl (cH (ts:=#[]) rfl Tryz.underlying157 rfl (jC rfl rfl rfl (aE (aR (cW rfl (fun c0_3=>?_) (fun c0_3=>?_)))))))))
 ·refine bS (aR (aZ (bT (aH ?_))))
  have hrc:=hsr.le
  refine aU rfl rfl (aU rfl rfl (iP (lo':=0) (hi':=((64 : Nat) : Int)) (m':=((rc : Nat) : Int)) rfl hsr fF (fT rfl) fF (by simp) (by omega) (by omega) (by omega) (by omega) (by omega) Tryz.underlying157 lR rfl (fun as19 ls19 hls19 hss19=>?_)))
  obtain rfl : ls19 = (l.drop (64 * k)).take 64:=by first | (rw [hls19];simp only [Int.toNat_natCast,Nat.add_sub_cancel_left];done) | (rw [hls19];simp;done) | (rw [hls19];simp;rw [List.take_of_length_le (by simp)];done) | (rw [hls19];simp only [Int.toNat_natCast];exact List.take_of_length_le (by rw [List.length_drop];omega))
  refine qE 0 rfl trivial rfl (FnV.of_first (fst:=[.pointer (some ⟨b3,0,none⟩)]) (cap:=[]) (args:=[_]) (aC8 tb _ hT b3 _ (aA2 _ _ _ hT.l1) _ _ ((l.drop (64 * k)).take 64) hss19 (by rw [List.length_take,List.length_drop];omega) (by rw [List.length_take,List.length_drop];omega))) rfl rfl ?_;rintro _ HRA _ hleRA rfl;refine ⟨_,rfl,?_⟩;replace hT:=hT.mono hleRA;replace hs:=hs.mono hleRA;replace hsr:=hsr.mono hleRA;replace hss19:=hss19.mono hleRA;replace bM:=bM.trans hleRA;refine aE (dP (aR (aH (aU rfl rfl (iP (lo':=64) (hi':=((l.drop (64 * k)).length : Nat)) (m':=((rc : Nat) : Int)) rfl hsr (fT rfl) fF fF (by simp) (by omega) (by omega) (by omega) (by omega) (by omega) Tryz.underlying157 lR rfl (fun as16 ls16 hls16 hss16=>?_))))))
  obtain rfl : ls16 = l.drop (64 * (k + 1)):=by
   rw [hls16,List.drop_drop,show 64 * k + (64 : Int).toNat = 64 * (k + 1) by omega]
   exact List.take_of_length_le (by rw [List.length_drop,List.length_drop];omega)
  refine bA rfl rfl (aE (cR ((k + 1,_,_)) (by show l.length / 64 - (k + 1) < l.length / 64 - k;omega) (aQ rfl (aQ rfl (aQ rfl (aQ rfl (aQ rfl bP))))) (⟨by show k + 1 ≤ l.length / 64;omega,rfl,hss16⟩) (by repeat(first|exact sL _|apply sD|apply sC)) (bM)))
 obtain rfl : k = l.length / 64:=by omega
 replace hsr : SlR u8R _ _ _ (rsB l):=hsr
 have hrl:=wE l
 rw [show l.drop (64 * (l.length / 64)) = rsB l from rfl]
 obtain ⟨s1,hs1⟩ : ∃ s,s = st1 tb l:=⟨_,rfl⟩
 rw [show itN (abS tb l) (l.length / 64) tb.1 = s1 from hs1.symm]
 have h81 : s1.length = 8:=by rw [hs1];exact aJr _ _ hT.l1
 refine dX (dA (cZ (dI rfl (aR (aZ (aH (XO.makeLC (n:=64) (m:=128) rfl rfl Tryz.underlying157 lR yN aE3 (by decide) (by decide) (by decide) rfl (fun b21=>bA rfl rfl (aE (aR (aZ (aH (aU rfl rfl (aU rfl rfl (XO.copyO 0 (vs:=c8s (rsB l)) rfl rfl rfl Tryz.underlying157 lR (by rw [List.length_map];have:=wE l;show (rsB l).length = min (rsB l).length 64;omega) (fun h=>src_pub hsr (by rw [List.length_map] at h;exact h)) (by rw [List.length_map];have:=wE l;simp;omega) (c8s_one _) (pad1 l) rfl rfl (aE (aR (aZ (aH (aU rfl rfl (aU rfl rfl (cH (ts:=#[]) rfl Tryz.underlying157 rfl (fG rfl rfl Tryz.underlying157 lR (by omega) (by have:=wE l;show ((rsB l).length : Int) < ((64 : Nat) : Int);omega) rfl (oO 0 (rsB l).length rfl (by omega) rfl rfl rfl lR rfl (by rw [List.length_map,aJn];have:=wE l;omega) (c8s_set1 128) rfl rfl (aE (aR (XC.join (base:=[(0,_),(2,_),(3,_),(4,_)]) (fun ζ : Unit=>[(6,.slice (some ⟨b21,0,none⟩) (nnB l) 128)]) (fun ζ Hl own=>(b21,.cells 5 (c8s (enB l))) :: (b3,.cells 224 (wds .u32 s1)) :: (b2,.cells 34 (c8s (List.replicate 32 0))) :: rest = own) (aQ rfl (aQ rfl (aQ rfl (aQ rfl bP)))) (fun hleJ7=>?_) ?_)))))))))))))))))))))))))))
 ·skip
  refine aZ (aH (aU rfl rfl (cH (ts:=#[]) rfl Tryz.underlying157 rfl (lT rfl rfl rfl (aE (aR (cW rfl (fun c1_8=>?_) (fun c1_8=>?_))))))))
  ·refine aH (aU rfl rfl (zK 0 128 rfl fF (fT rfl) (by decide) (by decide) (Or.inr rfl) Tryz.underlying157 lR rfl ?_));refine bA rfl rfl (aE (lO () (aQ (by first | (rw [show nnB l = 128 from if_pos (by omega)];rfl) | (rw [show nnB l = 64 from if_neg (by omega)];rfl)) (aQ rfl (aQ rfl (aQ rfl (aQ rfl bP))))) rfl (by repeat(first|exact sL _|apply sD|apply sC)) hleJ7))
  refine bS (lO () (aQ (by first | (rw [show nnB l = 128 from if_pos (by omega)];rfl) | (rw [show nnB l = 64 from if_neg (by omega)];rfl)) (aQ rfl (aQ rfl (aQ rfl (aQ rfl bP))))) rfl (by repeat(first|exact sL _|apply sD|apply sC)) hleJ7)
 rintro _ Hl _ hleK7 ⟨rfl⟩;replace hT:=hT.mono hleK7;replace hs:=hs.mono hleK7;replace hsr:=hsr.mono hleK7;replace bM:=bM.trans hleK7;refine aZ (aH (aU rfl rfl (aU rfl rfl (cH (ts:=#[]) rfl Tryz.underlying157 rfl ?_))))
 have hnn:=aMb l
 refine iF (c:=((nnB l - 8 : Nat) : Int)) rfl rfl ((bU (by omega) (by omega)).trans (by omega)) rfl (zK (nnB l - 8) (nnB l) rfl (fT rfl) fF (by omega) (by omega) (Or.inl (by omega)) Tryz.underlying157 lR rfl ?_);refine aU rfl rfl (cH (ts:=#[]) rfl Tryz.underlying157 rfl (gT rfl Tryz.underlying3 Tryz.underlying220 (nL (by omega) (by omega)) rfl (zV rfl rfl (nL (by omega) (by omega)) rfl (pA 0 rfl (aKc b21 (0 + (nnB l - 8)) (nnB l - (nnB l - 8)) _ 5 (enB l) _ (by omega) (by rw [aJk];omega) _) rfl rfl ?_))));rintro _ HPA _ hlePA rfl;refine ⟨_,rfl,?_⟩;replace hT:=hT.mono hlePA;replace hs:=hs.mono hlePA;replace hsr:=hsr.mono hlePA;replace bM:=bM.trans hlePA;refine aE (aR (aZ (bT (cE [6,2,3,4] rfl (oJ 0 rfl rfl rfl (fun HK oK hleK hbK hoK=>?_))))))
 have hse:=sl_take (sl_c8s (l:=enC l) hbK hoK) (nnB l)
 rw [aJ4] at hse
 replace hse : SlR u8R HK _ _ (enD l):=hse
 obtain ⟨eD,heD⟩ : ∃ e,e = enD l:=⟨_,rfl⟩
 rw [← heD] at hse
 have heL : eD.length = nnB l:=by rw [heD,enD_len]
 replace hT:=hT.mono hleK;replace hs:=hs.mono hleK;replace hsr:=hsr.mono hleK;replace bM:=bM.trans hleK;refine eE (base:=[(2,_),(3,_),(4,_)]) (fun ζ : Nat × (Option Addr) × (Nat)=>[(6,.slice ζ.2.1 (eD.drop (64 * ζ.1)).length ζ.2.2)]) (fun ζ Hl own=>ζ.1 ≤ nnB l / 64 ∧ (b3,.cells 224 (wds .u32 (itN (abS tb eD) (ζ.1) s1))) :: (b2,.cells 34 (c8s (List.replicate 32 0))) :: rest = own ∧ (SlR u8R Hl ζ.2.1 ζ.2.2 (eD.drop (64 * (ζ.1))))) (fun ζ=>nnB l / 64 - ζ.1) (0,_,_) (aQ (by show some (Value.slice (some ⟨b21,0,none⟩) (nnB l) 128) = some (Value.slice (some ⟨b21,0,none⟩) (List.drop (64 * 0) eD).length 128);rw [Nat.mul_zero,List.drop_zero,heL]) (aQ rfl (aQ rfl (aQ rfl bP)))) (by repeat(first|exact sL _|apply sD|apply sC)) ⟨Nat.zero_le _,rfl,(show SlR u8R _ _ _ (eD.drop (64 * 0)) by rw [Nat.mul_zero,List.drop_zero];exact hse)⟩ ?_;rintro ⟨j,ra,rc⟩ Hl1 _ cD ⟨hkj,rfl,hse⟩;replace hT:=hT.mono cD;replace hs:=hs.mono cD;replace hsr:=hsr.mono cD;replace bM:=bM.trans cD
 try dsimp only at hkj hse ⊢
 have hdl : (eD.drop (64 * j)).length = nnB l - 64 * j:=by rw [List.length_drop,heL]
 refine aZ (aZ (aH (aU rfl rfl (cH (ts:=#[]) rfl Tryz.underlying157 rfl (lT rfl rfl rfl (aE (aR (cW rfl (fun c2_13=>?_) (fun c2_13=>?_)))))))))
 ·refine bS (aR (aZ (bT (aH ?_))))
  have hrc:=hse.le
  refine aU rfl rfl (aU rfl rfl (iP (lo':=0) (hi':=((64 : Nat) : Int)) (m':=((rc : Nat) : Int)) rfl hse fF (fT rfl) fF (by simp) (by omega) (by omega) (by omega) (by omega) (by omega) Tryz.underlying157 lR rfl (fun as51 ls51 hls51 hss51=>?_)))
  obtain rfl : ls51 = (eD.drop (64 * j)).take 64:=by first | (rw [hls51];simp only [Int.toNat_natCast,Nat.add_sub_cancel_left];done) | (rw [hls51];simp;done) | (rw [hls51];simp;rw [List.take_of_length_le (by simp)];done) | (rw [hls51];simp only [Int.toNat_natCast];exact List.take_of_length_le (by rw [List.length_drop];omega))
  refine qE 0 rfl trivial rfl (FnV.of_first (fst:=[.pointer (some ⟨b3,0,none⟩)]) (cap:=[]) (args:=[_]) (aC8 tb _ hT b3 _ (aA2 _ _ _ h81) _ _ ((eD.drop (64 * j)).take 64) hss51 (by rw [List.length_take,List.length_drop];omega) (by rw [List.length_take,List.length_drop];omega))) rfl rfl ?_;rintro _ HRB _ hleRB rfl;refine ⟨_,rfl,?_⟩;replace hT:=hT.mono hleRB;replace hs:=hs.mono hleRB;replace hsr:=hsr.mono hleRB;replace hse:=hse.mono hleRB;replace hss51:=hss51.mono hleRB;replace bM:=bM.trans hleRB;replace cD:=cD.trans hleRB;refine aE (dP (aR (aH (aU rfl rfl (iP (lo':=64) (hi':=((eD.drop (64 * j)).length : Nat)) (m':=((rc : Nat) : Int)) rfl hse (fT rfl) fF fF (by simp) (by omega) (by omega) (by omega) (by omega) (by omega) Tryz.underlying157 lR rfl (fun as48 ls48 hls48 hss48=>?_))))))
  obtain rfl : ls48 = eD.drop (64 * (j + 1)):=by
   rw [hls48,List.drop_drop,show 64 * j + (64 : Int).toNat = 64 * (j + 1) by omega]
   exact List.take_of_length_le (by rw [List.length_drop,List.length_drop];omega)
  refine bA rfl rfl (aE (cR ((j + 1,_,_)) (by show nnB l / 64 - (j + 1) < nnB l / 64 - j;omega) (aQ rfl (aQ rfl (aQ rfl (aQ rfl bP)))) (⟨by show j + 1 ≤ nnB l / 64;omega,rfl,hss48⟩) (by repeat(first|exact sL _|apply sD|apply sC)) (cD)))
 obtain rfl : j = nnB l / 64:=by omega
 obtain ⟨s2,hs2⟩ : ∃ s,s = st2 tb l:=⟨_,rfl⟩
 rw [show itN (abS tb eD) (nnB l / 64) s1 = s2 from by rw [hs2,heD,hs1];rfl]
 have h82 : s2.length = 8:=by rw [hs2];exact st2_len _ _ hT.l1
 refine dX (dA (cZ (dI rfl (aR (aZ (aZ (aH (bK 0 rfl rfl aF3 (aMd (by rw [List.length_map];exact h82)) rfl rfl (aU rfl rfl (aE (aR (bT (cE [54,2,53] rfl (eE (base:=[(2,_),(53,_)]) (fun ζ : Nat=>[(54,.int .i64 (ζ : Nat))]) (fun ζ Hl own=>ζ ≤ 8 ∧ (b2,.cells 34 (c8s (itN (dgS s2) (ζ) (List.replicate 32 0)))) :: rest = own) (fun ζ=>8 - ζ) 0 (aQ rfl (aQ rfl (aQ rfl bP))) (by repeat(first|exact sL _|apply sD|apply sC)) ⟨Nat.zero_le _,rfl⟩ ?_))))))))))))));rintro q Hl2 _ eM ⟨hkq,rfl⟩;replace hT:=hT.mono eM;replace hs:=hs.mono eM;replace hsr:=hsr.mono eM;replace hse:=hse.mono eM;replace bM:=bM.trans eM;replace cD:=cD.trans eM
 try dsimp only at ⊢
 refine aZ (aH (dN rfl rfl rfl (aE (aR (aZ (cW rfl (fun c3_15=>?_) (fun c3_15=>?_)))))))
 ·refine bS (aR (aZ (bT (aZ (aH (aU rfl rfl (XO.indexV (i:=q) rfl rfl (by omega) (kB (by rw [h82];omega)) Tryz.underlying224 Tryz.underlying222 fR rfl (bA rfl rfl (bA rfl rfl (aE (aR (aH (aU rfl rfl (zV (c:=((4 * q : Nat) : Int)) rfl rfl ((bU (by omega) (by omega)).trans (by omega)) rfl (aU rfl rfl (zV (c:=((4 * q : Nat) : Int)) rfl rfl ((bU (by omega) (by omega)).trans (by omega)) rfl (dJ (c:=((4 * q + 4 : Nat) : Int)) rfl rfl ((bU (by omega) (by omega)).trans (by omega)) rfl (tC (4 * q) (4 * q + 4) rfl (fT rfl) (fT rfl) (by omega) (by omega) (by omega) Tryz.underlying34 lR rfl ?_))))))))))))))))));refine aU rfl rfl (gT rfl Tryz.underlying222 Tryz.underlying220 rfl rfl (pA 0 rfl (aKc b2 (0 + 4 * q) (4 * q + 4 - 4 * q) _ 34 (itN (dgS s2) q (List.replicate 32 0)) _ (by omega) (by rw [aLa,List.length_replicate];omega) _) rfl rfl ?_));rintro _ HPB _ hlePB rfl;refine ⟨_,rfl,?_⟩;replace hT:=hT.mono hlePB;replace hs:=hs.mono hlePB;replace hsr:=hsr.mono hlePB;replace hse:=hse.mono hlePB;replace bM:=bM.trans hlePB;replace cD:=cD.trans hlePB;replace eM:=eM.trans hlePB;refine aE (dP (aR (aH (dJ rfl rfl (bU (by omega) (by omega)) rfl (aU rfl rfl (aE (cR (q + 1) (by show 8 - (q + 1) < 8 - q;omega) (aQ rfl (aQ rfl (aQ rfl bP))) (⟨by show q + 1 ≤ 8;omega,rfl⟩) (by repeat(first|exact sL _|apply sD|apply sC)) (eM))))))))
 obtain rfl : q = 8:=by omega
 have hD : c8s (itN (dgS s2) 8 (List.replicate 32 0)) = d32 (aCj tb l):=by rw [hs2];exact (aL3 (qG tb l)).symm
 rw [hD]
 refine dX (dA (cZ (dI rfl (aR (aZ (aH (bK 0 rfl rfl oA rfl rfl rfl (bZ 0 rfl rfl rfl rfl oA rfl rfl rfl rfl rfl (aE (aR (bW ?_)))))))))));refine ⟨rfl,_,[],(fH 0 rfl rfl oA rfl rfl gB),(by repeat(first|exact sL _|apply sC)),bX.mk ?_⟩
 rfl
theorem tagged_fn (tb : List Int × List Int) (H : Hp) (hT : TB H tb) (t : List UInt8) (a : Option Addr) (c : Nat) (l : List UInt8) (hs : SlR u8R H a c l) (ht : t.length ≤ 1000) (hl : l.length ≤ 1000000000) : FnC Tryz.prog 94 #[.string (iW t),.slice a l.length c] H [] (bX (fun v _ _=>v = .agg ⟨d32 (aN0 tb t l)⟩)):=by
 refine FnC.introC (args:=[.string (iW t),.slice a l.length c]) Tryz.func94 rfl rfl Tryz.ntmps94 rfl rfl rfl fun G rest=>?_
 refine aZ (aH (dC aJj rfl (fun b4=>aE (aR (aZ (aH (aU rfl rfl (XO.s2b rfl Tryz.underlying9 Tryz.underlying157 Tryz.underlying5 rfl (fun HS aS cS hleS hsS=>?_)))))))));replace hT:=hT.mono hleS;replace hs:=hs.mono hleS;refine bR rfl (xC tb _ hT _ _ t hsS (by omega)) rfl (dC aJj rfl (fun b5=>bZ 0 rfl rfl rfl rfl oA rfl rfl rfl rfl rfl (aE (aR (aZ (aH (dF 0 rfl rfl rfl (fun HK5 oK5 hleK5 hbK5 hoK5=>?_))))))))
 have kT:=PtH.of_is hbK5 hoK5
 have hsK5:=aK5 kT (qG tb t)
 replace hT:=hT.mono hleK5;replace hs:=hs.mono hleK5;replace hsS:=hsS.mono hleK5;refine mD rfl Tryz.underlying34 lR rfl (aU rfl rfl (dB rfl Tryz.underlying227 aBt ze_157 rfl rfl rfl (fun b11=>dF 0 rfl rfl rfl (fun HP11 oP11 hleP11 hbP11 hoP11=>?_))));replace hT:=hT.mono hleP11;replace hs:=hs.mono hleP11;replace hsS:=hsS.mono hleP11;replace kT:=kT.mono hleP11;replace hsK5:=hsK5.mono hleP11
 have hsl11:=SlR.lit (ρ:=(slR u8R)) (l:=[aCj tb t,l]) hbP11 hoP11 (eN.cons1 (cs:=[_]) ⟨_,_,by rw [qG],hsK5⟩ (eN.one1 ⟨_,_,rfl,hs⟩))
 refine fI rfl (concat_fn _ _ [aCj tb t,l] _ hsl11 (by simp) (by simp [qG];omega) (by simp [qG];omega)) rfl ?_;rintro _ HN fO ⟨aN,cN,rfl,hN⟩;replace hT:=hT.mono fO;replace hs:=hs.mono fO;replace hsS:=hsS.mono fO;replace kT:=kT.mono fO;replace hsK5:=hsK5.mono fO;replace hsl11:=hsl11.mono fO
 rw [show [aCj tb t,l].flatten = aCj tb t ++ l by simp] at hN ⊢
 refine bR rfl (xC tb _ hT _ _ (aCj tb t ++ l) hN (by simp [qG];omega)) rfl (bZ 0 rfl rfl rfl rfl oA rfl rfl rfl rfl rfl (aE (aR (bW ?_))));refine ⟨rfl,_,[],(fH 0 rfl rfl oA rfl rfl gB),(by repeat(first|exact sL _|apply sC)),bX.mk ?_⟩
 rfl
end Go.Proofs

namespace Go.XL
section
variable {C : Ctx} {ops : Array Oper} {Q : Exit → St → Prop} {rest : List Oper} {env : Env} {df : List Deferred} {H : Hp} {own : Own} {dst : Option Tmp} {ty : TypeId} {pos : String} {af : Array Edge}
theorem uW {x : Operand} {st t t2 : TypeId} {v z : Value} {ds : TypeDesc} (hx : ev env x = some (.iface t2 v)) (ht : C.P.underlying t = some ds) (hi : ∀ ms,ds ≠ .interface ms) (hne : Nat.beq t2 t = false) (hz : aGi C.P t = some z) (hd : eP C.N dst = true) (h : XO C ops Q rest ⟨fJ dst (.tuple #[z,.bool false]) env,df,H,own⟩) :
  XO C ops Q (⟨dst,.typeAssert x st t true,ty,pos,af,none⟩ :: rest) ⟨env,df,H,own⟩:=by
 refine fN rfl rfl hd (fun ρ ha w=>?_) h
 have hne' : ¬ t2 = t:=fun e=>by subst e;simp at hne
 have hzr:=aD5 (P:=C.P) (w:=w) hz
 simp only [execOp,ha _ _ hx,Instr.typeAssert,Sem.run_bind,dR ht,Result.andThen]
 cases ds with
 | interface ms=>exact absurd rfl (hi ms)
 | _=>simp [hne',hzr,Sem.run_bind,Sem.run,Pure.pure,Result.andThen]
theorem qA {x : Operand} {st t : TypeId} {v : Value} {ds : TypeDesc} (hx : ev env x = some (.iface t v)) (ht : C.P.underlying t = some ds) (hi : ∀ ms,ds ≠ .interface ms) (hd : eP C.N dst = true) (h : XO C ops Q rest ⟨fJ dst (.tuple #[v,.bool true]) env,df,H,own⟩) :
  XO C ops Q (⟨dst,.typeAssert x st t true,ty,pos,af,none⟩ :: rest) ⟨env,df,H,own⟩:=by
 refine fN rfl rfl hd (fun ρ ha w=>?_) h
 simp only [execOp,ha _ _ hx,Instr.typeAssert,Sem.run_bind,dR ht,Result.andThen]
 cases ds with
 | interface ms=>exact absurd rfl (hi ms)
 | _=>simp [Sem.run_bind,Sem.run,Pure.pure,Result.andThen]
theorem XC.perm {c : Code} {own' : Own} (hp : own.Perm own') (h : XC C c Q ⟨env,df,H,own'⟩) : XC C c Q ⟨env,df,H,own⟩:=by
 intro a w hr
 obtain ⟨ms,hdf,hok⟩:=hr.ok
 exact h a w ⟨hr.size,hr.get,ms,hdf,hok.perm (hp.symm.append_right _)⟩
end
end Go.XL

namespace Go.Proofs
open Go.XL
inductive AnyV where
 | i (n : Int)
 | l (x : List Int)
 | s (b : List UInt8)
def AnyV.Is (H : Hp) (cs : List Value) : AnyV → Prop
 | .i n=>cs = [.iface 3 (.int .i64 n)]
 | .l x=>∃ a c,cs = [.iface 26 (.slice a x.length c)] ∧ SlR (eO .i64) H a c x
 | .s b=>cs = [.iface 9 (.string (iW b))]
def aKl : Rep AnyV where
 sz:=1
 R:=fun H cs x=>x.Is H cs
 len:=fun {H cs x} h=>by
  cases x with
  | i n=>cases h;rfl
  | l x=>obtain ⟨a,c,rfl,_⟩:=h;rfl
  | s b=>cases h;rfl
 one:=fun {H cs x} h=>by
  cases x with
  | i n=>cases h;rfl
  | l x=>obtain ⟨a,c,rfl,_⟩:=h;rfl
  | s b=>cases h;rfl
 mono:=fun {H H' cs x} hle h=>by
  cases x with
  | i n=>exact h
  | l x=>obtain ⟨a,c,h1,h2⟩:=h;exact ⟨a,c,h1,h2.mono hle⟩
  | s b=>exact h
def AnyV.V : AnyV → Val
 | .i n=>iB n
 | .l x=>.mk 3 0 [] (x.map iB)
 | .s b=>.mk 2 0 b []
def AnyV.isI : AnyV → Prop | .i _=>True | _=>False
theorem AnyV.ofI {x : AnyV} (h : x.isI) : ∃ n,x = .i n:=by cases x with | i n=>exact ⟨n,rfl⟩ | l _=>exact h.elim | s _=>exact h.elim
theorem map_ints (x : List Int) : (x.map AnyV.i).map AnyV.V = x.map iB:=by rw [List.map_map];rfl
theorem snV {l : List AnyV} {k : Nat} {x : AnyV} (h : l[k]? = some x) : (l.take k).map AnyV.V ++ [x.V] = (l.take (k + 1)).map AnyV.V:=by rw [fP h,List.map_append];rfl
theorem rows_anyI : ∀ (x : List Int),∀ y ∈ x.map AnyV.i,y.isI:=fun x y hy=>by obtain ⟨n,_,rfl⟩:=List.mem_map.1 hy;trivial
def aEu (R E J : Int) (m k : List Int) (D : List UInt8) : Val:=.mk 3 0 [] [iB R,iB E,iB J,.mk 3 0 [] (m.map iB),.mk 3 0 [] (k.map iB),.mk 2 0 D []]
def aN8 : List UInt8:=[99,97,114,100]
def aKn (tb : List Int × List Int) (R E J : Int) (m k : List Int) (D : List UInt8) : List UInt8:=aN0 tb aN8 (eB (aEu R E J m k D))
theorem comF_len (tb : List Int × List Int) (R E J : Int) (m k : List Int) (D : List UInt8) : (aKn tb R E J m k D).length = 32:=tagF_len _ _ _
def aMl (R E J : Int) : Prop:=((0 ≤ R ∧ R ≤ 7) ∧ (0 ≤ E ∧ E ≤ 4095)) ∧ (0 ≤ J ∧ J ≤ 255)
theorem qS {l : List Int} {q : Int} (h : nB l q) : (1 ≤ l.length ∧ l.length ≤ 64) ∧ ∀ x ∈ l,0 ≤ x ∧ x ≤ q:=⟨by have:=h.1;omega,h.2⟩
theorem aGw {R E J : Int} {m k : List Int} {D : List UInt8} (hm : m.length ≤ 64) (hk : k.length ≤ 64) (hD : D.length = 32) : mK (aEu R E J m k D) ≤ 1000000:=by
 unfold aEu
 have e1 : ∀ n,mK (iB n) = 20:=fun n=>rfl
 simp only [mK,pI,e1,aB6,List.length_nil,hD]
 omega
theorem aGz {l : List Int} {q : Int} (h : nB l q) (hq : q ≤ 9223372036854775807) : Fit (.mk 3 0 [] (l.map iB)):=by
 obtain ⟨h1,h2⟩:=qS h
 refine .mk _ _ _ _ (by decide) (by decide) (by rw [List.length_map];omega) fun x hx=>?_
 obtain ⟨n,hn,rfl⟩:=List.mem_map.1 hx
 have:=h2 n hn
 exact rZ (by omega)
theorem aGf {R E J : Int} {m k : List Int} {D : List UInt8} (hp : aMl R E J) (hm : nB m 1000) (hk : nB k 1073741788) (hD : D.length = 32) : Fit (aEu R E J m k D):=by
 obtain ⟨⟨h1,h2⟩,h3⟩:=hp
 refine .mk _ _ _ _ (by decide) (by decide) (show (6 : Nat) < 2 ^ 63 by decide) fun x hx=>?_
 simp only [List.mem_cons,List.not_mem_nil,or_false] at hx
 rcases hx with rfl | rfl | rfl | rfl | rfl | rfl
 ·exact rZ (by omega)
 ·exact rZ (by omega)
 ·exact rZ (by omega)
 ·exact aGz hm (by decide)
 ·exact aGz hk (by decide)
 exact .mk _ _ _ _ (by decide) (by omega) (by decide) (fun x hx=>by cases hx)
theorem eB_le {u : Val} (hf : Fit u) (hw : mK u ≤ 1000000) : (eB u).length ≤ 1000000:=by
 unfold eB
 split
 ·exact Nat.le_trans (aJa u hf) hw
 simp
end Go.Proofs

namespace Go.Proofs
open Go.XL
theorem by_20 : Nat.ble (Tryz.prog.bytesOf 20) 4096 = true:=by kernel_rfl
theorem yO : tyF Tryz.prog 20 1 false = true:=by kernel_rfl
theorem aK9 : gH Tryz.prog 20 = some [.nilIface]:=by kernel_rfl
set_option maxRecDepth 100000 in
set_option maxHeartbeats 1600000 in
theorem valuesI_fn (a : Option Addr) (c : Nat) (l : List AnyV) (H : Hp) (hs : SlR aKl H a c l) (hl : l.length ≤ 1000) (hi : ∀ x ∈ l,x.isI) : FnC Tryz.prog 93 #[.slice a l.length c] H [] (bX (fun v H2 _=>aHt (l.map AnyV.V) H2 v)):=by
 refine FnC.introC (args:=[.slice a l.length c]) Tryz.func93 rfl rfl Tryz.ntmps93 rfl rfl rfl fun G rest=>?_
 refine aZ (aH (dC jJ rfl (fun b2=>aE (aR (aZ (aH (bD rfl mR rfl (bZ 0 rfl rfl rfl rfl dT rfl rfl rfl rfl rfl (aE (aR (aZ (aZ (aH (aU rfl rfl (cH (ts:=#[]) rfl Tryz.underlying200 rfl (aU rfl rfl (aE (aR (bT (cE [14,2,12,13] rfl (iQ 0 (eE (base:=[(2,_),(12,_),(13,_)]) (fun ζ : Nat × (Nat × SObj) × (Option Addr) × (Nat)=>[(14,.int .i64 (ζ.1 : Nat))]) (fun ζ Hl own=>ζ.1 ≤ l.length ∧ ζ.2.1 :: (b2,.cells 162 [.int .i64 3,.int .i64 0,.string (iW []),.slice ζ.2.2.1 ((l.take (ζ.1)).map AnyV.V).length ζ.2.2.2]) :: rest = own ∧ (Acc valR 162 Hl ζ.2.1 ζ.2.2.1 ζ.2.2.2 ((l.take (ζ.1)).map AnyV.V))) (fun ζ=>l.length - ζ.1) (0,(0,.nothing),none,0) (aQ rfl (aQ rfl (aQ rfl (aQ rfl bP)))) (by repeat(first|exact sL _|apply sD|apply sC)) ⟨Nat.zero_le _,rfl,Acc.nil _ _ _ _⟩ ?_))))))))))))))))))))));rintro ⟨k,pw,aw,cw⟩ Hl0 _ bM ⟨hkk,rfl,hacc⟩;replace hs:=hs.mono bM
 try dsimp only at hkk hacc ⊢
 refine aZ (aH (dN rfl rfl rfl (aE (aR (aZ (cW rfl (fun gJ=>?_) (fun gJ=>?_)))))))
 ·refine bS (aR (aZ (bT (aZ (aH (dK rfl hs rfl Tryz.underlying200 yO (by omega) rfl ?_))))));rintro eb16 eo16 cs16 x16 pM hR16 kI;obtain ⟨n16,rfl⟩:=AnyV.ofI (hi x16 (List.mem_of_getElem? pM));obtain rfl:=hR16;refine cQ rfl (by assumption) yO rfl rfl rfl (bA rfl rfl (aE (aR (aZ (aH (aU rfl rfl (aE (aR (bT (aZ (aH (qA rfl Tryz.underlying3 (by intro _ h;cases h) rfl (bV rfl rfl rfl (bV rfl rfl rfl (aE (aR (eY rfl rfl (aZ (aH (bA rfl rfl (aE (aR (aH (bD rfl kF rfl (bK 1 rfl rfl nR rfl rfl rfl (aU rfl rfl (fQ vA vD jJ rfl rfl rfl (dB rfl Tryz.underlying160 iE jJ rfl rfl rfl (fun b26=>dF 0 rfl rfl rfl (fun HP26 oP26 hleP26 hbP26 hoP26=>?_))))))))))))))))))))))))))))));replace hs:=hs.mono hleP26;replace hacc:=hacc.mono hleP26;replace kI:=kI.mono hleP26;replace bM:=bM.trans hleP26
  have hsl26:=SlR.lit (ρ:=valR) (l:=[iB n16]) hbP26 hoP26 (eN.one1 (mN.2 ⟨none,0,rfl,SlR.nil0 _ _⟩))
  refine fB 0 rfl rfl hacc rfl rfl hsl26 rfl Tryz.underlying160 iE jJ rfl xF (by simp;omega) rfl (fun p27 a27 c27 hacc27=>bD rfl kF rfl (bZ 1 rfl rfl rfl rfl nR rfl rfl rfl rfl rfl (aE (dP (dP (aR (aH (dJ rfl rfl (bU (by omega) (by omega)) rfl (aU rfl rfl (aE ?_))))))))))
  first | rw [show List.map AnyV.V (List.take k l) ++ [iB n16] = _ from snV pM] at hacc27 ⊢ | rw [show List.map AnyV.V (List.take k l) ++ [Val.mk 3 0 [] (l16.map iB)] = _ from snV pM] at hacc49 ⊢ | rw [show List.map AnyV.V (List.take k l) ++ [Val.mk 2 0 s16 []] = _ from snV pM] at hacc59 ⊢
  refine cR ((k + 1,p27,a27,c27)) (by show l.length - (k + 1) < l.length - k;omega) (aQ rfl (aQ rfl (aQ rfl (aQ rfl bP)))) (⟨by show k + 1 ≤ l.length;omega,rfl,by first | exact hacc27 | exact hacc59 | exact hacc49⟩) (by repeat(first|exact sL _|apply sD|apply sC)) (bM)
 obtain rfl : k = l.length:=by omega
 rw [List.take_length] at hacc ⊢
 refine dX (dA (cZ (dI rfl (aR (aZ (aH (gL 0 rfl hacc rfl (fun HQ3 pN hsQ3=>?_))))))));replace hs:=hs.mono pN;replace bM:=bM.trans pN;refine bK 0 rfl rfl iE rfl rfl rfl (bZ 0 rfl rfl rfl rfl iE rfl rfl rfl rfl rfl (aE (aR (bW ?_))));refine ⟨rfl,_,[],(fH 0 rfl rfl iE rfl rfl gB),(by repeat(first|exact sL _|apply sC)),bX.mk ?_⟩
 exact ⟨_,_,rfl,by assumption⟩
set_option maxRecDepth 100000 in
set_option maxHeartbeats 1600000 in
theorem zG (a : Option Addr) (c : Nat) (l : List AnyV) (H : Hp) (hs : SlR aKl H a c l) (hl : l.length ≤ 1000) (hll : ∀ x,AnyV.l x ∈ l → x.length ≤ 1000) : FnC Tryz.prog 93 #[.slice a l.length c] H [] (bX (fun v H2 _=>aHt (l.map AnyV.V) H2 v)):=by
 refine FnC.introC (args:=[.slice a l.length c]) Tryz.func93 rfl rfl Tryz.ntmps93 rfl rfl rfl fun G rest=>?_
 refine aZ (aH (dC jJ rfl (fun b2=>aE (aR (aZ (aH (bD rfl mR rfl (bZ 0 rfl rfl rfl rfl dT rfl rfl rfl rfl rfl (aE (aR (aZ (aZ (aH (aU rfl rfl (cH (ts:=#[]) rfl Tryz.underlying200 rfl (aU rfl rfl (aE (aR (bT (cE [14,2,12,13] rfl (iQ 0 (eE (base:=[(2,_),(12,_),(13,_)]) (fun ζ : Nat × (Nat × SObj) × (Option Addr) × (Nat)=>[(14,.int .i64 (ζ.1 : Nat))]) (fun ζ Hl own=>ζ.1 ≤ l.length ∧ ζ.2.1 :: (b2,.cells 162 [.int .i64 3,.int .i64 0,.string (iW []),.slice ζ.2.2.1 ((l.take (ζ.1)).map AnyV.V).length ζ.2.2.2]) :: rest = own ∧ (Acc valR 162 Hl ζ.2.1 ζ.2.2.1 ζ.2.2.2 ((l.take (ζ.1)).map AnyV.V))) (fun ζ=>l.length - ζ.1) (0,(0,.nothing),none,0) (aQ rfl (aQ rfl (aQ rfl (aQ rfl bP)))) (by repeat(first|exact sL _|apply sD|apply sC)) ⟨Nat.zero_le _,rfl,Acc.nil _ _ _ _⟩ ?_))))))))))))))))))))));rintro ⟨k,pw,aw,cw⟩ Hl0 _ bM ⟨hkk,rfl,hacc⟩;replace hs:=hs.mono bM
 try dsimp only at hkk hacc ⊢
 refine aZ (aH (dN rfl rfl rfl (aE (aR (aZ (cW rfl (fun gJ=>?_) (fun gJ=>?_)))))))
 ·refine bS (aR (aZ (bT (aZ (aH (dK rfl hs rfl Tryz.underlying200 yO (by omega) rfl ?_))))));rintro eb16 eo16 cs16 x16 pM hR16 kI
  rcases x16 with n16 | l16 | s16
  ·obtain rfl:=hR16;refine cQ rfl (by assumption) yO rfl rfl rfl (bA rfl rfl (aE (aR (aZ (aH (aU rfl rfl (aE (aR (bT (aZ (aH (qA rfl Tryz.underlying3 (by intro _ h;cases h) rfl (bV rfl rfl rfl (bV rfl rfl rfl (aE (aR (eY rfl rfl (aZ (aH (bA rfl rfl (aE (aR (aH (bD rfl kF rfl (bK 1 rfl rfl nR rfl rfl rfl (aU rfl rfl (fQ vA vD jJ rfl rfl rfl (dB rfl Tryz.underlying160 iE jJ rfl rfl rfl (fun b26=>dF 0 rfl rfl rfl (fun HP26 oP26 hleP26 hbP26 hoP26=>?_))))))))))))))))))))))))))))));replace hs:=hs.mono hleP26;replace hacc:=hacc.mono hleP26;replace kI:=kI.mono hleP26;replace bM:=bM.trans hleP26
   have hsl26:=SlR.lit (ρ:=valR) (l:=[iB n16]) hbP26 hoP26 (eN.one1 (mN.2 ⟨none,0,rfl,SlR.nil0 _ _⟩))
   refine fB 0 rfl rfl hacc rfl rfl hsl26 rfl Tryz.underlying160 iE jJ rfl xF (by simp;omega) rfl (fun p27 a27 c27 hacc27=>bD rfl kF rfl (bZ 1 rfl rfl rfl rfl nR rfl rfl rfl rfl rfl (aE (dP (dP (aR (aH (dJ rfl rfl (bU (by omega) (by omega)) rfl (aU rfl rfl (aE ?_))))))))))
   first | rw [show List.map AnyV.V (List.take k l) ++ [iB n16] = _ from snV pM] at hacc27 ⊢ | rw [show List.map AnyV.V (List.take k l) ++ [Val.mk 3 0 [] (l16.map iB)] = _ from snV pM] at hacc49 ⊢ | rw [show List.map AnyV.V (List.take k l) ++ [Val.mk 2 0 s16 []] = _ from snV pM] at hacc59 ⊢
   refine cR ((k + 1,p27,a27,c27)) (by show l.length - (k + 1) < l.length - k;omega) (aQ rfl (aQ rfl (aQ rfl (aQ rfl bP)))) (⟨by show k + 1 ≤ l.length;omega,rfl,by first | exact hacc27 | exact hacc59 | exact hacc49⟩) (by repeat(first|exact sL _|apply sD|apply sC)) (bM)
  ·obtain ⟨a16,c16,rfl,qY⟩:=hR16;refine cQ rfl (by assumption) yO rfl rfl rfl (bA rfl rfl (aE (aR (aZ (aH (aU rfl rfl (aE (aR (bT (aZ (aH (uW (z:=.int .i64 0) rfl Tryz.underlying3 (by intro _ h;cases h) rfl (by kernel_rfl) rfl (bV rfl rfl rfl (bV rfl rfl rfl (aE (aR (dY rfl rfl (aZ (aH (qA rfl Tryz.underlying26 (by intro _ h;cases h) rfl (bV rfl rfl rfl (bV rfl rfl rfl (aE (aR (eY rfl rfl (aZ (aH (bA rfl rfl (aE (aR ?_))))))))))))))))))))))))))))));refine aZ (aH (bA rfl rfl (aE (aR (aZ (aZ (aH (aU rfl rfl (cH (ts:=#[]) rfl Tryz.underlying26 rfl (aU rfl rfl (aE (aR (bT (cE [7,34,2,12,13,14,32,33] rfl (iQ 0 (eE (base:=[(2,_),(12,_),(13,_),(14,_),(32,_),(33,_)]) (fun ζ : Nat × ((Nat × SObj) × Option Addr × Nat)=>[(7,.slice ζ.2.2.1 ((l16.take (ζ.1)).map AnyV.i).length ζ.2.2.2),(34,.int .i64 (ζ.1 : Nat))]) (fun ζ Hl own=>ζ.1 ≤ l16.length ∧ ζ.2.1 :: pw :: (b2,.cells 162 [.int .i64 3,.int .i64 0,.string (iW []),.slice aw ((l.take (k)).map AnyV.V).length cw]) :: rest = own ∧ Acc aKl 20 Hl ζ.2.1 ζ.2.2.1 ζ.2.2.2 ((l16.take (ζ.1)).map AnyV.i) ∧ (Acc valR 162 Hl pw aw cw ((l.take (k)).map AnyV.V))) (fun ζ=>l16.length - ζ.1) (0,((0,.nothing),none,0)) (aQ rfl (aQ rfl (aQ rfl (aQ rfl (aQ rfl (aQ rfl (aQ rfl (aQ rfl bP)))))))) (by repeat(first|exact sL _|apply sD|apply sC)) ⟨Nat.zero_le _,rfl,Acc.nil _ _ _ _,hacc⟩ ?_))))))))))))))));rintro ⟨j,⟨py,ay,cy⟩⟩ Hl1 _ cD ⟨hkj,rfl,haccy,hacc⟩;replace hs:=hs.mono cD;replace kI:=kI.mono cD;replace qY:=qY.mono cD;replace bM:=bM.trans cD
   try dsimp only at hkj haccy hacc ⊢
   have hb16:=hll l16 (List.mem_of_getElem? pM)
   refine aZ (aH (dN rfl rfl rfl (aE (aR (aZ (cW rfl (fun c3_3=>?_) (fun c3_3=>?_)))))))
   ·refine bS (aR (aZ (bT (aZ (aH (dK rfl qY rfl Tryz.underlying26 dT (by omega) rfl ?_))))));rintro eb36 eo36 _ x36 hx36 rfl hp36;refine cQ rfl (by assumption) dT rfl rfl rfl (bA rfl rfl (aE (aR (aH (aU rfl rfl (aU rfl rfl (iL rfl Tryz.underlying3 (by intro _ h;cases h) rfl (dB rfl Tryz.underlying200 yO aK9 rfl rfl rfl (fun b41=>dF 0 rfl rfl rfl (fun HP41 oP41 hleP41 hbP41 hoP41=>?_))))))))))
    have hsl41:=SlR.lit (ρ:=aKl) (l:=[AnyV.i x36]) hbP41 hoP41 (eN.one1 rfl)
    replace hs:=hs.mono hleP41;replace kI:=kI.mono hleP41;replace qY:=qY.mono hleP41;replace haccy:=haccy.mono hleP41;replace hacc:=hacc.mono hleP41;replace hp36:=hp36.mono hleP41;replace bM:=bM.trans hleP41;replace cD:=cD.trans hleP41;refine fB 0 rfl rfl haccy rfl rfl hsl41 rfl Tryz.underlying200 yO aK9 rfl by_20 (by have:=hll l16 (List.mem_of_getElem? pM);simp;omega) rfl (fun p42 a42 c42 hacc42=>bA rfl rfl (aE (dP (aR (aH (dJ rfl rfl (bU (by omega) (by omega)) rfl (aU rfl rfl (aE (cR ((j + 1,(p42,a42,c42))) (by show l16.length - (j + 1) < l16.length - j;omega) (aQ (by first | rfl | (rw [fP hx36,List.map_append];rfl)) (aQ rfl (aQ rfl (aQ rfl (aQ rfl (aQ rfl (aQ rfl (aQ rfl bP)))))))) (⟨by show j + 1 ≤ l16.length;omega,rfl,by first | (exact hacc42) | (rw [fP hx36,List.map_append];exact hacc42),by assumption⟩) (by repeat(first|exact sL _|apply sD|apply sC)) (cD))))))))))
   obtain rfl : j = l16.length:=by omega
   rw [List.take_length] at haccy ⊢
   refine dX (dA (cZ (dI rfl (aR (mE 0 rfl haccy rfl (fun HQ6 kH nV=>?_))))));replace hs:=hs.mono kH;replace kI:=kI.mono kH;replace qY:=qY.mono kH;replace hacc:=hacc.mono kH;replace bM:=bM.trans kH;replace cD:=cD.trans kH;refine cE [2,7,12,13,14] rfl ?_
   apply iJ (fun _=>True) trivial 5 [eqF _,eqF _,eqF _,fun v H=>aHt (l16.map iB) H v,slF valR [Val.mk 3 0 [] (l16.map iB)]] follows (by kernel_rfl) (by kernel_rfl) ⟨bB _,bB _,bB _,zU _,gX _ _,trivial⟩ ?steps7 ?tail7
   case steps7 =>
    refine bI rfl ?_ ?_
    ·intro X HD aD _
     replace hs:=hs.mono aD;replace kI:=kI.mono aD;replace qY:=qY.mono aD;replace hacc:=hacc.mono aD;replace nV:=nV.mono aD;replace bM:=bM.trans aD;replace cD:=cD.trans aD;refine aW rfl (bD rfl kF rfl (aE ?_))
     exact bH trivial rfl
    refine bI rfl ?_ ?_
    ·intro X HD aD _
     replace hs:=hs.mono aD;replace kI:=kI.mono aD;replace qY:=qY.mono aD;replace hacc:=hacc.mono aD;replace nV:=nV.mono aD;replace bM:=bM.trans aD;replace cD:=cD.trans aD;refine wPq rfl rfl rfl (aW rfl (bK 1 rfl rfl nR rfl rfl rfl (aE ?_)))
     exact bH trivial rfl
    refine bI rfl ?_ ?_
    ·intro X HD aD _
     replace hs:=hs.mono aD;replace kI:=kI.mono aD;replace qY:=qY.mono aD;replace hacc:=hacc.mono aD;replace nV:=nV.mono aD;replace bM:=bM.trans aD;replace cD:=cD.trans aD;refine aW rfl (aU rfl rfl (aE ?_))
     exact bH trivial rfl
    refine bI rfl ?_ ?_
    ·intro X HD aD _
     replace hs:=hs.mono aD;replace kI:=kI.mono aD;replace qY:=qY.mono aD;replace hacc:=hacc.mono aD;replace nV:=nV.mono aD;replace bM:=bM.trans aD;replace cD:=cD.trans aD;refine wPq rfl rfl rfl (aW rfl ?_)
     have hcall:=valuesI_fn _ _ (l16.map AnyV.i) _ nV (by rw [List.length_map];exact hll l16 (List.mem_of_getElem? pM)) (rows_anyI l16)
     rw [map_ints] at hcall
     refine fI rfl hcall rfl ?_;rintro _ HN47 hleN47 ⟨aN47,cN47,rfl,hN47⟩;replace hs:=hs.mono hleN47;replace kI:=kI.mono hleN47;replace qY:=qY.mono hleN47;replace hacc:=hacc.mono hleN47;replace nV:=nV.mono hleN47;replace bM:=bM.trans hleN47;replace cD:=cD.trans hleN47;refine aE ?_
     exact bH trivial (⟨_,_,rfl,hN47⟩)
    refine bI rfl ?_ ?_
    ·intro X HD aD _
     replace hs:=hs.mono aD;replace kI:=kI.mono aD;replace qY:=qY.mono aD;replace hacc:=hacc.mono aD;replace nV:=nV.mono aD;replace bM:=bM.trans aD;replace cD:=cD.trans aD;refine cU rfl rfl ?_;rintro _ ⟨aF,cF,rfl,h47⟩;refine aW rfl (dB rfl Tryz.underlying160 iE jJ rfl rfl rfl (fun b48=>dF 0 rfl rfl rfl (fun HP48 oP48 hleP48 hbP48 hoP48=>?_)));replace hs:=hs.mono hleP48;replace kI:=kI.mono hleP48;replace qY:=qY.mono hleP48;replace hacc:=hacc.mono hleP48;replace nV:=nV.mono hleP48;replace bM:=bM.trans hleP48;replace cD:=cD.trans hleP48
     have hsl48:=SlR.lit (ρ:=valR) (l:=[Val.mk 3 0 [] (l16.map iB)]) hbP48 hoP48 (eN.one1 (mN.2 ⟨_,_,rfl,h47.mono hleP48⟩))
     refine aE ?_
     exact bH trivial (⟨_,rfl,hsl48⟩)
    exact eU rfl
   case tail7 =>
    intro HD aD _
    replace hs:=hs.mono aD;replace kI:=kI.mono aD;replace qY:=qY.mono aD;replace hacc:=hacc.mono aD;replace nV:=nV.mono aD;replace bM:=bM.trans aD;replace cD:=cD.trans aD;refine wPq rfl rfl rfl (wPq rfl rfl rfl (wPq rfl rfl rfl (cU rfl rfl ?_)));rintro _ ⟨aF,cF,rfl,h47⟩;refine cU rfl rfl ?_;rintro _ ⟨bs48,rfl,hsl48⟩;refine aW rfl (fB 0 rfl rfl hacc rfl rfl hsl48 rfl Tryz.underlying160 iE jJ rfl xF (by simp;omega) rfl (fun p49 a49 c49 hacc49=>bD rfl kF rfl (bZ 1 rfl rfl rfl rfl nR rfl rfl rfl rfl rfl (aE (dP (dP (aR (aH (dJ rfl rfl (bU (by omega) (by omega)) rfl (aU rfl rfl (aE ?_)))))))))))
    first | rw [show List.map AnyV.V (List.take k l) ++ [iB n16] = _ from snV pM] at hacc27 ⊢ | rw [show List.map AnyV.V (List.take k l) ++ [Val.mk 3 0 [] (l16.map iB)] = _ from snV pM] at hacc49 ⊢ | rw [show List.map AnyV.V (List.take k l) ++ [Val.mk 2 0 s16 []] = _ from snV pM] at hacc59 ⊢
    refine cR ((k + 1,p49,a49,c49)) (by show l.length - (k + 1) < l.length - k;omega) (aQ rfl (aQ rfl (aQ rfl (aQ rfl bP)))) (⟨by show k + 1 ≤ l.length;omega,rfl,by first | exact hacc27 | exact hacc59 | exact hacc49⟩) (by repeat(first|exact sL _|apply sD|apply sC)) (bM)
  obtain rfl:=hR16;refine cQ rfl (by assumption) yO rfl rfl rfl (bA rfl rfl (aE (aR (aZ (aH (aU rfl rfl (aE (aR (bT (aZ (aH (uW (z:=.int .i64 0) rfl Tryz.underlying3 (by intro _ h;cases h) rfl (by kernel_rfl) rfl (bV rfl rfl rfl (bV rfl rfl rfl (aE (aR (dY rfl rfl (aZ (aH (uW (z:=.slice none 0 0) rfl Tryz.underlying26 (by intro _ h;cases h) rfl (by kernel_rfl) rfl (bV rfl rfl rfl (bV rfl rfl rfl (aE (aR (dY rfl rfl (aZ (aH (qA rfl Tryz.underlying9 (by intro _ h;cases h) rfl (bV rfl rfl rfl (bV rfl rfl rfl ?_))))))))))))))))))))))))))))));refine aE (aR (eY rfl rfl (aZ (aH (bA rfl rfl (aE (aR (aH (bD rfl kF rfl (bK 1 rfl rfl nR rfl rfl rfl (aU rfl rfl (fQ vA vD jJ rfl rfl rfl (dB rfl Tryz.underlying160 iE jJ rfl rfl rfl (fun b58=>dF 0 rfl rfl rfl (fun HP58 oP58 hleP58 hbP58 hoP58=>?_)))))))))))))));replace hs:=hs.mono hleP58;replace hacc:=hacc.mono hleP58;replace kI:=kI.mono hleP58;replace bM:=bM.trans hleP58
  have hsl58:=SlR.lit (ρ:=valR) (l:=[Val.mk 2 0 s16 []]) hbP58 hoP58 (eN.one1 (mN.2 ⟨none,0,rfl,SlR.nil0 _ _⟩))
  refine fB 0 rfl rfl hacc rfl rfl hsl58 rfl Tryz.underlying160 iE jJ rfl xF (by simp;omega) rfl (fun p59 a59 c59 hacc59=>bD rfl kF rfl (bZ 1 rfl rfl rfl rfl nR rfl rfl rfl rfl rfl (aE (dP (dP (aR (aH (dJ rfl rfl (bU (by omega) (by omega)) rfl (aU rfl rfl (aE ?_))))))))))
  first | rw [show List.map AnyV.V (List.take k l) ++ [iB n16] = _ from snV pM] at hacc27 ⊢ | rw [show List.map AnyV.V (List.take k l) ++ [Val.mk 3 0 [] (l16.map iB)] = _ from snV pM] at hacc49 ⊢ | rw [show List.map AnyV.V (List.take k l) ++ [Val.mk 2 0 s16 []] = _ from snV pM] at hacc59 ⊢
  refine cR ((k + 1,p59,a59,c59)) (by show l.length - (k + 1) < l.length - k;omega) (aQ rfl (aQ rfl (aQ rfl (aQ rfl bP)))) (⟨by show k + 1 ≤ l.length;omega,rfl,by first | exact hacc27 | exact hacc59 | exact hacc49⟩) (by repeat(first|exact sL _|apply sD|apply sC)) (bM)
 obtain rfl : k = l.length:=by omega
 rw [List.take_length] at hacc ⊢
 refine dX (dA (cZ (dI rfl (aR (aZ (aH (gL 0 rfl hacc rfl (fun HQ11 hleQ11 hsQ11=>?_))))))));replace hs:=hs.mono hleQ11;replace bM:=bM.trans hleQ11;refine bK 0 rfl rfl iE rfl rfl rfl (bZ 0 rfl rfl rfl rfl iE rfl rfl rfl rfl rfl (aE (aR (bW ?_))));refine ⟨rfl,_,[],(fH 0 rfl rfl iE rfl rfl gB),(by repeat(first|exact sL _|apply sC)),bX.mk ?_⟩
 exact ⟨_,_,rfl,by assumption⟩
end Go.Proofs

namespace Go.Proofs
open Go.XL
def aLs (tb : List Int × List Int) (R E J : Int) (m k : List Int) (D : List UInt8) : Card:=⟨R,E,J,List.zipWith xD m k,aKn tb R E J m k D⟩
def aKp (tb : List Int × List Int) (s : Card) (keys : List Int) (salt : List UInt8) : Prop:=aC7 s keys ∧ aKn tb s.R s.E s.J (jB s keys) keys salt = s.D
end Go.Proofs

namespace Go.Proofs
open Go.XL
theorem bf_49 : lW Tryz.prog 49 = some [(0,1),(1,1),(2,1),(3,1),(4,32)]:=by kernel_rfl
theorem bk_49 : mB Tryz.prog 49 = true:=by kernel_rfl
theorem aDq (tb : List Int × List Int) (H : Hp) (hT : TB H tb) (s : Card) (a : Option Addr) (c : Nat) (b b' : Option Addr) (d d' : Nat) (m keys : List Int) (salt : List UInt8) (hm : SlR (eO .i64) H b d m) (hk : SlR (eO .i64) H b' d' keys) (hD : salt.length = 32) (hp : aMl s.R s.E s.J) (hkm : nB m 1000) (hkk : nB keys 1073741788) : FnC Tryz.prog 40 #[.agg ⟨fA s.R s.E s.J s.C.length s.D a c⟩,.slice b m.length d,.slice b' keys.length d',.agg ⟨d32 salt⟩] H [] (bX (fun v _ _=>v = .agg ⟨d32 (aKn tb s.R s.E s.J m keys salt)⟩)):=by
 refine FnC.introC (args:=[.agg ⟨fA s.R s.E s.J s.C.length s.D a c⟩,.slice b m.length d,.slice b' keys.length d',.agg ⟨d32 salt⟩]) Tryz.func40 rfl rfl Tryz.ntmps40 rfl rfl rfl fun G rest=>?_
 refine aZ (aH (dZ rfl rfl rfl (fun b4=>dZ rfl rfl rfl (fun b7=>dC aJj rfl (fun b8=>aE (aR (aZ (cE [1,2,4,7,8] rfl (oJ 1 rfl rfl rfl (fun HK7 oK7 hleK7 hbK7 hoK7=>?_))))))))))
 have jE:=PtH.of_is hbK7 hoK7
 replace hT:=hT.mono hleK7;replace hm:=hm.mono hleK7;replace hk:=hk.mono hleK7
 have hsD:=aK5 jE hD
 apply iJ (fun _=>True) trivial 23 [eqF _,eqF _,eqF _,eqF _,eqF _,eqF _,eqF _,eqF _,eqF _,eqF _,eqF _,eqF _,eqF _,eqF _,eqF _,eqF _,slF aKl [AnyV.i s.R,AnyV.i s.E,AnyV.i s.J,AnyV.l m,AnyV.l keys,AnyV.s salt],fun v H=>aHt (List.map AnyV.V [AnyV.i s.R,AnyV.i s.E,AnyV.i s.J,AnyV.l m,AnyV.l keys,AnyV.s salt]) H v,fun v H=>aHo (aEu s.R s.E s.J m keys salt) H v,fun v H=>aHo (aEu s.R s.E s.J m keys salt) H v,slG u8R (eB (aEu s.R s.E s.J m keys salt)),eqF _,slG u8R (eB (aEu s.R s.E s.J m keys salt))] follows (by kernel_rfl) (by kernel_rfl) ⟨bB _,bB _,bB _,bB _,bB _,bB _,bB _,bB _,bB _,bB _,bB _,bB _,bB _,bB _,bB _,bB _,gX _ _,zU _,aDn _,aDn _,lD _ _,bB _,lD _ _,trivial⟩ ?steps1 ?tail1
 case steps1 =>
  refine bI rfl ?_ ?_
  ·intro X HD aD _
   replace hT:=hT.mono aD;replace hm:=hm.mono aD;replace hk:=hk.mono aD;replace jE:=jE.mono aD;replace hsD:=hsD.mono aD;refine aW rfl (bD rfl rX rfl (aE ?_))
   exact bH trivial rfl
  refine bI rfl ?_ ?_
  ·intro X HD aD _
   replace hT:=hT.mono aD;replace hm:=hm.mono aD;replace hk:=hk.mono aD;replace jE:=jE.mono aD;replace hsD:=hsD.mono aD;refine wPq rfl rfl rfl (aW rfl (bK 1 rfl rfl dT rfl rfl rfl (aE ?_)))
   exact bH trivial rfl
  refine bI rfl ?_ ?_
  ·intro X HD aD _
   replace hT:=hT.mono aD;replace hm:=hm.mono aD;replace hk:=hk.mono aD;replace jE:=jE.mono aD;replace hsD:=hsD.mono aD;refine wPq rfl rfl rfl (aW rfl (iL rfl Tryz.underlying3 (by intro _ h;cases h) rfl (aE ?_)))
   exact bH trivial rfl
  refine bI rfl ?_ ?_
  ·intro X HD aD _
   replace hT:=hT.mono aD;replace hm:=hm.mono aD;replace hk:=hk.mono aD;replace jE:=jE.mono aD;replace hsD:=hsD.mono aD;refine aW rfl (bD rfl rM rfl (aE ?_))
   exact bH trivial rfl
  refine bI rfl ?_ ?_
  ·intro X HD aD _
   replace hT:=hT.mono aD;replace hm:=hm.mono aD;replace hk:=hk.mono aD;replace jE:=jE.mono aD;replace hsD:=hsD.mono aD;refine wPq rfl rfl rfl (aW rfl (bK 1 rfl rfl dT rfl rfl rfl (aE ?_)))
   exact bH trivial rfl
  refine bI rfl ?_ ?_
  ·intro X HD aD _
   replace hT:=hT.mono aD;replace hm:=hm.mono aD;replace hk:=hk.mono aD;replace jE:=jE.mono aD;replace hsD:=hsD.mono aD;refine wPq rfl rfl rfl (aW rfl (iL rfl Tryz.underlying3 (by intro _ h;cases h) rfl (aE ?_)))
   exact bH trivial rfl
  refine bI rfl ?_ ?_
  ·intro X HD aD _
   replace hT:=hT.mono aD;replace hm:=hm.mono aD;replace hk:=hk.mono aD;replace jE:=jE.mono aD;replace hsD:=hsD.mono aD;refine aW rfl (bD rfl lB rfl (aE ?_))
   exact bH trivial rfl
  refine bI rfl ?_ ?_
  ·intro X HD aD _
   replace hT:=hT.mono aD;replace hm:=hm.mono aD;replace hk:=hk.mono aD;replace jE:=jE.mono aD;replace hsD:=hsD.mono aD;refine wPq rfl rfl rfl (aW rfl (bK 1 rfl rfl dT rfl rfl rfl (aE ?_)))
   exact bH trivial rfl
  refine bI rfl ?_ ?_
  ·intro X HD aD _
   replace hT:=hT.mono aD;replace hm:=hm.mono aD;replace hk:=hk.mono aD;replace jE:=jE.mono aD;replace hsD:=hsD.mono aD;refine wPq rfl rfl rfl (aW rfl (iL rfl Tryz.underlying3 (by intro _ h;cases h) rfl (aE ?_)))
   exact bH trivial rfl
  refine bI rfl ?_ ?_
  ·intro X HD aD _
   replace hT:=hT.mono aD;replace hm:=hm.mono aD;replace hk:=hk.mono aD;replace jE:=jE.mono aD;replace hsD:=hsD.mono aD;refine aW rfl (aU rfl rfl (aE ?_))
   exact bH trivial rfl
  refine bI rfl ?_ ?_
  ·intro X HD aD _
   replace hT:=hT.mono aD;replace hm:=hm.mono aD;replace hk:=hk.mono aD;replace jE:=jE.mono aD;replace hsD:=hsD.mono aD;refine wPq rfl rfl rfl (aW rfl (iL rfl Tryz.underlying26 (by intro _ h;cases h) rfl (aE ?_)))
   exact bH trivial rfl
  refine bI rfl ?_ ?_
  ·intro X HD aD _
   replace hT:=hT.mono aD;replace hm:=hm.mono aD;replace hk:=hk.mono aD;replace jE:=jE.mono aD;replace hsD:=hsD.mono aD;refine aW rfl (aU rfl rfl (aE ?_))
   exact bH trivial rfl
  refine bI rfl ?_ ?_
  ·intro X HD aD _
   replace hT:=hT.mono aD;replace hm:=hm.mono aD;replace hk:=hk.mono aD;replace jE:=jE.mono aD;replace hsD:=hsD.mono aD;refine wPq rfl rfl rfl (aW rfl (iL rfl Tryz.underlying26 (by intro _ h;cases h) rfl (aE ?_)))
   exact bH trivial rfl
  refine bI rfl ?_ ?_
  ·intro X HD aD _
   replace hT:=hT.mono aD;replace hm:=hm.mono aD;replace hk:=hk.mono aD;replace jE:=jE.mono aD;replace hsD:=hsD.mono aD;refine aW rfl (mD rfl Tryz.underlying34 lR rfl (aE ?_))
   exact bH trivial rfl
  refine bI rfl ?_ ?_
  ·intro X HD aD _
   replace hT:=hT.mono aD;replace hm:=hm.mono aD;replace hk:=hk.mono aD;replace jE:=jE.mono aD;replace hsD:=hsD.mono aD;refine wPq rfl rfl rfl (aW rfl (XO.b2s (l:=salt) (by rw [hD];rfl) hsD Tryz.underlying157 Tryz.underlying5 Tryz.underlying9 rfl (aE ?_)))
   exact bH trivial rfl
  refine bI rfl ?_ ?_
  ·intro X HD aD _
   replace hT:=hT.mono aD;replace hm:=hm.mono aD;replace hk:=hk.mono aD;replace jE:=jE.mono aD;replace hsD:=hsD.mono aD;refine wPq rfl rfl rfl (aW rfl (iL rfl Tryz.underlying9 (by intro _ h;cases h) rfl (aE ?_)))
   exact bH trivial rfl
  refine bI rfl ?_ ?_
  ·intro X HD aD _
   replace hT:=hT.mono aD;replace hm:=hm.mono aD;replace hk:=hk.mono aD;replace jE:=jE.mono aD;replace hsD:=hsD.mono aD;refine wPq rfl rfl rfl (wPq rfl rfl rfl (wPq rfl rfl rfl (wPq rfl rfl rfl (wPq rfl rfl rfl (wPq rfl rfl rfl (aW rfl (dB rfl Tryz.underlying200 yO aK9 rfl rfl rfl (fun b28=>dF 0 rfl rfl rfl (fun HP28 oP28 hleP28 hbP28 hoP28=>?_)))))))));replace hT:=hT.mono hleP28;replace hm:=hm.mono hleP28;replace hk:=hk.mono hleP28;replace jE:=jE.mono hleP28;replace hsD:=hsD.mono hleP28
   have hsl28:=SlR.lit (ρ:=aKl) (l:=[AnyV.i s.R,AnyV.i s.E,AnyV.i s.J,AnyV.l m,AnyV.l keys,AnyV.s salt]) hbP28 hoP28 (eN.cons1 (cs:=[_]) rfl (eN.cons1 (cs:=[_]) rfl (eN.cons1 (cs:=[_]) rfl (eN.cons1 (cs:=[_]) ⟨_,_,rfl,hm⟩ (eN.cons1 (cs:=[_]) ⟨_,_,rfl,hk⟩ (eN.one1 rfl))))))
   refine aE ?_
   exact bH trivial (⟨_,rfl,hsl28⟩)
  refine bI rfl ?_ ?_
  ·intro X HD aD _
   replace hT:=hT.mono aD;replace hm:=hm.mono aD;replace hk:=hk.mono aD;replace jE:=jE.mono aD;replace hsD:=hsD.mono aD;refine cU rfl rfl ?_;rintro _ ⟨bs28,rfl,hsl28⟩;refine aW rfl (fI rfl (zG _ _ [AnyV.i s.R,AnyV.i s.E,AnyV.i s.J,AnyV.l m,AnyV.l keys,AnyV.s salt] _ hsl28 (show (6 : Nat) ≤ 1000 by decide) (fun x hx=>by simp only [List.mem_cons,List.not_mem_nil,or_false,AnyV.l.injEq,reduceCtorEq,false_or] at hx;rcases hx with rfl | rfl;exact Nat.le_trans (qS hkm).1.2 (by decide);exact Nat.le_trans (qS hkk).1.2 (by decide))) rfl ?_);rintro _ HN29 hleN29 ⟨aN29,cN29,rfl,hN29⟩;replace hT:=hT.mono hleN29;replace hm:=hm.mono hleN29;replace hk:=hk.mono hleN29;replace jE:=jE.mono hleN29;replace hsD:=hsD.mono hleN29;replace hsl28:=hsl28.mono hleN29;refine aE ?_
   exact bH trivial (⟨_,_,rfl,hN29⟩)
  refine bI rfl ?_ ?_
  ·intro X HD aD _
   replace hT:=hT.mono aD;replace hm:=hm.mono aD;replace hk:=hk.mono aD;replace jE:=jE.mono aD;replace hsD:=hsD.mono aD;refine cU rfl rfl ?_;rintro _ ⟨aV,cV,rfl,hV⟩;refine aW rfl ?_
   have hcall:=aK8 3 0 [] (List.map AnyV.V [AnyV.i s.R,AnyV.i s.E,AnyV.i s.J,AnyV.l m,AnyV.l keys,AnyV.s salt]) _ _ _ (aGw (qS hkm).1.2 (qS hkk).1.2 hD) (aGf hp hkm hkk hD) hV
   refine fI rfl hcall rfl ?_;rintro _ HN30 hleN30 ⟨aN30,cN30,hN30,rfl⟩;replace hT:=hT.mono hleN30;replace hm:=hm.mono hleN30;replace hk:=hk.mono hleN30;replace jE:=jE.mono hleN30;replace hsD:=hsD.mono hleN30;refine aE ?_
   exact bH trivial (⟨_,_,hN30,rfl⟩)
  refine bI rfl ?_ ?_
  ·intro X HD aD _
   replace hT:=hT.mono aD;replace hm:=hm.mono aD;replace hk:=hk.mono aD;replace jE:=jE.mono aD;replace hsD:=hsD.mono aD;refine cU rfl rfl ?_;rintro _ ⟨aF,cF,hF,rfl⟩;refine aW rfl (aU rfl rfl (aE ?_))
   exact bH trivial (⟨_,_,hF,rfl⟩)
  refine bI rfl ?_ ?_
  ·intro X HD aD _
   replace hT:=hT.mono aD;replace hm:=hm.mono aD;replace hk:=hk.mono aD;replace jE:=jE.mono aD;replace hsD:=hsD.mono aD;refine cU rfl rfl ?_;rintro _ ⟨aG,cG,hG,rfl⟩;refine aW rfl (bV rfl rfl rfl (aE ?_))
   exact bH trivial (⟨_,_,rfl,hG⟩)
  refine bI rfl ?_ ?_
  ·intro X HD aD _
   replace hT:=hT.mono aD;replace hm:=hm.mono aD;replace hk:=hk.mono aD;replace jE:=jE.mono aD;replace hsD:=hsD.mono aD;refine cU rfl rfl ?_;rintro _ ⟨aG,cG,hG,rfl⟩;refine aW rfl (bV rfl rfl rfl (aE ?_))
   exact bH trivial rfl
  refine bI rfl ?_ ?_
  ·intro X HD aD _
   replace hT:=hT.mono aD;replace hm:=hm.mono aD;replace hk:=hk.mono aD;replace jE:=jE.mono aD;replace hsD:=hsD.mono aD;refine cU rfl rfl ?_;rintro _ ⟨aI,cI,rfl,hslI⟩;refine aW rfl (bA rfl rfl (aE ?_))
   exact bH trivial (⟨_,_,rfl,hslI⟩)
  exact eU rfl
 case tail1 =>
  intro HD aD _
  replace hT:=hT.mono aD;replace hm:=hm.mono aD;replace hk:=hk.mono aD;replace jE:=jE.mono aD;replace hsD:=hsD.mono aD;refine wPq rfl rfl rfl (wPq rfl rfl rfl (wPq rfl rfl rfl (wPq rfl rfl rfl (wPq rfl rfl rfl (wPq rfl rfl rfl (wPq rfl rfl rfl (wPq rfl rfl rfl (wPq rfl rfl rfl (wPq rfl rfl rfl (wPq rfl rfl rfl (wPq rfl rfl rfl (wPq rfl rfl rfl (wPq rfl rfl rfl (wPq rfl rfl rfl (wPq rfl rfl rfl (cU rfl rfl ?_))))))))))))))));rintro _ ⟨bs28,rfl,hsl28⟩;refine cU rfl rfl ?_;rintro _ ⟨aV,cV,rfl,hV⟩;refine cU rfl rfl ?_;rintro _ ⟨aF,cF,hF,rfl⟩;refine cU rfl rfl ?_;rintro _ ⟨aG,cG,hG,rfl⟩;refine cU rfl rfl ?_;rintro _ ⟨aI,cI,rfl,hslI⟩;refine wPq rfl rfl rfl (cU rfl rfl ?_);rintro _ ⟨aJ,cJ,rfl,hslJ⟩;refine aW rfl (bA rfl rfl (aE (aR (aZ (aH (aU rfl rfl ?_))))))
  have hcall:=tagged_fn tb _ hT aN8 _ _ (eB (aEu s.R s.E s.J m keys salt)) hslJ (by decide) (Nat.le_trans (eB_le (aGf hp hkm hkk hD) (aGw (qS hkm).1.2 (qS hkk).1.2 hD)) (by decide))
  refine bR rfl hcall rfl (bZ 0 rfl rfl rfl rfl oA rfl rfl rfl rfl rfl (aE (aR (bW ?_))));refine ⟨rfl,_,[],(fH 0 rfl rfl oA rfl rfl gB),(by repeat(first|exact sL _|apply sC)),bX.mk ?_⟩
  rfl
theorem make_fn (tb : List Int × List Int) (H : Hp) (hT : TB H tb) (R E J : Int) (b b' : Option Addr) (d d' : Nat) (m keys : List Int) (salt : List UInt8) (hm : SlR (eO .i64) H b d m) (hk : SlR (eO .i64) H b' d' keys) (hD : salt.length = 32) (hp : aMl R E J) (hkm : nB m 1000) (hkk : nB keys 1073741788) (rF : m.length = keys.length) : FnC Tryz.prog 16 #[.int .i64 R,.int .i64 E,.int .i64 J,.slice b m.length d,.slice b' keys.length d',.agg ⟨d32 salt⟩] H [] (bX (fun v H2 own=>own = [] ∧ ∃ a c,v = .tuple #[.agg ⟨fA R E J (List.zipWith xD m keys).length (aKn tb R E J m keys salt) a c⟩,.int .i64 0] ∧ SlR (eO .i64) H2 a c (List.zipWith xD m keys))):=by
 refine FnC.introD (args:=[.int .i64 R,.int .i64 E,.int .i64 J,.slice b m.length d,.slice b' keys.length d',.agg ⟨d32 salt⟩]) Tryz.func16 rfl rfl Tryz.ntmps16 rfl rfl rfl fun G rest=>?_
 refine aZ (aH (dZ rfl rfl rfl (fun b11=>dC lY rfl (fun b12=>dC aAk rfl (fun b13=>aE (aR (aZ (aH (nE (L:=[_,_,_]) rfl rfl rfl rfl rfl (fun msD rest hrest=>?_))))))))))
 simp only [List.cons_append,List.nil_append]
 refine aE (aR (aZ (aH (aU rfl rfl (aU rfl rfl (aU rfl rfl (fQ bk_49 bf_49 lY rfl rfl rfl (dC lY rfl (fun b14=>bZ 0 rfl rfl rfl rfl eI rfl rfl rfl rfl rfl (aE (aR (aZ (aH (bK 0 rfl rfl eI rfl rfl rfl (bR rfl (aD9 (⟨R,E,J,[],List.replicate 32 0⟩ : Card) _ _ _ (SlR.nil0 _ _) rfl hp) rfl (aE (aR (aZ (aH (aU rfl rfl (bR rfl (xP _ _ m _ hm (by have:=hkm.1;omega) 1000) rfl (aU rfl rfl (bE rfl rfl (decide_eq_true hkm) rfl (aU rfl rfl (bE rfl rfl (decide_eq_true hkm) rfl (bR rfl (xP _ _ keys _ hk (by have:=hkk.1;omega) 1073741788) rfl (dE rfl (decide_eq_true hkm) rfl rfl (aU rfl rfl (bE rfl rfl (decide_eq_true hkk) rfl (aU rfl rfl ?_))))))))))))))))))))))))))))));refine bE rfl rfl (decide_eq_true hkk) rfl (cH (ts:=#[]) rfl Tryz.underlying26 rfl (bE rfl rfl (decide_eq_true hkk) rfl (aU rfl rfl (bE rfl rfl (decide_eq_true hkk) rfl (cH (ts:=#[]) rfl Tryz.underlying26 rfl (bE rfl rfl (decide_eq_true hkk) rfl (fY rfl rfl rfl (dE rfl (decide_eq_true hkk) rfl rfl (bR rfl (yM _ (decide_eq_true (by omega)) _) rfl (aE (aR (aZ (aH (aU rfl rfl (aU rfl rfl (fI rfl (aKw _ _ _ _ m keys _ hm hk (by have:=hkm.1;omega) (by omega) (.func (.func 39) #[] #[]) xD (fun x y H2 hx hy=>FnV.of_fn (cap:=[]) (args:=[_,_]) (mk1_fn x y (by have:=hkm.2 x hx;omega) (by have:=hkk.2 y hy;omega) H2))) rfl ?_))))))))))))))));rintro _ HN37 hleN37 ⟨aN37,cN37,rfl,hN37⟩;replace hT:=hT.mono hleN37;replace hm:=hm.mono hleN37;replace hk:=hk.mono hleN37;refine bD rfl pR rfl (bZ 0 rfl rfl rfl rfl gZ rfl rfl rfl rfl rfl (aE (aR (aZ (aH (bK 0 rfl rfl eI rfl rfl rfl (aU rfl rfl (aU rfl rfl (bK 3 rfl rfl oA rfl rfl rfl ?_)))))))))
 have hcall:=aDq tb _ hT (⟨R,E,J,List.zipWith xD m keys,List.replicate 32 0⟩ : Card) aN37 cN37 _ _ _ _ m keys salt hm hk hD hp hkm hkk
 refine bR rfl hcall rfl (bD rfl yW rfl (bZ 0 rfl rfl rfl rfl oA rfl rfl rfl rfl rfl (aE (aR (aZ (aH (bK 0 rfl rfl eI rfl rfl rfl (bZ 2 rfl rfl rfl rfl eI rfl rfl rfl rfl rfl (bZ 1 rfl rfl rfl rfl mO rfl rfl rfl rfl rfl (aE (aR (bW (jN 1 (L:=[_,_,_,_]) rfl hrest rfl ((tZ _ _ _).mono (fun u2 HE own2 jD hD=>?_)))))))))))))));obtain ⟨h1,h2⟩:=hD
 subst h2
 replace hT:=hT.mono jD;replace hm:=hm.mono jD;replace hk:=hk.mono jD;replace hN37:=hN37.mono jD;refine ⟨by subst h1;rfl,_,_,rfl,(fH 2 rfl rfl eI rfl rfl (fH 0 rfl rfl mO rfl rfl gB)),bX.mk ?_⟩
 exact ⟨rfl,_,_,rfl,hN37⟩
theorem aJe (tb : List Int × List Int) (H : Hp) (hT : TB H tb) (s : Card) (a : Option Addr) (c : Nat) (hs : SlR (eO .i64) H a c s.C) (hDs : s.D.length = 32) (b : Option Addr) (d : Nat) (keys : List Int) (salt : List UInt8) (hk : SlR (eO .i64) H b d keys) (hD : salt.length = 32) (hq : aKp tb s keys salt) : FnC Tryz.prog 106 #[.agg ⟨fA s.R s.E s.J s.C.length s.D a c⟩,.slice b keys.length d,.agg ⟨d32 salt⟩] H [] (bX (fun v H2 own=>own = [] ∧ ∃ a c,v = .tuple #[.slice a (jB s keys).length c,.bool true,.int .i64 0] ∧ SlR (eO .i64) H2 a c (jB s keys))):=by
 refine FnC.introD (args:=[.agg ⟨fA s.R s.E s.J s.C.length s.D a c⟩,.slice b keys.length d,.agg ⟨d32 salt⟩]) Tryz.func106 rfl rfl Tryz.ntmps106 rfl rfl rfl fun G rest=>?_
 refine aZ (aH (dZ rfl rfl rfl (fun b3=>dZ rfl rfl rfl (fun b5=>bA rfl rfl (bA rfl rfl (dC aAk rfl (fun b8=>aE (aR (aZ (aH (nE (L:=[_,_,_]) rfl rfl rfl rfl rfl (fun msD rest hrest=>?_))))))))))))
 simp only [List.cons_append,List.nil_append]
 refine aE (aR (aZ (aH (bK 2 rfl rfl eI rfl rfl rfl (aU rfl rfl (fI rfl (aIy s a c _ hs hDs b d keys hk (by have:=hq.1.1.1.1.2.1;omega) (by have:=hq.1.1.1.2.1;omega) hq.1.1) rfl ?_))))));rintro _ HN12 hleN12 ⟨aN12,cN12,rfl,nW⟩;replace hT:=hT.mono hleN12;replace hs:=hs.mono hleN12;replace hk:=hk.mono hleN12;refine bA rfl rfl (aE (aR (aZ (aZ (cE [1,3,5,8,9] rfl ?_)))))
 apply iG (fun _=>True) trivial [] (by decide) (fun _ _ _ _=>True) (fun _ _ _ _ _ _ h=>h) 11 [eqF _,eqF _,eqF _,eqF _,eqF _,eqF _,eqF _,eqF _,eqF _,eqF _,eqF _] follows (by kernel_rfl) ⟨bB _,bB _,bB _,bB _,bB _,bB _,bB _,bB _,bB _,bB _,bB _,trivial⟩ (by decide) ?steps2 ?tail2
 case steps2 =>
  refine bJ rfl ?_ ?_
  ·intro X ext HD aD _
   replace hT:=hT.mono aD;replace hs:=hs.mono aD;replace hk:=hk.mono aD;replace nW:=nW.mono aD;exact bG rfl (aU rfl rfl (aE (bN rfl trivial rfl)))
  refine bJ rfl ?_ ?_
  ·intro X ext HD aD _
   replace hT:=hT.mono aD;replace hs:=hs.mono aD;replace hk:=hk.mono aD;replace nW:=nW.mono aD;exact wQq rfl rfl rfl (bG rfl (bR rfl (xP _ _ (jB s keys) _ nW (by have:=hq.1.2.1;omega) 1000) rfl (aE (bN rfl trivial rfl))))
  refine bJ rfl ?_ ?_
  ·intro X ext HD aD _
   replace hT:=hT.mono aD;replace hs:=hs.mono aD;replace hk:=hk.mono aD;replace nW:=nW.mono aD;exact wQq rfl rfl rfl (bG rfl (sE rfl rfl (aE (bN rfl trivial rfl))))
  refine bJ rfl ?_ ?_
  ·intro X ext HD aD _
   replace hT:=hT.mono aD;replace hs:=hs.mono aD;replace hk:=hk.mono aD;replace nW:=nW.mono aD;exact wQq rfl rfl rfl (bG rfl (aU rfl rfl (aE (bN rfl trivial rfl))))
  refine bJ rfl ?_ ?_
  ·intro X ext HD aD _
   replace hT:=hT.mono aD;replace hs:=hs.mono aD;replace hk:=hk.mono aD;replace nW:=nW.mono aD;exact wQq rfl rfl rfl (bG rfl (bE rfl rfl (decide_eq_false (fun h=>h hq.1.2)) rfl (bK 2 rfl rfl eI rfl rfl rfl (aE (bN rfl trivial rfl)))))
  refine bJ rfl ?_ ?_
  ·intro X ext HD aD _
   replace hT:=hT.mono aD;replace hs:=hs.mono aD;replace hk:=hk.mono aD;replace nW:=nW.mono aD;exact wQq rfl rfl rfl (bG rfl (bE rfl rfl (decide_eq_false (fun h=>h hq.1.2)) rfl (aU rfl rfl (aE (bN rfl trivial rfl)))))
  refine bJ rfl ?_ ?_
  ·intro X ext HD aD _
   replace hT:=hT.mono aD;replace hs:=hs.mono aD;replace hk:=hk.mono aD;replace nW:=nW.mono aD;exact wQq rfl rfl rfl (bG rfl (bE rfl rfl (decide_eq_false (fun h=>h hq.1.2)) rfl (aU rfl rfl (aE (bN rfl trivial rfl)))))
  refine bJ rfl ?_ ?_
  ·intro X ext HD aD _
   replace hT:=hT.mono aD;replace hs:=hs.mono aD;replace hk:=hk.mono aD;replace nW:=nW.mono aD;exact wQq rfl rfl rfl (bG rfl (bE rfl rfl (decide_eq_false (fun h=>h hq.1.2)) rfl (bK 1 rfl rfl oA rfl rfl rfl (aE (bN rfl trivial rfl)))))
  refine bJ rfl ?_ ?_
  ·intro X ext HD aD _
   replace hT:=hT.mono aD;replace hs:=hs.mono aD;replace hk:=hk.mono aD;replace nW:=nW.mono aD;exact wQq rfl rfl rfl (wQq rfl rfl rfl (wQq rfl rfl rfl (wQq rfl rfl rfl (wQq rfl rfl rfl (bG rfl (bE rfl rfl (decide_eq_false (fun h=>h hq.1.2)) rfl (bR rfl (aDq tb _ hT s _ _ _ _ _ _ (jB s keys) keys salt nW hk hD hq.1.1.1.1.1 hq.1.2 hq.1.1.1.2) rfl (aE (bN rfl trivial rfl)))))))))
  refine bJ rfl ?_ ?_
  ·intro X ext HD aD _
   replace hT:=hT.mono aD;replace hs:=hs.mono aD;replace hk:=hk.mono aD;replace nW:=nW.mono aD;exact wQq rfl rfl rfl (bG rfl (bE rfl rfl (decide_eq_false (fun h=>h hq.1.2)) rfl (bD rfl yW rfl (aE (bN rfl trivial rfl)))))
  refine bJ rfl ?_ ?_
  ·intro X ext HD aD _
   replace hT:=hT.mono aD;replace hs:=hs.mono aD;replace hk:=hk.mono aD;replace nW:=nW.mono aD;exact wQq rfl rfl rfl (wQq rfl rfl rfl (bG rfl (bE rfl rfl (decide_eq_false (fun h=>h hq.1.2)) rfl (bK 2 rfl rfl oA rfl rfl rfl (aE (bN rfl trivial rfl))))))
  exact gI rfl
 case tail2 =>
  intro HD aD _
  replace hT:=hT.mono aD;replace hs:=hs.mono aD;replace hk:=hk.mono aD;replace nW:=nW.mono aD;refine wQq rfl rfl rfl (wQq rfl rfl rfl (wQq rfl rfl rfl (wQq rfl rfl rfl (wQq rfl rfl rfl (wQq rfl rfl rfl (wQq rfl rfl rfl (wQq rfl rfl rfl (wQq rfl rfl rfl (wQq rfl rfl rfl (wQq rfl rfl rfl (bG rfl (fL (bE rfl rfl (decide_eq_false (fun h=>h hq.1.2)) rfl ?_)))))))))))))
  generalize hX : aKn tb s.R s.E s.J (jB s keys) keys salt = X
  refine aCr (l:=n32 X) (m:=n32 s.D) rfl rfl rfl rfl rfl rfl Tryz.underlying34 aNd Tryz.underlying5 lR rfl (dL rfl (decide_eq_false (fun h=>h hq.1.2)) rfl rfl (aE (aR (dY rfl (decide_eq_false (fun h=>h (by rw [← hX,hq.2]))) (bS (aR (aZ (aH (aU rfl rfl (bA rfl rfl (bA rfl rfl (bZ 0 rfl rfl rfl rfl mO rfl rfl rfl rfl rfl (aE (aR (bW (jN 0 (L:=[_,_,_]) rfl hrest rfl ((tZ _ _ _).mono (fun u2 HE own2 jD hD=>?_))))))))))))))))));obtain ⟨h1,h2⟩:=hD
  subst h2
  replace hT:=hT.mono jD;replace hs:=hs.mono jD;replace hk:=hk.mono jD;replace nW:=nW.mono jD;refine ⟨by subst h1;rfl,_,_,rfl,(iK rfl (iK rfl (fH 0 rfl rfl mO rfl rfl gB))),bX.mk ?_⟩
  exact ⟨rfl,_,_,rfl,nW⟩
end Go.Proofs

namespace Go.Proofs
open Go.XL
theorem aCd (a b : Nat) : ((a : Int) + (b : Int)).fdiv (2 ^ min (1 : Int).toNat IntKind.u64.bits) = (((a + b) / 2 : Nat) : Int):=by
 have : (2 : Int) ^ min (1 : Int).toNat IntKind.u64.bits = 2:=by decide
 rw [this,Int.fdiv_eq_ediv_of_nonneg _ (by omega)]
 omega
def sO {α : Type} (f : α → Int) (l : List α) : Prop:=∀ (i j : Nat) (x y : α),i < j → l[i]? = some x → l[j]? = some y → f x < f y
def LoK {α : Type} (f : α → Int) (l : List α) (n : Int) (lo : Nat) : Prop:=∀ (q : Nat) (x : α),q < lo → l[q]? = some x → f x < n
def HiK {α : Type} (f : α → Int) (l : List α) (n : Int) (hi : Nat) : Prop:=∀ (q : Nat) (x : α),hi ≤ q → l[q]? = some x → n ≤ f x
theorem LoK.zero {α : Type} {f : α → Int} {l : List α} {n : Int} : LoK f l n 0:=fun q x h=>by omega
theorem HiK.top {α : Type} {f : α → Int} {l : List α} {n : Int} : HiK f l n l.length:=fun q x h e=>by
 rw [List.getElem?_eq_none h] at e;cases e
theorem LoK.mid {α : Type} {f : α → Int} {l : List α} {n : Int} {m : Nat} {x : α} (hr : sO f l) (hx : l[m]? = some x) (h : f x < n) : LoK f l n (m + 1):=fun q y hq hy=>by
 rcases Nat.lt_or_ge q m with h1 | h1
 ·exact Int.lt_trans (hr q m y x h1 hy hx) h
 obtain rfl : q = m:=by omega
 rw [hx] at hy;cases hy;exact h
theorem HiK.mid {α : Type} {f : α → Int} {l : List α} {n : Int} {m : Nat} {x : α} (hr : sO f l) (hx : l[m]? = some x) (h : ¬ f x < n) : HiK f l n m:=fun q y hq hy=>by
 rcases Nat.lt_or_ge m q with h1 | h1
 ·have:=hr m q x y h1 hx hy;omega
 obtain rfl : q = m:=by omega
 rw [hx] at hy;cases hy;omega
def BsR {α : Type} (f : α → Int) (l : List α) (n : Int) (v : Value) : Prop:=∃ i : Nat,v = .tuple #[.int .i64 (i : Nat),.bool (decide (∃ x ∈ l,f x = n))] ∧ ∀ x ∈ l,f x = n → l[i]? = some x
theorem aOj {α : Type} {f : α → Int} {l : List α} {n : Int} {lo : Nat} {x : α} (hr : sO f l) (hlo : LoK f l n lo) (hhi : HiK f l n lo) (hx : l[lo]? = some x) : BsR f l n (.tuple #[.int .i64 (lo : Nat),.bool (decide (f x = n))]):=by
 have key : ∀ y ∈ l,f y = n → l[lo]? = some y:=by
  intro y hy hn
  obtain ⟨q,hq⟩:=List.mem_iff_getElem?.1 hy
  rcases Nat.lt_trichotomy q lo with h | h | h
  ·have:=hlo q y h hq;omega
  ·subst h;exact hq
  have h1:=hr lo q x y h hx hq
  have h2:=hhi lo x (Nat.le_refl _) hx
  omega
 refine ⟨lo,?_,key⟩
 have : decide (f x = n) = decide (∃ x ∈ l,f x = n):=decide_eq_decide.2 ⟨fun h=>⟨x,List.mem_of_getElem? hx,h⟩,fun ⟨y,hy,hn⟩=>by
  have:=key y hy hn
  rw [hx] at this;cases this;exact hn⟩
 rw [this]
theorem aN5 {α : Type} {f : α → Int} {l : List α} {n : Int} {lo : Nat} (hlo : LoK f l n lo) (h : l.length ≤ lo) : BsR f l n (.tuple #[.int .i64 (lo : Nat),.bool false]):=by
 have no : ∀ y ∈ l,f y ≠ n:=by
  intro y hy hn
  obtain ⟨q,hq⟩:=List.mem_iff_getElem?.1 hy
  have hl:=(List.getElem?_eq_some_iff.1 hq).1
  have:=hlo q y (by omega) hq
  omega
 refine ⟨lo,?_,fun y hy hn=>absurd hn (no y hy)⟩
 rw [decide_eq_false (fun ⟨y,hy,hn⟩=>no y hy hn)]
theorem aJ1 (a b : Int) : decide (sgn a b = 0) = decide (a = b):=decide_eq_decide.2 wQ
def aKm {α : Type} (ρ : Rep α) (T : TypeId) (l : List α) (H : Hp) (v : Value) (own : XL.Own) : Prop:=∃ p a c,own = [p] ∧ v = .slice a l.length c ∧ Acc ρ T H p a c l
def SlU {α : Type} (ρ : Rep α) (l : List α) (H : Hp) (v : Value) : Prop:=∃ a c,v = .slice a l.length c ∧ SlR ρ H a c l
theorem uM {α : Type} {ρ : Rep α} {H : Hp} {a : Option Addr} {c : Nat} {l : List α} (h : SlR ρ H a c l) (ha : a.isNone = true) : l = []:=by
 cases a with
 | none=>have:=h.nil rfl;have:=h.le;cases l with | nil=>rfl | cons x r=>simp at this;omega
 | some a=>cases ha
def qC (x y : Card) : Int:=sgn x.J y.J
def qX (x y : Shwn) : Int:=sgn x.J y.J
def qK (x y : KeySh) : Int:=orL [sgn x.O y.O,sgn x.C y.C,sgn x.W y.W]
end Go.Proofs

namespace Go.Proofs
open Go.XL
theorem searchC_fn (a : Option Addr) (c : Nat) (l : List Card) (H : Hp) (hs : SlR eV H a c l) (hl : l.length ≤ 1000000) (n : Int) (hr : sO Card.J l) : FnC Tryz.prog 107 #[.slice a l.length c,.int .i64 n,.func (.func 108) #[] #[]] H [] (bX (fun v _ _=>BsR Card.J l n v)):=by
 refine FnC.intro (args:=[.slice a l.length c,.int .i64 n,.func (.func 108) #[] #[]]) Tryz.func107 rfl rfl Tryz.ntmps107 rfl rfl rfl fun G rest=>?_
 refine aZ (aH (bA rfl rfl (bA rfl rfl (aE (aR (aZ (aH (aU rfl rfl (cH (ts:=#[]) rfl Tryz.underlying27 rfl (bA rfl rfl (aE (aR (aZ (aH (aU rfl rfl (bA rfl rfl (bA rfl rfl (aE (aR (aZ (bT (cE [9,10,0,1,2,8] rfl (eE (base:=[(0,_),(1,_),(2,_),(8,_)]) (fun ζ : Nat × (Nat) × (Nat)=>[(9,.int .i64 (ζ.2.1 : Nat)),(10,.int .i64 (ζ.2.2 : Nat))]) (fun ζ Hl own=>rest = own ∧ (ζ.2.1 ≤ ζ.2.2 ∧ ζ.2.2 ≤ l.length) ∧ (LoK Card.J l n ζ.2.1) ∧ (HiK Card.J l n ζ.2.2)) (fun ζ=>ζ.2.2 - ζ.2.1) (0,0,l.length) (aQ rfl (aQ rfl (aQ rfl (aQ rfl (aQ rfl (aQ rfl bP)))))) (by repeat(first|exact sL _|apply sD|apply sC)) ⟨rfl,⟨Nat.zero_le _,Nat.le_refl _⟩,LoK.zero,HiK.top⟩ ?_)))))))))))))))))))))));rintro ⟨k,lo,hi⟩ Hl0 _ bM ⟨rfl,hlh,hlo,hhi⟩;replace hs:=hs.mono bM
 try dsimp only at hlh hlo hhi ⊢
 refine aZ (aZ (aH (aU rfl rfl (aU rfl rfl (dN rfl rfl rfl (aE (aR (cW rfl (fun gJ=>?_) (fun gJ=>?_)))))))))
 ·refine bS (aR (bT (aZ (aH (aU rfl rfl (aU rfl rfl (dJ rfl rfl (bU (by omega) (by omega)) rfl (gT rfl Tryz.underlying3 Tryz.underlying208 (nL (by omega) (by omega)) rfl (qF rfl rfl (by omega) rfl (gT (c:=(((lo + hi) / 2 : Nat) : Int)) rfl Tryz.underlying208 Tryz.underlying3 (by rw [aCd];exact bU (by omega) (by omega)) rfl (bA rfl rfl (aE (aR (aZ (aH (aU rfl rfl (aU rfl rfl (aU rfl rfl (dK (i:=(lo + hi) / 2) rfl hs rfl Tryz.underlying27 eI (by omega) rfl ?_)))))))))))))))))));rintro eb27 eo27 _ x27 hx27 ⟨ax27,cx27,rfl,hd27,hD27⟩ hp27;refine cQ rfl (by assumption) eI rfl rfl rfl (aU rfl rfl (kE rfl trivial rfl (FnV.of_fn (cap:=[]) (args:=[_,_]) (aCw x27 _ _ _ hd27 hD27 n)) rfl ?_));rintro _ rfl;refine dN rfl rfl rfl (aE (aR (cW rfl (fun uB=>?_) (fun uB=>?_))))
  ·refine aH (aU rfl rfl (dJ rfl rfl (bU (by omega) (by omega)) rfl (bA rfl rfl (aE (dP (cR ((k + 1,(lo + hi) / 2 + 1,hi)) (by first | (show hi - ((lo + hi) / 2 + 1) < hi - lo;omega) | (show (lo + hi) / 2 - lo < hi - lo;omega)) (aQ rfl (aQ rfl (aQ rfl (aQ rfl (aQ rfl (aQ rfl bP)))))) (⟨rfl,(by first | (show (lo + hi) / 2 + 1 ≤ hi ∧ hi ≤ l.length;omega) | (show lo ≤ (lo + hi) / 2 ∧ (lo + hi) / 2 ≤ l.length;omega)),(by first | exact LoK.mid hr hx27 (mT.1 (by assumption)) | exact hlo),(by first | exact HiK.mid hr hx27 (fun h=>absurd (mT.2 h) (by assumption)) | exact hhi)⟩) (by repeat(first|exact sL _|apply sD|apply sC)) (bM)))))))
  refine aH (aU rfl rfl (bA rfl rfl (aE (dP (cR ((k + 1,lo,(lo + hi) / 2)) (by first | (show hi - ((lo + hi) / 2 + 1) < hi - lo;omega) | (show (lo + hi) / 2 - lo < hi - lo;omega)) (aQ rfl (aQ rfl (aQ rfl (aQ rfl (aQ rfl (aQ rfl bP)))))) (⟨rfl,(by first | (show (lo + hi) / 2 + 1 ≤ hi ∧ hi ≤ l.length;omega) | (show lo ≤ (lo + hi) / 2 ∧ (lo + hi) / 2 ≤ l.length;omega)),(by first | exact LoK.mid hr hx27 (mT.1 (by assumption)) | exact hlo),(by first | exact HiK.mid hr hx27 (fun h=>absurd (mT.2 h) (by assumption)) | exact hhi)⟩) (by repeat(first|exact sL _|apply sD|apply sC)) (bM))))))
 obtain rfl : lo = hi:=by omega
 refine dX (dA (cZ (dI rfl (aR (aZ (aH (aU rfl rfl (aU rfl rfl (aU rfl rfl (dN rfl rfl rfl (aU rfl rfl (eW rfl rfl rfl rfl (fun g5=>?_) (fun g5=>?_)))))))))))))
 ·have g5p:=of_decide_eq_true g5
  refine aU rfl rfl (bE rfl rfl (g5) rfl (aU rfl rfl (bE rfl rfl (g5) rfl (aU rfl rfl (bE rfl rfl (g5) rfl (dK (i:=lo) rfl hs rfl Tryz.underlying27 eI (by omega) rfl ?_))))));rintro eb43 eo43 _ x43 hx43 ⟨ax43,cx43,rfl,hd43,hD43⟩ hp43;refine bE rfl rfl (g5) rfl (cQ rfl (by assumption) eI rfl rfl rfl (bE rfl rfl (g5) rfl (aU rfl rfl (bE rfl rfl (g5) rfl (kE rfl trivial rfl (FnV.of_fn (cap:=[]) (args:=[_,_]) (aCw x43 _ _ _ hd43 hD43 n)) rfl ?_)))));rintro _ rfl;refine bE rfl rfl (g5) rfl (fY rfl rfl rfl (dE rfl (g5) rfl rfl (bA rfl rfl (bA rfl rfl (aE (aR (bW ?_)))))));refine ⟨rfl,_,[],rfl,(by repeat(first|exact sL _|apply sD|apply sC)),bX.mk ?_⟩
  rw [aJ1];exact aOj hr hlo hhi hx43
 have g5p:=of_decide_eq_false g5
 skip
 refine bL rfl rfl (g5) rfl rfl (bL rfl rfl (g5) rfl rfl (bL rfl rfl (g5) rfl rfl (bL rfl rfl (g5) rfl rfl (bL rfl rfl (g5) rfl rfl (bL rfl rfl (g5) rfl rfl (bL rfl rfl (g5) rfl rfl (dL rfl (g5) rfl rfl (bA rfl rfl (bA rfl rfl (aE (aR (bW ?_))))))))))));refine ⟨rfl,_,[],rfl,(by repeat(first|exact sL _|apply sD|apply sC)),bX.mk ?_⟩
 exact aN5 hlo (by omega)
theorem aDc (s : Shwn) (a : Option Addr) (c : Nat) (H : Hp) (hs : SlR (eO .i64) H a c s.K) (hD : s.D.length = 32) (n : Int) : FnC Tryz.prog 110 #[.agg ⟨oR s.J s.K.length s.D a c⟩,.int .i64 n] H [] (bX (fun v _ _=>v = .int .i64 (sgn s.J n))):=by
 refine FnC.intro (args:=[.agg ⟨oR s.J s.K.length s.D a c⟩,.int .i64 n]) Tryz.func110 rfl rfl Tryz.ntmps110 rfl rfl rfl fun G rest=>?_
 refine aZ (aH (dZ rfl rfl rfl (fun b2=>bA rfl rfl (aE (aR (aZ (aH (bD rfl aA1 rfl (bK 0 rfl rfl dT rfl rfl rfl (aU rfl rfl (bR rfl (tQ _ _ _) rfl (bA rfl rfl (aE (aR (bW ?_)))))))))))))));refine ⟨rfl,_,[],rfl,(by repeat(first|exact sL _|apply sC)),bX.mk ?_⟩
 rfl
theorem aBs (a : Option Addr) (c : Nat) (l : List Shwn) (H : Hp) (hs : SlR iZ H a c l) (hl : l.length ≤ 1000000) (n : Int) (hr : sO Shwn.J l) : FnC Tryz.prog 109 #[.slice a l.length c,.int .i64 n,.func (.func 110) #[] #[]] H [] (bX (fun v _ _=>BsR Shwn.J l n v)):=by
 refine FnC.intro (args:=[.slice a l.length c,.int .i64 n,.func (.func 110) #[] #[]]) Tryz.func109 rfl rfl Tryz.ntmps109 rfl rfl rfl fun G rest=>?_
 refine aZ (aH (bA rfl rfl (bA rfl rfl (aE (aR (aZ (aH (aU rfl rfl (cH (ts:=#[]) rfl Tryz.underlying29 rfl (bA rfl rfl (aE (aR (aZ (aH (aU rfl rfl (bA rfl rfl (bA rfl rfl (aE (aR (aZ (bT (cE [9,10,0,1,2,8] rfl (eE (base:=[(0,_),(1,_),(2,_),(8,_)]) (fun ζ : Nat × (Nat) × (Nat)=>[(9,.int .i64 (ζ.2.1 : Nat)),(10,.int .i64 (ζ.2.2 : Nat))]) (fun ζ Hl own=>rest = own ∧ (ζ.2.1 ≤ ζ.2.2 ∧ ζ.2.2 ≤ l.length) ∧ (LoK Shwn.J l n ζ.2.1) ∧ (HiK Shwn.J l n ζ.2.2)) (fun ζ=>ζ.2.2 - ζ.2.1) (0,0,l.length) (aQ rfl (aQ rfl (aQ rfl (aQ rfl (aQ rfl (aQ rfl bP)))))) (by repeat(first|exact sL _|apply sD|apply sC)) ⟨rfl,⟨Nat.zero_le _,Nat.le_refl _⟩,LoK.zero,HiK.top⟩ ?_)))))))))))))))))))))));rintro ⟨k,lo,hi⟩ Hl0 _ bM ⟨rfl,hlh,hlo,hhi⟩;replace hs:=hs.mono bM
 try dsimp only at hlh hlo hhi ⊢
 refine aZ (aZ (aH (aU rfl rfl (aU rfl rfl (dN rfl rfl rfl (aE (aR (cW rfl (fun gJ=>?_) (fun gJ=>?_)))))))))
 ·refine bS (aR (bT (aZ (aH (aU rfl rfl (aU rfl rfl (dJ rfl rfl (bU (by omega) (by omega)) rfl (gT rfl Tryz.underlying3 Tryz.underlying208 (nL (by omega) (by omega)) rfl (qF rfl rfl (by omega) rfl (gT (c:=(((lo + hi) / 2 : Nat) : Int)) rfl Tryz.underlying208 Tryz.underlying3 (by rw [aCd];exact bU (by omega) (by omega)) rfl (bA rfl rfl (aE (aR (aZ (aH (aU rfl rfl (aU rfl rfl (aU rfl rfl (dK (i:=(lo + hi) / 2) rfl hs rfl Tryz.underlying29 lG (by omega) rfl ?_)))))))))))))))))));rintro eb27 eo27 _ x27 hx27 ⟨ax27,cx27,rfl,hd27,hD27⟩ hp27;refine cQ rfl (by assumption) lG rfl rfl rfl (aU rfl rfl (kE rfl trivial rfl (FnV.of_fn (cap:=[]) (args:=[_,_]) (aDc x27 _ _ _ hd27 hD27 n)) rfl ?_));rintro _ rfl;refine dN rfl rfl rfl (aE (aR (cW rfl (fun uB=>?_) (fun uB=>?_))))
  ·refine aH (aU rfl rfl (dJ rfl rfl (bU (by omega) (by omega)) rfl (bA rfl rfl (aE (dP (cR ((k + 1,(lo + hi) / 2 + 1,hi)) (by first | (show hi - ((lo + hi) / 2 + 1) < hi - lo;omega) | (show (lo + hi) / 2 - lo < hi - lo;omega)) (aQ rfl (aQ rfl (aQ rfl (aQ rfl (aQ rfl (aQ rfl bP)))))) (⟨rfl,(by first | (show (lo + hi) / 2 + 1 ≤ hi ∧ hi ≤ l.length;omega) | (show lo ≤ (lo + hi) / 2 ∧ (lo + hi) / 2 ≤ l.length;omega)),(by first | exact LoK.mid hr hx27 (mT.1 (by assumption)) | exact hlo),(by first | exact HiK.mid hr hx27 (fun h=>absurd (mT.2 h) (by assumption)) | exact hhi)⟩) (by repeat(first|exact sL _|apply sD|apply sC)) (bM)))))))
  refine aH (aU rfl rfl (bA rfl rfl (aE (dP (cR ((k + 1,lo,(lo + hi) / 2)) (by first | (show hi - ((lo + hi) / 2 + 1) < hi - lo;omega) | (show (lo + hi) / 2 - lo < hi - lo;omega)) (aQ rfl (aQ rfl (aQ rfl (aQ rfl (aQ rfl (aQ rfl bP)))))) (⟨rfl,(by first | (show (lo + hi) / 2 + 1 ≤ hi ∧ hi ≤ l.length;omega) | (show lo ≤ (lo + hi) / 2 ∧ (lo + hi) / 2 ≤ l.length;omega)),(by first | exact LoK.mid hr hx27 (mT.1 (by assumption)) | exact hlo),(by first | exact HiK.mid hr hx27 (fun h=>absurd (mT.2 h) (by assumption)) | exact hhi)⟩) (by repeat(first|exact sL _|apply sD|apply sC)) (bM))))))
 obtain rfl : lo = hi:=by omega
 refine dX (dA (cZ (dI rfl (aR (aZ (aH (aU rfl rfl (aU rfl rfl (aU rfl rfl (dN rfl rfl rfl (aU rfl rfl (eW rfl rfl rfl rfl (fun g5=>?_) (fun g5=>?_)))))))))))))
 ·have g5p:=of_decide_eq_true g5
  refine aU rfl rfl (bE rfl rfl (g5) rfl (aU rfl rfl (bE rfl rfl (g5) rfl (aU rfl rfl (bE rfl rfl (g5) rfl (dK (i:=lo) rfl hs rfl Tryz.underlying29 lG (by omega) rfl ?_))))));rintro eb43 eo43 _ x43 hx43 ⟨ax43,cx43,rfl,hd43,hD43⟩ hp43;refine bE rfl rfl (g5) rfl (cQ rfl (by assumption) lG rfl rfl rfl (bE rfl rfl (g5) rfl (aU rfl rfl (bE rfl rfl (g5) rfl (kE rfl trivial rfl (FnV.of_fn (cap:=[]) (args:=[_,_]) (aDc x43 _ _ _ hd43 hD43 n)) rfl ?_)))));rintro _ rfl;refine bE rfl rfl (g5) rfl (fY rfl rfl rfl (dE rfl (g5) rfl rfl (bA rfl rfl (bA rfl rfl (aE (aR (bW ?_)))))));refine ⟨rfl,_,[],rfl,(by repeat(first|exact sL _|apply sD|apply sC)),bX.mk ?_⟩
  rw [aJ1];exact aOj hr hlo hhi hx43
 have g5p:=of_decide_eq_false g5
 skip
 refine bL rfl rfl (g5) rfl rfl (bL rfl rfl (g5) rfl rfl (bL rfl rfl (g5) rfl rfl (bL rfl rfl (g5) rfl rfl (bL rfl rfl (g5) rfl rfl (bL rfl rfl (g5) rfl rfl (bL rfl rfl (g5) rfl rfl (dL rfl (g5) rfl rfl (bA rfl rfl (bA rfl rfl (aE (aR (bW ?_))))))))))));refine ⟨rfl,_,[],rfl,(by repeat(first|exact sL _|apply sD|apply sC)),bX.mk ?_⟩
 exact aN5 hlo (by omega)
end Go.Proofs
