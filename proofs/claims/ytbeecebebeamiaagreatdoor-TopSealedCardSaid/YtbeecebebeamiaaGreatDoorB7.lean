/- The walks of the functions under TopSealed: what each of them computes,at any input. -/
import Derived.Test.YtbeecebebeamiaaGreatDoorB6
import Derived.Test.YtbeecebebeamiaaGreatDoorB2
set_option maxRecDepth 100000
set_option autoImplicit false
set_option linter.unusedVariables false
set_option linter.unusedSimpArgs false
namespace Go.Proofs
open Go.XL
theorem aM2 : Nat.ble (Tryz.prog.bytesOf 54) 4096 = true:=by kernel_rfl
theorem aNj : Nat.ble (Tryz.prog.bytesOf 56) 4096 = true:=by kernel_rfl
theorem aDd : gH Tryz.prog 54 = some [.int .i64 0,.int .i64 0,.int .i64 0,.int .i64 0]:=by kernel_rfl
theorem aGq : gH Tryz.prog 56 = some [.int .i64 0,.slice none 0 0,.int .u8 0,.int .u8 0,.int .u8 0,.int .u8 0,.int .u8 0,.int .u8 0,.int .u8 0,.int .u8 0,.int .u8 0,.int .u8 0,.int .u8 0,.int .u8 0,.int .u8 0,.int .u8 0,.int .u8 0,.int .u8 0,.int .u8 0,.int .u8 0,.int .u8 0,.int .u8 0,.int .u8 0,.int .u8 0,.int .u8 0,.int .u8 0,.int .u8 0,.int .u8 0,.int .u8 0,.int .u8 0,.int .u8 0,.int .u8 0,.int .u8 0,.int .u8 0]:=by kernel_rfl
theorem searchEC_fn (a : Option Addr) (c : Nat) (l : List Card) (H : Hp) (hs : SlR eV H a c l) (hl : l.length ≤ 1000000) (t : Card) (at_ : Option Addr) (ct : Nat) (ht : SlR (eO .i64) H at_ ct t.C) (hDt : t.D.length = 32) (hall : ∀ x ∈ l,qC x t < 0) : FnC Tryz.prog 115 #[.slice a l.length c,.agg ⟨fA t.R t.E t.J t.C.length t.D at_ ct⟩,.func (.func 51) #[] #[]] H [] (bX (fun v _ _=>v = .tuple #[.int .i64 (l.length : Nat),.bool false])):=by
 refine FnC.intro (args:=[.slice a l.length c,.agg ⟨fA t.R t.E t.J t.C.length t.D at_ ct⟩,.func (.func 51) #[] #[]]) Tryz.func115 rfl rfl Tryz.ntmps115 rfl rfl rfl fun G rest=>?_
 refine aZ (aH (dZ rfl rfl rfl (fun b4=>bA rfl rfl (bA rfl rfl (aE (aR (aZ (aH (aU rfl rfl (cH (ts:=#[]) rfl Tryz.underlying27 rfl (bA rfl rfl (aE (aR (aZ (aH (aU rfl rfl (bA rfl rfl (bA rfl rfl (aE (aR (aZ (bT (cE [9,10,0,2,4,8] rfl (eE (base:=[(0,_),(2,_),(4,_),(8,_)]) (fun ζ : Nat × (Nat)=>[(9,.int .i64 (ζ.2 : Nat)),(10,.int .i64 (l.length : Nat))]) (fun ζ Hl own=>(b4,.cells 49 (fA t.R t.E t.J t.C.length t.D at_ ct)) :: rest = own ∧ (ζ.2 ≤ l.length)) (fun ζ=>l.length - ζ.2) (0,0) (aQ rfl (aQ rfl (aQ rfl (aQ rfl (aQ rfl (aQ rfl bP)))))) (by repeat(first|exact sL _|apply sD|apply sC)) ⟨rfl,Nat.zero_le _⟩ ?_))))))))))))))))))))))));rintro ⟨k,lo⟩ Hl0 _ bM ⟨rfl,hlh⟩;replace hs:=hs.mono bM;replace ht:=ht.mono bM
 try dsimp only at hlh ⊢
 refine aZ (aZ (aH (aU rfl rfl (aU rfl rfl (dN rfl rfl rfl (aE (aR (cW rfl (fun gJ=>?_) (fun gJ=>?_)))))))))
 ·refine bS (aR (bT (aZ (aH (aU rfl rfl (aU rfl rfl (dJ rfl rfl (bU (by omega) (by omega)) rfl (gT rfl Tryz.underlying3 Tryz.underlying208 (nL (by omega) (by omega)) rfl (qF rfl rfl (by omega) rfl (gT (c:=(((lo + l.length) / 2 : Nat) : Int)) rfl Tryz.underlying208 Tryz.underlying3 (by rw [aCd];exact bU (by omega) (by omega)) rfl (bA rfl rfl (aE (aR (aZ (cE [0,2,4,8,9,10,11] rfl ?_)))))))))))))));obtain ⟨bEM,oEM,rfl⟩:=hs.addr (by omega);obtain ⟨_,xM,hxM,⟨axM,cxM,rfl,hdM,hDM⟩,hpM⟩:=hs.elem ((lo + l.length) / 2) (by omega)
  apply jR 6 [eqF _,eqF _,eqF _,eqF _,eqF _,eqF _] follows (by kernel_rfl) (by kernel_rfl) ⟨bB _,bB _,bB _,bB _,bB _,bB _,trivial⟩ ?steps3 ?tail3
  case steps3 =>
   refine bO rfl ?_ ?_
   ·intro X
    refine aW rfl (aU rfl rfl (aE ?_))
    exact bH rfl rfl
   refine bO rfl ?_ ?_
   ·intro X
    refine aW rfl (aU rfl rfl (aE ?_))
    exact bH rfl rfl
   refine bO rfl ?_ ?_
   ·intro X
    refine aW rfl (aU rfl rfl (aE ?_))
    exact bH rfl rfl
   refine bO rfl ?_ ?_
   ·intro X
    refine wPq rfl rfl rfl (wPq rfl rfl rfl (aW rfl (fG rfl rfl Tryz.underlying27 eI (by omega) (by omega) rfl (aE ?_))))
    exact bH rfl rfl
   refine bO rfl ?_ ?_
   ·intro X
    refine wPq rfl rfl rfl (aW rfl (cQ rfl (by assumption) eI rfl rfl rfl (aE ?_)))
    exact bH rfl rfl
   refine bO rfl ?_ ?_
   ·intro X
    refine aW rfl (bK 0 rfl rfl eI rfl rfl rfl (aE ?_))
    exact bH rfl rfl
   exact eU rfl
  case tail3 =>
   refine wPq rfl rfl rfl (wPq rfl rfl rfl (wPq rfl rfl rfl (wPq rfl rfl rfl (wPq rfl rfl rfl (wPq rfl rfl rfl (aW rfl (kE rfl trivial rfl (FnV.of_fn (cap:=[]) (args:=[_,_]) (aDm xM t _ _ _ _ _ hdM ht hDM hDt)) rfl ?_)))))));rintro _ rfl;refine dN rfl rfl rfl (aE (aR (eY rfl (decide_eq_true (hall _ (List.mem_of_getElem? hxM))) (aH (aU rfl rfl (dJ rfl rfl (bU (by omega) (by omega)) rfl (bA rfl rfl (aE (dP (cR ((k + 1,(lo + l.length) / 2 + 1)) (by show l.length - ((lo + l.length) / 2 + 1) < l.length - lo;omega) (aQ rfl (aQ rfl (aQ rfl (aQ rfl (aQ rfl (aQ rfl bP)))))) (⟨rfl,(by show (lo + l.length) / 2 + 1 ≤ l.length;omega)⟩) (by repeat(first|exact sL _|apply sD|apply sC)) (bM)))))))))))
 obtain rfl : lo = l.length:=by omega
 refine dX (dA (cZ (dI rfl (aR (aZ (cE [0,2,4,8,9] rfl ?_))))))
 apply iG (fun _=>True) trivial [] (by decide) (fun _ _ _ _=>True) (fun _ _ _ _ _ _ h=>h) 15 [eqF _,eqF _,eqF _,eqF _,eqF _,eqF _,eqF _,eqF _,eqF _,eqF _,eqF _,eqF _,eqF _,eqF _,eqF _] follows (by kernel_rfl) ⟨bB _,bB _,bB _,bB _,bB _,bB _,bB _,bB _,bB _,bB _,bB _,bB _,bB _,bB _,bB _,trivial⟩ (by decide) ?steps5 ?tail5
 case steps5 =>
  refine bJ rfl ?_ ?_
  ·intro X ext HD aD _
   replace hs:=hs.mono aD;replace ht:=ht.mono aD;replace bM:=bM.trans aD;exact bG rfl (aU rfl rfl (aE (bN rfl trivial rfl)))
  refine bJ rfl ?_ ?_
  ·intro X ext HD aD _
   replace hs:=hs.mono aD;replace ht:=ht.mono aD;replace bM:=bM.trans aD;exact bG rfl (aU rfl rfl (aE (bN rfl trivial rfl)))
  refine bJ rfl ?_ ?_
  ·intro X ext HD aD _
   replace hs:=hs.mono aD;replace ht:=ht.mono aD;replace bM:=bM.trans aD;exact bG rfl (aU rfl rfl (aE (bN rfl trivial rfl)))
  refine bJ rfl ?_ ?_
  ·intro X ext HD aD _
   replace hs:=hs.mono aD;replace ht:=ht.mono aD;replace bM:=bM.trans aD;exact wQq rfl rfl rfl (wQq rfl rfl rfl (bG rfl (dN rfl rfl rfl (aE (bN rfl trivial rfl)))))
  refine bJ rfl ?_ ?_
  ·intro X ext HD aD _
   replace hs:=hs.mono aD;replace ht:=ht.mono aD;replace bM:=bM.trans aD;exact wQq rfl rfl rfl (bG rfl (aU rfl rfl (aE (bN rfl trivial rfl))))
  refine bJ rfl ?_ ?_
  ·intro X ext HD aD _
   replace hs:=hs.mono aD;replace ht:=ht.mono aD;replace bM:=bM.trans aD;exact wQq rfl rfl rfl (bG rfl (bL rfl rfl (decide_eq_false (by omega)) rfl rfl (aE (bN rfl trivial rfl))))
  refine bJ rfl ?_ ?_
  ·intro X ext HD aD _
   replace hs:=hs.mono aD;replace ht:=ht.mono aD;replace bM:=bM.trans aD;exact wQq rfl rfl rfl (bG rfl (bL rfl rfl (decide_eq_false (by omega)) rfl rfl (aE (bN rfl trivial rfl))))
  refine bJ rfl ?_ ?_
  ·intro X ext HD aD _
   replace hs:=hs.mono aD;replace ht:=ht.mono aD;replace bM:=bM.trans aD;exact wQq rfl rfl rfl (bG rfl (bL rfl rfl (decide_eq_false (by omega)) rfl rfl (aE (bN rfl trivial rfl))))
  refine bJ rfl ?_ ?_
  ·intro X ext HD aD _
   replace hs:=hs.mono aD;replace ht:=ht.mono aD;replace bM:=bM.trans aD;exact wQq rfl rfl rfl (wQq rfl rfl rfl (wQq rfl rfl rfl (bG rfl (bL rfl rfl (decide_eq_false (by omega)) rfl rfl (aE (bN rfl trivial rfl))))))
  refine bJ rfl ?_ ?_
  ·intro X ext HD aD _
   replace hs:=hs.mono aD;replace ht:=ht.mono aD;replace bM:=bM.trans aD;exact wQq rfl rfl rfl (wQq rfl rfl rfl (bG rfl (bL rfl rfl (decide_eq_false (by omega)) rfl rfl (aE (bN rfl trivial rfl)))))
  refine bJ rfl ?_ ?_
  ·intro X ext HD aD _
   replace hs:=hs.mono aD;replace ht:=ht.mono aD;replace bM:=bM.trans aD;exact wQq rfl rfl rfl (bG rfl (bL rfl rfl (decide_eq_false (by omega)) rfl rfl (aE (bN rfl trivial rfl))))
  refine bJ rfl ?_ ?_
  ·intro X ext HD aD _
   replace hs:=hs.mono aD;replace ht:=ht.mono aD;replace bM:=bM.trans aD;exact wQq rfl rfl rfl (wQq rfl rfl rfl (wQq rfl rfl rfl (wQq rfl rfl rfl (bG rfl (bL rfl rfl (decide_eq_false (by omega)) rfl rfl (aE (bN rfl trivial rfl)))))))
  refine bJ rfl ?_ ?_
  ·intro X ext HD aD _
   replace hs:=hs.mono aD;replace ht:=ht.mono aD;replace bM:=bM.trans aD;exact wQq rfl rfl rfl (wQq rfl rfl rfl (bG rfl (bL rfl rfl (decide_eq_false (by omega)) rfl rfl (aE (bN rfl trivial rfl)))))
  refine bJ rfl ?_ ?_
  ·intro X ext HD aD _
   replace hs:=hs.mono aD;replace ht:=ht.mono aD;replace bM:=bM.trans aD;exact wQq rfl rfl rfl (wQq rfl rfl rfl (bG rfl (dL rfl (decide_eq_false (by omega)) rfl rfl (aE (bN rfl trivial rfl)))))
  refine bJ rfl ?_ ?_
  ·intro X ext HD aD _
   replace hs:=hs.mono aD;replace ht:=ht.mono aD;replace bM:=bM.trans aD;exact wQq rfl rfl rfl (bG rfl (bA rfl rfl (aE (bN rfl trivial rfl))))
  exact gI rfl
 case tail5 =>
  intro HD aD _
  replace hs:=hs.mono aD;replace ht:=ht.mono aD;replace bM:=bM.trans aD;refine wQq rfl rfl rfl (wQq rfl rfl rfl (wQq rfl rfl rfl (wQq rfl rfl rfl (wQq rfl rfl rfl (wQq rfl rfl rfl (wQq rfl rfl rfl (wQq rfl rfl rfl (wQq rfl rfl rfl (wQq rfl rfl rfl (wQq rfl rfl rfl (wQq rfl rfl rfl (wQq rfl rfl rfl (wQq rfl rfl rfl (wQq rfl rfl rfl (bG rfl (fL (bA rfl rfl (aE (aR (bW ?_))))))))))))))))))));refine ⟨rfl,_,[],rfl,(by repeat(first|exact sL _|apply sD|apply sC)),bX.mk ?_⟩
  rfl
theorem cloneC_fn (a : Option Addr) (c : Nat) (l : List Card) (H : Hp) (hs : SlR eV H a c l) (hl : l.length ≤ 1000000)  : FnC Tryz.prog 117 #[.slice a l.length c] H [] (bX (fun v H2 own=>aKm eV 49 l H2 v own)):=by
 refine FnC.intro (args:=[.slice a l.length c]) Tryz.func117 rfl rfl Tryz.ntmps117 rfl rfl rfl fun G rest=>?_
 refine aZ (aH (bA rfl rfl (aE (aR (aZ (aZ (aH (aU rfl rfl (zN rfl Tryz.underlying27 rfl (aE (aR (iQ 0 (gN rfl (fun nT=>?_) (fun nT=>?_))))))))))))))
 ·obtain rfl:=uM hs nT;refine aZ (aH (bA rfl rfl (aE (aR (bW (bY ?_))))));refine ⟨rfl,_,[_],rfl,(by repeat(first|exact sL _|apply sD|apply sC)),bX.mk ?_⟩
  exact ⟨_,_,_,rfl,rfl,Acc.nil _ _ _ _⟩
 refine bS (aR (aZ (aH (rT (ρ:=eV) (l:=[]) rfl Tryz.underlying27 eI lY rfl rfl rfl rfl rfl (fun p5 a5 c5 hacc5=>aU rfl rfl (fB 0 rfl rfl hacc5 rfl rfl hs rfl Tryz.underlying27 eI lY rfl aG6 (by simp;omega) rfl (fun p7 a7 c7 hacc7=>bA rfl rfl (aE (aR (bW ?_))))))))));refine ⟨rfl,_,[_],rfl,(by repeat(first|exact sL _|apply sD|apply sC)),bX.mk ?_⟩
 exact ⟨_,_,_,rfl,rfl,hacc7⟩
set_option maxRecDepth 100000 in
set_option maxHeartbeats 1600000 in
theorem insertC_fn (po : Nat × SObj) (a b : Option Addr) (c d : Nat) (l : List Card) (x : Card) (H : Hp) (hacc : Acc eV 49 H po a c l) (ht : SlR eV H b d [x]) (hl : l.length ≤ 1000000) : FnC Tryz.prog 116 #[.slice a l.length c,.int .i64 (l.length : Nat),.slice b 1 d] H [po] (bX (fun v H2 own=>aKm eV 49 (l ++ [x]) H2 v own)):=by
 refine FnC.intro (args:=[.slice a l.length c,.int .i64 (l.length : Nat),.slice b 1 d]) Tryz.func116 rfl rfl Tryz.ntmps116 rfl rfl rfl fun G rest=>?_
 refine aZ (aH (bA rfl rfl (aE (aR (aZ (aH (aU rfl rfl (aU rfl rfl (sY (lo':=(l.length : Nat)) (hi':=(l.length : Nat)) (m':=(c : Nat)) rfl (fT rfl) fF fF (by simp) (by omega) (by omega) (by have:=hacc.le;omega) (by omega) Tryz.underlying27 eI rfl ?_)))))))));refine aE (aR (aZ (aH (aU rfl rfl (cH (ts:=#[]) rfl Tryz.underlying27 rfl (bA rfl rfl (aE (aR (aZ (aZ (aH (aU rfl rfl (fY rfl rfl rfl (aE (aR (dY rfl (decide_eq_false (by decide)) (bS (aR (aZ (aH (aU rfl rfl (cH (ts:=#[]) rfl Tryz.underlying27 rfl (bA rfl rfl (aE (aR (aZ (aZ (aH (aU rfl rfl (aU rfl rfl ?_))))))))))))))))))))))))))))));refine fY rfl rfl rfl (aE (aR (eY rfl (decide_eq_true rfl) (aZ (aH (aU rfl rfl (aU rfl rfl (fB 0 rfl rfl hacc rfl rfl ht rfl Tryz.underlying27 eI lY rfl aG6 (by simp;omega) rfl (fun p25 a25 c25 hacc25=>bA rfl rfl (aE (aR (bW (bY ?_)))))))))))));refine ⟨rfl,_,[_],rfl,(by repeat(first|exact sL _|apply sC)),bX.mk ?_⟩
 exact ⟨_,_,_,rfl,rfl,hacc25⟩
theorem putC_fn (a : Option Addr) (c : Nat) (l : List Card) (H : Hp) (hs : SlR eV H a c l) (hl : l.length ≤ 1000000) (t : Card) (at_ : Option Addr) (ct : Nat) (ht : SlR (eO .i64) H at_ ct t.C) (hDt : t.D.length = 32) (hall : ∀ x ∈ l,qC x t < 0) (g : Value) : FnC Tryz.prog 74 #[.slice a l.length c,.agg ⟨fA t.R t.E t.J t.C.length t.D at_ ct⟩,.func (.func 51) #[] #[],g] H [] (bX (fun v H2 _=>SlU eV (l ++ [t]) H2 v)):=by
 refine FnC.intro (args:=[.slice a l.length c,.agg ⟨fA t.R t.E t.J t.C.length t.D at_ ct⟩,.func (.func 51) #[] #[],g]) Tryz.func74 rfl rfl Tryz.ntmps74 rfl rfl rfl fun G rest=>?_
 refine aZ (aH (dZ rfl rfl rfl (fun b5=>bA rfl rfl (aE (aR (aZ (aH (aU rfl rfl (bK 0 rfl rfl eI rfl rfl rfl (aU rfl rfl (bR rfl (searchEC_fn a c l _ hs hl t _ _ ht hDt hall) rfl (aU rfl rfl (bV rfl rfl rfl (bV rfl rfl rfl (bA rfl rfl (bA rfl rfl (aE (aR (aZ (aZ (aH (aU rfl rfl (aE (aR (dY rfl rfl (bS (aR (aZ (cE [0,5,9] rfl ?_)))))))))))))))))))))))))))))
 apply iG (fun _=>True) trivial [1] (by decide) (lH eV 49 l) (wF _ _ _) 5 [eqF _,rC,eqF _,eqF _,slF eV [t]] follows (by kernel_rfl) ⟨bB _,gR,bB _,bB _,gX _ _,trivial⟩ (by decide) ?steps2 ?tail2
 case steps2 =>
  refine bJ rfl ?_ ?_
  ·intro X ext HD aD _
   replace hs:=hs.mono aD;replace ht:=ht.mono aD;exact bG rfl (aU rfl rfl (aE (bN rfl trivial rfl)))
  refine bJ rfl ?_ ?_
  ·intro X ext HD aD _
   replace hs:=hs.mono aD;replace ht:=ht.mono aD;refine wQq rfl rfl rfl (bG rfl (lE rfl (cloneC_fn a c l _ hs hl) rfl rfl ?_));rintro _ HG _ hleG ⟨pg,ag,cg,rfl,rfl,haccg⟩
   simp only [List.cons_append,List.nil_append]
   replace hs:=hs.mono hleG;replace ht:=ht.mono hleG;refine aE ?_
   exact kJ rfl trivial trivial (⟨_,_,rfl,haccg⟩)
  refine bJ rfl ?_ ?_
  ·intro X ext HD aD _
   replace hs:=hs.mono aD;replace ht:=ht.mono aD;exact bG rfl (aU rfl rfl (aE (bN rfl trivial rfl)))
  refine bJ rfl ?_ ?_
  ·intro X ext HD aD _
   replace hs:=hs.mono aD;replace ht:=ht.mono aD;exact bG rfl (bK 0 rfl rfl eI rfl rfl rfl (aE (bN rfl trivial rfl)))
  refine bJ rfl ?_ ?_
  ·intro X ext HD aD _
   replace hs:=hs.mono aD;replace ht:=ht.mono aD;refine wQq rfl rfl rfl (bG rfl (dB rfl Tryz.underlying27 eI lY rfl rfl rfl (fun b32=>dF 0 rfl rfl rfl (fun HP32 oP32 hleP32 hbP32 hoP32=>?_))));replace hs:=hs.mono hleP32;replace ht:=ht.mono hleP32
   have mF:=SlR.lit (ρ:=eV) (l:=[t]) hbP32 hoP32 (eN.one1 ⟨_,_,rfl,ht,hDt⟩)
   refine aE ?_
   exact bN rfl trivial (⟨_,rfl,mF⟩)
  exact gI rfl
 case tail2 =>
  intro HD aD _
  replace hs:=hs.mono aD;replace ht:=ht.mono aD;refine wQq rfl rfl rfl (dD rfl rfl ?_);rintro _ _;refine wQq rfl rfl rfl (wQq rfl rfl rfl (dD rfl rfl ?_));rintro _ ⟨bs32,rfl,mF⟩;refine bG rfl (iO ?_)
  intro pe hpe
  obtain ⟨ae,ce,rfl,hacce⟩:=hpe _ ⟨_,rfl,rfl⟩;refine fL ?_
  have hcall:=insertC_fn pe ae _ ce _ l t _ hacce mF hl
  refine pA 0 rfl hcall rfl rfl ?_;rintro _ HI _ hleI ⟨pi,ai,ci,rfl,rfl,hacci⟩;refine ⟨_,rfl,?_⟩;replace hs:=hs.mono hleI;replace ht:=ht.mono hleI;replace mF:=mF.mono hleI;replace hacce:=hacce.mono hleI;refine gL 0 rfl hacci rfl (fun HQ3 pN hsQ3=>?_);replace hs:=hs.mono pN;replace ht:=ht.mono pN;replace mF:=mF.mono pN;replace hacce:=hacce.mono pN;refine bA rfl rfl (aE (aR (bW ?_)));refine ⟨rfl,_,[],rfl,(by repeat(first|exact sL _|apply sC)),bX.mk ?_⟩
  exact ⟨_,_,rfl,by assumption⟩
theorem searchEK_fn (a : Option Addr) (c : Nat) (l : List KeySh) (H : Hp) (hs : SlR iY H a c l) (hl : l.length ≤ 1000000) (t : KeySh) (hall : ∀ x ∈ l,qK x t < 0) : FnC Tryz.prog 119 #[.slice a l.length c,.agg ⟨pK t⟩,.func (.func 56) #[] #[]] H [] (bX (fun v _ _=>v = .tuple #[.int .i64 (l.length : Nat),.bool false])):=by
 refine FnC.intro (args:=[.slice a l.length c,.agg ⟨pK t⟩,.func (.func 56) #[] #[]]) Tryz.func119 rfl rfl Tryz.ntmps119 rfl rfl rfl fun G rest=>?_
 refine aZ (aH (dZ rfl rfl rfl (fun b4=>bA rfl rfl (bA rfl rfl (aE (aR (aZ (aH (aU rfl rfl (cH (ts:=#[]) rfl Tryz.underlying28 rfl (bA rfl rfl (aE (aR (aZ (aH (aU rfl rfl (bA rfl rfl (bA rfl rfl (aE (aR (aZ (bT (cE [9,10,0,2,4,8] rfl (eE (base:=[(0,_),(2,_),(4,_),(8,_)]) (fun ζ : Nat × (Nat)=>[(9,.int .i64 (ζ.2 : Nat)),(10,.int .i64 (l.length : Nat))]) (fun ζ Hl own=>(b4,.cells 54 (pK t)) :: rest = own ∧ (ζ.2 ≤ l.length)) (fun ζ=>l.length - ζ.2) (0,0) (aQ rfl (aQ rfl (aQ rfl (aQ rfl (aQ rfl (aQ rfl bP)))))) (by repeat(first|exact sL _|apply sD|apply sC)) ⟨rfl,Nat.zero_le _⟩ ?_))))))))))))))))))))))));rintro ⟨k,lo⟩ Hl0 _ bM ⟨rfl,hlh⟩;replace hs:=hs.mono bM
 try dsimp only at hlh ⊢
 refine aZ (aZ (aH (aU rfl rfl (aU rfl rfl (dN rfl rfl rfl (aE (aR (cW rfl (fun gJ=>?_) (fun gJ=>?_)))))))))
 ·refine bS (aR (bT (aZ (aH (aU rfl rfl (aU rfl rfl (dJ rfl rfl (bU (by omega) (by omega)) rfl (gT rfl Tryz.underlying3 Tryz.underlying208 (nL (by omega) (by omega)) rfl (qF rfl rfl (by omega) rfl (gT (c:=(((lo + l.length) / 2 : Nat) : Int)) rfl Tryz.underlying208 Tryz.underlying3 (by rw [aCd];exact bU (by omega) (by omega)) rfl (bA rfl rfl (aE (aR (aZ (cE [0,2,4,8,9,10,11] rfl ?_)))))))))))))));obtain ⟨bEM,oEM,rfl⟩:=hs.addr (by omega);obtain ⟨_,xM,hxM,rfl,hpM⟩:=hs.elem ((lo + l.length) / 2) (by omega)
  apply jR 6 [eqF _,eqF _,eqF _,eqF _,eqF _,eqF _] follows (by kernel_rfl) (by kernel_rfl) ⟨bB _,bB _,bB _,bB _,bB _,bB _,trivial⟩ ?steps3 ?tail3
  case steps3 =>
   refine bO rfl ?_ ?_
   ·intro X
    refine aW rfl (aU rfl rfl (aE ?_))
    exact bH rfl rfl
   refine bO rfl ?_ ?_
   ·intro X
    refine aW rfl (aU rfl rfl (aE ?_))
    exact bH rfl rfl
   refine bO rfl ?_ ?_
   ·intro X
    refine aW rfl (aU rfl rfl (aE ?_))
    exact bH rfl rfl
   refine bO rfl ?_ ?_
   ·intro X
    refine wPq rfl rfl rfl (wPq rfl rfl rfl (aW rfl (fG rfl rfl Tryz.underlying28 mH (by omega) (by omega) rfl (aE ?_))))
    exact bH rfl rfl
   refine bO rfl ?_ ?_
   ·intro X
    refine wPq rfl rfl rfl (aW rfl (cQ rfl (by assumption) mH rfl rfl rfl (aE ?_)))
    exact bH rfl rfl
   refine bO rfl ?_ ?_
   ·intro X
    refine aW rfl (bK 0 rfl rfl mH rfl rfl rfl (aE ?_))
    exact bH rfl rfl
   exact eU rfl
  case tail3 =>
   refine wPq rfl rfl rfl (wPq rfl rfl rfl (wPq rfl rfl rfl (wPq rfl rfl rfl (wPq rfl rfl rfl (wPq rfl rfl rfl (aW rfl (kE rfl trivial rfl (FnV.of_fn (cap:=[]) (args:=[_,_]) (aB2 xM t _)) rfl ?_)))))));rintro _ rfl;refine dN rfl rfl rfl (aE (aR (eY rfl (decide_eq_true (hall _ (List.mem_of_getElem? hxM))) (aH (aU rfl rfl (dJ rfl rfl (bU (by omega) (by omega)) rfl (bA rfl rfl (aE (dP (cR ((k + 1,(lo + l.length) / 2 + 1)) (by show l.length - ((lo + l.length) / 2 + 1) < l.length - lo;omega) (aQ rfl (aQ rfl (aQ rfl (aQ rfl (aQ rfl (aQ rfl bP)))))) (⟨rfl,(by show (lo + l.length) / 2 + 1 ≤ l.length;omega)⟩) (by repeat(first|exact sL _|apply sD|apply sC)) (bM)))))))))))
 obtain rfl : lo = l.length:=by omega
 refine dX (dA (cZ (dI rfl (aR (aZ (cE [0,2,4,8,9] rfl ?_))))))
 apply iG (fun _=>True) trivial [] (by decide) (fun _ _ _ _=>True) (fun _ _ _ _ _ _ h=>h) 15 [eqF _,eqF _,eqF _,eqF _,eqF _,eqF _,eqF _,eqF _,eqF _,eqF _,eqF _,eqF _,eqF _,eqF _,eqF _] follows (by kernel_rfl) ⟨bB _,bB _,bB _,bB _,bB _,bB _,bB _,bB _,bB _,bB _,bB _,bB _,bB _,bB _,bB _,trivial⟩ (by decide) ?steps5 ?tail5
 case steps5 =>
  refine bJ rfl ?_ ?_
  ·intro X ext HD aD _
   replace hs:=hs.mono aD;replace bM:=bM.trans aD;exact bG rfl (aU rfl rfl (aE (bN rfl trivial rfl)))
  refine bJ rfl ?_ ?_
  ·intro X ext HD aD _
   replace hs:=hs.mono aD;replace bM:=bM.trans aD;exact bG rfl (aU rfl rfl (aE (bN rfl trivial rfl)))
  refine bJ rfl ?_ ?_
  ·intro X ext HD aD _
   replace hs:=hs.mono aD;replace bM:=bM.trans aD;exact bG rfl (aU rfl rfl (aE (bN rfl trivial rfl)))
  refine bJ rfl ?_ ?_
  ·intro X ext HD aD _
   replace hs:=hs.mono aD;replace bM:=bM.trans aD;exact wQq rfl rfl rfl (wQq rfl rfl rfl (bG rfl (dN rfl rfl rfl (aE (bN rfl trivial rfl)))))
  refine bJ rfl ?_ ?_
  ·intro X ext HD aD _
   replace hs:=hs.mono aD;replace bM:=bM.trans aD;exact wQq rfl rfl rfl (bG rfl (aU rfl rfl (aE (bN rfl trivial rfl))))
  refine bJ rfl ?_ ?_
  ·intro X ext HD aD _
   replace hs:=hs.mono aD;replace bM:=bM.trans aD;exact wQq rfl rfl rfl (bG rfl (bL rfl rfl (decide_eq_false (by omega)) rfl rfl (aE (bN rfl trivial rfl))))
  refine bJ rfl ?_ ?_
  ·intro X ext HD aD _
   replace hs:=hs.mono aD;replace bM:=bM.trans aD;exact wQq rfl rfl rfl (bG rfl (bL rfl rfl (decide_eq_false (by omega)) rfl rfl (aE (bN rfl trivial rfl))))
  refine bJ rfl ?_ ?_
  ·intro X ext HD aD _
   replace hs:=hs.mono aD;replace bM:=bM.trans aD;exact wQq rfl rfl rfl (bG rfl (bL rfl rfl (decide_eq_false (by omega)) rfl rfl (aE (bN rfl trivial rfl))))
  refine bJ rfl ?_ ?_
  ·intro X ext HD aD _
   replace hs:=hs.mono aD;replace bM:=bM.trans aD;exact wQq rfl rfl rfl (wQq rfl rfl rfl (wQq rfl rfl rfl (bG rfl (bL rfl rfl (decide_eq_false (by omega)) rfl rfl (aE (bN rfl trivial rfl))))))
  refine bJ rfl ?_ ?_
  ·intro X ext HD aD _
   replace hs:=hs.mono aD;replace bM:=bM.trans aD;exact wQq rfl rfl rfl (wQq rfl rfl rfl (bG rfl (bL rfl rfl (decide_eq_false (by omega)) rfl rfl (aE (bN rfl trivial rfl)))))
  refine bJ rfl ?_ ?_
  ·intro X ext HD aD _
   replace hs:=hs.mono aD;replace bM:=bM.trans aD;exact wQq rfl rfl rfl (bG rfl (bL rfl rfl (decide_eq_false (by omega)) rfl rfl (aE (bN rfl trivial rfl))))
  refine bJ rfl ?_ ?_
  ·intro X ext HD aD _
   replace hs:=hs.mono aD;replace bM:=bM.trans aD;exact wQq rfl rfl rfl (wQq rfl rfl rfl (wQq rfl rfl rfl (wQq rfl rfl rfl (bG rfl (bL rfl rfl (decide_eq_false (by omega)) rfl rfl (aE (bN rfl trivial rfl)))))))
  refine bJ rfl ?_ ?_
  ·intro X ext HD aD _
   replace hs:=hs.mono aD;replace bM:=bM.trans aD;exact wQq rfl rfl rfl (wQq rfl rfl rfl (bG rfl (bL rfl rfl (decide_eq_false (by omega)) rfl rfl (aE (bN rfl trivial rfl)))))
  refine bJ rfl ?_ ?_
  ·intro X ext HD aD _
   replace hs:=hs.mono aD;replace bM:=bM.trans aD;exact wQq rfl rfl rfl (wQq rfl rfl rfl (bG rfl (dL rfl (decide_eq_false (by omega)) rfl rfl (aE (bN rfl trivial rfl)))))
  refine bJ rfl ?_ ?_
  ·intro X ext HD aD _
   replace hs:=hs.mono aD;replace bM:=bM.trans aD;exact wQq rfl rfl rfl (bG rfl (bA rfl rfl (aE (bN rfl trivial rfl))))
  exact gI rfl
 case tail5 =>
  intro HD aD _
  replace hs:=hs.mono aD;replace bM:=bM.trans aD;refine wQq rfl rfl rfl (wQq rfl rfl rfl (wQq rfl rfl rfl (wQq rfl rfl rfl (wQq rfl rfl rfl (wQq rfl rfl rfl (wQq rfl rfl rfl (wQq rfl rfl rfl (wQq rfl rfl rfl (wQq rfl rfl rfl (wQq rfl rfl rfl (wQq rfl rfl rfl (wQq rfl rfl rfl (wQq rfl rfl rfl (wQq rfl rfl rfl (bG rfl (fL (bA rfl rfl (aE (aR (bW ?_))))))))))))))))))));refine ⟨rfl,_,[],rfl,(by repeat(first|exact sL _|apply sD|apply sC)),bX.mk ?_⟩
  rfl
theorem cloneK_fn (a : Option Addr) (c : Nat) (l : List KeySh) (H : Hp) (hs : SlR iY H a c l) (hl : l.length ≤ 1000000)  : FnC Tryz.prog 121 #[.slice a l.length c] H [] (bX (fun v H2 own=>aKm iY 54 l H2 v own)):=by
 refine FnC.intro (args:=[.slice a l.length c]) Tryz.func121 rfl rfl Tryz.ntmps121 rfl rfl rfl fun G rest=>?_
 refine aZ (aH (bA rfl rfl (aE (aR (aZ (aZ (aH (aU rfl rfl (zN rfl Tryz.underlying28 rfl (aE (aR (iQ 0 (gN rfl (fun nT=>?_) (fun nT=>?_))))))))))))))
 ·obtain rfl:=uM hs nT;refine aZ (aH (bA rfl rfl (aE (aR (bW (bY ?_))))));refine ⟨rfl,_,[_],rfl,(by repeat(first|exact sL _|apply sD|apply sC)),bX.mk ?_⟩
  exact ⟨_,_,_,rfl,rfl,Acc.nil _ _ _ _⟩
 refine bS (aR (aZ (aH (rT (ρ:=iY) (l:=[]) rfl Tryz.underlying28 mH aDd rfl rfl rfl rfl rfl (fun p5 a5 c5 hacc5=>aU rfl rfl (fB 0 rfl rfl hacc5 rfl rfl hs rfl Tryz.underlying28 mH aDd rfl aM2 (by simp;omega) rfl (fun p7 a7 c7 hacc7=>bA rfl rfl (aE (aR (bW ?_))))))))));refine ⟨rfl,_,[_],rfl,(by repeat(first|exact sL _|apply sD|apply sC)),bX.mk ?_⟩
 exact ⟨_,_,_,rfl,rfl,hacc7⟩
set_option maxRecDepth 100000 in
set_option maxHeartbeats 1600000 in
theorem insertK_fn (po : Nat × SObj) (a b : Option Addr) (c d : Nat) (l : List KeySh) (x : KeySh) (H : Hp) (hacc : Acc iY 54 H po a c l) (ht : SlR iY H b d [x]) (hl : l.length ≤ 1000000) : FnC Tryz.prog 120 #[.slice a l.length c,.int .i64 (l.length : Nat),.slice b 1 d] H [po] (bX (fun v H2 own=>aKm iY 54 (l ++ [x]) H2 v own)):=by
 refine FnC.intro (args:=[.slice a l.length c,.int .i64 (l.length : Nat),.slice b 1 d]) Tryz.func120 rfl rfl Tryz.ntmps120 rfl rfl rfl fun G rest=>?_
 refine aZ (aH (bA rfl rfl (aE (aR (aZ (aH (aU rfl rfl (aU rfl rfl (sY (lo':=(l.length : Nat)) (hi':=(l.length : Nat)) (m':=(c : Nat)) rfl (fT rfl) fF fF (by simp) (by omega) (by omega) (by have:=hacc.le;omega) (by omega) Tryz.underlying28 mH rfl ?_)))))))));refine aE (aR (aZ (aH (aU rfl rfl (cH (ts:=#[]) rfl Tryz.underlying28 rfl (bA rfl rfl (aE (aR (aZ (aZ (aH (aU rfl rfl (fY rfl rfl rfl (aE (aR (dY rfl (decide_eq_false (by decide)) (bS (aR (aZ (aH (aU rfl rfl (cH (ts:=#[]) rfl Tryz.underlying28 rfl (bA rfl rfl (aE (aR (aZ (aZ (aH (aU rfl rfl (aU rfl rfl ?_))))))))))))))))))))))))))))));refine fY rfl rfl rfl (aE (aR (eY rfl (decide_eq_true rfl) (aZ (aH (aU rfl rfl (aU rfl rfl (fB 0 rfl rfl hacc rfl rfl ht rfl Tryz.underlying28 mH aDd rfl aM2 (by simp;omega) rfl (fun p25 a25 c25 hacc25=>bA rfl rfl (aE (aR (bW (bY ?_)))))))))))));refine ⟨rfl,_,[_],rfl,(by repeat(first|exact sL _|apply sC)),bX.mk ?_⟩
 exact ⟨_,_,_,rfl,rfl,hacc25⟩
theorem putK_fn (a : Option Addr) (c : Nat) (l : List KeySh) (H : Hp) (hs : SlR iY H a c l) (hl : l.length ≤ 1000000) (t : KeySh) (hall : ∀ x ∈ l,qK x t < 0) (g : Value) : FnC Tryz.prog 76 #[.slice a l.length c,.agg ⟨pK t⟩,.func (.func 56) #[] #[],g] H [] (bX (fun v H2 _=>SlU iY (l ++ [t]) H2 v)):=by
 refine FnC.intro (args:=[.slice a l.length c,.agg ⟨pK t⟩,.func (.func 56) #[] #[],g]) Tryz.func76 rfl rfl Tryz.ntmps76 rfl rfl rfl fun G rest=>?_
 refine aZ (aH (dZ rfl rfl rfl (fun b5=>bA rfl rfl (aE (aR (aZ (aH (aU rfl rfl (bK 0 rfl rfl mH rfl rfl rfl (aU rfl rfl (bR rfl (searchEK_fn a c l _ hs hl t  hall) rfl (aU rfl rfl (bV rfl rfl rfl (bV rfl rfl rfl (bA rfl rfl (bA rfl rfl (aE (aR (aZ (aZ (aH (aU rfl rfl (aE (aR (dY rfl rfl (bS (aR (aZ (cE [0,5,9] rfl ?_)))))))))))))))))))))))))))))
 apply iG (fun _=>True) trivial [1] (by decide) (lH iY 54 l) (wF _ _ _) 5 [eqF _,rC,eqF _,eqF _,slF iY [t]] follows (by kernel_rfl) ⟨bB _,gR,bB _,bB _,gX _ _,trivial⟩ (by decide) ?steps2 ?tail2
 case steps2 =>
  refine bJ rfl ?_ ?_
  ·intro X ext HD aD _
   replace hs:=hs.mono aD;exact bG rfl (aU rfl rfl (aE (bN rfl trivial rfl)))
  refine bJ rfl ?_ ?_
  ·intro X ext HD aD _
   replace hs:=hs.mono aD;refine wQq rfl rfl rfl (bG rfl (lE rfl (cloneK_fn a c l _ hs hl) rfl rfl ?_));rintro _ HG _ hleG ⟨pg,ag,cg,rfl,rfl,haccg⟩
   simp only [List.cons_append,List.nil_append]
   replace hs:=hs.mono hleG;refine aE ?_
   exact kJ rfl trivial trivial (⟨_,_,rfl,haccg⟩)
  refine bJ rfl ?_ ?_
  ·intro X ext HD aD _
   replace hs:=hs.mono aD;exact bG rfl (aU rfl rfl (aE (bN rfl trivial rfl)))
  refine bJ rfl ?_ ?_
  ·intro X ext HD aD _
   replace hs:=hs.mono aD;exact bG rfl (bK 0 rfl rfl mH rfl rfl rfl (aE (bN rfl trivial rfl)))
  refine bJ rfl ?_ ?_
  ·intro X ext HD aD _
   replace hs:=hs.mono aD;refine wQq rfl rfl rfl (bG rfl (dB rfl Tryz.underlying28 mH aDd rfl rfl rfl (fun b32=>dF 0 rfl rfl rfl (fun HP32 oP32 hleP32 hbP32 hoP32=>?_))));replace hs:=hs.mono hleP32
   have mF:=SlR.lit (ρ:=iY) (l:=[t]) hbP32 hoP32 (eN.one1 rfl)
   refine aE ?_
   exact bN rfl trivial (⟨_,rfl,mF⟩)
  exact gI rfl
 case tail2 =>
  intro HD aD _
  replace hs:=hs.mono aD;refine wQq rfl rfl rfl (dD rfl rfl ?_);rintro _ _;refine wQq rfl rfl rfl (wQq rfl rfl rfl (dD rfl rfl ?_));rintro _ ⟨bs32,rfl,mF⟩;refine bG rfl (iO ?_)
  intro pe hpe
  obtain ⟨ae,ce,rfl,hacce⟩:=hpe _ ⟨_,rfl,rfl⟩;refine fL ?_
  have hcall:=insertK_fn pe ae _ ce _ l t _ hacce mF hl
  refine pA 0 rfl hcall rfl rfl ?_;rintro _ HI _ hleI ⟨pi,ai,ci,rfl,rfl,hacci⟩;refine ⟨_,rfl,?_⟩;replace hs:=hs.mono hleI;replace mF:=mF.mono hleI;replace hacce:=hacce.mono hleI;refine gL 0 rfl hacci rfl (fun HQ3 pN hsQ3=>?_);replace hs:=hs.mono pN;replace mF:=mF.mono pN;replace hacce:=hacce.mono pN;refine bA rfl rfl (aE (aR (bW ?_)));refine ⟨rfl,_,[],rfl,(by repeat(first|exact sL _|apply sC)),bX.mk ?_⟩
  exact ⟨_,_,rfl,by assumption⟩
theorem searchEX_fn (a : Option Addr) (c : Nat) (l : List Shwn) (H : Hp) (hs : SlR iZ H a c l) (hl : l.length ≤ 1000000) (t : Shwn) (at_ : Option Addr) (ct : Nat) (ht : SlR (eO .i64) H at_ ct t.K) (hDt : t.D.length = 32) (hall : ∀ x ∈ l,qX x t < 0) : FnC Tryz.prog 122 #[.slice a l.length c,.agg ⟨oR t.J t.K.length t.D at_ ct⟩,.func (.func 61) #[] #[]] H [] (bX (fun v _ _=>v = .tuple #[.int .i64 (l.length : Nat),.bool false])):=by
 refine FnC.intro (args:=[.slice a l.length c,.agg ⟨oR t.J t.K.length t.D at_ ct⟩,.func (.func 61) #[] #[]]) Tryz.func122 rfl rfl Tryz.ntmps122 rfl rfl rfl fun G rest=>?_
 refine aZ (aH (dZ rfl rfl rfl (fun b4=>bA rfl rfl (bA rfl rfl (aE (aR (aZ (aH (aU rfl rfl (cH (ts:=#[]) rfl Tryz.underlying29 rfl (bA rfl rfl (aE (aR (aZ (aH (aU rfl rfl (bA rfl rfl (bA rfl rfl (aE (aR (aZ (bT (cE [9,10,0,2,4,8] rfl (eE (base:=[(0,_),(2,_),(4,_),(8,_)]) (fun ζ : Nat × (Nat)=>[(9,.int .i64 (ζ.2 : Nat)),(10,.int .i64 (l.length : Nat))]) (fun ζ Hl own=>(b4,.cells 56 (oR t.J t.K.length t.D at_ ct)) :: rest = own ∧ (ζ.2 ≤ l.length)) (fun ζ=>l.length - ζ.2) (0,0) (aQ rfl (aQ rfl (aQ rfl (aQ rfl (aQ rfl (aQ rfl bP)))))) (by repeat(first|exact sL _|apply sD|apply sC)) ⟨rfl,Nat.zero_le _⟩ ?_))))))))))))))))))))))));rintro ⟨k,lo⟩ Hl0 _ bM ⟨rfl,hlh⟩;replace hs:=hs.mono bM;replace ht:=ht.mono bM
 try dsimp only at hlh ⊢
 refine aZ (aZ (aH (aU rfl rfl (aU rfl rfl (dN rfl rfl rfl (aE (aR (cW rfl (fun gJ=>?_) (fun gJ=>?_)))))))))
 ·refine bS (aR (bT (aZ (aH (aU rfl rfl (aU rfl rfl (dJ rfl rfl (bU (by omega) (by omega)) rfl (gT rfl Tryz.underlying3 Tryz.underlying208 (nL (by omega) (by omega)) rfl (qF rfl rfl (by omega) rfl (gT (c:=(((lo + l.length) / 2 : Nat) : Int)) rfl Tryz.underlying208 Tryz.underlying3 (by rw [aCd];exact bU (by omega) (by omega)) rfl (bA rfl rfl (aE (aR (aZ (cE [0,2,4,8,9,10,11] rfl ?_)))))))))))))));obtain ⟨bEM,oEM,rfl⟩:=hs.addr (by omega);obtain ⟨_,xM,hxM,⟨axM,cxM,rfl,hdM,hDM⟩,hpM⟩:=hs.elem ((lo + l.length) / 2) (by omega)
  apply jR 6 [eqF _,eqF _,eqF _,eqF _,eqF _,eqF _] follows (by kernel_rfl) (by kernel_rfl) ⟨bB _,bB _,bB _,bB _,bB _,bB _,trivial⟩ ?steps3 ?tail3
  case steps3 =>
   refine bO rfl ?_ ?_
   ·intro X
    refine aW rfl (aU rfl rfl (aE ?_))
    exact bH rfl rfl
   refine bO rfl ?_ ?_
   ·intro X
    refine aW rfl (aU rfl rfl (aE ?_))
    exact bH rfl rfl
   refine bO rfl ?_ ?_
   ·intro X
    refine aW rfl (aU rfl rfl (aE ?_))
    exact bH rfl rfl
   refine bO rfl ?_ ?_
   ·intro X
    refine wPq rfl rfl rfl (wPq rfl rfl rfl (aW rfl (fG rfl rfl Tryz.underlying29 lG (by omega) (by omega) rfl (aE ?_))))
    exact bH rfl rfl
   refine bO rfl ?_ ?_
   ·intro X
    refine wPq rfl rfl rfl (aW rfl (cQ rfl (by assumption) lG rfl rfl rfl (aE ?_)))
    exact bH rfl rfl
   refine bO rfl ?_ ?_
   ·intro X
    refine aW rfl (bK 0 rfl rfl lG rfl rfl rfl (aE ?_))
    exact bH rfl rfl
   exact eU rfl
  case tail3 =>
   refine wPq rfl rfl rfl (wPq rfl rfl rfl (wPq rfl rfl rfl (wPq rfl rfl rfl (wPq rfl rfl rfl (wPq rfl rfl rfl (aW rfl (kE rfl trivial rfl (FnV.of_fn (cap:=[]) (args:=[_,_]) (aBx xM t _ _ _ _ _ hdM ht hDM hDt)) rfl ?_)))))));rintro _ rfl;refine dN rfl rfl rfl (aE (aR (eY rfl (decide_eq_true (hall _ (List.mem_of_getElem? hxM))) (aH (aU rfl rfl (dJ rfl rfl (bU (by omega) (by omega)) rfl (bA rfl rfl (aE (dP (cR ((k + 1,(lo + l.length) / 2 + 1)) (by show l.length - ((lo + l.length) / 2 + 1) < l.length - lo;omega) (aQ rfl (aQ rfl (aQ rfl (aQ rfl (aQ rfl (aQ rfl bP)))))) (⟨rfl,(by show (lo + l.length) / 2 + 1 ≤ l.length;omega)⟩) (by repeat(first|exact sL _|apply sD|apply sC)) (bM)))))))))))
 obtain rfl : lo = l.length:=by omega
 refine dX (dA (cZ (dI rfl (aR (aZ (cE [0,2,4,8,9] rfl ?_))))))
 apply iG (fun _=>True) trivial [] (by decide) (fun _ _ _ _=>True) (fun _ _ _ _ _ _ h=>h) 15 [eqF _,eqF _,eqF _,eqF _,eqF _,eqF _,eqF _,eqF _,eqF _,eqF _,eqF _,eqF _,eqF _,eqF _,eqF _] follows (by kernel_rfl) ⟨bB _,bB _,bB _,bB _,bB _,bB _,bB _,bB _,bB _,bB _,bB _,bB _,bB _,bB _,bB _,trivial⟩ (by decide) ?steps5 ?tail5
 case steps5 =>
  refine bJ rfl ?_ ?_
  ·intro X ext HD aD _
   replace hs:=hs.mono aD;replace ht:=ht.mono aD;replace bM:=bM.trans aD;exact bG rfl (aU rfl rfl (aE (bN rfl trivial rfl)))
  refine bJ rfl ?_ ?_
  ·intro X ext HD aD _
   replace hs:=hs.mono aD;replace ht:=ht.mono aD;replace bM:=bM.trans aD;exact bG rfl (aU rfl rfl (aE (bN rfl trivial rfl)))
  refine bJ rfl ?_ ?_
  ·intro X ext HD aD _
   replace hs:=hs.mono aD;replace ht:=ht.mono aD;replace bM:=bM.trans aD;exact bG rfl (aU rfl rfl (aE (bN rfl trivial rfl)))
  refine bJ rfl ?_ ?_
  ·intro X ext HD aD _
   replace hs:=hs.mono aD;replace ht:=ht.mono aD;replace bM:=bM.trans aD;exact wQq rfl rfl rfl (wQq rfl rfl rfl (bG rfl (dN rfl rfl rfl (aE (bN rfl trivial rfl)))))
  refine bJ rfl ?_ ?_
  ·intro X ext HD aD _
   replace hs:=hs.mono aD;replace ht:=ht.mono aD;replace bM:=bM.trans aD;exact wQq rfl rfl rfl (bG rfl (aU rfl rfl (aE (bN rfl trivial rfl))))
  refine bJ rfl ?_ ?_
  ·intro X ext HD aD _
   replace hs:=hs.mono aD;replace ht:=ht.mono aD;replace bM:=bM.trans aD;exact wQq rfl rfl rfl (bG rfl (bL rfl rfl (decide_eq_false (by omega)) rfl rfl (aE (bN rfl trivial rfl))))
  refine bJ rfl ?_ ?_
  ·intro X ext HD aD _
   replace hs:=hs.mono aD;replace ht:=ht.mono aD;replace bM:=bM.trans aD;exact wQq rfl rfl rfl (bG rfl (bL rfl rfl (decide_eq_false (by omega)) rfl rfl (aE (bN rfl trivial rfl))))
  refine bJ rfl ?_ ?_
  ·intro X ext HD aD _
   replace hs:=hs.mono aD;replace ht:=ht.mono aD;replace bM:=bM.trans aD;exact wQq rfl rfl rfl (bG rfl (bL rfl rfl (decide_eq_false (by omega)) rfl rfl (aE (bN rfl trivial rfl))))
  refine bJ rfl ?_ ?_
  ·intro X ext HD aD _
   replace hs:=hs.mono aD;replace ht:=ht.mono aD;replace bM:=bM.trans aD;exact wQq rfl rfl rfl (wQq rfl rfl rfl (wQq rfl rfl rfl (bG rfl (bL rfl rfl (decide_eq_false (by omega)) rfl rfl (aE (bN rfl trivial rfl))))))
  refine bJ rfl ?_ ?_
  ·intro X ext HD aD _
   replace hs:=hs.mono aD;replace ht:=ht.mono aD;replace bM:=bM.trans aD;exact wQq rfl rfl rfl (wQq rfl rfl rfl (bG rfl (bL rfl rfl (decide_eq_false (by omega)) rfl rfl (aE (bN rfl trivial rfl)))))
  refine bJ rfl ?_ ?_
  ·intro X ext HD aD _
   replace hs:=hs.mono aD;replace ht:=ht.mono aD;replace bM:=bM.trans aD;exact wQq rfl rfl rfl (bG rfl (bL rfl rfl (decide_eq_false (by omega)) rfl rfl (aE (bN rfl trivial rfl))))
  refine bJ rfl ?_ ?_
  ·intro X ext HD aD _
   replace hs:=hs.mono aD;replace ht:=ht.mono aD;replace bM:=bM.trans aD;exact wQq rfl rfl rfl (wQq rfl rfl rfl (wQq rfl rfl rfl (wQq rfl rfl rfl (bG rfl (bL rfl rfl (decide_eq_false (by omega)) rfl rfl (aE (bN rfl trivial rfl)))))))
  refine bJ rfl ?_ ?_
  ·intro X ext HD aD _
   replace hs:=hs.mono aD;replace ht:=ht.mono aD;replace bM:=bM.trans aD;exact wQq rfl rfl rfl (wQq rfl rfl rfl (bG rfl (bL rfl rfl (decide_eq_false (by omega)) rfl rfl (aE (bN rfl trivial rfl)))))
  refine bJ rfl ?_ ?_
  ·intro X ext HD aD _
   replace hs:=hs.mono aD;replace ht:=ht.mono aD;replace bM:=bM.trans aD;exact wQq rfl rfl rfl (wQq rfl rfl rfl (bG rfl (dL rfl (decide_eq_false (by omega)) rfl rfl (aE (bN rfl trivial rfl)))))
  refine bJ rfl ?_ ?_
  ·intro X ext HD aD _
   replace hs:=hs.mono aD;replace ht:=ht.mono aD;replace bM:=bM.trans aD;exact wQq rfl rfl rfl (bG rfl (bA rfl rfl (aE (bN rfl trivial rfl))))
  exact gI rfl
 case tail5 =>
  intro HD aD _
  replace hs:=hs.mono aD;replace ht:=ht.mono aD;replace bM:=bM.trans aD;refine wQq rfl rfl rfl (wQq rfl rfl rfl (wQq rfl rfl rfl (wQq rfl rfl rfl (wQq rfl rfl rfl (wQq rfl rfl rfl (wQq rfl rfl rfl (wQq rfl rfl rfl (wQq rfl rfl rfl (wQq rfl rfl rfl (wQq rfl rfl rfl (wQq rfl rfl rfl (wQq rfl rfl rfl (wQq rfl rfl rfl (wQq rfl rfl rfl (bG rfl (fL (bA rfl rfl (aE (aR (bW ?_))))))))))))))))))));refine ⟨rfl,_,[],rfl,(by repeat(first|exact sL _|apply sD|apply sC)),bX.mk ?_⟩
  rfl
theorem cloneX_fn (a : Option Addr) (c : Nat) (l : List Shwn) (H : Hp) (hs : SlR iZ H a c l) (hl : l.length ≤ 1000000)  : FnC Tryz.prog 124 #[.slice a l.length c] H [] (bX (fun v H2 own=>aKm iZ 56 l H2 v own)):=by
 refine FnC.intro (args:=[.slice a l.length c]) Tryz.func124 rfl rfl Tryz.ntmps124 rfl rfl rfl fun G rest=>?_
 refine aZ (aH (bA rfl rfl (aE (aR (aZ (aZ (aH (aU rfl rfl (zN rfl Tryz.underlying29 rfl (aE (aR (iQ 0 (gN rfl (fun nT=>?_) (fun nT=>?_))))))))))))))
 ·obtain rfl:=uM hs nT;refine aZ (aH (bA rfl rfl (aE (aR (bW (bY ?_))))));refine ⟨rfl,_,[_],rfl,(by repeat(first|exact sL _|apply sD|apply sC)),bX.mk ?_⟩
  exact ⟨_,_,_,rfl,rfl,Acc.nil _ _ _ _⟩
 refine bS (aR (aZ (aH (rT (ρ:=iZ) (l:=[]) rfl Tryz.underlying29 lG aGq rfl rfl rfl rfl rfl (fun p5 a5 c5 hacc5=>aU rfl rfl (fB 0 rfl rfl hacc5 rfl rfl hs rfl Tryz.underlying29 lG aGq rfl aNj (by simp;omega) rfl (fun p7 a7 c7 hacc7=>bA rfl rfl (aE (aR (bW ?_))))))))));refine ⟨rfl,_,[_],rfl,(by repeat(first|exact sL _|apply sD|apply sC)),bX.mk ?_⟩
 exact ⟨_,_,_,rfl,rfl,hacc7⟩
set_option maxRecDepth 100000 in
set_option maxHeartbeats 1600000 in
theorem insertX_fn (po : Nat × SObj) (a b : Option Addr) (c d : Nat) (l : List Shwn) (x : Shwn) (H : Hp) (hacc : Acc iZ 56 H po a c l) (ht : SlR iZ H b d [x]) (hl : l.length ≤ 1000000) : FnC Tryz.prog 123 #[.slice a l.length c,.int .i64 (l.length : Nat),.slice b 1 d] H [po] (bX (fun v H2 own=>aKm iZ 56 (l ++ [x]) H2 v own)):=by
 refine FnC.intro (args:=[.slice a l.length c,.int .i64 (l.length : Nat),.slice b 1 d]) Tryz.func123 rfl rfl Tryz.ntmps123 rfl rfl rfl fun G rest=>?_
 refine aZ (aH (bA rfl rfl (aE (aR (aZ (aH (aU rfl rfl (aU rfl rfl (sY (lo':=(l.length : Nat)) (hi':=(l.length : Nat)) (m':=(c : Nat)) rfl (fT rfl) fF fF (by simp) (by omega) (by omega) (by have:=hacc.le;omega) (by omega) Tryz.underlying29 lG rfl ?_)))))))));refine aE (aR (aZ (aH (aU rfl rfl (cH (ts:=#[]) rfl Tryz.underlying29 rfl (bA rfl rfl (aE (aR (aZ (aZ (aH (aU rfl rfl (fY rfl rfl rfl (aE (aR (dY rfl (decide_eq_false (by decide)) (bS (aR (aZ (aH (aU rfl rfl (cH (ts:=#[]) rfl Tryz.underlying29 rfl (bA rfl rfl (aE (aR (aZ (aZ (aH (aU rfl rfl (aU rfl rfl ?_))))))))))))))))))))))))))))));refine fY rfl rfl rfl (aE (aR (eY rfl (decide_eq_true rfl) (aZ (aH (aU rfl rfl (aU rfl rfl (fB 0 rfl rfl hacc rfl rfl ht rfl Tryz.underlying29 lG aGq rfl aNj (by simp;omega) rfl (fun p25 a25 c25 hacc25=>bA rfl rfl (aE (aR (bW (bY ?_)))))))))))));refine ⟨rfl,_,[_],rfl,(by repeat(first|exact sL _|apply sC)),bX.mk ?_⟩
 exact ⟨_,_,_,rfl,rfl,hacc25⟩
theorem putX_fn (a : Option Addr) (c : Nat) (l : List Shwn) (H : Hp) (hs : SlR iZ H a c l) (hl : l.length ≤ 1000000) (t : Shwn) (at_ : Option Addr) (ct : Nat) (ht : SlR (eO .i64) H at_ ct t.K) (hDt : t.D.length = 32) (hall : ∀ x ∈ l,qX x t < 0) (g : Value) : FnC Tryz.prog 78 #[.slice a l.length c,.agg ⟨oR t.J t.K.length t.D at_ ct⟩,.func (.func 61) #[] #[],g] H [] (bX (fun v H2 _=>SlU iZ (l ++ [t]) H2 v)):=by
 refine FnC.intro (args:=[.slice a l.length c,.agg ⟨oR t.J t.K.length t.D at_ ct⟩,.func (.func 61) #[] #[],g]) Tryz.func78 rfl rfl Tryz.ntmps78 rfl rfl rfl fun G rest=>?_
 refine aZ (aH (dZ rfl rfl rfl (fun b5=>bA rfl rfl (aE (aR (aZ (aH (aU rfl rfl (bK 0 rfl rfl lG rfl rfl rfl (aU rfl rfl (bR rfl (searchEX_fn a c l _ hs hl t _ _ ht hDt hall) rfl (aU rfl rfl (bV rfl rfl rfl (bV rfl rfl rfl (bA rfl rfl (bA rfl rfl (aE (aR (aZ (aZ (aH (aU rfl rfl (aE (aR (dY rfl rfl (bS (aR (aZ (cE [0,5,9] rfl ?_)))))))))))))))))))))))))))))
 apply iG (fun _=>True) trivial [1] (by decide) (lH iZ 56 l) (wF _ _ _) 5 [eqF _,rC,eqF _,eqF _,slF iZ [t]] follows (by kernel_rfl) ⟨bB _,gR,bB _,bB _,gX _ _,trivial⟩ (by decide) ?steps2 ?tail2
 case steps2 =>
  refine bJ rfl ?_ ?_
  ·intro X ext HD aD _
   replace hs:=hs.mono aD;replace ht:=ht.mono aD;exact bG rfl (aU rfl rfl (aE (bN rfl trivial rfl)))
  refine bJ rfl ?_ ?_
  ·intro X ext HD aD _
   replace hs:=hs.mono aD;replace ht:=ht.mono aD;refine wQq rfl rfl rfl (bG rfl (lE rfl (cloneX_fn a c l _ hs hl) rfl rfl ?_));rintro _ HG _ hleG ⟨pg,ag,cg,rfl,rfl,haccg⟩
   simp only [List.cons_append,List.nil_append]
   replace hs:=hs.mono hleG;replace ht:=ht.mono hleG;refine aE ?_
   exact kJ rfl trivial trivial (⟨_,_,rfl,haccg⟩)
  refine bJ rfl ?_ ?_
  ·intro X ext HD aD _
   replace hs:=hs.mono aD;replace ht:=ht.mono aD;exact bG rfl (aU rfl rfl (aE (bN rfl trivial rfl)))
  refine bJ rfl ?_ ?_
  ·intro X ext HD aD _
   replace hs:=hs.mono aD;replace ht:=ht.mono aD;exact bG rfl (bK 0 rfl rfl lG rfl rfl rfl (aE (bN rfl trivial rfl)))
  refine bJ rfl ?_ ?_
  ·intro X ext HD aD _
   replace hs:=hs.mono aD;replace ht:=ht.mono aD;refine wQq rfl rfl rfl (bG rfl (dB rfl Tryz.underlying29 lG aGq rfl rfl rfl (fun b32=>dF 0 rfl rfl rfl (fun HP32 oP32 hleP32 hbP32 hoP32=>?_))));replace hs:=hs.mono hleP32;replace ht:=ht.mono hleP32
   have mF:=SlR.lit (ρ:=iZ) (l:=[t]) hbP32 hoP32 (eN.one1 ⟨_,_,rfl,ht,hDt⟩)
   refine aE ?_
   exact bN rfl trivial (⟨_,rfl,mF⟩)
  exact gI rfl
 case tail2 =>
  intro HD aD _
  replace hs:=hs.mono aD;replace ht:=ht.mono aD;refine wQq rfl rfl rfl (dD rfl rfl ?_);rintro _ _;refine wQq rfl rfl rfl (wQq rfl rfl rfl (dD rfl rfl ?_));rintro _ ⟨bs32,rfl,mF⟩;refine bG rfl (iO ?_)
  intro pe hpe
  obtain ⟨ae,ce,rfl,hacce⟩:=hpe _ ⟨_,rfl,rfl⟩;refine fL ?_
  have hcall:=insertX_fn pe ae _ ce _ l t _ hacce mF hl
  refine pA 0 rfl hcall rfl rfl ?_;rintro _ HI _ hleI ⟨pi,ai,ci,rfl,rfl,hacci⟩;refine ⟨_,rfl,?_⟩;replace hs:=hs.mono hleI;replace ht:=ht.mono hleI;replace mF:=mF.mono hleI;replace hacce:=hacce.mono hleI;refine gL 0 rfl hacci rfl (fun HQ3 pN hsQ3=>?_);replace hs:=hs.mono pN;replace ht:=ht.mono pN;replace mF:=mF.mono pN;replace hacce:=hacce.mono pN;refine bA rfl rfl (aE (aR (bW ?_)));refine ⟨rfl,_,[],rfl,(by repeat(first|exact sL _|apply sC)),bX.mk ?_⟩
  exact ⟨_,_,rfl,by assumption⟩
end Go.Proofs

namespace Go.Proofs
open Go.XL
def zY (s : Sess) (x : Card) : Prop:=okC x ∧ x.R = s.R ∧ x.E = s.E ∧ x.J ∈ s.J ∧ (x.C.length : Int) = s.C
def vT (s : Sess) (k : KeySh) : Prop:=k.O ∈ s.J ∧ k.W ∈ s.J ∧ k.O ≠ k.W ∧ (0 ≤ k.C ∧ k.C < s.C) ∧ (0 ≤ k.V ∧ k.V < 1073741789)
def vK (tb : List Int × List Int) (s : Sess) (x : Shwn) : Prop:=∃ card ∈ s.S,card.J = x.J ∧ aKp tb card x.K x.D
structure GoodS (tb : List Int × List Int) (s : Sess) : Prop where
 r : 0 ≤ s.R ∧ s.R < 8
 e : 0 ≤ s.E ∧ s.E < 4096
 c : 0 ≤ s.C - 1 ∧ s.C - 1 < 64
 j : 0 ≤ (s.J.length : Int) - 1 ∧ (s.J.length : Int) - 1 < 24
 n : 0 ≤ s.N - 1 ∧ s.N - 1 < (s.J.length : Int)
 l : 0 ≤ s.L ∧ s.L < 2097152
 t : 0 ≤ s.T ∧ s.T < 2097152
 j1 : fV sgn s.J = true
 j2 : ∀ n ∈ s.J,0 ≤ n ∧ n < 256
 s1 : sO Card.J s.S
 s2 : ∀ x ∈ s.S,zY s x
 k1 : fV qK s.K = true
 k2 : ∀ x ∈ s.K,vT s x
 x1 : sO Shwn.J s.X
 x2 : ∀ x ∈ s.X,vK tb s x
 o : nO s ∨ (s.K.length : Int) + (s.X.length : Int) = 0
 lS : s.S.length ≤ 1000000
 lK : s.K.length ≤ 1000000
 lX : s.X.length ≤ 1000000
theorem aJi {α : Type} {f : α → Int} {l : List α} (h : sO f l) : fV (fun x y=>sgn (f x) (f y)) l = true :=
 yD.2 fun i x y hx hy=>mT.2 (h i (i + 1) x y (by omega) hx hy)
theorem GoodS.s1' {tb : List Int × List Int} {s : Sess} (h : GoodS tb s) : fV qC s.S = true:=aJi h.s1
theorem GoodS.x1' {tb : List Int × List Int} {s : Sess} (h : GoodS tb s) : fV qX s.X = true:=aJi h.x1
def fnR : Rep Value where
 sz:=1
 R:=fun _ cs v=>cs = [v] ∧ v.oneCell' = true
 len:=fun h=>by rw [h.1];rfl
 one:=fun h=>by rw [h.1];simp [mX,h.2]
 mono:=fun _ h=>h
theorem qL (n m : Int) (h : 0 ≤ n ∧ n < m) (H : Hp) : FnC Tryz.prog 43 #[.int .i64 n,.int .i64 m] H [] (bX fun v _ _=>v = .bool true):=by
 have:=jT n m H
 rwa [decide_eq_true h] at this
theorem no7 {k : Nat} {x : Bool} (l : List Bool) (h2 : l[2]? = some false) (hx : l[k]? = some x) (hn : (!x) = false) (hno : 2 < k → False) : 2 < k + 1 → False:=by
 intro h
 rcases Nat.lt_or_ge 2 k with h1 | h1
 ·exact hno h1
 obtain rfl : k = 2:=by omega
 rw [h2] at hx;cases hx;cases hn
theorem all7 {k : Nat} {x : Bool} (h : [true,true,true,true,true,true,true][k]? = some x) : x = true:=by
 have:=List.mem_of_getElem? h
 simpa using this
end Go.Proofs

namespace Go.Proofs
open Go.XL
theorem aFr : fW Tryz.prog 31 0 = some 0:=by kernel_rfl
theorem aF0 : fW Tryz.prog 31 1 = some 1:=by kernel_rfl
theorem vR : fW Tryz.prog 31 2 = some 2:=by kernel_rfl
theorem aJw : fW Tryz.prog 54 3 = some 3:=by kernel_rfl
theorem ty_114 : tyF Tryz.prog 114 1 false = true:=by kernel_rfl
theorem ty_118 : tyF Tryz.prog 118 1 false = true:=by kernel_rfl
theorem ty_122 : tyF Tryz.prog 122 1 false = true:=by kernel_rfl
theorem ty_126 : tyF Tryz.prog 126 1 false = true:=by kernel_rfl
theorem mA : tyF Tryz.prog 71 10 true = true:=by kernel_rfl
theorem allI1_fn (x : Int) (H : Hp) (bg : Nat) (fn : Fn) (us vs : Array Value) (hb : PtH H bg 0 [.func fn us vs]) (hg : FnV Tryz.prog (.func fn us vs) [.int .i64 x] H [] (bX fun v _ _=>v = .bool true)) : FnC Tryz.prog 97 #[.int .i64 x,.pointer (some ⟨bg,0,none⟩)] H [] (bX (fun u _ _=>∃ b : Bool,u = .bool b ∧ (b = true ↔ False))):=by
 refine FnC.intro (args:=[.int .i64 x,.pointer (some ⟨bg,0,none⟩)]) Tryz.func97 rfl rfl Tryz.ntmps97 rfl rfl rfl fun G rest=>?_
 refine aZ (aH (bA rfl rfl (aE (aR (aZ (aH (cQ rfl (by assumption) ty_114 rfl rfl rfl (aU rfl rfl (iI rfl trivial rfl hg rfl ?_)))))))));rintro _ HN oN fO rfl;replace hb:=hb.mono fO;refine fC rfl rfl (bA rfl rfl (aE (aR (bW ?_))));refine ⟨rfl,_,[],rfl,(by repeat(first|exact sL _|apply sC)),bX.mk ?_⟩
 exact ⟨false,rfl,by simp⟩
theorem allI_fn (a : Option Addr) (c : Nat) (l : List Int) (H : Hp) (hs : SlR (eO .i64) H a c l) (hl : l.length < 9223372036854775808) (fn : Fn) (us vs : Array Value) (hg : ∀ x ∈ l,∀ H2,FnV Tryz.prog (.func fn us vs) [.int .i64 x] H2 [] (bX fun v _ _=>v = .bool true)) : FnC Tryz.prog 47 #[.slice a l.length c,.func fn us vs] H [] (bX (fun v _ _=>v = .bool true)):=by
 refine FnC.intro (args:=[.slice a l.length c,.func fn us vs]) Tryz.func47 rfl rfl Tryz.ntmps47 rfl rfl rfl fun G rest=>?_
 refine aZ (aH (dZ rfl rfl rfl (fun b3=>bA rfl rfl (aE (aR (aZ (aH (aU rfl rfl (dF 0 rfl rfl rfl (fun HK3 oK3 oD hbK3 hoK3=>?_))))))))))
 have hpK3:=PtH.of_is hbK3 hoK3
 replace hs:=hs.mono oD;refine gY rfl rfl (jO rfl (yY a c l _ (fun _=>False) _ hs hl (fun x hx=>FnV.of_fn (cap:=[.pointer (some ⟨b3,0,none⟩)]) (args:=[_]) (allI1_fn x _ b3 fn us vs hpK3 (hg x hx _)))) rfl ?_);rintro _ ⟨bq,rfl,hq⟩
 obtain rfl : bq = false:=by
  cases bq with
  | false=>rfl
  | true=>obtain ⟨x,_,h⟩:=hq.1 rfl;exact h.elim
 refine fC rfl rfl (bA rfl rfl (aE (aR (bW ?_))));refine ⟨rfl,_,[],rfl,(by repeat(first|exact sL _|apply sC)),bX.mk ?_⟩
 rfl
theorem allC1_fn (x : Card) (H : Hp) (ax : Option Addr) (cx : Nat) (hx : SlR (eO .i64) H ax cx x.C) (hD : x.D.length = 32) (bg : Nat) (fn : Fn) (us vs : Array Value) (hb : PtH H bg 0 [.func fn us vs]) (hg : FnV Tryz.prog (.func fn us vs) [.agg ⟨fA x.R x.E x.J x.C.length x.D ax cx⟩] H [] (bX fun v _ _=>v = .bool true)) : FnC Tryz.prog 99 #[.agg ⟨fA x.R x.E x.J x.C.length x.D ax cx⟩,.pointer (some ⟨bg,0,none⟩)] H [] (bX (fun u _ _=>∃ b : Bool,u = .bool b ∧ (b = true ↔ False))):=by
 refine FnC.intro (args:=[.agg ⟨fA x.R x.E x.J x.C.length x.D ax cx⟩,.pointer (some ⟨bg,0,none⟩)]) Tryz.func99 rfl rfl Tryz.ntmps99 rfl rfl rfl fun G rest=>?_
 refine aZ (aH (dZ rfl rfl rfl (fun b2=>bA rfl rfl (aE (aR (aZ (aH (cQ rfl (by assumption) ty_118 rfl rfl rfl (bK 0 rfl rfl eI rfl rfl rfl (iI rfl trivial rfl hg rfl ?_))))))))));rintro _ HN oN fO rfl;replace hb:=hb.mono fO;replace hx:=hx.mono fO;refine fC rfl rfl (bA rfl rfl (aE (aR (bW ?_))));refine ⟨rfl,_,[],rfl,(by repeat(first|exact sL _|apply sC)),bX.mk ?_⟩
 exact ⟨false,rfl,by simp⟩
theorem allC_fn (a : Option Addr) (c : Nat) (l : List Card) (H : Hp) (hs : SlR eV H a c l) (hl : l.length < 9223372036854775808) (fn : Fn) (us vs : Array Value) (hg : ∀ (x : Card) (ax : Option Addr) (cx : Nat) (H2 : Hp),LeW H H2 → x ∈ l → SlR (eO .i64) H2 ax cx x.C → x.D.length = 32 → FnV Tryz.prog (.func fn us vs) [.agg ⟨fA x.R x.E x.J x.C.length x.D ax cx⟩] H2 [] (bX fun v _ _=>v = .bool true)) : FnC Tryz.prog 52 #[.slice a l.length c,.func fn us vs] H [] (bX (fun v _ _=>v = .bool true)):=by
 refine FnC.intro (args:=[.slice a l.length c,.func fn us vs]) Tryz.func52 rfl rfl Tryz.ntmps52 rfl rfl rfl fun G rest=>?_
 have hLH : LeW H H:=Le.refl _
 refine aZ (aH (dZ rfl rfl rfl (fun b3=>bA rfl rfl (aE (aR (aZ (aH (aU rfl rfl (dF 0 rfl rfl rfl (fun HK3 oK3 oD hbK3 hoK3=>?_))))))))))
 have hpK3:=PtH.of_is hbK3 hoK3
 replace hs:=hs.mono oD;replace hLH:=hLH.mono oD;refine gY rfl rfl (jO rfl (containsC_fn a c l _ hs hl _ (fun _=>False) (fun x ax cx H2 hle hx h1 h2=>FnV.of_fn (cap:=[.pointer (some ⟨b3,0,none⟩)]) (args:=[_]) (allC1_fn x H2 ax cx h1 h2 b3 fn us vs (hpK3.mono hle) (hg x ax cx H2 (hLH.mono hle) hx h1 h2)))) rfl ?_);rintro _ ⟨bq,rfl,hq⟩
 obtain rfl : bq = false:=by
  cases bq with
  | false=>rfl
  | true=>obtain ⟨x,_,h⟩:=hq.1 rfl;exact h.elim
 refine fC rfl rfl (bA rfl rfl (aE (aR (bW ?_))));refine ⟨rfl,_,[],rfl,(by repeat(first|exact sL _|apply sC)),bX.mk ?_⟩
 rfl
theorem allK1_fn (x : KeySh) (H : Hp) (bg : Nat) (fn : Fn) (us vs : Array Value) (hb : PtH H bg 0 [.func fn us vs]) (hg : FnV Tryz.prog (.func fn us vs) [.agg ⟨pK x⟩] H [] (bX fun v _ _=>v = .bool true)) : FnC Tryz.prog 103 #[.agg ⟨pK x⟩,.pointer (some ⟨bg,0,none⟩)] H [] (bX (fun u _ _=>∃ b : Bool,u = .bool b ∧ (b = true ↔ False))):=by
 refine FnC.intro (args:=[.agg ⟨pK x⟩,.pointer (some ⟨bg,0,none⟩)]) Tryz.func103 rfl rfl Tryz.ntmps103 rfl rfl rfl fun G rest=>?_
 refine aZ (aH (dZ rfl rfl rfl (fun b2=>bA rfl rfl (aE (aR (aZ (aH (cQ rfl (by assumption) ty_122 rfl rfl rfl (bK 0 rfl rfl mH rfl rfl rfl (iI rfl trivial rfl hg rfl ?_))))))))));rintro _ HN oN fO rfl;replace hb:=hb.mono fO;refine fC rfl rfl (bA rfl rfl (aE (aR (bW ?_))));refine ⟨rfl,_,[],rfl,(by repeat(first|exact sL _|apply sC)),bX.mk ?_⟩
 exact ⟨false,rfl,by simp⟩
theorem allK_fn (a : Option Addr) (c : Nat) (l : List KeySh) (H : Hp) (hs : SlR iY H a c l) (hl : l.length < 9223372036854775808) (fn : Fn) (us vs : Array Value) (hg : ∀ (x : KeySh) (H2 : Hp),LeW H H2 → x ∈ l → FnV Tryz.prog (.func fn us vs) [.agg ⟨pK x⟩] H2 [] (bX fun v _ _=>v = .bool true)) : FnC Tryz.prog 57 #[.slice a l.length c,.func fn us vs] H [] (bX (fun v _ _=>v = .bool true)):=by
 refine FnC.intro (args:=[.slice a l.length c,.func fn us vs]) Tryz.func57 rfl rfl Tryz.ntmps57 rfl rfl rfl fun G rest=>?_
 have hLH : LeW H H:=Le.refl _
 refine aZ (aH (dZ rfl rfl rfl (fun b3=>bA rfl rfl (aE (aR (aZ (aH (aU rfl rfl (dF 0 rfl rfl rfl (fun HK3 oK3 oD hbK3 hoK3=>?_))))))))))
 have hpK3:=PtH.of_is hbK3 hoK3
 replace hs:=hs.mono oD;replace hLH:=hLH.mono oD;refine gY rfl rfl (jO rfl (containsK_fn a c l _ hs hl _ (fun _=>False) (fun x H2 hle hx=>FnV.of_fn (cap:=[.pointer (some ⟨b3,0,none⟩)]) (args:=[_]) (allK1_fn x H2 b3 fn us vs (hpK3.mono hle) (hg x H2 (hLH.mono hle) hx)))) rfl ?_);rintro _ ⟨bq,rfl,hq⟩
 obtain rfl : bq = false:=by
  cases bq with
  | false=>rfl
  | true=>obtain ⟨x,_,h⟩:=hq.1 rfl;exact h.elim
 refine fC rfl rfl (bA rfl rfl (aE (aR (bW ?_))));refine ⟨rfl,_,[],rfl,(by repeat(first|exact sL _|apply sC)),bX.mk ?_⟩
 rfl
theorem allX1_fn (x : Shwn) (H : Hp) (ax : Option Addr) (cx : Nat) (hx : SlR (eO .i64) H ax cx x.K) (hD : x.D.length = 32) (bg : Nat) (fn : Fn) (us vs : Array Value) (hb : PtH H bg 0 [.func fn us vs]) (hg : FnV Tryz.prog (.func fn us vs) [.agg ⟨oR x.J x.K.length x.D ax cx⟩] H [] (bX fun v _ _=>v = .bool true)) : FnC Tryz.prog 105 #[.agg ⟨oR x.J x.K.length x.D ax cx⟩,.pointer (some ⟨bg,0,none⟩)] H [] (bX (fun u _ _=>∃ b : Bool,u = .bool b ∧ (b = true ↔ False))):=by
 refine FnC.intro (args:=[.agg ⟨oR x.J x.K.length x.D ax cx⟩,.pointer (some ⟨bg,0,none⟩)]) Tryz.func105 rfl rfl Tryz.ntmps105 rfl rfl rfl fun G rest=>?_
 refine aZ (aH (dZ rfl rfl rfl (fun b2=>bA rfl rfl (aE (aR (aZ (aH (cQ rfl (by assumption) ty_126 rfl rfl rfl (bK 0 rfl rfl lG rfl rfl rfl (iI rfl trivial rfl hg rfl ?_))))))))));rintro _ HN oN fO rfl;replace hb:=hb.mono fO;replace hx:=hx.mono fO;refine fC rfl rfl (bA rfl rfl (aE (aR (bW ?_))));refine ⟨rfl,_,[],rfl,(by repeat(first|exact sL _|apply sC)),bX.mk ?_⟩
 exact ⟨false,rfl,by simp⟩
theorem allX_fn (a : Option Addr) (c : Nat) (l : List Shwn) (H : Hp) (hs : SlR iZ H a c l) (hl : l.length < 9223372036854775808) (fn : Fn) (us vs : Array Value) (hg : ∀ (x : Shwn) (ax : Option Addr) (cx : Nat) (H2 : Hp),LeW H H2 → x ∈ l → SlR (eO .i64) H2 ax cx x.K → x.D.length = 32 → FnV Tryz.prog (.func fn us vs) [.agg ⟨oR x.J x.K.length x.D ax cx⟩] H2 [] (bX fun v _ _=>v = .bool true)) : FnC Tryz.prog 62 #[.slice a l.length c,.func fn us vs] H [] (bX (fun v _ _=>v = .bool true)):=by
 refine FnC.intro (args:=[.slice a l.length c,.func fn us vs]) Tryz.func62 rfl rfl Tryz.ntmps62 rfl rfl rfl fun G rest=>?_
 have hLH : LeW H H:=Le.refl _
 refine aZ (aH (dZ rfl rfl rfl (fun b3=>bA rfl rfl (aE (aR (aZ (aH (aU rfl rfl (dF 0 rfl rfl rfl (fun HK3 oK3 oD hbK3 hoK3=>?_))))))))))
 have hpK3:=PtH.of_is hbK3 hoK3
 replace hs:=hs.mono oD;replace hLH:=hLH.mono oD;refine gY rfl rfl (jO rfl (containsX_fn a c l _ hs hl _ (fun _=>False) (fun x ax cx H2 hle hx h1 h2=>FnV.of_fn (cap:=[.pointer (some ⟨b3,0,none⟩)]) (args:=[_]) (allX1_fn x H2 ax cx h1 h2 b3 fn us vs (hpK3.mono hle) (hg x ax cx H2 (hLH.mono hle) hx h1 h2)))) rfl ?_);rintro _ ⟨bq,rfl,hq⟩
 obtain rfl : bq = false:=by
  cases bq with
  | false=>rfl
  | true=>obtain ⟨x,_,h⟩:=hq.1 rfl;exact h.elim
 refine fC rfl rfl (bA rfl rfl (aE (aR (bW ?_))));refine ⟨rfl,_,[],rfl,(by repeat(first|exact sL _|apply sC)),bX.mk ?_⟩
 rfl
theorem right11_fn (x : Int) (H : Hp) (hx : 0 ≤ x ∧ x < 256) : FnC Tryz.prog 48 #[.int .i64 x] H [] (bX (fun v _ _=>v = .bool true)):=by
 refine FnC.intro (args:=[.int .i64 x]) Tryz.func48 rfl rfl Tryz.ntmps48 rfl rfl rfl fun G rest=>?_
 refine aZ (aH (bA rfl rfl (aE (aR (aZ (aH (aU rfl rfl (bR rfl (jT x 256 _) rfl (bA rfl rfl (aE (aR (bW ?_))))))))))));refine ⟨rfl,_,[],rfl,(by repeat(first|exact sL _|apply sC)),bX.mk ?_⟩
 exact congrArg Value.bool (decide_eq_true hx)
theorem aHl (s : Sess) (aJ aS aK aX : Option Addr) (cJ cS cK cX : Nat) (H : Hp) (hJ : SlR (eO .i64) H aJ cJ s.J) (hS : SlR eV H aS cS s.S) (hK : SlR iY H aK cK s.K) (hX : SlR iZ H aX cX s.X) (x : Card) (ax : Option Addr) (cx : Nat) (hx : SlR (eO .i64) H ax cx x.C) (hD : x.D.length = 32) (hlJ : s.J.length ≤ 1000000) (hq : zY s x) : FnC Tryz.prog 53 #[.agg ⟨eR s aJ aS aK aX cJ cS cK cX⟩,.agg ⟨fA x.R x.E x.J x.C.length x.D ax cx⟩] H [] (bX (fun v _ _=>v = .bool true)):=by
 refine FnC.intro (args:=[.agg ⟨eR s aJ aS aK aX cJ cS cK cX⟩,.agg ⟨fA x.R x.E x.J x.C.length x.D ax cx⟩]) Tryz.func53 rfl rfl Tryz.ntmps53 rfl rfl rfl fun G rest=>?_
 refine aZ (aH (dZ rfl rfl rfl (fun b2=>dZ rfl rfl rfl (fun b3=>bA rfl rfl (aE (aR (aZ (aH (bK 0 rfl rfl eI rfl rfl rfl (bR rfl (nF x _ _ _ hx hD (by have:=hq.1.2.1;omega)) rfl (fY rfl rfl rfl (aU rfl rfl (bE rfl rfl (decide_eq_true (gF.2 hq.1)) rfl (bD rfl rX rfl (bE rfl rfl (decide_eq_true (gF.2 hq.1)) rfl (bK 0 rfl rfl dT rfl rfl rfl (bE rfl rfl (decide_eq_true (gF.2 hq.1)) rfl (bD rfl eQ rfl (bE rfl rfl (decide_eq_true (gF.2 hq.1)) rfl (bD rfl aFr rfl (bE rfl rfl (decide_eq_true (gF.2 hq.1)) rfl (bK 1 rfl rfl dT rfl rfl rfl (bE rfl rfl (decide_eq_true (gF.2 hq.1)) rfl (fY rfl rfl rfl (dE rfl (decide_eq_true (gF.2 hq.1)) rfl rfl (aU rfl rfl (bE rfl rfl (decide_eq_true hq.2.1) rfl (bD rfl rM rfl (bE rfl rfl (decide_eq_true hq.2.1) rfl (bK 0 rfl rfl dT rfl rfl rfl ?_))))))))))))))))))))))))))))));refine bE rfl rfl (decide_eq_true hq.2.1) rfl (bD rfl eQ rfl (bE rfl rfl (decide_eq_true hq.2.1) rfl (bD rfl aF0 rfl (bE rfl rfl (decide_eq_true hq.2.1) rfl (bK 1 rfl rfl dT rfl rfl rfl (bE rfl rfl (decide_eq_true hq.2.1) rfl (fY rfl rfl rfl (dE rfl (decide_eq_true hq.2.1) rfl rfl (aU rfl rfl (bE rfl rfl (decide_eq_true hq.2.2.1) rfl (bK 1 rfl rfl mA rfl rfl rfl (bE rfl rfl (decide_eq_true hq.2.2.1) rfl (bD rfl lB rfl (bE rfl rfl (decide_eq_true hq.2.2.1) rfl (bK 0 rfl rfl dT rfl rfl rfl (bE rfl rfl (decide_eq_true hq.2.2.1) rfl (bR rfl (aBu s aJ aS aK aX cJ cS cK cX _ hJ hS hK hX (x.J) (by omega)) rfl (dE rfl (decide_eq_true hq.2.2.1) rfl rfl (aU rfl rfl (bE rfl rfl (decide_eq_true hq.2.2.2.1) rfl (bD rfl pR rfl (bE rfl rfl (decide_eq_true hq.2.2.2.1) rfl (bK 0 rfl rfl gZ rfl rfl rfl (bE rfl rfl (decide_eq_true hq.2.2.2.1) rfl (cH (ts:=#[]) rfl Tryz.underlying26 rfl (bE rfl rfl (decide_eq_true hq.2.2.2.1) rfl (bD rfl eQ rfl (bE rfl rfl (decide_eq_true hq.2.2.2.1) rfl (bD rfl vR rfl (bE rfl rfl (decide_eq_true hq.2.2.2.1) rfl ?_))))))))))))))))))))))))))))));refine bK 1 rfl rfl dT rfl rfl rfl (bE rfl rfl (decide_eq_true hq.2.2.2.1) rfl (fY rfl rfl rfl (dE rfl (decide_eq_true hq.2.2.2.1) rfl rfl (bA rfl rfl (aE (aR (bW ?_)))))));refine ⟨rfl,_,[],rfl,(by repeat(first|exact sL _|apply sC)),bX.mk ?_⟩
 exact congrArg Value.bool (decide_eq_true hq.2.2.2.2)
theorem aDt (s : Sess) (aJ aS aK aX : Option Addr) (cJ cS cK cX : Nat) (H : Hp) (hJ : SlR (eO .i64) H aJ cJ s.J) (hS : SlR eV H aS cS s.S) (hK : SlR iY H aK cK s.K) (hX : SlR iZ H aX cX s.X) (x : KeySh) (hlJ : s.J.length ≤ 1000000) (hq : vT s x) : FnC Tryz.prog 58 #[.agg ⟨eR s aJ aS aK aX cJ cS cK cX⟩,.agg ⟨pK x⟩] H [] (bX (fun v _ _=>v = .bool true)):=by
 refine FnC.intro (args:=[.agg ⟨eR s aJ aS aK aX cJ cS cK cX⟩,.agg ⟨pK x⟩]) Tryz.func58 rfl rfl Tryz.ntmps58 rfl rfl rfl fun G rest=>?_
 refine aZ (aH (dZ rfl rfl rfl (fun b2=>dZ rfl rfl rfl (fun b3=>bA rfl rfl (aE (aR (aZ (aH (bK 1 rfl rfl mA rfl rfl rfl (bD rfl yR rfl (bK 0 rfl rfl dT rfl rfl rfl (bR rfl (aBu s aJ aS aK aX cJ cS cK cX _ hJ hS hK hX (x.O) (by omega)) rfl (aU rfl rfl (bE rfl rfl (decide_eq_true hq.1) rfl (bK 1 rfl rfl mA rfl rfl rfl (bE rfl rfl (decide_eq_true hq.1) rfl (bD rfl yT rfl (bE rfl rfl (decide_eq_true hq.1) rfl (bK 0 rfl rfl dT rfl rfl rfl (bE rfl rfl (decide_eq_true hq.1) rfl (bR rfl (aBu s aJ aS aK aX cJ cS cK cX _ hJ hS hK hX (x.W) (by omega)) rfl (dE rfl (decide_eq_true hq.1) rfl rfl (aU rfl rfl (bE rfl rfl (decide_eq_true hq.2.1) rfl (bD rfl yR rfl (bE rfl rfl (decide_eq_true hq.2.1) rfl (bK 0 rfl rfl dT rfl rfl rfl (bE rfl rfl (decide_eq_true hq.2.1) rfl (bD rfl yT rfl (bE rfl rfl (decide_eq_true hq.2.1) rfl ?_))))))))))))))))))))))))))))));refine bK 0 rfl rfl dT rfl rfl rfl (bE rfl rfl (decide_eq_true hq.2.1) rfl (fZ rfl rfl rfl (dE rfl (decide_eq_true hq.2.1) rfl rfl (aU rfl rfl (bE rfl rfl (decide_eq_true hq.2.2.1) rfl (bD rfl aA9 rfl (bE rfl rfl (decide_eq_true hq.2.2.1) rfl (bK 0 rfl rfl dT rfl rfl rfl (bE rfl rfl (decide_eq_true hq.2.2.1) rfl (bD rfl eQ rfl (bE rfl rfl (decide_eq_true hq.2.2.1) rfl (bD rfl vR rfl (bE rfl rfl (decide_eq_true hq.2.2.1) rfl (bK 1 rfl rfl dT rfl rfl rfl (bE rfl rfl (decide_eq_true hq.2.2.1) rfl (bR rfl (jT x.C s.C _) rfl (dE rfl (decide_eq_true hq.2.2.1) rfl rfl (aU rfl rfl (bE rfl rfl (decide_eq_true hq.2.2.2.1) rfl (bD rfl aJw rfl (bE rfl rfl (decide_eq_true hq.2.2.2.1) rfl (bK 0 rfl rfl dT rfl rfl rfl (bE rfl rfl (decide_eq_true hq.2.2.2.1) rfl (bR rfl (jT x.V 1073741789 _) rfl (dE rfl (decide_eq_true hq.2.2.2.1) rfl rfl (bA rfl rfl (aE (aR (bW ?_)))))))))))))))))))))))))))));refine ⟨rfl,_,[],rfl,(by repeat(first|exact sL _|apply sC)),bX.mk ?_⟩
 exact congrArg Value.bool (decide_eq_true hq.2.2.2.2)
theorem aI2 (s : Sess) (aJ aS aK aX : Option Addr) (cJ cS cK cX : Nat) (H : Hp) (hJ : SlR (eO .i64) H aJ cJ s.J) (hS : SlR eV H aS cS s.S) (hK : SlR iY H aK cK s.K) (hX : SlR iZ H aX cX s.X) (n : Int) (i : Nat) (x : Card) (hx : s.S[i]? = some x) (hxn : x.J = n) (hr : sO Card.J s.S) (hlS : s.S.length ≤ 1000000) : FnC Tryz.prog 65 #[.agg ⟨eR s aJ aS aK aX cJ cS cK cX⟩,.int .i64 n] H [] (bX (fun v H2 _=>∃ a c,v = .tuple #[.agg ⟨fA x.R x.E x.J x.C.length x.D a c⟩,.bool true] ∧ SlR (eO .i64) H2 a c x.C ∧ x.D.length = 32)):=by
 refine FnC.introC (args:=[.agg ⟨eR s aJ aS aK aX cJ cS cK cX⟩,.int .i64 n]) Tryz.func65 rfl rfl Tryz.ntmps65 rfl rfl rfl fun G rest=>?_
 refine aZ (aH (dZ rfl rfl rfl (fun b2=>dC lY rfl (fun b4=>bA rfl rfl (aE (aR (aZ (aH (bD rfl eQ rfl (bD rfl uA rfl (bK 1 rfl rfl gQ rfl rfl rfl (aU rfl rfl (jO rfl (searchC_fn _ _ s.S _ hS hlS n hr) rfl ?_)))))))))))));rintro _ ⟨i0,rfl,hi0⟩
 have hix:=hi0 x (List.mem_of_getElem? hx) hxn
 have hil:=(List.getElem?_eq_some_iff.1 hix).1
 refine aU rfl rfl (bV rfl rfl rfl (bV rfl rfl rfl (bA rfl rfl (bA rfl rfl (aE (aR (aZ (aZ (aH (aU rfl rfl (sE rfl rfl (aE (aR (dY rfl (decide_eq_false (fun h=>h ⟨x,List.mem_of_getElem? hx,hxn⟩)) (bS (aR (aZ (aH (bD rfl eQ rfl (bD rfl uA rfl (bK 1 rfl rfl gQ rfl rfl rfl (aU rfl rfl (dK (i:=i0) rfl hS rfl Tryz.underlying27 eI (by omega) rfl ?_)))))))))))))))))))))));rintro eb22 eo22 _ x22 hx22 ⟨ax22,cx22,rfl,hd22,hD22⟩ hp22;refine cQ rfl (by assumption) eI rfl rfl rfl (bZ 0 rfl rfl rfl rfl eI rfl rfl rfl rfl rfl (bA rfl rfl (aE (aR (bW ?_)))));refine ⟨rfl,_,[],(fH 0 rfl rfl eI rfl rfl (iK rfl gB)),(by repeat(first|exact sL _|apply sC)),bX.mk ?_⟩;obtain rfl:=Option.some.inj (hix.symm.trans hx22)
 exact ⟨_,_,rfl,hd22,hD22⟩
theorem aHk (tb : List Int × List Int) (s : Sess) (aJ aS aK aX : Option Addr) (cJ cS cK cX : Nat) (H : Hp) (hJ : SlR (eO .i64) H aJ cJ s.J) (hS : SlR eV H aS cS s.S) (hK : SlR iY H aK cK s.K) (hX : SlR iZ H aX cX s.X) (hT : TB H tb) (x : Shwn) (ax : Option Addr) (cx : Nat) (hx : SlR (eO .i64) H ax cx x.K) (hD : x.D.length = 32) (hr : sO Card.J s.S) (hlS : s.S.length ≤ 1000000) (hq : vK tb s x) : FnC Tryz.prog 63 #[.agg ⟨eR s aJ aS aK aX cJ cS cK cX⟩,.agg ⟨oR x.J x.K.length x.D ax cx⟩] H [] (bX (fun v _ _=>v = .bool true)):=by
 refine FnC.intro (args:=[.agg ⟨eR s aJ aS aK aX cJ cS cK cX⟩,.agg ⟨oR x.J x.K.length x.D ax cx⟩]) Tryz.func63 rfl rfl Tryz.ntmps63 rfl rfl rfl fun G rest=>?_
 obtain ⟨cd,hcd,hJ2,hop⟩:=hq;obtain ⟨i,hi⟩:=List.mem_iff_getElem?.1 hcd;refine aZ (aH (dZ rfl rfl rfl (fun b2=>dZ rfl rfl rfl (fun b3=>bA rfl rfl (aE (aR (aZ (aH (bK 1 rfl rfl mA rfl rfl rfl (bD rfl aA1 rfl (bK 0 rfl rfl dT rfl rfl rfl (fI rfl (aI2 s aJ aS aK aX cJ cS cK cX _ hJ hS hK hX x.J i cd hi hJ2 hr hlS) rfl ?_))))))))))));rintro _ HN13 hleN13 ⟨aD13,cD13,rfl,hdD13,hDD13⟩;replace hJ:=hJ.mono hleN13;replace hS:=hS.mono hleN13;replace hK:=hK.mono hleN13;replace hX:=hX.mono hleN13;replace hT:=hT.mono hleN13;replace hx:=hx.mono hleN13;refine aU rfl rfl (bV rfl rfl rfl (bV rfl rfl rfl (dC lY rfl (fun b5=>bZ 0 rfl rfl rfl rfl eI rfl rfl rfl rfl rfl (bA rfl rfl (aE (aR (aZ (aZ (aH (aU rfl rfl (fC rfl rfl (aE (aR (dY rfl rfl (bS (aR (aZ (aH (bK 0 rfl rfl eI rfl rfl rfl (bD rfl aJf rfl (bK 1 rfl rfl gZ rfl rfl rfl (bD rfl aI0 rfl (bK 1 rfl rfl oA rfl rfl rfl (lE (lH:=[]) rfl (aJe tb _ hT cd aD13 cD13 hdD13 hDD13 _ _ x.K x.D hx hD hop) rfl rfl ?_)))))))))))))))))))))))));rintro _ HO _ uD ⟨rfl,aO,cO,rfl,hO⟩
 simp only [List.nil_append]
 replace hJ:=hJ.mono uD;replace hS:=hS.mono uD;replace hK:=hK.mono uD;replace hX:=hX.mono uD;replace hT:=hT.mono uD;replace hx:=hx.mono uD;replace hdD13:=hdD13.mono uD;refine aU rfl rfl (bV rfl rfl rfl (bV rfl rfl rfl (bV rfl rfl rfl (bA rfl rfl (bA rfl rfl (bA rfl rfl (aE (aR (aZ (aH (aU rfl rfl (aU rfl rfl (bE rfl rfl rfl rfl (aU rfl rfl (bE rfl rfl rfl rfl (fY rfl rfl rfl (dE rfl rfl rfl rfl (bA rfl rfl (aE (aR (bW ?_)))))))))))))))))))));refine ⟨rfl,_,[],rfl,(by repeat(first|exact sL _|apply sC)),bX.mk ?_⟩
 rfl
end Go.Proofs

namespace Go.Proofs
open Go.XL
theorem aAp : lW Tryz.prog 71 = some [(0,10)]:=by kernel_rfl
theorem aAo : mB Tryz.prog 71 = true:=by kernel_rfl
theorem vN : fW Tryz.prog 31 4 = some 4:=by kernel_rfl
theorem vW : fW Tryz.prog 31 8 = some 8:=by kernel_rfl
theorem pQ : fW Tryz.prog 31 9 = some 9:=by kernel_rfl
theorem aD4 : tyF Tryz.prog 28 1 false = true:=by kernel_rfl
theorem zB : tyF Tryz.prog 29 1 false = true:=by kernel_rfl
theorem gV : tyF Tryz.prog 31 10 true = true:=by kernel_rfl
theorem aKr : tyF Tryz.prog 72 1 false = true:=by kernel_rfl
theorem aMo : gH Tryz.prog 4 = some [.bool false]:=by kernel_rfl
theorem zC : gH Tryz.prog 71 = some [.int .i64 0,.int .i64 0,.int .i64 0,.slice none 0 0,.int .i64 0,.int .i64 0,.int .i64 0,.slice none 0 0,.slice none 0 0,.slice none 0 0]:=by kernel_rfl
theorem ze_72 : gH Tryz.prog 72 = some [.nilFunc]:=by kernel_rfl
theorem right1_fn (tb : List Int × List Int) (s : Sess) (aJ aS aK aX : Option Addr) (cJ cS cK cX : Nat) (H : Hp) (hJ : SlR (eO .i64) H aJ cJ s.J) (hS : SlR eV H aS cS s.S) (hK : SlR iY H aK cK s.K) (hX : SlR iZ H aX cX s.X) (hT : TB H tb) (hg : GoodS tb s) (bs : Nat) (hb : PtH H bs 0 (eR s aJ aS aK aX cJ cS cK cX)) : FnC Tryz.prog 44 #[.pointer (some ⟨bs,0,none⟩)] H [] (bX (fun v _ _=>v = .bool true)):=by
 refine FnC.intro (args:=[.pointer (some ⟨bs,0,none⟩)]) Tryz.func44 rfl rfl Tryz.ntmps44 rfl rfl rfl fun G rest=>?_
 refine aZ (aH (bA rfl rfl (aE (aR (aZ (aH (bD rfl eQ rfl (bD rfl pY rfl (gG rfl (by assumption) gZ rfl rfl rfl (bR rfl (risesI_fn _ _ s.J _ hJ (by have:=hg.j;omega) (.func (.func 46) #[] #[]) sgn (fun x y H2 _ _ _=>FnV.of_fn (cap:=[]) (args:=[_,_]) (tQ x y H2))) rfl (aU rfl rfl (bE rfl rfl (hg.j1) rfl (bD rfl eQ rfl (bE rfl rfl (hg.j1) rfl (bD rfl pY rfl (bE rfl rfl (hg.j1) rfl (gG rfl (by assumption) gZ rfl rfl rfl (bE rfl rfl (hg.j1) rfl (bR rfl (allI_fn _ _ s.J _ hJ (by have:=hg.j;omega) (.func 48) #[] #[] (fun x hx H2=>FnV.of_fn (cap:=[]) (args:=[_]) (right11_fn x H2 (hg.j2 x hx)))) rfl (dE rfl (hg.j1) rfl rfl (bA rfl rfl (aE (aR (bW ?_))))))))))))))))))))))));refine ⟨rfl,_,[],rfl,(by repeat(first|exact sL _|apply sC)),bX.mk ?_⟩
 rfl
theorem right2_fn (tb : List Int × List Int) (s : Sess) (aJ aS aK aX : Option Addr) (cJ cS cK cX : Nat) (H : Hp) (hJ : SlR (eO .i64) H aJ cJ s.J) (hS : SlR eV H aS cS s.S) (hK : SlR iY H aK cK s.K) (hX : SlR iZ H aX cX s.X) (hT : TB H tb) (hg : GoodS tb s) (bs : Nat) (hb : PtH H bs 0 (eR s aJ aS aK aX cJ cS cK cX)) : FnC Tryz.prog 49 #[.pointer (some ⟨bs,0,none⟩)] H [] (bX (fun v _ _=>v = .bool true)):=by
 refine FnC.intro (args:=[.pointer (some ⟨bs,0,none⟩)]) Tryz.func49 rfl rfl Tryz.ntmps49 rfl rfl rfl fun G rest=>?_
 refine aZ (aH (bA rfl rfl (aE (aR (aZ (aH (bD rfl eQ rfl (bD rfl uA rfl (gG rfl (by assumption) gQ rfl rfl rfl (bR rfl (risesC_fn _ _ s.S _ hS (by have:=hg.lS;omega) (.func (.func 51) #[] #[]) qC (fun x y ax ay cx cy H2 _ _ _ h1 h2 h3 h4=>FnV.of_fn (cap:=[]) (args:=[_,_]) (aDm x y ax ay cx cy H2 h1 h2 h3 h4))) rfl (aU rfl rfl (bE rfl rfl (hg.s1') rfl (bD rfl eQ rfl (bE rfl rfl (hg.s1') rfl (bD rfl uA rfl (bE rfl rfl (hg.s1') rfl (gG rfl (by assumption) gQ rfl rfl rfl (bE rfl rfl (hg.s1') rfl (cQ rfl (by assumption) mA rfl rfl rfl (bE rfl rfl (hg.s1') rfl (kZ rfl rfl rfl (bE rfl rfl (hg.s1') rfl (bR rfl (allC_fn _ _ s.S _ hS (by have:=hg.lS;omega) (.func 53) #[.agg ⟨eR s aJ aS aK aX cJ cS cK cX⟩] #[] (fun x ax cx H2 hle hx h1 h2=>FnV.of_first (fst:=[.agg ⟨eR s aJ aS aK aX cJ cS cK cX⟩]) (cap:=[]) (args:=[_]) (aHl s aJ aS aK aX cJ cS cK cX H2 (hJ.mono hle) (hS.mono hle) (hK.mono hle) (hX.mono hle) x ax cx h1 h2 (by have:=hg.j;omega) (hg.s2 x hx)))) rfl (dE rfl (hg.s1') rfl rfl (bA rfl rfl (aE (aR (bW ?_))))))))))))))))))))))))))));refine ⟨rfl,_,[],rfl,(by repeat(first|exact sL _|apply sC)),bX.mk ?_⟩
 rfl
theorem right3_fn (tb : List Int × List Int) (s : Sess) (aJ aS aK aX : Option Addr) (cJ cS cK cX : Nat) (H : Hp) (hJ : SlR (eO .i64) H aJ cJ s.J) (hS : SlR eV H aS cS s.S) (hK : SlR iY H aK cK s.K) (hX : SlR iZ H aX cX s.X) (hT : TB H tb) (hg : GoodS tb s) (bs : Nat) (hb : PtH H bs 0 (eR s aJ aS aK aX cJ cS cK cX)) : FnC Tryz.prog 54 #[.pointer (some ⟨bs,0,none⟩)] H [] (bX (fun v _ _=>v = .bool true)):=by
 refine FnC.intro (args:=[.pointer (some ⟨bs,0,none⟩)]) Tryz.func54 rfl rfl Tryz.ntmps54 rfl rfl rfl fun G rest=>?_
 refine aZ (aH (bA rfl rfl (aE (aR (aZ (aH (bD rfl eQ rfl (bD rfl vW rfl (gG rfl (by assumption) aD4 rfl rfl rfl (bR rfl (risesK_fn _ _ s.K _ hK (by have:=hg.lK;omega) (.func (.func 56) #[] #[]) qK (fun x y H2 _ _ _=>FnV.of_fn (cap:=[]) (args:=[_,_]) (aB2 x y H2))) rfl (aU rfl rfl (bE rfl rfl (hg.k1) rfl (bD rfl eQ rfl (bE rfl rfl (hg.k1) rfl (bD rfl vW rfl (bE rfl rfl (hg.k1) rfl (gG rfl (by assumption) aD4 rfl rfl rfl (bE rfl rfl (hg.k1) rfl (cQ rfl (by assumption) mA rfl rfl rfl (bE rfl rfl (hg.k1) rfl (kZ rfl rfl rfl (bE rfl rfl (hg.k1) rfl (bR rfl (allK_fn _ _ s.K _ hK (by have:=hg.lK;omega) (.func 58) #[.agg ⟨eR s aJ aS aK aX cJ cS cK cX⟩] #[] (fun x H2 hle hx=>FnV.of_first (fst:=[.agg ⟨eR s aJ aS aK aX cJ cS cK cX⟩]) (cap:=[]) (args:=[_]) (aDt s aJ aS aK aX cJ cS cK cX H2 (hJ.mono hle) (hS.mono hle) (hK.mono hle) (hX.mono hle) x (by have:=hg.j;omega) (hg.k2 x hx)))) rfl (dE rfl (hg.k1) rfl rfl (bA rfl rfl (aE (aR (bW ?_))))))))))))))))))))))))))));refine ⟨rfl,_,[],rfl,(by repeat(first|exact sL _|apply sC)),bX.mk ?_⟩
 rfl
theorem right4_fn (tb : List Int × List Int) (s : Sess) (aJ aS aK aX : Option Addr) (cJ cS cK cX : Nat) (H : Hp) (hJ : SlR (eO .i64) H aJ cJ s.J) (hS : SlR eV H aS cS s.S) (hK : SlR iY H aK cK s.K) (hX : SlR iZ H aX cX s.X) (hT : TB H tb) (hg : GoodS tb s) (bs : Nat) (hb : PtH H bs 0 (eR s aJ aS aK aX cJ cS cK cX)) : FnC Tryz.prog 59 #[.pointer (some ⟨bs,0,none⟩)] H [] (bX (fun v _ _=>v = .bool true)):=by
 refine FnC.intro (args:=[.pointer (some ⟨bs,0,none⟩)]) Tryz.func59 rfl rfl Tryz.ntmps59 rfl rfl rfl fun G rest=>?_
 refine aZ (aH (bA rfl rfl (aE (aR (aZ (aH (bD rfl eQ rfl (bD rfl pQ rfl (gG rfl (by assumption) zB rfl rfl rfl (bR rfl (risesX_fn _ _ s.X _ hX (by have:=hg.lX;omega) (.func (.func 61) #[] #[]) qX (fun x y ax ay cx cy H2 _ _ _ h1 h2 h3 h4=>FnV.of_fn (cap:=[]) (args:=[_,_]) (aBx x y ax ay cx cy H2 h1 h2 h3 h4))) rfl (aU rfl rfl (bE rfl rfl (hg.x1') rfl (bD rfl eQ rfl (bE rfl rfl (hg.x1') rfl (bD rfl pQ rfl (bE rfl rfl (hg.x1') rfl (gG rfl (by assumption) zB rfl rfl rfl (bE rfl rfl (hg.x1') rfl (cQ rfl (by assumption) mA rfl rfl rfl (bE rfl rfl (hg.x1') rfl (kZ rfl rfl rfl (bE rfl rfl (hg.x1') rfl (bR rfl (allX_fn _ _ s.X _ hX (by have:=hg.lX;omega) (.func 63) #[.agg ⟨eR s aJ aS aK aX cJ cS cK cX⟩] #[] (fun x ax cx H2 hle hx h1 h2=>FnV.of_first (fst:=[.agg ⟨eR s aJ aS aK aX cJ cS cK cX⟩]) (cap:=[]) (args:=[_]) (aHk tb s aJ aS aK aX cJ cS cK cX H2 (hJ.mono hle) (hS.mono hle) (hK.mono hle) (hX.mono hle) (hT.mono hle) x ax cx h1 h2 hg.s1 hg.lS (hg.x2 x hx)))) rfl (dE rfl (hg.x1') rfl rfl (bA rfl rfl (aE (aR (bW ?_))))))))))))))))))))))))))));refine ⟨rfl,_,[],rfl,(by repeat(first|exact sL _|apply sC)),bX.mk ?_⟩
 rfl
theorem right5_fn (tb : List Int × List Int) (s : Sess) (aJ aS aK aX : Option Addr) (cJ cS cK cX : Nat) (H : Hp) (hJ : SlR (eO .i64) H aJ cJ s.J) (hS : SlR eV H aS cS s.S) (hK : SlR iY H aK cK s.K) (hX : SlR iZ H aX cX s.X) (hT : TB H tb) (hg : GoodS tb s) (bs : Nat) (hb : PtH H bs 0 (eR s aJ aS aK aX cJ cS cK cX)) : FnC Tryz.prog 64 #[.pointer (some ⟨bs,0,none⟩)] H [] (bX (fun v _ _=>v = .bool true)):=by
 refine FnC.intro (args:=[.pointer (some ⟨bs,0,none⟩)]) Tryz.func64 rfl rfl Tryz.ntmps64 rfl rfl rfl fun G rest=>?_
 refine aZ (aH (bA rfl rfl (aE (aR (aZ (aH ?_))))))
 have hlK:=hg.lK
 have hlX:=hg.lX
 refine cQ rfl (by assumption) mA rfl rfl rfl (bR rfl (vO s aJ aS aK aX cJ cS cK cX _ hJ hS hK hX) rfl (aU rfl rfl (eW rfl rfl rfl rfl (fun g2=>?_) (fun g2=>?_))))
 ·have g2p:=of_decide_eq_false g2
  refine bD rfl eQ rfl (bE rfl rfl (g2) rfl (bD rfl vW rfl (bE rfl rfl (g2) rfl (gG rfl (by assumption) aD4 rfl rfl rfl (bE rfl rfl (g2) rfl (cH (ts:=#[]) rfl Tryz.underlying28 rfl (bE rfl rfl (g2) rfl (bD rfl eQ rfl (bE rfl rfl (g2) rfl (bD rfl pQ rfl (bE rfl rfl (g2) rfl (gG rfl (by assumption) zB rfl rfl rfl (bE rfl rfl (g2) rfl (cH (ts:=#[]) rfl Tryz.underlying29 rfl (bE rfl rfl (g2) rfl (dJ rfl rfl (bU (by omega) (by omega)) rfl (bE rfl rfl (g2) rfl (fY rfl rfl rfl (dL rfl (g2) rfl rfl (bA rfl rfl (aE (aR (bW ?_)))))))))))))))))))))));refine ⟨rfl,_,[],rfl,(by repeat(first|exact sL _|apply sC)),bX.mk ?_⟩
  exact congrArg Value.bool (decide_eq_true (hg.o.resolve_left (by assumption)))
 have g2p:=of_decide_eq_true g2
 refine bL rfl rfl (g2) rfl rfl (bL rfl rfl (g2) rfl rfl (bL rfl rfl (g2) rfl rfl (bL rfl rfl (g2) rfl rfl (bL rfl rfl (g2) rfl rfl (bL rfl rfl (g2) rfl rfl (bL rfl rfl (g2) rfl rfl (bL rfl rfl (g2) rfl rfl (bL rfl rfl (g2) rfl rfl (dE rfl (g2) rfl rfl (bA rfl rfl (aE (aR (bW ?_)))))))))))));refine ⟨rfl,_,[],rfl,(by repeat(first|exact sL _|apply sC)),bX.mk ?_⟩
 rfl
set_option maxRecDepth 100000 in
set_option maxHeartbeats 1600000 in
theorem aGx (tb : List Int × List Int) (s : Sess) (aJ aS aK aX : Option Addr) (cJ cS cK cX : Nat) (H : Hp) (hJ : SlR (eO .i64) H aJ cJ s.J) (hS : SlR eV H aS cS s.S) (hK : SlR iY H aK cK s.K) (hX : SlR iZ H aX cX s.X) (hT : TB H tb) (hg : GoodS tb s) : FnC Tryz.prog 20 #[.agg ⟨eR s aJ aS aK aX cJ cS cK cX⟩] H [] (bX (fun v _ _=>v = .bool true)):=by
 refine FnC.intro (args:=[.agg ⟨eR s aJ aS aK aX cJ cS cK cX⟩]) Tryz.func20 rfl rfl Tryz.ntmps20 rfl rfl rfl fun G rest=>?_
 have hj:=hg.j
 have hc:=hg.c
 have hn:=hg.n
 refine aZ (aH (dZ rfl rfl rfl (fun b1=>bA rfl rfl (aE (aR (aZ (aZ (cE [1] rfl ?_))))))))
 apply iJ (fun _=>True) trivial 39 [eqF _,eqF _,eqF _,eqF _,eqF _,eqF _,eqF _,eqF _,eqF _,eqF _,eqF _,eqF _,eqF _,eqF _,eqF _,eqF _,eqF _,eqF _,eqF _,eqF _,eqF _,eqF _,eqF _,eqF _,eqF _,eqF _,eqF _,eqF _,eqF _,eqF _,eqF _,eqF _,eqF _,eqF _,eqF _,eqF _,slF aCg [true,true,true,true,true,true,true],eqF _,eqF _] follows (by kernel_rfl) (by kernel_rfl) ⟨bB _,bB _,bB _,bB _,bB _,bB _,bB _,bB _,bB _,bB _,bB _,bB _,bB _,bB _,bB _,bB _,bB _,bB _,bB _,bB _,bB _,bB _,bB _,bB _,bB _,bB _,bB _,bB _,bB _,bB _,bB _,bB _,bB _,bB _,bB _,bB _,gX _ _,bB _,bB _,trivial⟩ ?steps1 ?tail1
 case steps1 =>
  refine bI rfl ?_ ?_
  ·intro X HD aD _
   replace hJ:=hJ.mono aD;replace hS:=hS.mono aD;replace hK:=hK.mono aD;replace hX:=hX.mono aD;replace hT:=hT.mono aD;refine aW rfl (bD rfl eQ rfl (aE ?_))
   exact bH trivial rfl
  refine bI rfl ?_ ?_
  ·intro X HD aD _
   replace hJ:=hJ.mono aD;replace hS:=hS.mono aD;replace hK:=hK.mono aD;replace hX:=hX.mono aD;replace hT:=hT.mono aD;refine wPq rfl rfl rfl (aW rfl (bD rfl aFr rfl (aE ?_)))
   exact bH trivial rfl
  refine bI rfl ?_ ?_
  ·intro X HD aD _
   replace hJ:=hJ.mono aD;replace hS:=hS.mono aD;replace hK:=hK.mono aD;replace hX:=hX.mono aD;replace hT:=hT.mono aD;refine wPq rfl rfl rfl (aW rfl (bK 0 rfl rfl dT rfl rfl rfl (aE ?_)))
   exact bH trivial rfl
  refine bI rfl ?_ ?_
  ·intro X HD aD _
   replace hJ:=hJ.mono aD;replace hS:=hS.mono aD;replace hK:=hK.mono aD;replace hX:=hX.mono aD;replace hT:=hT.mono aD;refine wPq rfl rfl rfl (aW rfl (bR rfl (qL (s.R) (8) hg.r _) rfl (aE ?_)))
   exact bH trivial rfl
  refine bI rfl ?_ ?_
  ·intro X HD aD _
   replace hJ:=hJ.mono aD;replace hS:=hS.mono aD;replace hK:=hK.mono aD;replace hX:=hX.mono aD;replace hT:=hT.mono aD;refine aW rfl (bD rfl eQ rfl (aE ?_))
   exact bH trivial rfl
  refine bI rfl ?_ ?_
  ·intro X HD aD _
   replace hJ:=hJ.mono aD;replace hS:=hS.mono aD;replace hK:=hK.mono aD;replace hX:=hX.mono aD;replace hT:=hT.mono aD;refine wPq rfl rfl rfl (aW rfl (bD rfl aF0 rfl (aE ?_)))
   exact bH trivial rfl
  refine bI rfl ?_ ?_
  ·intro X HD aD _
   replace hJ:=hJ.mono aD;replace hS:=hS.mono aD;replace hK:=hK.mono aD;replace hX:=hX.mono aD;replace hT:=hT.mono aD;refine wPq rfl rfl rfl (aW rfl (bK 0 rfl rfl dT rfl rfl rfl (aE ?_)))
   exact bH trivial rfl
  refine bI rfl ?_ ?_
  ·intro X HD aD _
   replace hJ:=hJ.mono aD;replace hS:=hS.mono aD;replace hK:=hK.mono aD;replace hX:=hX.mono aD;replace hT:=hT.mono aD;refine wPq rfl rfl rfl (aW rfl (bR rfl (qL (s.E) (4096) hg.e _) rfl (aE ?_)))
   exact bH trivial rfl
  refine bI rfl ?_ ?_
  ·intro X HD aD _
   replace hJ:=hJ.mono aD;replace hS:=hS.mono aD;replace hK:=hK.mono aD;replace hX:=hX.mono aD;replace hT:=hT.mono aD;refine aW rfl (bD rfl eQ rfl (aE ?_))
   exact bH trivial rfl
  refine bI rfl ?_ ?_
  ·intro X HD aD _
   replace hJ:=hJ.mono aD;replace hS:=hS.mono aD;replace hK:=hK.mono aD;replace hX:=hX.mono aD;replace hT:=hT.mono aD;refine wPq rfl rfl rfl (aW rfl (bD rfl vR rfl (aE ?_)))
   exact bH trivial rfl
  refine bI rfl ?_ ?_
  ·intro X HD aD _
   replace hJ:=hJ.mono aD;replace hS:=hS.mono aD;replace hK:=hK.mono aD;replace hX:=hX.mono aD;replace hT:=hT.mono aD;refine wPq rfl rfl rfl (aW rfl (bK 0 rfl rfl dT rfl rfl rfl (aE ?_)))
   exact bH trivial rfl
  refine bI rfl ?_ ?_
  ·intro X HD aD _
   replace hJ:=hJ.mono aD;replace hS:=hS.mono aD;replace hK:=hK.mono aD;replace hX:=hX.mono aD;replace hT:=hT.mono aD;refine wPq rfl rfl rfl (aW rfl (iF rfl rfl (bU (by omega) (by omega)) rfl (aE ?_)))
   exact bH trivial rfl
  refine bI rfl ?_ ?_
  ·intro X HD aD _
   replace hJ:=hJ.mono aD;replace hS:=hS.mono aD;replace hK:=hK.mono aD;replace hX:=hX.mono aD;replace hT:=hT.mono aD;refine wPq rfl rfl rfl (aW rfl (bR rfl (qL (s.C - 1) (64) hg.c _) rfl (aE ?_)))
   exact bH trivial rfl
  refine bI rfl ?_ ?_
  ·intro X HD aD _
   replace hJ:=hJ.mono aD;replace hS:=hS.mono aD;replace hK:=hK.mono aD;replace hX:=hX.mono aD;replace hT:=hT.mono aD;refine aW rfl (bD rfl eQ rfl (aE ?_))
   exact bH trivial rfl
  refine bI rfl ?_ ?_
  ·intro X HD aD _
   replace hJ:=hJ.mono aD;replace hS:=hS.mono aD;replace hK:=hK.mono aD;replace hX:=hX.mono aD;replace hT:=hT.mono aD;refine wPq rfl rfl rfl (aW rfl (bD rfl pY rfl (aE ?_)))
   exact bH trivial rfl
  refine bI rfl ?_ ?_
  ·intro X HD aD _
   replace hJ:=hJ.mono aD;replace hS:=hS.mono aD;replace hK:=hK.mono aD;replace hX:=hX.mono aD;replace hT:=hT.mono aD;refine wPq rfl rfl rfl (aW rfl (bK 0 rfl rfl gZ rfl rfl rfl (aE ?_)))
   exact bH trivial rfl
  refine bI rfl ?_ ?_
  ·intro X HD aD _
   replace hJ:=hJ.mono aD;replace hS:=hS.mono aD;replace hK:=hK.mono aD;replace hX:=hX.mono aD;replace hT:=hT.mono aD;refine wPq rfl rfl rfl (aW rfl (cH (ts:=#[]) rfl Tryz.underlying26 rfl (aE ?_)))
   exact bH trivial rfl
  refine bI rfl ?_ ?_
  ·intro X HD aD _
   replace hJ:=hJ.mono aD;replace hS:=hS.mono aD;replace hK:=hK.mono aD;replace hX:=hX.mono aD;replace hT:=hT.mono aD;refine wPq rfl rfl rfl (aW rfl (iF rfl rfl (bU (by omega) (by omega)) rfl (aE ?_)))
   exact bH trivial rfl
  refine bI rfl ?_ ?_
  ·intro X HD aD _
   replace hJ:=hJ.mono aD;replace hS:=hS.mono aD;replace hK:=hK.mono aD;replace hX:=hX.mono aD;replace hT:=hT.mono aD;refine wPq rfl rfl rfl (aW rfl (bR rfl (qL ((s.J.length : Int) - 1) (24) hg.j _) rfl (aE ?_)))
   exact bH trivial rfl
  refine bI rfl ?_ ?_
  ·intro X HD aD _
   replace hJ:=hJ.mono aD;replace hS:=hS.mono aD;replace hK:=hK.mono aD;replace hX:=hX.mono aD;replace hT:=hT.mono aD;refine aW rfl (bD rfl eQ rfl (aE ?_))
   exact bH trivial rfl
  refine bI rfl ?_ ?_
  ·intro X HD aD _
   replace hJ:=hJ.mono aD;replace hS:=hS.mono aD;replace hK:=hK.mono aD;replace hX:=hX.mono aD;replace hT:=hT.mono aD;refine wPq rfl rfl rfl (aW rfl (bD rfl vN rfl (aE ?_)))
   exact bH trivial rfl
  refine bI rfl ?_ ?_
  ·intro X HD aD _
   replace hJ:=hJ.mono aD;replace hS:=hS.mono aD;replace hK:=hK.mono aD;replace hX:=hX.mono aD;replace hT:=hT.mono aD;refine wPq rfl rfl rfl (aW rfl (bK 0 rfl rfl dT rfl rfl rfl (aE ?_)))
   exact bH trivial rfl
  refine bI rfl ?_ ?_
  ·intro X HD aD _
   replace hJ:=hJ.mono aD;replace hS:=hS.mono aD;replace hK:=hK.mono aD;replace hX:=hX.mono aD;replace hT:=hT.mono aD;refine wPq rfl rfl rfl (aW rfl (iF rfl rfl (bU (by omega) (by omega)) rfl (aE ?_)))
   exact bH trivial rfl
  refine bI rfl ?_ ?_
  ·intro X HD aD _
   replace hJ:=hJ.mono aD;replace hS:=hS.mono aD;replace hK:=hK.mono aD;replace hX:=hX.mono aD;replace hT:=hT.mono aD;refine aW rfl (bD rfl eQ rfl (aE ?_))
   exact bH trivial rfl
  refine bI rfl ?_ ?_
  ·intro X HD aD _
   replace hJ:=hJ.mono aD;replace hS:=hS.mono aD;replace hK:=hK.mono aD;replace hX:=hX.mono aD;replace hT:=hT.mono aD;refine wPq rfl rfl rfl (aW rfl (bD rfl pY rfl (aE ?_)))
   exact bH trivial rfl
  refine bI rfl ?_ ?_
  ·intro X HD aD _
   replace hJ:=hJ.mono aD;replace hS:=hS.mono aD;replace hK:=hK.mono aD;replace hX:=hX.mono aD;replace hT:=hT.mono aD;refine wPq rfl rfl rfl (aW rfl (bK 0 rfl rfl gZ rfl rfl rfl (aE ?_)))
   exact bH trivial rfl
  refine bI rfl ?_ ?_
  ·intro X HD aD _
   replace hJ:=hJ.mono aD;replace hS:=hS.mono aD;replace hK:=hK.mono aD;replace hX:=hX.mono aD;replace hT:=hT.mono aD;refine wPq rfl rfl rfl (aW rfl (cH (ts:=#[]) rfl Tryz.underlying26 rfl (aE ?_)))
   exact bH trivial rfl
  refine bI rfl ?_ ?_
  ·intro X HD aD _
   replace hJ:=hJ.mono aD;replace hS:=hS.mono aD;replace hK:=hK.mono aD;replace hX:=hX.mono aD;replace hT:=hT.mono aD;refine wPq rfl rfl rfl (wPq rfl rfl rfl (aW rfl (bR rfl (qL (s.N - 1) (s.J.length) hg.n _) rfl (aE ?_))))
   exact bH trivial rfl
  refine bI rfl ?_ ?_
  ·intro X HD aD _
   replace hJ:=hJ.mono aD;replace hS:=hS.mono aD;replace hK:=hK.mono aD;replace hX:=hX.mono aD;replace hT:=hT.mono aD;refine aW rfl (bD rfl eQ rfl (aE ?_))
   exact bH trivial rfl
  refine bI rfl ?_ ?_
  ·intro X HD aD _
   replace hJ:=hJ.mono aD;replace hS:=hS.mono aD;replace hK:=hK.mono aD;replace hX:=hX.mono aD;replace hT:=hT.mono aD;refine wPq rfl rfl rfl (aW rfl (bD rfl aBg rfl (aE ?_)))
   exact bH trivial rfl
  refine bI rfl ?_ ?_
  ·intro X HD aD _
   replace hJ:=hJ.mono aD;replace hS:=hS.mono aD;replace hK:=hK.mono aD;replace hX:=hX.mono aD;replace hT:=hT.mono aD;refine wPq rfl rfl rfl (aW rfl (bK 0 rfl rfl dT rfl rfl rfl (aE ?_)))
   exact bH trivial rfl
  refine bI rfl ?_ ?_
  ·intro X HD aD _
   replace hJ:=hJ.mono aD;replace hS:=hS.mono aD;replace hK:=hK.mono aD;replace hX:=hX.mono aD;replace hT:=hT.mono aD;refine wPq rfl rfl rfl (aW rfl (bR rfl (qL (s.L) (2097152) hg.l _) rfl (aE ?_)))
   exact bH trivial rfl
  refine bI rfl ?_ ?_
  ·intro X HD aD _
   replace hJ:=hJ.mono aD;replace hS:=hS.mono aD;replace hK:=hK.mono aD;replace hX:=hX.mono aD;replace hT:=hT.mono aD;refine aW rfl (bD rfl eQ rfl (aE ?_))
   exact bH trivial rfl
  refine bI rfl ?_ ?_
  ·intro X HD aD _
   replace hJ:=hJ.mono aD;replace hS:=hS.mono aD;replace hK:=hK.mono aD;replace hX:=hX.mono aD;replace hT:=hT.mono aD;refine wPq rfl rfl rfl (aW rfl (bD rfl wA rfl (aE ?_)))
   exact bH trivial rfl
  refine bI rfl ?_ ?_
  ·intro X HD aD _
   replace hJ:=hJ.mono aD;replace hS:=hS.mono aD;replace hK:=hK.mono aD;replace hX:=hX.mono aD;replace hT:=hT.mono aD;refine wPq rfl rfl rfl (aW rfl (bK 0 rfl rfl dT rfl rfl rfl (aE ?_)))
   exact bH trivial rfl
  refine bI rfl ?_ ?_
  ·intro X HD aD _
   replace hJ:=hJ.mono aD;replace hS:=hS.mono aD;replace hK:=hK.mono aD;replace hX:=hX.mono aD;replace hT:=hT.mono aD;refine wPq rfl rfl rfl (aW rfl (bR rfl (qL (s.T) (2097152) hg.t _) rfl (aE ?_)))
   exact bH trivial rfl
  refine bI rfl ?_ ?_
  ·intro X HD aD _
   replace hJ:=hJ.mono aD;replace hS:=hS.mono aD;replace hK:=hK.mono aD;replace hX:=hX.mono aD;replace hT:=hT.mono aD;refine wPq rfl rfl rfl (wPq rfl rfl rfl (wPq rfl rfl rfl (wPq rfl rfl rfl (wPq rfl rfl rfl (wPq rfl rfl rfl (wPq rfl rfl rfl (aW rfl (dB rfl Tryz.underlying111 mU aMo rfl rfl rfl (fun b43=>dF 0 rfl rfl rfl (fun HP43 oP43 hleP43 hbP43 hoP43=>?_))))))))))
   have mS:=SlR.lit (ρ:=aCg) (l:=[true,true,true,true,true,true,true]) hbP43 hoP43 (eN.cons1 (cs:=[_]) rfl (eN.cons1 (cs:=[_]) rfl (eN.cons1 (cs:=[_]) rfl (eN.cons1 (cs:=[_]) rfl (eN.cons1 (cs:=[_]) rfl (eN.cons1 (cs:=[_]) rfl (eN.one1 rfl)))))))
   replace hJ:=hJ.mono hleP43;replace hS:=hS.mono hleP43;replace hK:=hK.mono hleP43;replace hX:=hX.mono hleP43;replace hT:=hT.mono hleP43;refine aE ?_
   exact bH trivial (⟨_,rfl,mS⟩)
  refine bI rfl ?_ ?_
  ·intro X HD aD _
   replace hJ:=hJ.mono aD;replace hS:=hS.mono aD;replace hK:=hK.mono aD;replace hX:=hX.mono aD;replace hT:=hT.mono aD;refine cU rfl rfl ?_;rintro _ ⟨bs43,rfl,mS⟩;refine aW rfl (cH (ts:=#[]) rfl Tryz.underlying111 rfl (aE ?_))
   exact bH trivial rfl
  refine bI rfl ?_ ?_
  ·intro X HD aD _
   replace hJ:=hJ.mono aD;replace hS:=hS.mono aD;replace hK:=hK.mono aD;replace hX:=hX.mono aD;replace hT:=hT.mono aD;refine aW rfl (aU rfl rfl (aE ?_))
   exact bH trivial rfl
  exact eU rfl
 case tail1 =>
  intro HD aD _
  replace hJ:=hJ.mono aD;replace hS:=hS.mono aD;replace hK:=hK.mono aD;replace hX:=hX.mono aD;replace hT:=hT.mono aD;refine wPq rfl rfl rfl (wPq rfl rfl rfl (wPq rfl rfl rfl (wPq rfl rfl rfl (wPq rfl rfl rfl (wPq rfl rfl rfl (wPq rfl rfl rfl (wPq rfl rfl rfl (wPq rfl rfl rfl (wPq rfl rfl rfl (wPq rfl rfl rfl (wPq rfl rfl rfl (wPq rfl rfl rfl (wPq rfl rfl rfl (wPq rfl rfl rfl (wPq rfl rfl rfl (wPq rfl rfl rfl (wPq rfl rfl rfl (wPq rfl rfl rfl (wPq rfl rfl rfl (wPq rfl rfl rfl (wPq rfl rfl rfl (wPq rfl rfl rfl (wPq rfl rfl rfl (wPq rfl rfl rfl (wPq rfl rfl rfl (wPq rfl rfl rfl (wPq rfl rfl rfl (wPq rfl rfl rfl (wPq rfl rfl rfl (wPq rfl rfl rfl ?_))))))))))))))))))))))))))))));refine wPq rfl rfl rfl (wPq rfl rfl rfl (wPq rfl rfl rfl (wPq rfl rfl rfl (wPq rfl rfl rfl (cU rfl rfl ?_)))));rintro _ ⟨bs43,rfl,mS⟩;refine wPq rfl rfl rfl (wPq rfl rfl rfl (aW rfl (aE (aR (bT (cE [45,1,43,44] rfl (eE (base:=[(1,_),(43,_),(44,_)]) (fun ζ : Nat=>[(45,.int .i64 (ζ : Nat))]) (fun ζ Hl own=>ζ ≤ 7 ∧ (b1,.cells 71 (eR s aJ aS aK aX cJ cS cK cX)) :: rest = own) (fun ζ=>7 - ζ) 0 (aQ rfl (aQ rfl (aQ rfl (aQ rfl bP)))) (by repeat(first|exact sL _|apply sD|apply sC)) ⟨Nat.zero_le _,rfl⟩ ?_)))))));rintro k Hl0 _ bM ⟨hkk,rfl⟩;replace hJ:=hJ.mono bM;replace hS:=hS.mono bM;replace hK:=hK.mono bM;replace hX:=hX.mono bM;replace hT:=hT.mono bM;replace mS:=mS.mono bM
  try dsimp only at ⊢
  refine aZ (aH (dN rfl rfl rfl (aE (aR (aZ (cW rfl (fun c0_9=>?_) (fun c0_9=>?_)))))))
  ·change ((k : Nat) : Int) < ((7 : Nat) : Int) at c0_9
   refine bS (aR (aZ (bT (aZ (aH (dK rfl mS rfl Tryz.underlying111 mU (by show k < 7;omega) rfl ?_))))));rintro eb47 eo47 _ x47 hx47 rfl hp47;refine cQ rfl (by assumption) mU rfl rfl rfl (bA rfl rfl (aE (aR (aZ (aH (aU rfl rfl (fC rfl rfl (aE (aR (dY rfl (by rw [all7 hx47];rfl) (bS (dP (aR (aH (dJ rfl rfl (bU (by omega) (by omega)) rfl (aU rfl rfl (aE (cR (k + 1) (by show 7 - (k + 1) < 7 - k;omega) (aQ rfl (aQ rfl (aQ rfl (aQ rfl bP)))) (⟨by show k + 1 ≤ 7;omega,rfl⟩) (by repeat(first|exact sL _|apply sD|apply sC)) (bM)))))))))))))))))))
  refine dX (dA (cZ (dI rfl (aR (aZ (aZ (aH (dF 0 rfl rfl rfl (fun HK1 oK1 hleK1 hbK1 hoK1=>?_)))))))))
  have iC:=PtH.of_is hbK1 hoK1
  replace hJ:=hJ.mono hleK1;replace hS:=hS.mono hleK1;replace hK:=hK.mono hleK1;replace hX:=hX.mono hleK1;replace hT:=hT.mono hleK1;replace mS:=mS.mono hleK1;replace bM:=bM.trans hleK1;refine gY rfl rfl (gY rfl rfl (gY rfl rfl (gY rfl rfl (gY rfl rfl (dB rfl Tryz.underlying127 aKr ze_72 rfl rfl rfl (fun b57=>dF 0 rfl rfl rfl (fun HP57 oP57 hleP57 hbP57 hoP57=>?_)))))));replace hJ:=hJ.mono hleP57;replace hS:=hS.mono hleP57;replace hK:=hK.mono hleP57;replace hX:=hX.mono hleP57;replace hT:=hT.mono hleP57;replace mS:=mS.mono hleP57;replace iC:=iC.mono hleP57;replace bM:=bM.trans hleP57
  have hsl57:=SlR.lit (ρ:=fnR) (l:=[.func (.func 44) #[] #[.pointer (some ⟨b1,0,none⟩)],.func (.func 49) #[] #[.pointer (some ⟨b1,0,none⟩)],.func (.func 54) #[] #[.pointer (some ⟨b1,0,none⟩)],.func (.func 59) #[] #[.pointer (some ⟨b1,0,none⟩)],.func (.func 64) #[] #[.pointer (some ⟨b1,0,none⟩)]]) hbP57 hoP57 (eN.cons1 (cs:=[_]) ⟨rfl,rfl⟩ (eN.cons1 (cs:=[_]) ⟨rfl,rfl⟩ (eN.cons1 (cs:=[_]) ⟨rfl,rfl⟩ (eN.cons1 (cs:=[_]) ⟨rfl,rfl⟩ (eN.one1 ⟨rfl,rfl⟩)))))
  refine cH (ts:=#[]) rfl Tryz.underlying127 rfl (aU rfl rfl (aE (aR (bT (cE [59,57,58] rfl ?_)))))
  have hfs : ∀ g ∈ ([.func (.func 44) #[] #[.pointer (some ⟨b1,0,none⟩)],.func (.func 49) #[] #[.pointer (some ⟨b1,0,none⟩)],.func (.func 54) #[] #[.pointer (some ⟨b1,0,none⟩)],.func (.func 59) #[] #[.pointer (some ⟨b1,0,none⟩)],.func (.func 64) #[] #[.pointer (some ⟨b1,0,none⟩)]] : List Value),∀ H2,LeW HP57 H2 → FnV Tryz.prog g [] H2 [] (bX fun v _ _=>v = .bool true):=by
   intro g hg2 H2 hle
   simp only [List.mem_cons,List.not_mem_nil,or_false] at hg2
   rcases hg2 with rfl | rfl | rfl | rfl | rfl
   ·exact FnV.of_fn (cap:=[.pointer (some ⟨b1,0,none⟩)]) (args:=[]) (right1_fn tb s aJ aS aK aX cJ cS cK cX H2 (hJ.mono hle) (hS.mono hle) (hK.mono hle) (hX.mono hle) (hT.mono hle) hg b1 (iC.mono hle))
   ·exact FnV.of_fn (cap:=[.pointer (some ⟨b1,0,none⟩)]) (args:=[]) (right2_fn tb s aJ aS aK aX cJ cS cK cX H2 (hJ.mono hle) (hS.mono hle) (hK.mono hle) (hX.mono hle) (hT.mono hle) hg b1 (iC.mono hle))
   ·exact FnV.of_fn (cap:=[.pointer (some ⟨b1,0,none⟩)]) (args:=[]) (right3_fn tb s aJ aS aK aX cJ cS cK cX H2 (hJ.mono hle) (hS.mono hle) (hK.mono hle) (hX.mono hle) (hT.mono hle) hg b1 (iC.mono hle))
   ·exact FnV.of_fn (cap:=[.pointer (some ⟨b1,0,none⟩)]) (args:=[]) (right4_fn tb s aJ aS aK aX cJ cS cK cX H2 (hJ.mono hle) (hS.mono hle) (hK.mono hle) (hX.mono hle) (hT.mono hle) hg b1 (iC.mono hle))
   exact FnV.of_fn (cap:=[.pointer (some ⟨b1,0,none⟩)]) (args:=[]) (right5_fn tb s aJ aS aK aX cJ cS cK cX H2 (hJ.mono hle) (hS.mono hle) (hK.mono hle) (hX.mono hle) (hT.mono hle) hg b1 (iC.mono hle))
  refine eE (base:=[(57,_),(58,_)]) (fun ζ : Nat=>[(59,.int .i64 (ζ : Nat))]) (fun ζ Hl own=>ζ ≤ 5 ∧ rest = own ∧ (LeW HP57 Hl)) (fun ζ=>5 - ζ) 0 (aQ rfl (aQ rfl (aQ rfl bP))) (by repeat(first|exact sL _|apply sD|apply sC)) ⟨Nat.zero_le _,rfl,Le.refl _⟩ ?_;rintro j Hl1 _ cD ⟨hkj,rfl,hLH⟩;replace hJ:=hJ.mono cD;replace hS:=hS.mono cD;replace hK:=hK.mono cD;replace hX:=hX.mono cD;replace hT:=hT.mono cD;replace mS:=mS.mono cD;replace iC:=iC.mono cD;replace hsl57:=hsl57.mono cD;replace bM:=bM.trans cD
  try dsimp only at ⊢
  refine aZ (aH (dN rfl rfl rfl (aE (aR (aZ (cW rfl (fun c2_11=>?_) (fun c2_11=>?_)))))))
  ·change ((j : Nat) : Int) < ((5 : Nat) : Int) at c2_11
   refine bS (aR (aZ (bT (aZ (aH (dK rfl hsl57 rfl Tryz.underlying127 aKr (by show j < 5;omega) rfl ?_))))));rintro eb61 eo61 _ x61 sH ⟨rfl,ho61⟩ rH;refine cQ rfl (by assumption) aKr rfl rfl rfl (bA rfl rfl (aE (aR (aZ (aH (aU rfl rfl (iI rfl trivial rfl (hfs x61 (List.mem_of_getElem? sH) _ hLH) rfl ?_)))))));rintro _ HN oN fO rfl;replace hJ:=hJ.mono fO;replace hS:=hS.mono fO;replace hK:=hK.mono fO;replace hX:=hX.mono fO;replace hT:=hT.mono fO;replace mS:=mS.mono fO;replace iC:=iC.mono fO;replace hsl57:=hsl57.mono fO;replace hLH:=hLH.mono fO;replace rH:=rH.mono fO;replace bM:=bM.trans fO;replace cD:=cD.trans fO;refine fC rfl rfl (aE (aR (dY rfl rfl (bS (dP (aR (aH (dJ rfl rfl (bU (by omega) (by omega)) rfl (aU rfl rfl (aE (cR (j + 1) (by show 5 - (j + 1) < 5 - j;omega) (aQ rfl (aQ rfl (aQ rfl bP))) (⟨by show j + 1 ≤ 5;omega,rfl,hLH⟩) (by repeat(first|exact sL _|apply sD|apply sC)) (cD))))))))))))
  refine dX (dA (cZ (dI rfl (aR (aZ (aH (bA rfl rfl (aE (aR (bW ?_))))))))));refine ⟨rfl,_,[],rfl,(by repeat(first|exact sL _|apply sC)),bX.mk ?_⟩
  rfl
set_option maxRecDepth 100000 in
set_option maxHeartbeats 1600000 in
theorem right_no (s : Sess) (aJ aS aK aX : Option Addr) (cJ cS cK cX : Nat) (H : Hp) (hJ : SlR (eO .i64) H aJ cJ s.J) (hS : SlR eV H aS cS s.S) (hK : SlR iY H aK cK s.K) (hX : SlR iZ H aX cX s.X) (hb : s.C = 0) (hj : s.J.length ≤ 1000) (hn : -1000 ≤ s.N ∧ s.N ≤ 1000) : FnC Tryz.prog 20 #[.agg ⟨eR s aJ aS aK aX cJ cS cK cX⟩] H [] (bX (fun v _ _=>v = .bool false)):=by
 refine FnC.intro (args:=[.agg ⟨eR s aJ aS aK aX cJ cS cK cX⟩]) Tryz.func20 rfl rfl Tryz.ntmps20 rfl rfl rfl fun G rest=>?_
 refine aZ (aH (dZ rfl rfl rfl (fun b1=>bA rfl rfl (aE (aR (aZ (aZ (cE [1] rfl ?_))))))))
 apply iJ (fun _=>True) trivial 39 [eqF _,eqF _,eqF _,eqF _,eqF _,eqF _,eqF _,eqF _,eqF _,eqF _,eqF _,eqF _,eqF _,eqF _,eqF _,eqF _,eqF _,eqF _,eqF _,eqF _,eqF _,eqF _,eqF _,eqF _,eqF _,eqF _,eqF _,eqF _,eqF _,eqF _,eqF _,eqF _,eqF _,eqF _,eqF _,eqF _,slF aCg [decide (0 ≤ s.R ∧ s.R < 8),decide (0 ≤ s.E ∧ s.E < 4096),decide (0 ≤ s.C - 1 ∧ s.C - 1 < 64),decide (0 ≤ (s.J.length : Int) - 1 ∧ (s.J.length : Int) - 1 < 24),decide (0 ≤ s.N - 1 ∧ s.N - 1 < (s.J.length : Int)),decide (0 ≤ s.L ∧ s.L < 2097152),decide (0 ≤ s.T ∧ s.T < 2097152)],eqF _,eqF _] follows (by kernel_rfl) (by kernel_rfl) ⟨bB _,bB _,bB _,bB _,bB _,bB _,bB _,bB _,bB _,bB _,bB _,bB _,bB _,bB _,bB _,bB _,bB _,bB _,bB _,bB _,bB _,bB _,bB _,bB _,bB _,bB _,bB _,bB _,bB _,bB _,bB _,bB _,bB _,bB _,bB _,bB _,gX _ _,bB _,bB _,trivial⟩ ?steps1 ?tail1
 case steps1 =>
  refine bI rfl ?_ ?_
  ·intro X HD aD _
   replace hJ:=hJ.mono aD;replace hS:=hS.mono aD;replace hK:=hK.mono aD;replace hX:=hX.mono aD;refine aW rfl (bD rfl eQ rfl (aE ?_))
   exact bH trivial rfl
  refine bI rfl ?_ ?_
  ·intro X HD aD _
   replace hJ:=hJ.mono aD;replace hS:=hS.mono aD;replace hK:=hK.mono aD;replace hX:=hX.mono aD;refine wPq rfl rfl rfl (aW rfl (bD rfl aFr rfl (aE ?_)))
   exact bH trivial rfl
  refine bI rfl ?_ ?_
  ·intro X HD aD _
   replace hJ:=hJ.mono aD;replace hS:=hS.mono aD;replace hK:=hK.mono aD;replace hX:=hX.mono aD;refine wPq rfl rfl rfl (aW rfl (bK 0 rfl rfl dT rfl rfl rfl (aE ?_)))
   exact bH trivial rfl
  refine bI rfl ?_ ?_
  ·intro X HD aD _
   replace hJ:=hJ.mono aD;replace hS:=hS.mono aD;replace hK:=hK.mono aD;replace hX:=hX.mono aD;refine wPq rfl rfl rfl (aW rfl (bR rfl (jT (s.R) (8) _) rfl (aE ?_)))
   exact bH trivial rfl
  refine bI rfl ?_ ?_
  ·intro X HD aD _
   replace hJ:=hJ.mono aD;replace hS:=hS.mono aD;replace hK:=hK.mono aD;replace hX:=hX.mono aD;refine aW rfl (bD rfl eQ rfl (aE ?_))
   exact bH trivial rfl
  refine bI rfl ?_ ?_
  ·intro X HD aD _
   replace hJ:=hJ.mono aD;replace hS:=hS.mono aD;replace hK:=hK.mono aD;replace hX:=hX.mono aD;refine wPq rfl rfl rfl (aW rfl (bD rfl aF0 rfl (aE ?_)))
   exact bH trivial rfl
  refine bI rfl ?_ ?_
  ·intro X HD aD _
   replace hJ:=hJ.mono aD;replace hS:=hS.mono aD;replace hK:=hK.mono aD;replace hX:=hX.mono aD;refine wPq rfl rfl rfl (aW rfl (bK 0 rfl rfl dT rfl rfl rfl (aE ?_)))
   exact bH trivial rfl
  refine bI rfl ?_ ?_
  ·intro X HD aD _
   replace hJ:=hJ.mono aD;replace hS:=hS.mono aD;replace hK:=hK.mono aD;replace hX:=hX.mono aD;refine wPq rfl rfl rfl (aW rfl (bR rfl (jT (s.E) (4096) _) rfl (aE ?_)))
   exact bH trivial rfl
  refine bI rfl ?_ ?_
  ·intro X HD aD _
   replace hJ:=hJ.mono aD;replace hS:=hS.mono aD;replace hK:=hK.mono aD;replace hX:=hX.mono aD;refine aW rfl (bD rfl eQ rfl (aE ?_))
   exact bH trivial rfl
  refine bI rfl ?_ ?_
  ·intro X HD aD _
   replace hJ:=hJ.mono aD;replace hS:=hS.mono aD;replace hK:=hK.mono aD;replace hX:=hX.mono aD;refine wPq rfl rfl rfl (aW rfl (bD rfl vR rfl (aE ?_)))
   exact bH trivial rfl
  refine bI rfl ?_ ?_
  ·intro X HD aD _
   replace hJ:=hJ.mono aD;replace hS:=hS.mono aD;replace hK:=hK.mono aD;replace hX:=hX.mono aD;refine wPq rfl rfl rfl (aW rfl (bK 0 rfl rfl dT rfl rfl rfl (aE ?_)))
   exact bH trivial rfl
  refine bI rfl ?_ ?_
  ·intro X HD aD _
   replace hJ:=hJ.mono aD;replace hS:=hS.mono aD;replace hK:=hK.mono aD;replace hX:=hX.mono aD;refine wPq rfl rfl rfl (aW rfl (iF rfl rfl (bU (by omega) (by omega)) rfl (aE ?_)))
   exact bH trivial rfl
  refine bI rfl ?_ ?_
  ·intro X HD aD _
   replace hJ:=hJ.mono aD;replace hS:=hS.mono aD;replace hK:=hK.mono aD;replace hX:=hX.mono aD;refine wPq rfl rfl rfl (aW rfl (bR rfl (jT (s.C - 1) (64) _) rfl (aE ?_)))
   exact bH trivial rfl
  refine bI rfl ?_ ?_
  ·intro X HD aD _
   replace hJ:=hJ.mono aD;replace hS:=hS.mono aD;replace hK:=hK.mono aD;replace hX:=hX.mono aD;refine aW rfl (bD rfl eQ rfl (aE ?_))
   exact bH trivial rfl
  refine bI rfl ?_ ?_
  ·intro X HD aD _
   replace hJ:=hJ.mono aD;replace hS:=hS.mono aD;replace hK:=hK.mono aD;replace hX:=hX.mono aD;refine wPq rfl rfl rfl (aW rfl (bD rfl pY rfl (aE ?_)))
   exact bH trivial rfl
  refine bI rfl ?_ ?_
  ·intro X HD aD _
   replace hJ:=hJ.mono aD;replace hS:=hS.mono aD;replace hK:=hK.mono aD;replace hX:=hX.mono aD;refine wPq rfl rfl rfl (aW rfl (bK 0 rfl rfl gZ rfl rfl rfl (aE ?_)))
   exact bH trivial rfl
  refine bI rfl ?_ ?_
  ·intro X HD aD _
   replace hJ:=hJ.mono aD;replace hS:=hS.mono aD;replace hK:=hK.mono aD;replace hX:=hX.mono aD;refine wPq rfl rfl rfl (aW rfl (cH (ts:=#[]) rfl Tryz.underlying26 rfl (aE ?_)))
   exact bH trivial rfl
  refine bI rfl ?_ ?_
  ·intro X HD aD _
   replace hJ:=hJ.mono aD;replace hS:=hS.mono aD;replace hK:=hK.mono aD;replace hX:=hX.mono aD;refine wPq rfl rfl rfl (aW rfl (iF rfl rfl (bU (by omega) (by omega)) rfl (aE ?_)))
   exact bH trivial rfl
  refine bI rfl ?_ ?_
  ·intro X HD aD _
   replace hJ:=hJ.mono aD;replace hS:=hS.mono aD;replace hK:=hK.mono aD;replace hX:=hX.mono aD;refine wPq rfl rfl rfl (aW rfl (bR rfl (jT ((s.J.length : Int) - 1) (24) _) rfl (aE ?_)))
   exact bH trivial rfl
  refine bI rfl ?_ ?_
  ·intro X HD aD _
   replace hJ:=hJ.mono aD;replace hS:=hS.mono aD;replace hK:=hK.mono aD;replace hX:=hX.mono aD;refine aW rfl (bD rfl eQ rfl (aE ?_))
   exact bH trivial rfl
  refine bI rfl ?_ ?_
  ·intro X HD aD _
   replace hJ:=hJ.mono aD;replace hS:=hS.mono aD;replace hK:=hK.mono aD;replace hX:=hX.mono aD;refine wPq rfl rfl rfl (aW rfl (bD rfl vN rfl (aE ?_)))
   exact bH trivial rfl
  refine bI rfl ?_ ?_
  ·intro X HD aD _
   replace hJ:=hJ.mono aD;replace hS:=hS.mono aD;replace hK:=hK.mono aD;replace hX:=hX.mono aD;refine wPq rfl rfl rfl (aW rfl (bK 0 rfl rfl dT rfl rfl rfl (aE ?_)))
   exact bH trivial rfl
  refine bI rfl ?_ ?_
  ·intro X HD aD _
   replace hJ:=hJ.mono aD;replace hS:=hS.mono aD;replace hK:=hK.mono aD;replace hX:=hX.mono aD;refine wPq rfl rfl rfl (aW rfl (iF rfl rfl (bU (by omega) (by omega)) rfl (aE ?_)))
   exact bH trivial rfl
  refine bI rfl ?_ ?_
  ·intro X HD aD _
   replace hJ:=hJ.mono aD;replace hS:=hS.mono aD;replace hK:=hK.mono aD;replace hX:=hX.mono aD;refine aW rfl (bD rfl eQ rfl (aE ?_))
   exact bH trivial rfl
  refine bI rfl ?_ ?_
  ·intro X HD aD _
   replace hJ:=hJ.mono aD;replace hS:=hS.mono aD;replace hK:=hK.mono aD;replace hX:=hX.mono aD;refine wPq rfl rfl rfl (aW rfl (bD rfl pY rfl (aE ?_)))
   exact bH trivial rfl
  refine bI rfl ?_ ?_
  ·intro X HD aD _
   replace hJ:=hJ.mono aD;replace hS:=hS.mono aD;replace hK:=hK.mono aD;replace hX:=hX.mono aD;refine wPq rfl rfl rfl (aW rfl (bK 0 rfl rfl gZ rfl rfl rfl (aE ?_)))
   exact bH trivial rfl
  refine bI rfl ?_ ?_
  ·intro X HD aD _
   replace hJ:=hJ.mono aD;replace hS:=hS.mono aD;replace hK:=hK.mono aD;replace hX:=hX.mono aD;refine wPq rfl rfl rfl (aW rfl (cH (ts:=#[]) rfl Tryz.underlying26 rfl (aE ?_)))
   exact bH trivial rfl
  refine bI rfl ?_ ?_
  ·intro X HD aD _
   replace hJ:=hJ.mono aD;replace hS:=hS.mono aD;replace hK:=hK.mono aD;replace hX:=hX.mono aD;refine wPq rfl rfl rfl (wPq rfl rfl rfl (aW rfl (bR rfl (jT (s.N - 1) (s.J.length) _) rfl (aE ?_))))
   exact bH trivial rfl
  refine bI rfl ?_ ?_
  ·intro X HD aD _
   replace hJ:=hJ.mono aD;replace hS:=hS.mono aD;replace hK:=hK.mono aD;replace hX:=hX.mono aD;refine aW rfl (bD rfl eQ rfl (aE ?_))
   exact bH trivial rfl
  refine bI rfl ?_ ?_
  ·intro X HD aD _
   replace hJ:=hJ.mono aD;replace hS:=hS.mono aD;replace hK:=hK.mono aD;replace hX:=hX.mono aD;refine wPq rfl rfl rfl (aW rfl (bD rfl aBg rfl (aE ?_)))
   exact bH trivial rfl
  refine bI rfl ?_ ?_
  ·intro X HD aD _
   replace hJ:=hJ.mono aD;replace hS:=hS.mono aD;replace hK:=hK.mono aD;replace hX:=hX.mono aD;refine wPq rfl rfl rfl (aW rfl (bK 0 rfl rfl dT rfl rfl rfl (aE ?_)))
   exact bH trivial rfl
  refine bI rfl ?_ ?_
  ·intro X HD aD _
   replace hJ:=hJ.mono aD;replace hS:=hS.mono aD;replace hK:=hK.mono aD;replace hX:=hX.mono aD;refine wPq rfl rfl rfl (aW rfl (bR rfl (jT (s.L) (2097152) _) rfl (aE ?_)))
   exact bH trivial rfl
  refine bI rfl ?_ ?_
  ·intro X HD aD _
   replace hJ:=hJ.mono aD;replace hS:=hS.mono aD;replace hK:=hK.mono aD;replace hX:=hX.mono aD;refine aW rfl (bD rfl eQ rfl (aE ?_))
   exact bH trivial rfl
  refine bI rfl ?_ ?_
  ·intro X HD aD _
   replace hJ:=hJ.mono aD;replace hS:=hS.mono aD;replace hK:=hK.mono aD;replace hX:=hX.mono aD;refine wPq rfl rfl rfl (aW rfl (bD rfl wA rfl (aE ?_)))
   exact bH trivial rfl
  refine bI rfl ?_ ?_
  ·intro X HD aD _
   replace hJ:=hJ.mono aD;replace hS:=hS.mono aD;replace hK:=hK.mono aD;replace hX:=hX.mono aD;refine wPq rfl rfl rfl (aW rfl (bK 0 rfl rfl dT rfl rfl rfl (aE ?_)))
   exact bH trivial rfl
  refine bI rfl ?_ ?_
  ·intro X HD aD _
   replace hJ:=hJ.mono aD;replace hS:=hS.mono aD;replace hK:=hK.mono aD;replace hX:=hX.mono aD;refine wPq rfl rfl rfl (aW rfl (bR rfl (jT (s.T) (2097152) _) rfl (aE ?_)))
   exact bH trivial rfl
  refine bI rfl ?_ ?_
  ·intro X HD aD _
   replace hJ:=hJ.mono aD;replace hS:=hS.mono aD;replace hK:=hK.mono aD;replace hX:=hX.mono aD;refine wPq rfl rfl rfl (wPq rfl rfl rfl (wPq rfl rfl rfl (wPq rfl rfl rfl (wPq rfl rfl rfl (wPq rfl rfl rfl (wPq rfl rfl rfl (aW rfl (dB rfl Tryz.underlying111 mU aMo rfl rfl rfl (fun b43=>dF 0 rfl rfl rfl (fun HP43 oP43 hleP43 hbP43 hoP43=>?_))))))))))
   have mS:=SlR.lit (ρ:=aCg) (l:=[decide (0 ≤ s.R ∧ s.R < 8),decide (0 ≤ s.E ∧ s.E < 4096),decide (0 ≤ s.C - 1 ∧ s.C - 1 < 64),decide (0 ≤ (s.J.length : Int) - 1 ∧ (s.J.length : Int) - 1 < 24),decide (0 ≤ s.N - 1 ∧ s.N - 1 < (s.J.length : Int)),decide (0 ≤ s.L ∧ s.L < 2097152),decide (0 ≤ s.T ∧ s.T < 2097152)]) hbP43 hoP43 (eN.cons1 (cs:=[_]) rfl (eN.cons1 (cs:=[_]) rfl (eN.cons1 (cs:=[_]) rfl (eN.cons1 (cs:=[_]) rfl (eN.cons1 (cs:=[_]) rfl (eN.cons1 (cs:=[_]) rfl (eN.one1 rfl)))))))
   replace hJ:=hJ.mono hleP43;replace hS:=hS.mono hleP43;replace hK:=hK.mono hleP43;replace hX:=hX.mono hleP43;refine aE ?_
   exact bH trivial (⟨_,rfl,mS⟩)
  refine bI rfl ?_ ?_
  ·intro X HD aD _
   replace hJ:=hJ.mono aD;replace hS:=hS.mono aD;replace hK:=hK.mono aD;replace hX:=hX.mono aD;refine cU rfl rfl ?_;rintro _ ⟨bs43,rfl,mS⟩;refine aW rfl (cH (ts:=#[]) rfl Tryz.underlying111 rfl (aE ?_))
   exact bH trivial rfl
  refine bI rfl ?_ ?_
  ·intro X HD aD _
   replace hJ:=hJ.mono aD;replace hS:=hS.mono aD;replace hK:=hK.mono aD;replace hX:=hX.mono aD;refine aW rfl (aU rfl rfl (aE ?_))
   exact bH trivial rfl
  exact eU rfl
 case tail1 =>
  intro HD aD _
  replace hJ:=hJ.mono aD;replace hS:=hS.mono aD;replace hK:=hK.mono aD;replace hX:=hX.mono aD;refine wPq rfl rfl rfl (wPq rfl rfl rfl (wPq rfl rfl rfl (wPq rfl rfl rfl (wPq rfl rfl rfl (wPq rfl rfl rfl (wPq rfl rfl rfl (wPq rfl rfl rfl (wPq rfl rfl rfl (wPq rfl rfl rfl (wPq rfl rfl rfl (wPq rfl rfl rfl (wPq rfl rfl rfl (wPq rfl rfl rfl (wPq rfl rfl rfl (wPq rfl rfl rfl (wPq rfl rfl rfl (wPq rfl rfl rfl (wPq rfl rfl rfl (wPq rfl rfl rfl (wPq rfl rfl rfl (wPq rfl rfl rfl (wPq rfl rfl rfl (wPq rfl rfl rfl (wPq rfl rfl rfl (wPq rfl rfl rfl (wPq rfl rfl rfl (wPq rfl rfl rfl (wPq rfl rfl rfl (wPq rfl rfl rfl (wPq rfl rfl rfl ?_))))))))))))))))))))))))))))));refine wPq rfl rfl rfl (wPq rfl rfl rfl (wPq rfl rfl rfl (wPq rfl rfl rfl (wPq rfl rfl rfl (cU rfl rfl ?_)))));rintro _ ⟨bs43,rfl,mS⟩;refine wPq rfl rfl rfl (wPq rfl rfl rfl (aW rfl (aE (aR (bT (cE [45,1,43,44] rfl (eE (base:=[(1,_),(43,_),(44,_)]) (fun ζ : Nat=>[(45,.int .i64 (ζ : Nat))]) (fun ζ Hl own=>ζ ≤ 7 ∧ (b1,.cells 71 (eR s aJ aS aK aX cJ cS cK cX)) :: rest = own ∧ (2 < (ζ) → False)) (fun ζ=>7 - ζ) 0 (aQ rfl (aQ rfl (aQ rfl (aQ rfl bP)))) (by repeat(first|exact sL _|apply sD|apply sC)) ⟨Nat.zero_le _,rfl,by omega⟩ ?_)))))));rintro k Hl0 _ bM ⟨hkk,rfl,hno⟩;replace hJ:=hJ.mono bM;replace hS:=hS.mono bM;replace hK:=hK.mono bM;replace hX:=hX.mono bM;replace mS:=mS.mono bM
  try dsimp only at ⊢
  refine aZ (aH (dN rfl rfl rfl (aE (aR (aZ (cW rfl (fun c0_9=>?_) (fun c0_9=>?_)))))))
  ·change ((k : Nat) : Int) < ((7 : Nat) : Int) at c0_9
   refine bS (aR (aZ (bT (aZ (aH (dK rfl mS rfl Tryz.underlying111 mU (by show k < 7;omega) rfl ?_))))));rintro eb47 eo47 _ x47 hx47 rfl hp47;refine cQ rfl (by assumption) mU rfl rfl rfl (bA rfl rfl (aE (aR (aZ (aH (aU rfl rfl (fC rfl rfl (aE (aR (gN rfl (fun c1_11=>?_) (fun c1_11=>?_)))))))))))
   ·refine aZ (aH (bA rfl rfl (aE (aR (bW (dQ (bY (eG (dQ (bY ?_))))))))));refine ⟨rfl,_,[],rfl,(by repeat(first|exact sL _|apply sC)),bX.mk ?_⟩
    rfl
   refine bS (dP (aR (aH (dJ rfl rfl (bU (by omega) (by omega)) rfl (aU rfl rfl (aE (cR (k + 1) (by show 7 - (k + 1) < 7 - k;omega) (aQ rfl (aQ rfl (aQ rfl (aQ rfl bP)))) (⟨by show k + 1 ≤ 7;omega,rfl,(no7 _ (congrArg some (show decide (0 ≤ s.C - 1 ∧ s.C - 1 < 64) = false from decide_eq_false (by omega))) hx47 (by assumption) hno)⟩) (by repeat(first|exact sL _|apply sD|apply sC)) (bM))))))))
  change ¬ ((k : Nat) : Int) < ((7 : Nat) : Int) at c0_9
  exact (hno (by omega)).elim
theorem sZ (tb : List Int × List Int) (s : Sess) (aJ aS aK aX : Option Addr) (cJ cS cK cX : Nat) (H : Hp) (hJ : SlR (eO .i64) H aJ cJ s.J) (hS : SlR eV H aS cS s.S) (hK : SlR iY H aK cK s.K) (hX : SlR iZ H aX cX s.X) (hT : TB H tb) (hg : GoodS tb s) : FnC Tryz.prog 14 #[.agg ⟨eR s aJ aS aK aX cJ cS cK cX⟩] H [] (bX (fun v _ _=>v = .int .i64 0)):=by
 refine FnC.intro (args:=[.agg ⟨eR s aJ aS aK aX cJ cS cK cX⟩]) Tryz.func14 rfl rfl Tryz.ntmps14 rfl rfl rfl fun G rest=>?_
 refine aZ (aH (dZ rfl rfl rfl (fun b1=>bA rfl rfl (aE (aR (aZ (aZ (aH (bK 0 rfl rfl gV rfl rfl rfl (fQ aAo aAp zC rfl rfl rfl (bR rfl (aGx tb s aJ aS aK aX cJ cS cK cX _ hJ hS hK hX hT hg) rfl (fC rfl rfl (aE (aR (dY rfl rfl (bS (aR (aZ (aH (bA rfl rfl (aE (aR (bW ?_)))))))))))))))))))))));refine ⟨rfl,_,[],rfl,(by repeat(first|exact sL _|apply sC)),bX.mk ?_⟩
 rfl
theorem ocheck_no (s : Sess) (aJ aS aK aX : Option Addr) (cJ cS cK cX : Nat) (H : Hp) (hJ : SlR (eO .i64) H aJ cJ s.J) (hS : SlR eV H aS cS s.S) (hK : SlR iY H aK cK s.K) (hX : SlR iZ H aX cX s.X) (hb : s.C = 0) (hj : s.J.length ≤ 1000) (hn : -1000 ≤ s.N ∧ s.N ≤ 1000) : FnC Tryz.prog 14 #[.agg ⟨eR s aJ aS aK aX cJ cS cK cX⟩] H [] (bX (fun v _ _=>v = .int .i64 360)):=by
 refine FnC.intro (args:=[.agg ⟨eR s aJ aS aK aX cJ cS cK cX⟩]) Tryz.func14 rfl rfl Tryz.ntmps14 rfl rfl rfl fun G rest=>?_
 refine aZ (aH (dZ rfl rfl rfl (fun b1=>bA rfl rfl (aE (aR (aZ (aZ (aH (bK 0 rfl rfl gV rfl rfl rfl (fQ aAo aAp zC rfl rfl rfl (bR rfl (right_no s aJ aS aK aX cJ cS cK cX _ hJ hS hK hX hb hj hn) rfl (fC rfl rfl (aE (aR (eY rfl rfl (aZ (aH (bA rfl rfl (aE (aR (bW (bY ?_))))))))))))))))))))));refine ⟨rfl,_,[],rfl,(by repeat(first|exact sL _|apply sC)),bX.mk ?_⟩
 rfl
theorem gate_no (s : Sess) (aJ aS aK aX : Option Addr) (cJ cS cK cX : Nat) (H : Hp) (hJ : SlR (eO .i64) H aJ cJ s.J) (hS : SlR eV H aS cS s.S) (hK : SlR iY H aK cK s.K) (hX : SlR iZ H aX cX s.X) (hb : s.C = 0) (hj : s.J.length ≤ 1000) (hn : -1000 ≤ s.N ∧ s.N ≤ 1000) : FnC Tryz.prog 4 #[.agg ⟨eR s aJ aS aK aX cJ cS cK cX⟩] H [] (bX (fun v _ _=>v = .tuple #[.bool false,.int .i64 360])):=by
 refine FnC.intro (args:=[.agg ⟨eR s aJ aS aK aX cJ cS cK cX⟩]) Tryz.func4 rfl rfl Tryz.ntmps4 rfl rfl rfl fun G rest=>?_
 refine aZ (aH (dZ rfl rfl rfl (fun b1=>bA rfl rfl (bA rfl rfl (aE (aR (aZ (aZ (aH (bK 0 rfl rfl gV rfl rfl rfl (bR rfl (ocheck_no s aJ aS aK aX cJ cS cK cX _ hJ hS hK hX hb hj hn) rfl (bA rfl rfl (aE (aR (aZ (aH (aU rfl rfl (fZ rfl rfl rfl (aE (aR (eY rfl (decide_eq_true (by decide)) (aZ (aH (aU rfl rfl (bA rfl rfl (bA rfl rfl (aE (aR (bW (bY ?_))))))))))))))))))))))))))))));refine ⟨rfl,_,[],rfl,(by repeat(first|exact sL _|apply sC)),bX.mk ?_⟩
 rfl
end Go.Proofs

namespace Go.Proofs
open Go.XL
abbrev z32 : List UInt8:=List.replicate 32 0
abbrev zCV : List Value:=fA 0 0 0 0 z32 none 0
abbrev zKV : List Value:=pK ⟨0,0,0,0⟩
abbrev zXV : List Value:=oR 0 0 z32 none 0
abbrev wK (k t : Int) (cd ky sh : List Value) : List Value:=.int .i64 k :: .int .i64 t :: (cd ++ (ky ++ sh))
abbrev setT (s : Sess) (t : Int) : Sess:={ s with T:=t }
abbrev addS (s : Sess) (x : Card) : Sess:={ s with S:=s.S ++ [x] }
abbrev addK (s : Sess) (x : KeySh) : Sess:={ s with K:=s.K ++ [x] }
abbrev addX (s : Sess) (x : Shwn) : Sess:={ s with X:=s.X ++ [x] }
theorem qR {α : Type} (ρ : Rep α) (l : List α) : ∀ v H H',Le H H' → SlU ρ l H v → SlU ρ l H' v:=fun _ _ _ hle ⟨a,c,h1,h2⟩=>⟨a,c,h1,h2.mono hle⟩
end Go.Proofs

namespace Go.Proofs
open Go.XL
theorem aNs : lW Tryz.prog 31 = some [(0,1),(1,1),(2,1),(3,1),(4,1),(5,1),(6,1),(7,1),(8,1),(9,1)]:=by kernel_rfl
theorem aMz : mB Tryz.prog 31 = true:=by kernel_rfl
theorem aBb : fW Tryz.prog 58 0 = some 0:=by kernel_rfl
theorem aEi : fW Tryz.prog 58 1 = some 1:=by kernel_rfl
theorem aJq : fW Tryz.prog 58 2 = some 2:=by kernel_rfl
theorem aJd : fW Tryz.prog 58 3 = some 38:=by kernel_rfl
theorem aKa : fW Tryz.prog 58 4 = some 42:=by kernel_rfl
theorem aI4 : tyF Tryz.prog 58 76 true = true:=by kernel_rfl
theorem uG : gH Tryz.prog 31 = some [.int .i64 0,.int .i64 0,.int .i64 0,.slice none 0 0,.int .i64 0,.int .i64 0,.int .i64 0,.slice none 0 0,.slice none 0 0,.slice none 0 0]:=by kernel_rfl
theorem pass_fn (s : Sess) (aJ aS aK aX : Option Addr) (cJ cS cK cX : Nat) (H : Hp) (hJ : SlR (eO .i64) H aJ cJ s.J) (hS : SlR eV H aS cS s.S) (hK : SlR iY H aK cK s.K) (hX : SlR iZ H aX cX s.X) (bs : Nat) (t : Int) (ht : s.T ≤ t ∧ t < 2097152) : FnC Tryz.prog 26 #[.pointer (some ⟨bs,0,none⟩),.agg ⟨wK 1 t (zCV) (zKV) (zXV)⟩] H [(bs,.cells 71 (eR s aJ aS aK aX cJ cS cK cX))] (bX (fun _ _ own=>own = [(bs,.cells 71 (eR (setT s t) aJ aS aK aX cJ cS cK cX))])):=by
 refine FnC.intro (args:=[.pointer (some ⟨bs,0,none⟩),.agg ⟨wK 1 t (zCV) (zKV) (zXV)⟩]) Tryz.func26 rfl rfl Tryz.ntmps26 rfl rfl rfl fun G rest=>?_
 refine aZ (aH (dZ rfl rfl rfl (fun b3=>aE (aR (aZ (cE [0,3] rfl ?_))))))
 apply jR 7 [eqF _,eqF _,eqF _,eqF _,eqF _,eqF _,eqF _] follows (by kernel_rfl) (by kernel_rfl) ⟨bB _,bB _,bB _,bB _,bB _,bB _,bB _,trivial⟩ ?steps1 ?tail1
 case steps1 =>
  refine bO rfl ?_ ?_
  ·intro X
   refine aW rfl (bD rfl aEi rfl (aE ?_))
   exact bH rfl rfl
  refine bO rfl ?_ ?_
  ·intro X
   refine wPq rfl rfl rfl (aW rfl (bK 0 rfl rfl dT rfl rfl rfl (aE ?_)))
   exact bH rfl rfl
  refine bO rfl ?_ ?_
  ·intro X
   refine aW rfl (aU rfl rfl (aE ?_))
   exact bH rfl rfl
  refine bO rfl ?_ ?_
  ·intro X
   refine wPq rfl rfl rfl (aW rfl (eC rfl rfl (aE ?_)))
   exact bH rfl rfl
  refine bO rfl ?_ ?_
  ·intro X
   refine wPq rfl rfl rfl (aW rfl (bD rfl eQ rfl (aE ?_)))
   exact bH rfl rfl
  refine bO rfl ?_ ?_
  ·intro X
   refine wPq rfl rfl rfl (aW rfl (bD rfl wA rfl (aE ?_)))
   exact bH rfl rfl
  refine bO rfl ?_ ?_
  ·intro X
   refine wPq rfl rfl rfl (aW rfl (bK 1 rfl rfl dT rfl rfl rfl (aE ?_)))
   exact bH rfl rfl
  exact eU rfl
 case tail1 =>
  refine wPq rfl rfl rfl (wPq rfl rfl rfl (wPq rfl rfl rfl (wPq rfl rfl rfl (wPq rfl rfl rfl (wPq rfl rfl rfl (wPq rfl rfl rfl (aW rfl (jC rfl rfl rfl (aU rfl rfl (bE rfl rfl (decide_eq_true ht.1) rfl (bD rfl aEi rfl (bE rfl rfl (decide_eq_true ht.1) rfl (bK 0 rfl rfl dT rfl rfl rfl (bE rfl rfl (decide_eq_true ht.1) rfl (dN rfl rfl rfl (dE rfl (decide_eq_true ht.1) rfl rfl (bR rfl (kW _ (decide_eq_true ht.2) _ _) rfl (aE (aR (aH (aU rfl rfl (bD rfl aEi rfl (bK 0 rfl rfl dT rfl rfl rfl (eC rfl rfl (bD rfl eQ rfl (bD rfl wA rfl (bZ 1 rfl rfl rfl rfl dT rfl rfl rfl rfl rfl (aE ?_))))))))))))))))))))))))))));refine ⟨rfl,_,[_],rfl,(by repeat(first|exact sL _|apply sC)),bX.mk ?_⟩
  rfl
theorem oseal_fn (tb : List Int × List Int) (s : Sess) (aJ aS aK aX : Option Addr) (cJ cS cK cX : Nat) (H : Hp) (hJ : SlR (eO .i64) H aJ cJ s.J) (hS : SlR eV H aS cS s.S) (hK : SlR iY H aK cK s.K) (hX : SlR iZ H aX cX s.X) (hT : TB H tb) (bs : Nat) (hg : GoodS tb s) (x : Card) (at_ : Option Addr) (ct : Nat) (ht : SlR (eO .i64) H at_ ct x.C) (hDt : x.D.length = 32) (hno : ¬ nO s) (hq : zY s x) (hall : ∀ y ∈ s.S,qC y x < 0) : FnC Tryz.prog 27 #[.pointer (some ⟨bs,0,none⟩),.agg ⟨wK 2 0 (fA x.R x.E x.J x.C.length x.D at_ ct) (zKV) (zXV)⟩] H [(bs,.cells 71 (eR s aJ aS aK aX cJ cS cK cX))] (bX (fun _ H2 own=>∃ a c,own = [(bs,.cells 71 (eR (addS s x) aJ a aK aX cJ c cK cX))] ∧ SlR eV H2 a c (s.S ++ [x]))):=by
 refine FnC.intro (args:=[.pointer (some ⟨bs,0,none⟩),.agg ⟨wK 2 0 (fA x.R x.E x.J x.C.length x.D at_ ct) (zKV) (zXV)⟩]) Tryz.func27 rfl rfl Tryz.ntmps27 rfl rfl rfl fun G rest=>?_
 refine aZ (aH (dZ rfl rfl rfl (fun b3=>aE (aR (aZ (aH (aU rfl rfl (eC rfl rfl (bK 1 rfl rfl mA rfl rfl rfl (bR rfl (vO s aJ aS aK aX cJ cS cK cX _ hJ hS hK hX) rfl (sE rfl rfl (bR rfl (kW _ (decide_eq_true hno) _ _) rfl (aE (aR (aZ (cE [0,3] rfl ?_))))))))))))))))
 apply jR 5 [eqF _,eqF _,eqF _,eqF _,eqF _] follows (by kernel_rfl) (by kernel_rfl) ⟨bB _,bB _,bB _,bB _,bB _,trivial⟩ ?steps3 ?tail3
 case steps3 =>
  refine bO rfl ?_ ?_
  ·intro X
   refine aW rfl (aU rfl rfl (aE ?_))
   exact bH rfl rfl
  refine bO rfl ?_ ?_
  ·intro X
   refine wPq rfl rfl rfl (aW rfl (eC rfl rfl (aE ?_)))
   exact bH rfl rfl
  refine bO rfl ?_ ?_
  ·intro X
   refine wPq rfl rfl rfl (aW rfl (bK 1 rfl rfl mA rfl rfl rfl (aE ?_)))
   exact bH rfl rfl
  refine bO rfl ?_ ?_
  ·intro X
   refine aW rfl (bD rfl aJq rfl (aE ?_))
   exact bH rfl rfl
  refine bO rfl ?_ ?_
  ·intro X
   refine wPq rfl rfl rfl (aW rfl (bK 0 rfl rfl eI rfl rfl rfl (aE ?_)))
   exact bH rfl rfl
  exact eU rfl
 case tail3 =>
  refine wPq rfl rfl rfl (wPq rfl rfl rfl (wPq rfl rfl rfl (wPq rfl rfl rfl (wPq rfl rfl rfl (aW rfl (bR rfl (aHl s aJ aS aK aX cJ cS cK cX _ hJ hS hK hX x _ _ ht hDt (by have:=hg.j;omega) hq) rfl (bR rfl (kW _ rfl _ _) rfl (aE (aR (cE [0,3] rfl ?_))))))))))
  apply iJ (fun _=>True) trivial 9 [eqF _,eqF _,eqF _,eqF _,eqF _,eqF _,eqF _,eqF _,fun v H=>SlU eV (s.S ++ [x]) H v] follows (by kernel_rfl) (by kernel_rfl) ⟨bB _,bB _,bB _,bB _,bB _,bB _,bB _,bB _,qR _ _,trivial⟩ ?steps6 ?tail6
  case steps6 =>
   refine bI rfl ?_ ?_
   ·intro X HD aD _
    replace hJ:=hJ.mono aD;replace hS:=hS.mono aD;replace hK:=hK.mono aD;replace hX:=hX.mono aD;replace hT:=hT.mono aD;replace ht:=ht.mono aD;refine aW rfl (aU rfl rfl (aE ?_))
    exact bH trivial rfl
   refine bI rfl ?_ ?_
   ·intro X HD aD _
    replace hJ:=hJ.mono aD;replace hS:=hS.mono aD;replace hK:=hK.mono aD;replace hX:=hX.mono aD;replace hT:=hT.mono aD;replace ht:=ht.mono aD;refine aW rfl (aU rfl rfl (aE ?_))
    exact bH trivial rfl
   refine bI rfl ?_ ?_
   ·intro X HD aD _
    replace hJ:=hJ.mono aD;replace hS:=hS.mono aD;replace hK:=hK.mono aD;replace hX:=hX.mono aD;replace hT:=hT.mono aD;replace ht:=ht.mono aD;refine wPq rfl rfl rfl (aW rfl (eC rfl rfl (aE ?_)))
    exact bH trivial rfl
   refine bI rfl ?_ ?_
   ·intro X HD aD _
    replace hJ:=hJ.mono aD;replace hS:=hS.mono aD;replace hK:=hK.mono aD;replace hX:=hX.mono aD;replace hT:=hT.mono aD;replace ht:=ht.mono aD;refine wPq rfl rfl rfl (aW rfl (bD rfl eQ rfl (aE ?_)))
    exact bH trivial rfl
   refine bI rfl ?_ ?_
   ·intro X HD aD _
    replace hJ:=hJ.mono aD;replace hS:=hS.mono aD;replace hK:=hK.mono aD;replace hX:=hX.mono aD;replace hT:=hT.mono aD;replace ht:=ht.mono aD;refine wPq rfl rfl rfl (aW rfl (bD rfl uA rfl (aE ?_)))
    exact bH trivial rfl
   refine bI rfl ?_ ?_
   ·intro X HD aD _
    replace hJ:=hJ.mono aD;replace hS:=hS.mono aD;replace hK:=hK.mono aD;replace hX:=hX.mono aD;replace hT:=hT.mono aD;replace ht:=ht.mono aD;refine wPq rfl rfl rfl (aW rfl (bK 1 rfl rfl gQ rfl rfl rfl (aE ?_)))
    exact bH trivial rfl
   refine bI rfl ?_ ?_
   ·intro X HD aD _
    replace hJ:=hJ.mono aD;replace hS:=hS.mono aD;replace hK:=hK.mono aD;replace hX:=hX.mono aD;replace hT:=hT.mono aD;replace ht:=ht.mono aD;refine aW rfl (bD rfl aJq rfl (aE ?_))
    exact bH trivial rfl
   refine bI rfl ?_ ?_
   ·intro X HD aD _
    replace hJ:=hJ.mono aD;replace hS:=hS.mono aD;replace hK:=hK.mono aD;replace hX:=hX.mono aD;replace hT:=hT.mono aD;replace ht:=ht.mono aD;refine wPq rfl rfl rfl (aW rfl (bK 0 rfl rfl eI rfl rfl rfl (aE ?_)))
    exact bH trivial rfl
   refine bI rfl ?_ ?_
   ·intro X HD aD _
    replace hJ:=hJ.mono aD;replace hS:=hS.mono aD;replace hK:=hK.mono aD;replace hX:=hX.mono aD;replace hT:=hT.mono aD;replace ht:=ht.mono aD;refine wPq rfl rfl rfl (wPq rfl rfl rfl (aW rfl (fI rfl (putC_fn _ _ s.S _ hS hg.lS x _ _ ht hDt hall _) rfl ?_)));rintro _ HN25 hleN25 ⟨aN25,cN25,rfl,hN25⟩;replace hJ:=hJ.mono hleN25;replace hS:=hS.mono hleN25;replace hK:=hK.mono hleN25;replace hX:=hX.mono hleN25;replace hT:=hT.mono hleN25;replace ht:=ht.mono hleN25;refine aE ?_
    exact bH trivial (⟨_,_,rfl,hN25⟩)
   exact eU rfl
  case tail6 =>
   intro HD aD _
   replace hJ:=hJ.mono aD;replace hS:=hS.mono aD;replace hK:=hK.mono aD;replace hX:=hX.mono aD;replace hT:=hT.mono aD;replace ht:=ht.mono aD;refine wPq rfl rfl rfl (wPq rfl rfl rfl (wPq rfl rfl rfl (wPq rfl rfl rfl (wPq rfl rfl rfl (wPq rfl rfl rfl (wPq rfl rfl rfl (wPq rfl rfl rfl (cU rfl rfl ?_))))))));rintro _ ⟨aP,cP,rfl,hP⟩;refine aW rfl (eC rfl rfl (bD rfl eQ rfl (bD rfl uA rfl (bZ 1 rfl rfl rfl rfl gQ rfl rfl rfl rfl rfl (aE ?_)))));refine ⟨rfl,_,[_],rfl,(by repeat(first|exact sL _|apply sC)),bX.mk ?_⟩
   exact ⟨_,_,rfl,hP⟩
theorem oshare_fn (tb : List Int × List Int) (s : Sess) (aJ aS aK aX : Option Addr) (cJ cS cK cX : Nat) (H : Hp) (hJ : SlR (eO .i64) H aJ cJ s.J) (hS : SlR eV H aS cS s.S) (hK : SlR iY H aK cK s.K) (hX : SlR iZ H aX cX s.X) (hT : TB H tb) (bs : Nat) (hg : GoodS tb s) (x : KeySh) (hno : nO s) (hq : vT s x) (hall : ∀ y ∈ s.K,qK y x < 0) : FnC Tryz.prog 28 #[.pointer (some ⟨bs,0,none⟩),.agg ⟨wK 3 0 (zCV) (pK x) (zXV)⟩] H [(bs,.cells 71 (eR s aJ aS aK aX cJ cS cK cX))] (bX (fun _ H2 own=>∃ a c,own = [(bs,.cells 71 (eR (addK s x) aJ aS a aX cJ cS c cX))] ∧ SlR iY H2 a c (s.K ++ [x]))):=by
 refine FnC.intro (args:=[.pointer (some ⟨bs,0,none⟩),.agg ⟨wK 3 0 (zCV) (pK x) (zXV)⟩]) Tryz.func28 rfl rfl Tryz.ntmps28 rfl rfl rfl fun G rest=>?_
 refine aZ (aH (dZ rfl rfl rfl (fun b3=>aE (aR (aZ (aH (aU rfl rfl (eC rfl rfl (bK 1 rfl rfl mA rfl rfl rfl (bR rfl (vO s aJ aS aK aX cJ cS cK cX _ hJ hS hK hX) rfl (bR rfl (kW _ (decide_eq_true hno) _ _) rfl (aE (aR (aZ (cE [0,3] rfl ?_)))))))))))))))
 apply jR 5 [eqF _,eqF _,eqF _,eqF _,eqF _] follows (by kernel_rfl) (by kernel_rfl) ⟨bB _,bB _,bB _,bB _,bB _,trivial⟩ ?steps3 ?tail3
 case steps3 =>
  refine bO rfl ?_ ?_
  ·intro X
   refine aW rfl (aU rfl rfl (aE ?_))
   exact bH rfl rfl
  refine bO rfl ?_ ?_
  ·intro X
   refine wPq rfl rfl rfl (aW rfl (eC rfl rfl (aE ?_)))
   exact bH rfl rfl
  refine bO rfl ?_ ?_
  ·intro X
   refine wPq rfl rfl rfl (aW rfl (bK 1 rfl rfl mA rfl rfl rfl (aE ?_)))
   exact bH rfl rfl
  refine bO rfl ?_ ?_
  ·intro X
   refine aW rfl (bD rfl aJd rfl (aE ?_))
   exact bH rfl rfl
  refine bO rfl ?_ ?_
  ·intro X
   refine wPq rfl rfl rfl (aW rfl (bK 0 rfl rfl mH rfl rfl rfl (aE ?_)))
   exact bH rfl rfl
  exact eU rfl
 case tail3 =>
  refine wPq rfl rfl rfl (wPq rfl rfl rfl (wPq rfl rfl rfl (wPq rfl rfl rfl (wPq rfl rfl rfl (aW rfl (bR rfl (aDt s aJ aS aK aX cJ cS cK cX _ hJ hS hK hX x (by have:=hg.j;omega) hq) rfl (bR rfl (kW _ rfl _ _) rfl (aE (aR (cE [0,3] rfl ?_))))))))))
  apply iJ (fun _=>True) trivial 9 [eqF _,eqF _,eqF _,eqF _,eqF _,eqF _,eqF _,eqF _,fun v H=>SlU iY (s.K ++ [x]) H v] follows (by kernel_rfl) (by kernel_rfl) ⟨bB _,bB _,bB _,bB _,bB _,bB _,bB _,bB _,qR _ _,trivial⟩ ?steps6 ?tail6
  case steps6 =>
   refine bI rfl ?_ ?_
   ·intro X HD aD _
    replace hJ:=hJ.mono aD;replace hS:=hS.mono aD;replace hK:=hK.mono aD;replace hX:=hX.mono aD;replace hT:=hT.mono aD;refine aW rfl (aU rfl rfl (aE ?_))
    exact bH trivial rfl
   refine bI rfl ?_ ?_
   ·intro X HD aD _
    replace hJ:=hJ.mono aD;replace hS:=hS.mono aD;replace hK:=hK.mono aD;replace hX:=hX.mono aD;replace hT:=hT.mono aD;refine aW rfl (aU rfl rfl (aE ?_))
    exact bH trivial rfl
   refine bI rfl ?_ ?_
   ·intro X HD aD _
    replace hJ:=hJ.mono aD;replace hS:=hS.mono aD;replace hK:=hK.mono aD;replace hX:=hX.mono aD;replace hT:=hT.mono aD;refine wPq rfl rfl rfl (aW rfl (eC rfl rfl (aE ?_)))
    exact bH trivial rfl
   refine bI rfl ?_ ?_
   ·intro X HD aD _
    replace hJ:=hJ.mono aD;replace hS:=hS.mono aD;replace hK:=hK.mono aD;replace hX:=hX.mono aD;replace hT:=hT.mono aD;refine wPq rfl rfl rfl (aW rfl (bD rfl eQ rfl (aE ?_)))
    exact bH trivial rfl
   refine bI rfl ?_ ?_
   ·intro X HD aD _
    replace hJ:=hJ.mono aD;replace hS:=hS.mono aD;replace hK:=hK.mono aD;replace hX:=hX.mono aD;replace hT:=hT.mono aD;refine wPq rfl rfl rfl (aW rfl (bD rfl vW rfl (aE ?_)))
    exact bH trivial rfl
   refine bI rfl ?_ ?_
   ·intro X HD aD _
    replace hJ:=hJ.mono aD;replace hS:=hS.mono aD;replace hK:=hK.mono aD;replace hX:=hX.mono aD;replace hT:=hT.mono aD;refine wPq rfl rfl rfl (aW rfl (bK 1 rfl rfl aD4 rfl rfl rfl (aE ?_)))
    exact bH trivial rfl
   refine bI rfl ?_ ?_
   ·intro X HD aD _
    replace hJ:=hJ.mono aD;replace hS:=hS.mono aD;replace hK:=hK.mono aD;replace hX:=hX.mono aD;replace hT:=hT.mono aD;refine aW rfl (bD rfl aJd rfl (aE ?_))
    exact bH trivial rfl
   refine bI rfl ?_ ?_
   ·intro X HD aD _
    replace hJ:=hJ.mono aD;replace hS:=hS.mono aD;replace hK:=hK.mono aD;replace hX:=hX.mono aD;replace hT:=hT.mono aD;refine wPq rfl rfl rfl (aW rfl (bK 0 rfl rfl mH rfl rfl rfl (aE ?_)))
    exact bH trivial rfl
   refine bI rfl ?_ ?_
   ·intro X HD aD _
    replace hJ:=hJ.mono aD;replace hS:=hS.mono aD;replace hK:=hK.mono aD;replace hX:=hX.mono aD;replace hT:=hT.mono aD;refine wPq rfl rfl rfl (wPq rfl rfl rfl (aW rfl (fI rfl (putK_fn _ _ s.K _ hK hg.lK x  hall _) rfl ?_)));rintro _ HN24 mZ ⟨aN24,cN24,rfl,hN24⟩;replace hJ:=hJ.mono mZ;replace hS:=hS.mono mZ;replace hK:=hK.mono mZ;replace hX:=hX.mono mZ;replace hT:=hT.mono mZ;refine aE ?_
    exact bH trivial (⟨_,_,rfl,hN24⟩)
   exact eU rfl
  case tail6 =>
   intro HD aD _
   replace hJ:=hJ.mono aD;replace hS:=hS.mono aD;replace hK:=hK.mono aD;replace hX:=hX.mono aD;replace hT:=hT.mono aD;refine wPq rfl rfl rfl (wPq rfl rfl rfl (wPq rfl rfl rfl (wPq rfl rfl rfl (wPq rfl rfl rfl (wPq rfl rfl rfl (wPq rfl rfl rfl (wPq rfl rfl rfl (cU rfl rfl ?_))))))));rintro _ ⟨aP,cP,rfl,hP⟩;refine aW rfl (eC rfl rfl (bD rfl eQ rfl (bD rfl vW rfl (bZ 1 rfl rfl rfl rfl aD4 rfl rfl rfl rfl rfl (aE ?_)))));refine ⟨rfl,_,[_],rfl,(by repeat(first|exact sL _|apply sC)),bX.mk ?_⟩
   exact ⟨_,_,rfl,hP⟩
theorem oshow_fn (tb : List Int × List Int) (s : Sess) (aJ aS aK aX : Option Addr) (cJ cS cK cX : Nat) (H : Hp) (hJ : SlR (eO .i64) H aJ cJ s.J) (hS : SlR eV H aS cS s.S) (hK : SlR iY H aK cK s.K) (hX : SlR iZ H aX cX s.X) (hT : TB H tb) (bs : Nat) (hg : GoodS tb s) (x : Shwn) (at_ : Option Addr) (ct : Nat) (ht : SlR (eO .i64) H at_ ct x.K) (hDt : x.D.length = 32) (hno : nO s) (hq : vK tb s x) (hall : ∀ y ∈ s.X,qX y x < 0) : FnC Tryz.prog 29 #[.pointer (some ⟨bs,0,none⟩),.agg ⟨wK 4 0 (zCV) (zKV) (oR x.J x.K.length x.D at_ ct)⟩] H [(bs,.cells 71 (eR s aJ aS aK aX cJ cS cK cX))] (bX (fun _ H2 own=>∃ a c,own = [(bs,.cells 71 (eR (addX s x) aJ aS aK a cJ cS cK c))] ∧ SlR iZ H2 a c (s.X ++ [x]))):=by
 refine FnC.intro (args:=[.pointer (some ⟨bs,0,none⟩),.agg ⟨wK 4 0 (zCV) (zKV) (oR x.J x.K.length x.D at_ ct)⟩]) Tryz.func29 rfl rfl Tryz.ntmps29 rfl rfl rfl fun G rest=>?_
 refine aZ (aH (dZ rfl rfl rfl (fun b3=>aE (aR (aZ (aH (aU rfl rfl (eC rfl rfl (bK 1 rfl rfl mA rfl rfl rfl (bR rfl (vO s aJ aS aK aX cJ cS cK cX _ hJ hS hK hX) rfl (bR rfl (kW _ (decide_eq_true hno) _ _) rfl (aE (aR (aZ (cE [0,3] rfl ?_)))))))))))))))
 apply jR 5 [eqF _,eqF _,eqF _,eqF _,eqF _] follows (by kernel_rfl) (by kernel_rfl) ⟨bB _,bB _,bB _,bB _,bB _,trivial⟩ ?steps3 ?tail3
 case steps3 =>
  refine bO rfl ?_ ?_
  ·intro X
   refine aW rfl (aU rfl rfl (aE ?_))
   exact bH rfl rfl
  refine bO rfl ?_ ?_
  ·intro X
   refine wPq rfl rfl rfl (aW rfl (eC rfl rfl (aE ?_)))
   exact bH rfl rfl
  refine bO rfl ?_ ?_
  ·intro X
   refine wPq rfl rfl rfl (aW rfl (bK 1 rfl rfl mA rfl rfl rfl (aE ?_)))
   exact bH rfl rfl
  refine bO rfl ?_ ?_
  ·intro X
   refine aW rfl (bD rfl aKa rfl (aE ?_))
   exact bH rfl rfl
  refine bO rfl ?_ ?_
  ·intro X
   refine wPq rfl rfl rfl (aW rfl (bK 0 rfl rfl lG rfl rfl rfl (aE ?_)))
   exact bH rfl rfl
  exact eU rfl
 case tail3 =>
  refine wPq rfl rfl rfl (wPq rfl rfl rfl (wPq rfl rfl rfl (wPq rfl rfl rfl (wPq rfl rfl rfl (aW rfl (bR rfl (aHk tb s aJ aS aK aX cJ cS cK cX _ hJ hS hK hX hT x _ _ ht hDt hg.s1 hg.lS hq) rfl (bR rfl (kW _ rfl _ _) rfl (aE (aR (cE [0,3] rfl ?_))))))))))
  apply iJ (fun _=>True) trivial 9 [eqF _,eqF _,eqF _,eqF _,eqF _,eqF _,eqF _,eqF _,fun v H=>SlU iZ (s.X ++ [x]) H v] follows (by kernel_rfl) (by kernel_rfl) ⟨bB _,bB _,bB _,bB _,bB _,bB _,bB _,bB _,qR _ _,trivial⟩ ?steps6 ?tail6
  case steps6 =>
   refine bI rfl ?_ ?_
   ·intro X HD aD _
    replace hJ:=hJ.mono aD;replace hS:=hS.mono aD;replace hK:=hK.mono aD;replace hX:=hX.mono aD;replace hT:=hT.mono aD;replace ht:=ht.mono aD;refine aW rfl (aU rfl rfl (aE ?_))
    exact bH trivial rfl
   refine bI rfl ?_ ?_
   ·intro X HD aD _
    replace hJ:=hJ.mono aD;replace hS:=hS.mono aD;replace hK:=hK.mono aD;replace hX:=hX.mono aD;replace hT:=hT.mono aD;replace ht:=ht.mono aD;refine aW rfl (aU rfl rfl (aE ?_))
    exact bH trivial rfl
   refine bI rfl ?_ ?_
   ·intro X HD aD _
    replace hJ:=hJ.mono aD;replace hS:=hS.mono aD;replace hK:=hK.mono aD;replace hX:=hX.mono aD;replace hT:=hT.mono aD;replace ht:=ht.mono aD;refine wPq rfl rfl rfl (aW rfl (eC rfl rfl (aE ?_)))
    exact bH trivial rfl
   refine bI rfl ?_ ?_
   ·intro X HD aD _
    replace hJ:=hJ.mono aD;replace hS:=hS.mono aD;replace hK:=hK.mono aD;replace hX:=hX.mono aD;replace hT:=hT.mono aD;replace ht:=ht.mono aD;refine wPq rfl rfl rfl (aW rfl (bD rfl eQ rfl (aE ?_)))
    exact bH trivial rfl
   refine bI rfl ?_ ?_
   ·intro X HD aD _
    replace hJ:=hJ.mono aD;replace hS:=hS.mono aD;replace hK:=hK.mono aD;replace hX:=hX.mono aD;replace hT:=hT.mono aD;replace ht:=ht.mono aD;refine wPq rfl rfl rfl (aW rfl (bD rfl pQ rfl (aE ?_)))
    exact bH trivial rfl
   refine bI rfl ?_ ?_
   ·intro X HD aD _
    replace hJ:=hJ.mono aD;replace hS:=hS.mono aD;replace hK:=hK.mono aD;replace hX:=hX.mono aD;replace hT:=hT.mono aD;replace ht:=ht.mono aD;refine wPq rfl rfl rfl (aW rfl (bK 1 rfl rfl zB rfl rfl rfl (aE ?_)))
    exact bH trivial rfl
   refine bI rfl ?_ ?_
   ·intro X HD aD _
    replace hJ:=hJ.mono aD;replace hS:=hS.mono aD;replace hK:=hK.mono aD;replace hX:=hX.mono aD;replace hT:=hT.mono aD;replace ht:=ht.mono aD;refine aW rfl (bD rfl aKa rfl (aE ?_))
    exact bH trivial rfl
   refine bI rfl ?_ ?_
   ·intro X HD aD _
    replace hJ:=hJ.mono aD;replace hS:=hS.mono aD;replace hK:=hK.mono aD;replace hX:=hX.mono aD;replace hT:=hT.mono aD;replace ht:=ht.mono aD;refine wPq rfl rfl rfl (aW rfl (bK 0 rfl rfl lG rfl rfl rfl (aE ?_)))
    exact bH trivial rfl
   refine bI rfl ?_ ?_
   ·intro X HD aD _
    replace hJ:=hJ.mono aD;replace hS:=hS.mono aD;replace hK:=hK.mono aD;replace hX:=hX.mono aD;replace hT:=hT.mono aD;replace ht:=ht.mono aD;refine wPq rfl rfl rfl (wPq rfl rfl rfl (aW rfl (fI rfl (putX_fn _ _ s.X _ hX hg.lX x _ _ ht hDt hall _) rfl ?_)));rintro _ HN24 mZ ⟨aN24,cN24,rfl,hN24⟩;replace hJ:=hJ.mono mZ;replace hS:=hS.mono mZ;replace hK:=hK.mono mZ;replace hX:=hX.mono mZ;replace hT:=hT.mono mZ;replace ht:=ht.mono mZ;refine aE ?_
    exact bH trivial (⟨_,_,rfl,hN24⟩)
   exact eU rfl
  case tail6 =>
   intro HD aD _
   replace hJ:=hJ.mono aD;replace hS:=hS.mono aD;replace hK:=hK.mono aD;replace hX:=hX.mono aD;replace hT:=hT.mono aD;replace ht:=ht.mono aD;refine wPq rfl rfl rfl (wPq rfl rfl rfl (wPq rfl rfl rfl (wPq rfl rfl rfl (wPq rfl rfl rfl (wPq rfl rfl rfl (wPq rfl rfl rfl (wPq rfl rfl rfl (cU rfl rfl ?_))))))));rintro _ ⟨aP,cP,rfl,hP⟩;refine aW rfl (eC rfl rfl (bD rfl eQ rfl (bD rfl pQ rfl (bZ 1 rfl rfl rfl rfl zB rfl rfl rfl rfl rfl (aE ?_)))));refine ⟨rfl,_,[_],rfl,(by repeat(first|exact sL _|apply sC)),bX.mk ?_⟩
   exact ⟨_,_,rfl,hP⟩
theorem do_time (tb : List Int × List Int) (s : Sess) (aJ aS aK aX : Option Addr) (cJ cS cK cX : Nat) (H : Hp) (hJ : SlR (eO .i64) H aJ cJ s.J) (hS : SlR eV H aS cS s.S) (hK : SlR iY H aK cK s.K) (hX : SlR iZ H aX cX s.X) (hT : TB H tb) (hg : GoodS tb s) (t : Int) (ht : s.T ≤ t ∧ t < 2097152) : FnC Tryz.prog 10 #[.agg ⟨eR s aJ aS aK aX cJ cS cK cX⟩,.agg ⟨wK 1 t (zCV) (zKV) (zXV)⟩] H [] (bX (fun v _ own=>own = [] ∧ v = .tuple #[.agg ⟨eR (setT s t) aJ aS aK aX cJ cS cK cX⟩,.int .i64 0])):=by
 refine FnC.introD (args:=[.agg ⟨eR s aJ aS aK aX cJ cS cK cX⟩,.agg ⟨wK 1 t (zCV) (zKV) (zXV)⟩]) Tryz.func10 rfl rfl Tryz.ntmps10 rfl rfl rfl fun G rest=>?_
 refine aZ (aH (dZ rfl rfl rfl (fun b2=>dZ rfl rfl rfl (fun b3=>dC uG rfl (fun b4=>dC aAk rfl (fun b5=>aE (aR (aZ (aH (nE (L:=[_,_,_,_]) rfl rfl rfl rfl rfl (fun msD rest hrest=>?_)))))))))))
 simp only [List.cons_append,List.nil_append]
 refine aE (aR (aZ (aH (bK 3 rfl rfl gV rfl rfl rfl (bR rfl (sZ tb s aJ aS aK aX cJ cS cK cX _ hJ hS hK hX hT hg) rfl (fY rfl rfl rfl (bR rfl (kW _ (decide_eq_true rfl) _ _) rfl (aE (aR (aZ (aH (qJ rfl (fun b14=>iU 0 rfl rfl rfl rfl (sG.nil .i64) Tryz.underlying94 Tryz.underlying3 rfl ?_)))))))))))))
 intro es1 cl1 hM1
 refine iU 0 rfl rfl rfl rfl hM1 Tryz.underlying94 Tryz.underlying3 rfl ?_
 intro es2 cl2 hM2
 refine iU 0 rfl rfl rfl rfl hM2 Tryz.underlying94 Tryz.underlying3 rfl ?_
 intro es3 cl3 hM3
 refine iU 0 rfl rfl rfl rfl hM3 Tryz.underlying94 Tryz.underlying3 rfl ?_
 intro es4 cl4 hM4
 refine aU rfl rfl (bD rfl aBb rfl (bK 3 rfl rfl dT rfl rfl rfl (tE 0 (z:=.nilFunc) (v:=.func (.func 26) #[] #[]) (q:=true) rfl rfl rfl hM4 Tryz.underlying94 Tryz.underlying3 (by kernel_rfl) rfl rfl rfl (aU rfl rfl (bV rfl rfl rfl (bV rfl rfl rfl (bA rfl rfl (bA rfl rfl (aE (aR (aZ (aH (aU rfl rfl (bR rfl (kW _ rfl _ _) rfl (aE (aR (aZ (aH (bK 4 rfl rfl gV rfl rfl rfl (fQ aAo aAp zC rfl rfl rfl (dZ rfl rfl rfl (fun b25=>bA rfl rfl (aE (aR (aZ (aH (aU rfl rfl (aU rfl rfl (bK 4 rfl rfl aI4 rfl rfl rfl (qE 0 rfl trivial rfl (FnV.of_fn (cap:=[]) (args:=[_,_]) (pass_fn s aJ aS aK aX cJ cS cK cX _ hJ hS hK hX b25 t ht)) rfl rfl ?_))))))))))))))))))))))))))))));rintro _ HV _ nZ rfl;refine ⟨_,rfl,?_⟩;replace hJ:=hJ.mono nZ;replace hS:=hS.mono nZ;replace hK:=hK.mono nZ;replace hX:=hX.mono nZ;replace hT:=hT.mono nZ;refine aE (aR (aZ (aH (aU rfl rfl (eC rfl rfl (bD rfl eQ rfl (bK 0 rfl rfl gV rfl rfl rfl (bZ 3 rfl rfl rfl rfl gV rfl rfl rfl rfl rfl (bZ 2 rfl rfl rfl rfl mO rfl rfl rfl rfl rfl (aE (aR (bW (jN 2 (L:=[_,_,_,_,_,_]) rfl hrest rfl ((sA _ _ _).mono (fun u2 HE own2 jD hD=>?_)))))))))))))));obtain ⟨h1,h2⟩:=hD
 subst h2
 replace hJ:=hJ.mono jD;replace hS:=hS.mono jD;replace hK:=hK.mono jD;replace hX:=hX.mono jD;replace hT:=hT.mono jD;refine ⟨by subst h1;rfl,_,_,rfl,(fH 3 rfl rfl gV rfl rfl (fH 0 rfl rfl mO rfl rfl gB)),bX.mk ?_⟩
 exact ⟨rfl,rfl⟩
theorem do_seal (tb : List Int × List Int) (s : Sess) (aJ aS aK aX : Option Addr) (cJ cS cK cX : Nat) (H : Hp) (hJ : SlR (eO .i64) H aJ cJ s.J) (hS : SlR eV H aS cS s.S) (hK : SlR iY H aK cK s.K) (hX : SlR iZ H aX cX s.X) (hT : TB H tb) (hg : GoodS tb s) (x : Card) (at_ : Option Addr) (ct : Nat) (ht : SlR (eO .i64) H at_ ct x.C) (hDt : x.D.length = 32) (hno : ¬ nO s) (hq : zY s x) (hall : ∀ y ∈ s.S,qC y x < 0) : FnC Tryz.prog 10 #[.agg ⟨eR s aJ aS aK aX cJ cS cK cX⟩,.agg ⟨wK 2 0 (fA x.R x.E x.J x.C.length x.D at_ ct) (zKV) (zXV)⟩] H [] (bX (fun v H2 own=>own = [] ∧ ∃ a c,v = .tuple #[.agg ⟨eR (addS s x) aJ a aK aX cJ c cK cX⟩,.int .i64 0] ∧ SlR eV H2 a c (s.S ++ [x]))):=by
 refine FnC.introD (args:=[.agg ⟨eR s aJ aS aK aX cJ cS cK cX⟩,.agg ⟨wK 2 0 (fA x.R x.E x.J x.C.length x.D at_ ct) (zKV) (zXV)⟩]) Tryz.func10 rfl rfl Tryz.ntmps10 rfl rfl rfl fun G rest=>?_
 refine aZ (aH (dZ rfl rfl rfl (fun b2=>dZ rfl rfl rfl (fun b3=>dC uG rfl (fun b4=>dC aAk rfl (fun b5=>aE (aR (aZ (aH (nE (L:=[_,_,_,_]) rfl rfl rfl rfl rfl (fun msD rest hrest=>?_)))))))))))
 simp only [List.cons_append,List.nil_append]
 refine aE (aR (aZ (aH (bK 3 rfl rfl gV rfl rfl rfl (bR rfl (sZ tb s aJ aS aK aX cJ cS cK cX _ hJ hS hK hX hT hg) rfl (fY rfl rfl rfl (bR rfl (kW _ (decide_eq_true rfl) _ _) rfl (aE (aR (aZ (aH (qJ rfl (fun b14=>iU 0 rfl rfl rfl rfl (sG.nil .i64) Tryz.underlying94 Tryz.underlying3 rfl ?_)))))))))))))
 intro es1 cl1 hM1
 refine iU 0 rfl rfl rfl rfl hM1 Tryz.underlying94 Tryz.underlying3 rfl ?_
 intro es2 cl2 hM2
 refine iU 0 rfl rfl rfl rfl hM2 Tryz.underlying94 Tryz.underlying3 rfl ?_
 intro es3 cl3 hM3
 refine iU 0 rfl rfl rfl rfl hM3 Tryz.underlying94 Tryz.underlying3 rfl ?_
 intro es4 cl4 hM4
 refine aU rfl rfl (bD rfl aBb rfl (bK 3 rfl rfl dT rfl rfl rfl (tE 0 (z:=.nilFunc) (v:=.func (.func 27) #[] #[]) (q:=true) rfl rfl rfl hM4 Tryz.underlying94 Tryz.underlying3 (by kernel_rfl) rfl rfl rfl (aU rfl rfl (bV rfl rfl rfl (bV rfl rfl rfl (bA rfl rfl (bA rfl rfl (aE (aR (aZ (aH (aU rfl rfl (bR rfl (kW _ rfl _ _) rfl (aE (aR (aZ (aH (bK 4 rfl rfl gV rfl rfl rfl (fQ aAo aAp zC rfl rfl rfl (dZ rfl rfl rfl (fun b25=>bA rfl rfl (aE (aR (aZ (aH (aU rfl rfl (aU rfl rfl (bK 4 rfl rfl aI4 rfl rfl rfl (qE 0 rfl trivial rfl (FnV.of_fn (cap:=[]) (args:=[_,_]) (oseal_fn tb s aJ aS aK aX cJ cS cK cX _ hJ hS hK hX hT b25 hg x _ _ ht hDt hno hq hall)) rfl rfl ?_))))))))))))))))))))))))))))));rintro _ HV _ nZ ⟨aP,cP,rfl,hP⟩;refine ⟨_,rfl,?_⟩;replace hJ:=hJ.mono nZ;replace hS:=hS.mono nZ;replace hK:=hK.mono nZ;replace hX:=hX.mono nZ;replace hT:=hT.mono nZ;replace ht:=ht.mono nZ;refine aE (aR (aZ (aH (aU rfl rfl (eC rfl rfl (bD rfl eQ rfl (bK 0 rfl rfl gV rfl rfl rfl (bZ 3 rfl rfl rfl rfl gV rfl rfl rfl rfl rfl (bZ 2 rfl rfl rfl rfl mO rfl rfl rfl rfl rfl (aE (aR (bW (jN 2 (L:=[_,_,_,_,_,_]) rfl hrest rfl ((sA _ _ _).mono (fun u2 HE own2 jD hD=>?_)))))))))))))));obtain ⟨h1,h2⟩:=hD
 subst h2
 replace hJ:=hJ.mono jD;replace hS:=hS.mono jD;replace hK:=hK.mono jD;replace hX:=hX.mono jD;replace hT:=hT.mono jD;replace ht:=ht.mono jD;replace hP:=hP.mono jD;refine ⟨by subst h1;rfl,_,_,rfl,(fH 3 rfl rfl gV rfl rfl (fH 0 rfl rfl mO rfl rfl gB)),bX.mk ?_⟩
 exact ⟨rfl,_,_,rfl,hP⟩
theorem do_share (tb : List Int × List Int) (s : Sess) (aJ aS aK aX : Option Addr) (cJ cS cK cX : Nat) (H : Hp) (hJ : SlR (eO .i64) H aJ cJ s.J) (hS : SlR eV H aS cS s.S) (hK : SlR iY H aK cK s.K) (hX : SlR iZ H aX cX s.X) (hT : TB H tb) (hg : GoodS tb s) (x : KeySh) (hno : nO s) (hq : vT s x) (hall : ∀ y ∈ s.K,qK y x < 0) : FnC Tryz.prog 10 #[.agg ⟨eR s aJ aS aK aX cJ cS cK cX⟩,.agg ⟨wK 3 0 (zCV) (pK x) (zXV)⟩] H [] (bX (fun v H2 own=>own = [] ∧ ∃ a c,v = .tuple #[.agg ⟨eR (addK s x) aJ aS a aX cJ cS c cX⟩,.int .i64 0] ∧ SlR iY H2 a c (s.K ++ [x]))):=by
 refine FnC.introD (args:=[.agg ⟨eR s aJ aS aK aX cJ cS cK cX⟩,.agg ⟨wK 3 0 (zCV) (pK x) (zXV)⟩]) Tryz.func10 rfl rfl Tryz.ntmps10 rfl rfl rfl fun G rest=>?_
 refine aZ (aH (dZ rfl rfl rfl (fun b2=>dZ rfl rfl rfl (fun b3=>dC uG rfl (fun b4=>dC aAk rfl (fun b5=>aE (aR (aZ (aH (nE (L:=[_,_,_,_]) rfl rfl rfl rfl rfl (fun msD rest hrest=>?_)))))))))))
 simp only [List.cons_append,List.nil_append]
 refine aE (aR (aZ (aH (bK 3 rfl rfl gV rfl rfl rfl (bR rfl (sZ tb s aJ aS aK aX cJ cS cK cX _ hJ hS hK hX hT hg) rfl (fY rfl rfl rfl (bR rfl (kW _ (decide_eq_true rfl) _ _) rfl (aE (aR (aZ (aH (qJ rfl (fun b14=>iU 0 rfl rfl rfl rfl (sG.nil .i64) Tryz.underlying94 Tryz.underlying3 rfl ?_)))))))))))))
 intro es1 cl1 hM1
 refine iU 0 rfl rfl rfl rfl hM1 Tryz.underlying94 Tryz.underlying3 rfl ?_
 intro es2 cl2 hM2
 refine iU 0 rfl rfl rfl rfl hM2 Tryz.underlying94 Tryz.underlying3 rfl ?_
 intro es3 cl3 hM3
 refine iU 0 rfl rfl rfl rfl hM3 Tryz.underlying94 Tryz.underlying3 rfl ?_
 intro es4 cl4 hM4
 refine aU rfl rfl (bD rfl aBb rfl (bK 3 rfl rfl dT rfl rfl rfl (tE 0 (z:=.nilFunc) (v:=.func (.func 28) #[] #[]) (q:=true) rfl rfl rfl hM4 Tryz.underlying94 Tryz.underlying3 (by kernel_rfl) rfl rfl rfl (aU rfl rfl (bV rfl rfl rfl (bV rfl rfl rfl (bA rfl rfl (bA rfl rfl (aE (aR (aZ (aH (aU rfl rfl (bR rfl (kW _ rfl _ _) rfl (aE (aR (aZ (aH (bK 4 rfl rfl gV rfl rfl rfl (fQ aAo aAp zC rfl rfl rfl (dZ rfl rfl rfl (fun b25=>bA rfl rfl (aE (aR (aZ (aH (aU rfl rfl (aU rfl rfl (bK 4 rfl rfl aI4 rfl rfl rfl (qE 0 rfl trivial rfl (FnV.of_fn (cap:=[]) (args:=[_,_]) (oshare_fn tb s aJ aS aK aX cJ cS cK cX _ hJ hS hK hX hT b25 hg x  hno hq hall)) rfl rfl ?_))))))))))))))))))))))))))))));rintro _ HV _ nZ ⟨aP,cP,rfl,hP⟩;refine ⟨_,rfl,?_⟩;replace hJ:=hJ.mono nZ;replace hS:=hS.mono nZ;replace hK:=hK.mono nZ;replace hX:=hX.mono nZ;replace hT:=hT.mono nZ;refine aE (aR (aZ (aH (aU rfl rfl (eC rfl rfl (bD rfl eQ rfl (bK 0 rfl rfl gV rfl rfl rfl (bZ 3 rfl rfl rfl rfl gV rfl rfl rfl rfl rfl (bZ 2 rfl rfl rfl rfl mO rfl rfl rfl rfl rfl (aE (aR (bW (jN 2 (L:=[_,_,_,_,_,_]) rfl hrest rfl ((sA _ _ _).mono (fun u2 HE own2 jD hD=>?_)))))))))))))));obtain ⟨h1,h2⟩:=hD
 subst h2
 replace hJ:=hJ.mono jD;replace hS:=hS.mono jD;replace hK:=hK.mono jD;replace hX:=hX.mono jD;replace hT:=hT.mono jD;replace hP:=hP.mono jD;refine ⟨by subst h1;rfl,_,_,rfl,(fH 3 rfl rfl gV rfl rfl (fH 0 rfl rfl mO rfl rfl gB)),bX.mk ?_⟩
 exact ⟨rfl,_,_,rfl,hP⟩
theorem do_show (tb : List Int × List Int) (s : Sess) (aJ aS aK aX : Option Addr) (cJ cS cK cX : Nat) (H : Hp) (hJ : SlR (eO .i64) H aJ cJ s.J) (hS : SlR eV H aS cS s.S) (hK : SlR iY H aK cK s.K) (hX : SlR iZ H aX cX s.X) (hT : TB H tb) (hg : GoodS tb s) (x : Shwn) (at_ : Option Addr) (ct : Nat) (ht : SlR (eO .i64) H at_ ct x.K) (hDt : x.D.length = 32) (hno : nO s) (hq : vK tb s x) (hall : ∀ y ∈ s.X,qX y x < 0) : FnC Tryz.prog 10 #[.agg ⟨eR s aJ aS aK aX cJ cS cK cX⟩,.agg ⟨wK 4 0 (zCV) (zKV) (oR x.J x.K.length x.D at_ ct)⟩] H [] (bX (fun v H2 own=>own = [] ∧ ∃ a c,v = .tuple #[.agg ⟨eR (addX s x) aJ aS aK a cJ cS cK c⟩,.int .i64 0] ∧ SlR iZ H2 a c (s.X ++ [x]))):=by
 refine FnC.introD (args:=[.agg ⟨eR s aJ aS aK aX cJ cS cK cX⟩,.agg ⟨wK 4 0 (zCV) (zKV) (oR x.J x.K.length x.D at_ ct)⟩]) Tryz.func10 rfl rfl Tryz.ntmps10 rfl rfl rfl fun G rest=>?_
 refine aZ (aH (dZ rfl rfl rfl (fun b2=>dZ rfl rfl rfl (fun b3=>dC uG rfl (fun b4=>dC aAk rfl (fun b5=>aE (aR (aZ (aH (nE (L:=[_,_,_,_]) rfl rfl rfl rfl rfl (fun msD rest hrest=>?_)))))))))))
 simp only [List.cons_append,List.nil_append]
 refine aE (aR (aZ (aH (bK 3 rfl rfl gV rfl rfl rfl (bR rfl (sZ tb s aJ aS aK aX cJ cS cK cX _ hJ hS hK hX hT hg) rfl (fY rfl rfl rfl (bR rfl (kW _ (decide_eq_true rfl) _ _) rfl (aE (aR (aZ (aH (qJ rfl (fun b14=>iU 0 rfl rfl rfl rfl (sG.nil .i64) Tryz.underlying94 Tryz.underlying3 rfl ?_)))))))))))))
 intro es1 cl1 hM1
 refine iU 0 rfl rfl rfl rfl hM1 Tryz.underlying94 Tryz.underlying3 rfl ?_
 intro es2 cl2 hM2
 refine iU 0 rfl rfl rfl rfl hM2 Tryz.underlying94 Tryz.underlying3 rfl ?_
 intro es3 cl3 hM3
 refine iU 0 rfl rfl rfl rfl hM3 Tryz.underlying94 Tryz.underlying3 rfl ?_
 intro es4 cl4 hM4
 refine aU rfl rfl (bD rfl aBb rfl (bK 3 rfl rfl dT rfl rfl rfl (tE 0 (z:=.nilFunc) (v:=.func (.func 29) #[] #[]) (q:=true) rfl rfl rfl hM4 Tryz.underlying94 Tryz.underlying3 (by kernel_rfl) rfl rfl rfl (aU rfl rfl (bV rfl rfl rfl (bV rfl rfl rfl (bA rfl rfl (bA rfl rfl (aE (aR (aZ (aH (aU rfl rfl (bR rfl (kW _ rfl _ _) rfl (aE (aR (aZ (aH (bK 4 rfl rfl gV rfl rfl rfl (fQ aAo aAp zC rfl rfl rfl (dZ rfl rfl rfl (fun b25=>bA rfl rfl (aE (aR (aZ (aH (aU rfl rfl (aU rfl rfl (bK 4 rfl rfl aI4 rfl rfl rfl (qE 0 rfl trivial rfl (FnV.of_fn (cap:=[]) (args:=[_,_]) (oshow_fn tb s aJ aS aK aX cJ cS cK cX _ hJ hS hK hX hT b25 hg x _ _ ht hDt hno hq hall)) rfl rfl ?_))))))))))))))))))))))))))))));rintro _ HV _ nZ ⟨aP,cP,rfl,hP⟩;refine ⟨_,rfl,?_⟩;replace hJ:=hJ.mono nZ;replace hS:=hS.mono nZ;replace hK:=hK.mono nZ;replace hX:=hX.mono nZ;replace hT:=hT.mono nZ;replace ht:=ht.mono nZ;refine aE (aR (aZ (aH (aU rfl rfl (eC rfl rfl (bD rfl eQ rfl (bK 0 rfl rfl gV rfl rfl rfl (bZ 3 rfl rfl rfl rfl gV rfl rfl rfl rfl rfl (bZ 2 rfl rfl rfl rfl mO rfl rfl rfl rfl rfl (aE (aR (bW (jN 2 (L:=[_,_,_,_,_,_]) rfl hrest rfl ((sA _ _ _).mono (fun u2 HE own2 jD hD=>?_)))))))))))))));obtain ⟨h1,h2⟩:=hD
 subst h2
 replace hJ:=hJ.mono jD;replace hS:=hS.mono jD;replace hK:=hK.mono jD;replace hX:=hX.mono jD;replace hT:=hT.mono jD;replace ht:=ht.mono jD;replace hP:=hP.mono jD;refine ⟨by subst h1;rfl,_,_,rfl,(fH 3 rfl rfl gV rfl rfl (fH 0 rfl rfl mO rfl rfl gB)),bX.mk ?_⟩
 exact ⟨rfl,_,_,rfl,hP⟩
theorem new_fn (tb : List Int × List Int) (R E C N L : Int) (J : List Int) (a : Option Addr) (c : Nat) (H : Hp) (hs : SlR (eO .i64) H a c J) (hT : TB H tb) (hg : GoodS tb ⟨R,E,C,J,N,L,0,[],[],[]⟩) : FnC Tryz.prog 7 #[.int .i64 R,.int .i64 E,.int .i64 C,.slice a J.length c,.int .i64 N,.int .i64 L] H [] (bX (fun v _ _=>v = .tuple #[.agg ⟨eR ⟨R,E,C,J,N,L,0,[],[],[]⟩ a none none none c 0 0 0⟩,.int .i64 0])):=by
 refine FnC.introC (args:=[.int .i64 R,.int .i64 E,.int .i64 C,.slice a J.length c,.int .i64 N,.int .i64 L]) Tryz.func7 rfl rfl Tryz.ntmps7 rfl rfl rfl fun G rest=>?_
 refine aZ (aH (dC uG rfl (fun b12=>bA rfl rfl (aE (aR (aZ (aH (aU rfl rfl (aU rfl rfl (aU rfl rfl (aU rfl rfl (aU rfl rfl (aU rfl rfl (fQ aMz aNs uG rfl rfl rfl (fQ aAo aAp zC rfl rfl rfl (dC zC rfl (fun b14=>bZ 0 rfl rfl rfl rfl mA rfl rfl rfl rfl rfl (aE (aR (aZ (aZ (aH (bK 0 rfl rfl mA rfl rfl rfl (bR rfl (aGx tb ⟨R,E,C,J,N,L,0,[],[],[]⟩ a none none none c 0 0 0 _ hs (SlR.nil0 _ _) (SlR.nil0 _ _) (SlR.nil0 _ _) hT hg) rfl (fC rfl rfl (aE (aR (dY rfl rfl (bS (aR ?_))))))))))))))))))))))))))))));refine aZ (aH (bD rfl eQ rfl (bK 0 rfl rfl gV rfl rfl rfl (bZ 1 rfl rfl rfl rfl gV rfl rfl rfl rfl rfl (bA rfl rfl (aE (aR (bW ?_))))))));refine ⟨rfl,_,[],(fH 1 rfl rfl gV rfl rfl (iK rfl gB)),(by repeat(first|exact sL _|apply sC)),bX.mk ?_⟩
 rfl
end Go.Proofs

namespace Go.Proofs.Ra
open Go.XL
theorem tmod_bd (a : Int) : -1073741789 < a.tmod 1073741789 ∧ a.tmod 1073741789 < 1073741789 :=
 ⟨Int.lt_tmod_of_pos a (by decide),Int.tmod_lt_of_pos a (by decide)⟩
theorem tmod_pos (a : Int) (h : ¬ a.tmod 1073741789 < 0) : a.tmod 1073741789 = a % 1073741789:=by
 rw [Int.tmod_eq_emod,show Int.natAbs 1073741789 = 1073741789 from rfl] at *
 split at * <;> split <;> omega
theorem tmod_neg (a : Int) (h : a.tmod 1073741789 < 0) : a.tmod 1073741789 + 1073741789 = a % 1073741789:=by
 rw [Int.tmod_eq_emod,show Int.natAbs 1073741789 = 1073741789 from rfl] at *
 split at * <;> split <;> omega
theorem mul_bd (a b : Int) : 0 ≤ a % 1073741789 * (b % 1073741789) ∧ a % 1073741789 * (b % 1073741789) < 1152921504606846976:=by
 have h1:=Int.emod_nonneg a (b:=1073741789) (by decide)
 have h2:=Int.emod_nonneg b (b:=1073741789) (by decide)
 have h3:=Int.emod_lt_of_pos a (b:=1073741789) (by decide)
 have h4:=Int.emod_lt_of_pos b (b:=1073741789) (by decide)
 generalize a % 1073741789 = x at *
 generalize b % 1073741789 = y at *
 refine ⟨Int.mul_nonneg h1 h2,?_⟩
 have:=Int.mul_le_mul (show x ≤ 1073741788 by omega) (show y ≤ 1073741788 by omega) h2 (by decide)
 omega
theorem sum_take (l : List Int) (k : Nat) (x : Int) (h : l[k]? = some x) : (l.take (k + 1)).sum % 1073741789 = ((l.take k).sum % 1073741789 + x % 1073741789) % 1073741789:=by
 have h2:=(List.getElem?_eq_some_iff.1 h)
 obtain ⟨h3,h4⟩:=h2
 rw [List.take_succ_eq_append_getElem h3,List.sum_append,h4,← Int.add_emod]
 simp
def pwF : Nat → Int → Int → Nat → Int
 | 0,x,_,_=>x
 | f + 1,x,sq,left=>if left = 0 then x else pwF f (if left % 2 = 1 then x * sq % 1073741789 else x) (sq * sq % 1073741789) (left / 2)
def aNy (n : Int) : Int:=pwF 31 1 n 1073741787
def aBl (n : Int) : Int:=if n % 1073741789 = 0 then 0 else aNy n
def aLc (n : Int) : Int:=if n % 1073741789 = 0 then 120 else 0
theorem pwF_step {f : Nat} {x sq : Int} {left : Nat} (h0 : left ≠ 0) (h : left < 2 ^ (f + 1)) : left / 2 < 2 ^ f ∧ pwF (f + 1) x sq left = pwF f (if left % 2 = 1 then x * sq % 1073741789 else x) (sq * sq % 1073741789) (left / 2) :=
 ⟨by rw [Nat.pow_succ] at h;omega,by simp [pwF,h0]⟩
theorem pwF_zero (f : Nat) (x sq : Int) : pwF f x sq 0 = x:=by cases f <;> simp [pwF]
structure Pt where
 X : Int
 Y : Int
def ptR : Rep Pt where
 sz:=2
 R:=fun _ cs p=>cs = [.int .i64 p.X,.int .i64 p.Y]
 len:=fun h=>by subst h;rfl
 one:=fun h=>by subst h;rfl
 mono:=fun _ h=>h
def valP (at_ : Int) : List Int → Int → Int → Int
 | [],y,_=>y
 | c :: l,y,pw=>valP at_ l ((y + c * pw % 1073741789) % 1073741789) (pw * at_ % 1073741789)
def valR (at_ : Int) : List Int → Int
 | []=>0
 | c :: l=>(valR at_ l * at_ % 1073741789 + c) % 1073741789
def Diff (l : List Pt) : Prop:=∀ (i k : Nat) (x y : Pt),k < i → l[i]? = some x → l[k]? = some y → x.X % 1073741789 ≠ y.X % 1073741789
theorem xR {α : Type} {l : List α} {k i : Nat} {x : α} (h : l[k]? = some x) (hne : k ≠ i) : (l.take (k + 1)).eraseIdx i = (l.take k).eraseIdx i ++ [x]:=by
 obtain ⟨h1,rfl⟩:=List.getElem?_eq_some_iff.1 h
 rw [List.take_succ_eq_append_getElem h1]
 rcases Nat.lt_or_ge i k with h2 | h2
 ·rw [List.eraseIdx_append_of_lt_length (by simp;omega)]
 rw [List.eraseIdx_of_length_le (l:=l.take k) (by simp;omega),List.eraseIdx_of_length_le (by simp;omega)]
theorem aBq {α : Type} {l : List α} {i : Nat} {x : α} (h : l[i]? = some x) : (l.take (i + 1)).eraseIdx i = (l.take i).eraseIdx i:=by
 obtain ⟨h1,rfl⟩:=List.getElem?_eq_some_iff.1 h
 rw [List.take_succ_eq_append_getElem h1,List.eraseIdx_append_of_length_le (by simp;omega),List.eraseIdx_of_length_le (l:=l.take i) (by simp;omega)]
 have : i - (l.take i).length = 0:=by simp;omega
 rw [this];simp
theorem erase_succ' {α : Type} {l : List α} {k i : Nat} {x : α} (h : l[k]? = some x) (hne : k ≠ i) (hi : k + 1 ≤ i) : (l.take k).eraseIdx i ++ [x] = l.take (k + 1):=by
 rw [← xR h hne,List.eraseIdx_of_length_le (by simp;omega)]
theorem erase_split {α : Type} {l : List α} {k i : Nat} {x : α} (h : l[k]? = some x) (hne : k ≠ i) : ∃ post,l.eraseIdx i = (l.take k).eraseIdx i ++ x :: post:=by
 have h1:=(List.getElem?_eq_some_iff.1 h).1
 have e : l = l.take (k + 1) ++ l.drop (k + 1):=(List.take_append_drop _ _).symm
 rcases Nat.lt_or_ge i (k + 1) with h2 | h2
 ·refine ⟨l.drop (k + 1),?_⟩
  conv=>lhs;rw [e]
  rw [List.eraseIdx_append_of_lt_length (by simp;omega),xR h hne];simp
 refine ⟨(l.drop (k + 1)).eraseIdx (i - (k + 1)),?_⟩
 conv=>lhs;rw [e]
 rw [List.eraseIdx_append_of_length_le (by simp;omega)]
 have e2 : (l.take (k + 1)).length = k + 1:=by simp;omega
 rw [e2,← erase_succ' h hne (by omega)];simp
theorem iT {α : Type} {l : List α} {k : Nat} {x : α} (h : l[k]? = some x) : l.drop k = x :: l.drop (k + 1):=by
 obtain ⟨h1,rfl⟩:=List.getElem?_eq_some_iff.1 h
 exact List.drop_eq_getElem_cons h1
theorem diff_iff (l : List Pt) : Diff l ↔ (l.map fun p : Pt=>p.X % 1073741789).Nodup:=by
 rw [List.Nodup,List.pairwise_iff_getElem]
 constructor
 ·intro h i j hi hj hij
  simp only [List.length_map] at hi hj
  simp only [List.getElem_map]
  exact fun e=>h j i _ _ hij (List.getElem?_eq_getElem hj) (List.getElem?_eq_getElem hi) e.symm
 intro h i k x y hki hx hy e
 obtain ⟨h1,rfl⟩:=List.getElem?_eq_some_iff.1 hx;obtain ⟨h2,rfl⟩:=List.getElem?_eq_some_iff.1 hy
 have:=h k i (by simpa using h2) (by simpa using h1) hki
 simp only [List.getElem_map] at this
 exact this e.symm
def aAu (l : List Pt) : List (Int × Value):=l.foldl (fun m p=>tO m (p.X % 1073741789) (.bool true)) []
theorem seen_succ {l : List Pt} {k : Nat} {x : Pt} (h : l[k]? = some x) : aAu (l.take (k + 1)) = tO (aAu (l.take k)) (x.X % 1073741789) (.bool true):=by
 obtain ⟨h1,rfl⟩:=List.getElem?_eq_some_iff.1 h
 rw [List.take_succ_eq_append_getElem h1,aAu,List.foldl_append];rfl
theorem mset_keys (m : List (Int × Value)) (x : Int) (u : Value) : (tO m x u).map Prod.fst = if x ∈ m.map Prod.fst then m.map Prod.fst else m.map Prod.fst ++ [x]:=by
  induction m with
  | nil=>simp [tO]
  | cons p m ih =>
    obtain ⟨k,v⟩:=p
    simp only [tO]
    split
    · rename_i h;subst h;simp
    rename_i h
    simp only [List.map_cons,ih,List.mem_cons,h,false_or]
    split <;> simp
theorem aCz (l : List Pt) : ∀ (m : List (Int × Value)),(m.map Prod.fst).Nodup →
    (((l.foldl (fun m p=>tO m (p.X % 1073741789) (.bool true)) m).length = m.length + l.length ↔ (m.map Prod.fst ++ l.map fun p : Pt=>p.X % 1073741789).Nodup)) ∧ (l.foldl (fun m p=>tO m (p.X % 1073741789) (.bool true)) m).length ≤ m.length + l.length:=by
  induction l with
  | nil=>intro m h;simp [h]
  | cons p l ih =>
    intro m h
    simp only [List.foldl_cons]
    have hk:=mset_keys m (p.X % 1073741789) (.bool true)
    have hl:=congrArg List.length hk
    simp only [List.length_map] at hl
    by_cases hm : p.X % 1073741789 ∈ m.map Prod.fst
    · rw [if_pos hm] at hk hl
      simp only [List.length_map] at hl
      obtain ⟨h1,h2⟩:=ih (tO m (p.X % 1073741789) (.bool true)) (by rw [hk];exact h)
      rw [hl] at h1 h2
      refine ⟨⟨fun e=>by simp only [List.length_cons] at e;omega,fun e=>?_⟩,by simp;omega⟩
      exfalso
      rw [List.nodup_append] at e
      exact e.2.2 _ hm _ (by simp) rfl
    rw [if_neg hm] at hk hl
    simp only [List.length_append,List.length_map,List.length_singleton] at hl
    have hnd : (m.map Prod.fst ++ [p.X % 1073741789]).Nodup:=by
      rw [List.nodup_append];exact ⟨h,by simp,fun a ha b hb e=>by simp at hb;subst hb;subst e;exact hm ha⟩
    obtain ⟨h1,h2⟩:=ih (tO m (p.X % 1073741789) (.bool true)) (by rw [hk];exact hnd)
    rw [hl,hk] at h1
    rw [hl] at h2
    refine ⟨?_,by simp;omega⟩
    simp only [List.length_cons,List.map_cons]
    rw [show m.length + (l.length + 1) = m.length + 1 + l.length by omega,h1]
    simp
theorem seen_full (l : List Pt) (h : (l.map fun p : Pt=>p.X % 1073741789).Nodup) : (aAu l).length = l.length:=by
 have:=((aCz l [] (by simp)).1).2 (by simpa using h)
 simpa [aAu] using this
theorem seen_nodup (l : List Pt) (h : l.length ≤ (aAu l).length) : (l.map fun p : Pt=>p.X % 1073741789).Nodup:=by
 have h2:=(aCz l [] (by simp)).2
 have:=((aCz l [] (by simp)).1).1 (by simp [aAu] at h h2 ⊢;omega)
 simpa using this
def aGs (at_ : Int) (ps : List Pt) (s : Int) : Int:=ps.foldl (fun s q=>s * ([at_,0 - q.X % 1073741789].sum % 1073741789) % 1073741789) s
def aIi (x : Int) (ps : List Pt) (s : Int) : Int:=ps.foldl (fun s q=>s * ([x,0 - q.X % 1073741789].sum % 1073741789) % 1073741789) s
theorem abvF_snoc (at_ : Int) (ps : List Pt) (x : Pt) (s : Int) : aGs at_ (ps ++ [x]) s = aGs at_ ps s * ([at_,0 - x.X % 1073741789].sum % 1073741789) % 1073741789:=by simp only [aGs,List.foldl_append,List.foldl_cons,List.foldl_nil]
theorem belF_snoc (at_ : Int) (ps : List Pt) (x : Pt) (s : Int) : aIi at_ (ps ++ [x]) s = aIi at_ ps s * ([at_,0 - x.X % 1073741789].sum % 1073741789) % 1073741789:=by simp only [aIi,List.foldl_append,List.foldl_cons,List.foldl_nil]
def atT (at_ : Int) (l : List Pt) (k : Nat) (p : Pt) : Int:=aGs at_ (l.eraseIdx k) (p.Y % 1073741789) * aBl (aIi p.X (l.eraseIdx k) 1) % 1073741789
def atF (at_ : Int) (l : List Pt) : Nat → Int
 | 0=>0
 | k + 1=>[atF at_ l k,match l[k]? with | some p=>atT at_ l k p | none=>0].sum % 1073741789
theorem aHm {at_ : Int} {l : List Pt} {k : Nat} {p : Pt} (h : l[k]? = some p) : atF at_ l (k + 1) = [atF at_ l k,atT at_ l k p].sum % 1073741789:=by simp only [atF,h]
def atV (at_ : Int) (l : List Pt) : Int × Int:=if 24 < l.length then (0,2) else if ¬ (l.map fun p : Pt=>p.X % 1073741789).Nodup then (0,120) else (atF at_ l l.length,0)
def rpF (at_ x : Int) (ps : List Pt) (s : Int) : Int:=ps.foldl (fun s q=>s * ((at_ + (0 - q.X % 1073741789)) % 1073741789 * aBl ((x + (0 - q.X % 1073741789)) % 1073741789) % 1073741789) % 1073741789) s
def aOi (at_ : Int) (l : List Pt) : Nat → Int
 | 0=>0
 | k + 1=>(aOi at_ l k + match l[k]? with | some p=>rpF at_ p.X (l.eraseIdx k) (p.Y % 1073741789) | none=>0) % 1073741789
def ratV (at_ : Int) (l : List Pt) : Int × Int:=if 24 < l.length then (0,2) else if ¬ (l.map fun p : Pt=>p.X % 1073741789).Nodup then (0,120) else (aOi at_ l l.length,0)
end Go.Proofs.Ra
