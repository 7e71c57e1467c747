/- Lists of numbers put behind each other. -/
import Derived.Test.YthpfckdllencmaaGreatB1
import Derived.Test.YthpfckdllencmaaGreatB6
set_option maxRecDepth 100000
set_option autoImplicit false
set_option linter.unusedVariables false
set_option linter.unusedSimpArgs false
namespace Go.Proofs
open Go.XL
theorem concQ_fn (a : Option Addr) (c : Nat) (l : List (List (Raw × Raw))) (H : Hp) (hs : SlR (slR lS) H a c l) (hl : l.length ≤ 1000) (hn : l.flatten.length ≤ 1073741824) (h0 : 0 < l.flatten.length) : iP Tryz.prog 81 #[.slice a l.length c] H [] (eQ (fun v H2 _=>∃ a2 c2,v = .slice a2 l.flatten.length c2 ∧ SlR lS H2 a2 c2 l.flatten)):=by
 refine iP.intro (args:=[.slice a l.length c]) Tryz.func81 rfl rfl Tryz.ntmps81 rfl rfl rfl fun G rest=>?_;refine zS ?_;refine zG rfl ?_;refine zN ?_;refine zS ?_;refine zG rfl ?_;refine zN ?_;refine cO ?_;refine zS ?_;refine zM rfl ?_;refine eD (ts:=#[]) rfl eI rfl ?_;refine zM rfl ?_;refine zN ?_;refine dK ?_;refine eU [3,11,0,9,10] rfl ?_;refine gO (base:=[(0,_),(9,_),(10,_)]) (fun ζ : Nat=>[(3,.int .i64 (((l.take (ζ)).flatten.length : Nat) : Int)),(11,.int .i64 (ζ : Nat))]) (fun ζ Hl own=>ζ ≤ l.length ∧ rest = own) (fun ζ=>l.length - ζ) 0 (zC) zB ⟨eS _,rfl⟩ ?_;rintro k Hl0 _ gB ⟨hkk,rfl⟩;replace hs:=hs.mono gB;try dsimp only at ⊢
 refine zS (zL rfl (zN (cO (fC rfl (fun nY=>?_) (fun nY=>?_)))))
 ·refine eF (bO (cO (dK (zS (eV rfl hs rfl eI iG zO rfl ?_)))));rintro eb13 eo13 _ x13 hx13 ⟨ax13,cx13,rfl,hd13⟩ hp13;refine eH rfl (by assumption) iG rfl rfl rfl (zG rfl (zN (zS ?_)));have hfl:=yW hx13;refine zM rfl (zM rfl (eD (ts:=#[]) rfl cJ rfl (fR rfl rfl (dT zO zO) rfl (zG rfl (zN (zS (zM rfl (zL rfl (zN (gD rfl (aI zO) (eF (fY (bO (dL (fR rfl rfl (dT zO zO) rfl (zM rfl (bF (eW (k + 1) (by show l.length - (k + 1) < l.length - k;omega) (iL (pK rfl (by rw [oW hx13,fQ];omega)) (zC)) (⟨by show k + 1 ≤ l.length;omega,rfl⟩) zB (gB)))))))))))))))))))
 obtain rfl : k = l.length:=zO
 refine gI (fE (eY (fU rfl (bO (zS (zM rfl (XO.callG rfl (growQ_fn _ (by rw [gF];exact hn) (by rw [gF];exact h0) _) rfl rfl ?_)))))));rintro _ HG _ sB ⟨pg,ag,cg,rfl,rfl,haccg⟩;simp only [fP,gN];replace hs:=hs.mono sB;refine zG rfl (zN (cO (zS (zM rfl (eD (ts:=#[]) rfl eI rfl (zM rfl (zN (dK (eU [6,27,25,26] rfl (gO (base:=[(25,_),(26,_)]) (fun ζ : Nat × ((Nat × SObj) × Option Addr × Nat)=>[(6,.slice ζ.2.2.1 ((l.take (ζ.1)).flatten).length ζ.2.2.2),(27,.int .i64 (ζ.1 : Nat))]) (fun ζ Hl own=>ζ.1 ≤ l.length ∧ ζ.2.1 :: rest = own ∧ Acc lS 56 Hl ζ.2.1 ζ.2.2.1 ζ.2.2.2 ((l.take (ζ.1)).flatten)) (fun ζ=>l.length - ζ.1) (0,(pg,ag,cg)) (zC) zB ⟨eS _,rfl,haccg⟩ ?_))))))))));rintro ⟨j,⟨pw,aw,cw⟩⟩ Hl1 _ iT ⟨hkj,rfl,haccw⟩;replace hs:=hs.mono iT;try dsimp only at hkj haccw ⊢
 refine zS (zL rfl (zN (cO (fC rfl (fun c2_3=>?_) (fun c2_3=>?_)))))
 ·refine eF (bO (cO (dK (zS (eV rfl hs rfl eI iG zO rfl ?_)))));rintro eb29 eo29 _ x29 aFz ⟨ax29,cx29,rfl,hd29⟩ hp29;refine eH rfl (by assumption) iG rfl rfl rfl (zG rfl (zN (dL (zM rfl (zM rfl (iV 0 rfl rfl haccw rfl rfl (by assumption) rfl cJ fG jD rfl tY (by have:=yW aFz;omega) rfl (fun p33 a33 c33 hacc33=>zG rfl (bF (fY (bO (dL (fR rfl rfl (dT zO zO) rfl (zM rfl (bF (eW ((j + 1,(p33,a33,c33))) (by show l.length - (j + 1) < l.length - j;omega) (iL (by first | rfl | (rw [oW aFz];rfl)) (zC)) (⟨by show j + 1 ≤ l.length;omega,rfl,by first | (exact hacc33) | (rw [oW aFz];exact hacc33)⟩) zB (iT))))))))))))))))
 obtain rfl : j = l.length:=zO
 rw [gF] at haccw ⊢;refine gI (fE (eY (fU rfl (bO (zS (zM rfl (iO 0 rfl haccw rfl (fun HQ6 hleQ6 hsQ6=>?_))))))));replace hs:=hs.mono hleQ6;refine zG rfl (zN (eP ?_));refine ⟨rfl,_,[],rfl,zA,eQ.mk ?_⟩;exact ⟨_,_,rfl,by assumption⟩
end Go.Proofs

namespace Go.Proofs
open Go.XL
theorem growQ_nil (H : Hp) : iP Tryz.prog 109 #[.slice none 0 0,.int .i64 0] H [] (eQ (fun v _ _=>v = .slice none 0 0)):=by
 refine iP.intro (args:=[.slice none 0 0,.int .i64 0]) Tryz.func109 rfl rfl Tryz.ntmps109 rfl rfl rfl fun G rest=>?_;refine zS ?_;refine zG rfl ?_;refine zN ?_;refine cO ?_;refine zS ?_;refine zM rfl ?_;refine zL rfl ?_;refine zN ?_;refine gD rfl (aI zD) ?_;refine eF ?_;refine bO ?_;refine cO ?_;refine zS ?_;refine zM rfl ?_;refine zM rfl ?_;refine aD3 rfl cJ zD rfl ?_;refine zM rfl ?_;refine eD (ts:=#[]) rfl cJ rfl ?_;refine lK (c:=0) rfl rfl zD rfl ?_;refine lK (c:=0) rfl rfl zD rfl ?_;refine zG rfl ?_;refine zN ?_;refine zS ?_;refine zM rfl ?_;refine zY rfl ?_;refine zN ?_;refine gD rfl (aI zD) ?_;refine eF ?_;refine bO ?_;refine zS ?_;refine zM rfl ?_;refine zG rfl ?_;refine zN ?_;refine eP ?_;refine ⟨rfl,_,[],rfl,zA,eQ.mk ?_⟩;rfl
theorem growM_nil (H : Hp) : iP Tryz.prog 84 #[.slice none 0 0,.int .i64 0] H [] (eQ (fun v _ _=>v = .slice none 0 0)):=by
 refine iP.intro (args:=[.slice none 0 0,.int .i64 0]) Tryz.func84 rfl rfl Tryz.ntmps84 rfl rfl rfl fun G rest=>?_;refine zS ?_;refine zG rfl ?_;refine zN ?_;refine cO ?_;refine zS ?_;refine zM rfl ?_;refine zL rfl ?_;refine zN ?_;refine gD rfl (aI zD) ?_;refine eF ?_;refine bO ?_;refine cO ?_;refine zS ?_;refine zM rfl ?_;refine zM rfl ?_;refine aD3 rfl eI zD rfl ?_;refine zM rfl ?_;refine eD (ts:=#[]) rfl eI rfl ?_;refine lK (c:=0) rfl rfl zD rfl ?_;refine lK (c:=0) rfl rfl zD rfl ?_;refine zG rfl ?_;refine zN ?_;refine zS ?_;refine zM rfl ?_;refine zY rfl ?_;refine zN ?_;refine gD rfl (aI zD) ?_;refine eF ?_;refine bO ?_;refine zS ?_;refine zM rfl ?_;refine zG rfl ?_;refine zN ?_;refine eP ?_;refine ⟨rfl,_,[],rfl,zA,eQ.mk ?_⟩;rfl
end Go.Proofs

namespace Go.Proofs
open Go.XL
theorem concQ_nil (a : Option Addr) (c : Nat) (l : List (List (Raw × Raw))) (H : Hp) (hs : SlR (slR lS) H a c l) (hl : l.length ≤ 1000) (h0 : l.flatten.length = 0) : iP Tryz.prog 81 #[.slice a l.length c] H [] (eQ (fun v H2 _=>∃ a2 c2,v = .slice a2 l.flatten.length c2 ∧ SlR lS H2 a2 c2 l.flatten)):=by
 refine iP.intro (args:=[.slice a l.length c]) Tryz.func81 rfl rfl Tryz.ntmps81 rfl rfl rfl fun G rest=>?_;refine zS ?_;refine zG rfl ?_;refine zN ?_;refine zS ?_;refine zG rfl ?_;refine zN ?_;refine cO ?_;refine zS ?_;refine zM rfl ?_;refine eD (ts:=#[]) rfl eI rfl ?_;refine zM rfl ?_;refine zN ?_;refine dK ?_;refine eU [3,11,0,9,10] rfl ?_;refine gO (base:=[(0,_),(9,_),(10,_)]) (fun ζ : Nat=>[(3,.int .i64 (((l.take (ζ)).flatten.length : Nat) : Int)),(11,.int .i64 (ζ : Nat))]) (fun ζ Hl own=>ζ ≤ l.length ∧ rest = own) (fun ζ=>l.length - ζ) 0 (zC) zB ⟨eS _,rfl⟩ ?_;rintro k Hl0 _ gB ⟨hkk,rfl⟩;replace hs:=hs.mono gB;try dsimp only at ⊢
 refine zS (zL rfl (zN (cO (fC rfl (fun nY=>?_) (fun nY=>?_)))))
 ·refine eF (bO (cO (dK (zS (eV rfl hs rfl eI iG zO rfl ?_)))));rintro eb13 eo13 _ x13 hx13 ⟨ax13,cx13,rfl,hd13⟩ hp13;refine eH rfl (by assumption) iG rfl rfl rfl (zG rfl (zN (zS ?_)));have hfl:=yW hx13;refine zM rfl (zM rfl (eD (ts:=#[]) rfl cJ rfl (fR rfl rfl (dT zO zO) rfl (zG rfl (zN (zS (zM rfl (zL rfl (zN (gD rfl (aI zO) (eF (fY (bO (dL (fR rfl rfl (dT zO zO) rfl (zM rfl (bF (eW (k + 1) (by show l.length - (k + 1) < l.length - k;omega) (iL (pK rfl (by rw [oW hx13,fQ];omega)) (zC)) (⟨by show k + 1 ≤ l.length;omega,rfl⟩) zB (gB)))))))))))))))))))
 obtain rfl : k = l.length:=zO
 refine gI (fE (eY (fU rfl (bO (zS (zM rfl ?_))))));rw [show (((l.take l.length).flatten.length : Nat) : Int) = 0 by rw [gF];omega];refine fH rfl (growQ_nil _) rfl (zG rfl (zN (cO (zS (zM rfl (eD (ts:=#[]) rfl eI rfl (zM rfl (zN (dK (eU [6,27,25,26] rfl (lR 0 (gO (base:=[(25,_),(26,_)]) (fun ζ : Nat × ((Nat × SObj) × Option Addr × Nat)=>[(6,.slice ζ.2.2.1 ((l.take (ζ.1)).flatten).length ζ.2.2.2),(27,.int .i64 (ζ.1 : Nat))]) (fun ζ Hl own=>ζ.1 ≤ l.length ∧ ζ.2.1 :: rest = own ∧ Acc lS 56 Hl ζ.2.1 ζ.2.2.1 ζ.2.2.2 ((l.take (ζ.1)).flatten)) (fun ζ=>l.length - ζ.1) (0,((0,.nothing),none,0)) (zC) zB ⟨eS _,rfl,Acc.nil _ _ _ _⟩ ?_))))))))))));rintro ⟨j,⟨pw,aw,cw⟩⟩ Hl1 _ iT ⟨hkj,rfl,haccw⟩;replace hs:=hs.mono iT;try dsimp only at hkj haccw ⊢
 refine zS (zL rfl (zN (cO (fC rfl (fun c2_3=>?_) (fun c2_3=>?_)))))
 ·refine eF (bO (cO (dK (zS (eV rfl hs rfl eI iG zO rfl ?_)))));rintro eb29 eo29 _ x29 aFz ⟨ax29,cx29,rfl,hd29⟩ hp29;refine eH rfl (by assumption) iG rfl rfl rfl (zG rfl (zN (dL (zM rfl (zM rfl (iV 0 rfl rfl haccw rfl rfl (by assumption) rfl cJ fG jD rfl tY (by have:=yW aFz;omega) rfl (fun p33 a33 c33 hacc33=>zG rfl (bF (fY (bO (dL (fR rfl rfl (dT zO zO) rfl (zM rfl (bF (eW ((j + 1,(p33,a33,c33))) (by show l.length - (j + 1) < l.length - j;omega) (iL (by first | rfl | (rw [oW aFz];rfl)) (zC)) (⟨by show j + 1 ≤ l.length;omega,rfl,by first | (exact hacc33) | (rw [oW aFz];exact hacc33)⟩) zB (iT))))))))))))))))
 obtain rfl : j = l.length:=zO
 rw [gF] at haccw ⊢;refine gI (fE (eY (fU rfl (bO (zS (zM rfl (iO 0 rfl haccw rfl (fun HQ6 hleQ6 hsQ6=>?_))))))));replace hs:=hs.mono hleQ6;refine zG rfl (zN (eP ?_));refine ⟨rfl,_,[],rfl,zA,eQ.mk ?_⟩;exact ⟨_,_,rfl,by assumption⟩
end Go.Proofs

namespace Go.Proofs
open Go.XL
def aTo (x : Raw) : Prop:=x.2.length ≤ 3 ∨ (2048 < x.2.length ∧ x.2.length ≤ 2052)
def aIp (x : Raw × Raw) : Prop:=aTo x.1 ∧ aTo x.2
theorem aUv {x : Raw × Raw} (h : aIp x) : x.1.2.length ≤ 1000 ∨ 2048 < x.1.2.length:=by obtain ⟨h,_⟩:=h;unfold aTo at h;omega
theorem aUn {x : Raw × Raw} (h : aIp x) : x.2.2.length ≤ 1000 ∨ 2048 < x.2.2.length:=by obtain ⟨_,h⟩:=h;unfold aTo at h;omega
theorem aPa {x : Raw × Raw} (h : aIp x) : x.1.2.length ≤ 2052 ∧ x.2.2.length ≤ 2052:=by obtain ⟨h,h2⟩:=h;unfold aTo at h h2;omega
theorem oI {α : Type} {p : α → Prop} {l : List α} {k : Nat} {x : α} (h : ∀ y ∈ l.take k,p y) (hx : l[k]? = some x) (hp : p x) : ∀ y ∈ l.take (k + 1),p y:=by
 intro y hy;rw [jK hx] at hy;rcases gM.1 hy with h1 | h1
 ·exact h y h1
 simp at h1;subst h1;exact hp
theorem aM3 (a : Option Addr) (c : Nat) (l : List (List (Raw × Raw))) (H : Hp) (hs : SlR (slR lS) H a c l) (hl : l.length ≤ 1000) (hn : l.flatten.length ≤ 1073741824) :
  iP Tryz.prog 81 #[.slice a l.length c] H [] (eQ (fun v H2 _=>∃ a2 c2,v = .slice a2 l.flatten.length c2 ∧ SlR lS H2 a2 c2 l.flatten)):=by
 rcases Nat.eq_zero_or_pos l.flatten.length with h | h
 ·exact concQ_nil a c l H hs hl h
 exact concQ_fn a c l H hs hl hn h
end Go.Proofs

namespace Go.Proofs
open Go.XL
theorem formed_ok (m : Mk) (am : Option Addr) (cm : Nat) (Q S : List (Raw × Raw)) (a b : Option Addr) (c d : Nat) (H : Hp) (hm : SlR mkR H am cm m) (hs : SlR lS H a c Q) (ht : SlR lS H b d S) (hok : oF m) (hQ : Q.length ≤ 1000) (hS : S.length ≤ 1000) (h1 : Q.length = m.length) (h2 : S.length = fO m) (hall : ∀ x ∈ Q ++ S,aV7 x) : iP Tryz.prog 41 #[.slice am m.length cm,.agg ⟨[.slice a Q.length c,.slice b S.length d]⟩] H [] (eQ (fun v _ _=>v = .tuple #[])):=by
 refine iP.intro (args:=[.slice am m.length cm,.agg ⟨[.slice a Q.length c,.slice b S.length d]⟩]) Tryz.func41 rfl rfl Tryz.ntmps41 rfl rfl rfl fun G rest=>?_;have hl:=hok.1;have hw:=hok.2.1;refine zS ?_;refine iW rfl rfl rfl (fun b3=>?_);refine zN ?_;refine zS ?_;refine zG rfl ?_;refine zN ?_;refine aN2 (base:=[(0,_),(3,_)]) (fun ζ : Unit=>[(4,.int .i64 (fO m : Nat))]) (fun ζ Hl own=>(b3,.cells 26 [.slice a Q.length c,.slice b S.length d]) :: rest = own) (zC) (fun hleJ1=>?_) ?_
 ·skip
  refine zS (zM rfl (eD (ts:=#[]) rfl cH rfl (zY rfl (zN (fC rfl (fun qK=>?_) (fun qK=>?_))))))
  ·refine dL (zM rfl (eV (i:=0) rfl hm rfl cH gE zO rfl ?_));rintro eb11 eo11 _ x11 aEv ⟨ax11,cx11,rfl,hd11⟩ hp11;refine eH rfl (by assumption) gE rfl rfl rfl (eD (ts:=#[]) rfl bK rfl (zG rfl (bF (wJ () (iL ((by first | exact pK rfl (by rw [tC aEv]) | exact pK rfl (by rw [sF zO];rfl))) (zC)) rfl zB hleJ1))))
  refine eF (wJ () (iL ((by first | exact pK rfl (by rw [tC aEv]) | exact pK rfl (by rw [sF zO];rfl))) (zC)) rfl zB hleJ1)
 rintro _ Hl _ hleK1 ⟨rfl⟩;replace hm:=hm.mono hleK1;replace hs:=hs.mono hleK1;replace ht:=ht.mono hleK1;refine zS (bJ rfl pT rfl (bT 0 rfl rfl iG rfl rfl rfl (eD (ts:=#[]) rfl cJ rfl (zM rfl (eD (ts:=#[]) rfl cH rfl (zZ rfl (zM rfl (zT rfl (bG zO) (bJ rfl nU rfl (zT rfl (bG zO) (bT 0 rfl rfl iG rfl rfl rfl (zT rfl (bG zO) (eD (ts:=#[]) rfl cJ rfl (zT rfl (bG zO) (zM rfl (zT rfl (bG zO) (zZ rfl (zV (bG zO) rfl (fH rfl (rO _ _ (bG zO) _) rfl (zN (zS (bJ rfl pT rfl (bT 0 rfl rfl iG rfl rfl rfl (bJ rfl nU rfl (bT 0 rfl rfl iG rfl rfl rfl (fS rfl eI iG tA rfl rfl rfl (fun b32=>fT 0 rfl rfl rfl (fun HP32 oP32 hleP32 hbP32 hoP32=>?_))))))))))))))))))))))))))));replace hm:=hm.mono hleP32;replace hs:=hs.mono hleP32;replace ht:=ht.mono hleP32;have hsl32:=SlR.lit (ρ:=(slR lS)) (l:=[Q,S]) hbP32 hoP32 (iH.cons1 (cs:=[_]) ⟨_,_,rfl,hs⟩ (iH.one1 ⟨_,_,rfl,ht⟩));obtain ⟨L,hL⟩ : ∃ L,L = Q ++ S:=⟨_,rfl⟩
 have hcall:=aM3 _ _ [Q,S] _ (by assumption) zP zI;rw [show [Q,S].flatten = L by rw [hL];simp] at hcall;have hLl : L.length ≤ 2000:=by rw [hL,fQ];omega
 refine eZ rfl hcall rfl ?_;rintro _ HC qA ⟨aC,cC,rfl,hC⟩;replace hm:=hm.mono qA;replace hs:=hs.mono qA;replace ht:=ht.mono qA;replace hsl32:=hsl32.mono qA;refine eD (ts:=#[]) rfl cJ rfl (zM rfl (zN (dK (eU [35,33,34] rfl (gO (base:=[(33,_),(34,_)]) (fun ζ : Nat=>[(35,.int .i64 (ζ : Nat))]) (fun ζ Hl own=>ζ ≤ L.length ∧ rest = own) (fun ζ=>L.length - ζ) 0 (zC) zB ⟨eS _,rfl⟩ ?_)))));rintro k Hl0 _ gB ⟨hkk,rfl⟩;replace hm:=hm.mono gB;replace hs:=hs.mono gB;replace ht:=ht.mono gB;replace hsl32:=hsl32.mono gB;replace hC:=hC.mono gB;try dsimp only at ⊢
 refine zS (zL rfl (zN (cO (fC rfl (fun aDq=>?_) (fun aDq=>?_)))))
 ·refine eF (bO (cO (dK (zS (eV rfl hC rfl cJ fG zO rfl ?_)))));rintro eb37 eo37 _ x37 hx37 ⟨ax37,cx37,bx37,dx37,rfl,hd37,he37⟩ hp37;refine eH rfl (by assumption) fG rfl rfl rfl (fI jD rfl (fun b6=>eG 0 rfl rfl rfl rfl fG rfl rfl rfl rfl rfl (zN (dL (bT 0 rfl rfl fG rfl rfl rfl ?_)))));obtain ⟨hox,hoa,hob⟩:=hall x37 (by rw [← hL];exact cF hx37);refine kO rfl (aAn x37.1 x37.2 _ _ _ _ _ hd37 he37 (.inl hoa) (.inl hob) zO zO) rfl ?_;rintro _ ⟨e,rfl,hce⟩;obtain rfl : e = 0:=hce.2 hox;refine zZ rfl (fH rfl (rO _ _ (bG rfl) _) rfl (bF (fY (bO (dL (fR rfl rfl (dT zO zO) rfl (zM rfl (bF (eW (k + 1) (by show L.length - (k + 1) < L.length - k;omega) (zC) (⟨by show k + 1 ≤ L.length;omega,rfl⟩) zB (gB))))))))))
 refine gI (fE (eY (fU rfl ?_)));refine ⟨rfl,_,[],rfl,zA,eQ.mk ?_⟩;rfl
theorem formed_bad (m : Mk) (am : Option Addr) (cm : Nat) (Q S : List (Raw × Raw)) (a b : Option Addr) (c d : Nat) (H : Hp) (hm : SlR mkR H am cm m) (hs : SlR lS H a c Q) (ht : SlR lS H b d S) (hok : oF m) (hQ : Q.length ≤ 1000) (hS : S.length ≤ 1000) (hsz : ∀ x ∈ Q ++ S,aIp x) (hbad : ¬ (Q.length = m.length ∧ S.length = fO m ∧ ∀ x ∈ Q ++ S,okQ x.1 x.2)) : iP Tryz.prog 41 #[.slice am m.length cm,.agg ⟨[.slice a Q.length c,.slice b S.length d]⟩] H [] (aFq [{ v:=.iface 27 (.int .i64 380),recovered:=false }]):=by
 refine iP.intro (args:=[.slice am m.length cm,.agg ⟨[.slice a Q.length c,.slice b S.length d]⟩]) Tryz.func41 rfl rfl Tryz.ntmps41 rfl rfl rfl fun G rest=>?_;have hl:=hok.1;have hw:=hok.2.1;refine zS ?_;refine iW rfl rfl rfl (fun b3=>?_);refine zN ?_;refine zS ?_;refine zG rfl ?_;refine zN ?_;refine aN2 (base:=[(0,_),(3,_)]) (fun ζ : Unit=>[(4,.int .i64 (fO m : Nat))]) (fun ζ Hl own=>(b3,.cells 26 [.slice a Q.length c,.slice b S.length d]) :: rest = own) (zC) (fun hleJ1=>?_) ?_
 ·skip
  refine zS (zM rfl (eD (ts:=#[]) rfl cH rfl (zY rfl (zN (fC rfl (fun qK=>?_) (fun qK=>?_))))))
  ·refine dL (zM rfl (eV (i:=0) rfl hm rfl cH gE zO rfl ?_));rintro eb11 eo11 _ x11 aEv ⟨ax11,cx11,rfl,hd11⟩ hp11;refine eH rfl (by assumption) gE rfl rfl rfl (eD (ts:=#[]) rfl bK rfl (zG rfl (bF (wJ () (iL ((by first | exact pK rfl (by rw [tC aEv]) | exact pK rfl (by rw [sF zO];rfl))) (zC)) rfl zB hleJ1))))
  refine eF (wJ () (iL ((by first | exact pK rfl (by rw [tC aEv]) | exact pK rfl (by rw [sF zO];rfl))) (zC)) rfl zB hleJ1)
 rintro _ Hl _ hleK1 ⟨rfl⟩;replace hm:=hm.mono hleK1;replace hs:=hs.mono hleK1;replace ht:=ht.mono hleK1;refine zS (bJ rfl pT rfl (bT 0 rfl rfl iG rfl rfl rfl (eD (ts:=#[]) rfl cJ rfl (zM rfl (eD (ts:=#[]) rfl cH rfl (zZ rfl (zM rfl (iM rfl rfl rfl rfl (fun g4=>?_) (fun g4=>?_)))))))))
 ·have g4p:=eT g4;refine bJ rfl nU rfl (zT rfl g4 (bT 0 rfl rfl iG rfl rfl rfl (zT rfl g4 (eD (ts:=#[]) rfl cJ rfl (zT rfl g4 (zM rfl (zT rfl g4 (zZ rfl (zV g4 rfl ?_)))))))));by_cases hS2 : S.length = fO m
  ·refine fH rfl (rO _ _ (bG zO) _) rfl (zN (zS (bJ rfl pT rfl (bT 0 rfl rfl iG rfl rfl rfl (bJ rfl nU rfl (bT 0 rfl rfl iG rfl rfl rfl (fS rfl eI iG tA rfl rfl rfl (fun b32=>fT 0 rfl rfl rfl (fun HP32 oP32 hleP32 hbP32 hoP32=>?_)))))))));replace hm:=hm.mono hleP32;replace hs:=hs.mono hleP32;replace ht:=ht.mono hleP32;have hsl32:=SlR.lit (ρ:=(slR lS)) (l:=[Q,S]) hbP32 hoP32 (iH.cons1 (cs:=[_]) ⟨_,_,rfl,hs⟩ (iH.one1 ⟨_,_,rfl,ht⟩));obtain ⟨L,hL⟩ : ∃ L,L = Q ++ S:=⟨_,rfl⟩
   have hcall:=aM3 _ _ [Q,S] _ (by assumption) zP zI;rw [show [Q,S].flatten = L by rw [hL];simp] at hcall;have hLl : L.length ≤ 2000:=by rw [hL,fQ];omega
   refine eZ rfl hcall rfl ?_;rintro _ HC qA ⟨aC,cC,rfl,hC⟩;replace hm:=hm.mono qA;replace hs:=hs.mono qA;replace ht:=ht.mono qA;replace hsl32:=hsl32.mono qA;refine eD (ts:=#[]) rfl cJ rfl (zM rfl (zN (dK (eU [35,33,34] rfl (gO (base:=[(33,_),(34,_)]) (fun ζ : Nat=>[(35,.int .i64 (ζ : Nat))]) (fun ζ Hl own=>ζ ≤ L.length ∧ rest = own ∧ (∀ x ∈ L.take ζ,okQ x.1 x.2)) (fun ζ=>L.length - ζ) 0 (zC) zB ⟨eS _,rfl,by simp⟩ ?_)))));rintro k Hl0 _ gB ⟨hkk,rfl,hgo⟩;replace hm:=hm.mono gB;replace hs:=hs.mono gB;replace ht:=ht.mono gB;replace hsl32:=hsl32.mono gB;replace hC:=hC.mono gB;try dsimp only at ⊢
   refine zS (zL rfl (zN (cO (fC rfl (fun c1_7=>?_) (fun c1_7=>?_)))))
   ·refine eF (bO (cO (dK (zS (eV rfl hC rfl cJ fG zO rfl ?_)))));rintro eb37 eo37 _ x37 hx37 ⟨ax37,cx37,bx37,dx37,rfl,hd37,he37⟩ hp37;refine eH rfl (by assumption) fG rfl rfl rfl (fI jD rfl (fun b6=>eG 0 rfl rfl rfl rfl fG rfl rfl rfl rfl rfl (zN (dL (bT 0 rfl rfl fG rfl rfl rfl ?_)))));have hfx:=hsz x37 (by rw [← hL];exact cF hx37);refine kO rfl (aAn x37.1 x37.2 _ _ _ _ _ hd37 he37 (aUv hfx) (aUn hfx) (by have:=aPa hfx;omega) (by have:=aPa hfx;omega)) rfl ?_;rintro _ ⟨e,rfl,hce⟩;refine zZ rfl ?_;by_cases he0 : e = 0
    ·subst he0;have hok1:=hce.1 rfl;refine fH rfl (rO _ _ (bG rfl) _) rfl (bF (fY (bO (dL (fR rfl rfl (dT zO zO) rfl (zM rfl (bF (eW (k + 1) (by show L.length - (k + 1) < L.length - k;omega) (zC) (⟨by show k + 1 ≤ L.length;omega,rfl,oI (p:=fun x : Raw × Raw=>okQ x.1 x.2) hgo hx37 hok1⟩) zB (gB)))))))))
    refine sO rfl (aAo _ _ (aI he0) _) rfl ?_;intro HPn hlePn;refine aN6 (pV (aH9 (aN6 ?_)));refine ⟨rfl,[],zA,aFq.mk⟩
   refine gI (fE (eY (fU rfl ?_)));obtain rfl : k = L.length:=zO
   rw [gF,hL] at hgo;exact absurd ⟨zO,hS2,hgo⟩ hbad
  refine sO rfl (aAo _ _ (aI zO) _) rfl ?_;intro HPn hlePn;refine pV ?_;refine ⟨rfl,[],zA,aFq.mk⟩
 have g4p:=fM g4;refine zU rfl g4 (zU rfl g4 (zU rfl g4 (zU rfl g4 (zW g4 rfl (sO rfl (aAo _ _ rfl _) rfl ?_)))));intro HPn hlePn;refine pV ?_;refine ⟨rfl,[],zA,aFq.mk⟩
end Go.Proofs

namespace Go.Proofs
open Go.XL
def aAw (Q S : List Rat) (p : Kn) : Rat:=((p.2 : Int) : Rat) - Q.getD p.1.1 0 - S.getD p.1.2 0
def sqQ (Q S : List Rat) (p : Kn) : Rat:=aAw Q S p * aAw Q S p
def aDp (m : Mk) (Q S : List Rat) : Rat:=mP ((jW m).map (sqQ Q S))
structure ResSz (m : Mk) (Q S : List Rat) : Prop where
 lenQ : Q.length = m.length
 lenS : S.length = fO m
 zq : ∀ x ∈ Q ++ S,mZ x 499
 z1 : ∀ p ∈ jW m,mZ (((p.2 : Int) : Rat) - Q.getD p.1.1 0) 499
 z2 : ∀ p ∈ jW m,mZ (aAw Q S p) 499
theorem jE {α : Type} {l : List α} {i : Nat} {x d : α} (h : l[i]? = some x) : l.getD i d = x:=by rw [dB,h];rfl
theorem ResSz.mark {m : Mk} {Q S : List Rat} (h : ResSz m Q S) (hok : oF m) {p : Kn} (hp : p ∈ jW m) :
  ∃ q s,Q[p.1.1]? = some q ∧ S[p.1.2]? = some s ∧ aAw Q S p = ((p.2 : Int) : Rat) - q - s ∧ (-1 ≤ p.2 ∧ p.2 ≤ 1000) ∧ mZ q 499 ∧ mZ (((p.2 : Int) : Rat) - q) 499 ∧ mZ s 499 ∧ mZ (((p.2 : Int) : Rat) - q - s) 499 ∧ p.1.1 < m.length ∧ p.1.2 < fO m:=by
 obtain ⟨l,h1,h2,h3⟩:=aAf hp;obtain ⟨h4,h5,h6⟩:=hok.at h1;have i1:=(bY.1 h1).1;have i2:=(bY.1 h2).1;have hq : p.1.1 < Q.length:=by rw [h.lenQ];exact i1
 have hs : p.1.2 < S.length:=by rw [h.lenS];omega
 have e1:=jE (d:=(0 : Rat)) (aJ hq);have e2:=jE (d:=(0 : Rat)) (aJ hs);have er : aAw Q S p = ((p.2 : Int) : Rat) - Q[p.1.1] - S[p.1.2]:=by unfold aAw;rw [e1,e2]
 refine ⟨Q[p.1.1],S[p.1.2],aJ hq,aJ hs,er,h6 _ (cF h2),h.zq _ zP,?_,h.zq _ zP,?_,i1,zO⟩
 ·have:=h.z1 p hp;rwa [e1] at this
 have:=h.z2 p hp;rwa [er] at this
theorem raw_mem {Q S : List Rat} {n : Nat} (h : ∀ x ∈ Q ++ S,mZ x n) (hn : n ≤ 1000) : ∀ x ∈ Q.map oB ++ S.map oB,aV7 x:=by
 intro x hx;rw [← List.map_append] at hx;obtain ⟨q,hq,rfl⟩:=gS.1 hx;exact rM (h q hq) hn
theorem aQo (m : Mk) (am : Option Addr) (cm : Nat) (Q S : List Rat) (a b : Option Addr) (c d : Nat) (H : Hp) (hm : SlR mkR H am cm m) (hs : SlR jX H a c Q) (ht : SlR jX H b d S) (hok : oF m) (hr : ResSz m Q S) :
  iP Tryz.prog 41 #[.slice am m.length cm,.agg ⟨[.slice a Q.length c,.slice b S.length d]⟩] H [] (eQ (fun v _ _=>v = .tuple #[])):=by
 have hl:=hok.1;have hw:=hok.2.1;have h:=formed_ok m am cm (Q.map oB) (S.map oB) a b c d H hm (SlR.raw hs) (SlR.raw ht) hok (by rw [fB,hr.lenQ];omega) (by rw [fB,hr.lenS];omega) (by rw [fB];exact hr.lenQ) (by rw [fB];exact hr.lenS) (raw_mem hr.zq zO);rw [fB,fB] at h;exact h
theorem aIv (x : Int) (H : Hp) : wH Tryz.prog (.func (.func 43) #[] #[]) [.int .i64 x] H [] (eQ fun u _ _=>u = .bool (decide (x ≠ -1))):=wH.of_fn (cap:=[]) (args:=[_]) (aGu x H)
theorem oF.rows {m : Mk} (h : oF m) : ∀ r ∈ m,r.length ≤ 16:=fun r hr=>by rw [(h.2.2 r hr).1];have:=h.2.1;omega
end Go.Proofs

namespace Go.Proofs
open Go.XL
theorem oR : tP Tryz.prog 26 2 true = true:=zK
theorem aRy (m : Mk) (am : Option Addr) (cm : Nat) (Q S : List Rat) (a b : Option Addr) (c d : Nat) (H : Hp) (hm : SlR mkR H am cm m) (hs : SlR jX H a c Q) (ht : SlR jX H b d S) (hok : oF m) (hr : ResSz m Q S) (hz : pW ((jW m).map (sqQ Q S)) 499) : iP Tryz.prog 21 #[.slice am m.length cm,.agg ⟨[.slice a Q.length c,.slice b S.length d]⟩] H [] (eQ (fun v H2 own=>own = [] ∧ ∃ u,v = .tuple #[u,.int .i64 0] ∧ lJ (aDp m Q S) H2 u)):=by
 refine iP.introD (args:=[.slice am m.length cm,.agg ⟨[.slice a Q.length c,.slice b S.length d]⟩]) Tryz.func21 rfl rfl Tryz.ntmps21 rfl rfl rfl fun G rest=>?_;have hl:=hok.1;have hw:=hok.2.1;refine zS ?_;refine iW rfl rfl rfl (fun b3=>?_);refine fI jD rfl (fun b4=>?_);refine fI sJ rfl (fun b5=>?_);refine zN ?_;refine zS ?_;refine mL (L:=[_,_,_]) rfl rfl rfl rfl rfl (fun msD rest hrest=>?_);simp only [fP,gN];refine zN ?_;refine zS ?_;refine zM rfl ?_;refine fH rfl (aJj _ _ m _ hm hok) rfl ?_;refine zN ?_;refine zS ?_;refine zM rfl ?_;refine bT 2 rfl rfl oR rfl rfl rfl ?_;refine fH rfl (aQo m _ _ Q S _ _ _ _ _ hm hs ht hok hr) rfl ?_;refine zN ?_;refine zS ?_;refine fI tA rfl (fun b6=>?_);refine zN ?_;refine cO ?_;refine zS ?_;refine zM rfl ?_;refine eZ rfl (aGp _ _ _ 43 _) rfl ?_;rintro _ HK mE ⟨bK1,bK2,rfl,hK1,hK2⟩;replace hm:=hm.mono mE;replace hs:=hs.mono mE;replace ht:=ht.mono mE;refine zN ?_;refine dK ?_;refine eU [3,4,5,6,16] rfl ?_;refine lR 0 ?_;refine oT (gW _ _ _) ?_;refine qS (enc:=aTv) rfl (aEg _ _ m _ _ _ _ hm (by have:=hok.1;omega) hok.rows hK1 hK2 aIv rfl) (fun _=>rfl) rfl rfl (fun pre Hl own=>∃ (pw : Nat × SObj) (aw : Option Addr) (cw : Nat) (L : List Rat),(b6,.cells 24 [.slice aw L.length cw]) :: pw :: (b5,.cells 27 [.int .i64 0]) :: (b4,.cells 56 [.bool false,.slice none 0 0,.bool false,.slice none 0 0]) :: (b3,.cells 26 [.slice a Q.length c,.slice b S.length d]) :: rest = own ∧ L = pre.map (sqQ Q S) ∧ XL.Acc jX 56 Hl pw aw cw L) (fun _ _ _=>False) (⟨(0,.nothing),none,0,[],rfl,rfl,Acc.nil _ _ _ _⟩) (.inl rfl) ?_ ?_ ?_
 ·rintro G lp hd1 hd2 hrec pre x post hxs Hl ownL jQ ⟨pw,aw,cw,L,rfl,hL,hw⟩;have hxm : x ∈ jW m:=by rw [hxs];simp
  obtain ⟨q,sv,hq,hsv,hrx,hxb,zq1,zq2,zq3,zq4,hi1,hi2⟩:=hr.mark hok hxm;change XC _ _ _ ⟨wO [17,18] [.agg ⟨[.int .i64 (x.1.1 : Nat),.int .i64 (x.1.2 : Nat)]⟩,.int .i64 x.2] _,_,_,_⟩;replace hs:=hs.mono jQ;replace ht:=ht.mono jQ;refine zS (fI aIa rfl (fun b7=>eG 0 rfl rfl rfl rfl aF2 rfl rfl rfl rfl rfl (zN (dL (zG rfl (bF (tS (dK (zS (bT 5 rfl rfl oR rfl rfl rfl (bT 0 rfl rfl aF2 rfl rfl rfl (zM rfl (eZ rfl (aQw Q S _ _ _ _ x.1.1 x.1.2 x.2 q sv _ hs ht hq hsv hxb (by have:=hr.lenQ;have:=hok.1;omega) (by have:=hr.lenS;have:=hok.2.1;omega) zq1 zq2 zq3) rfl ?_)))))))))))));rintro _ HNR hleNR ⟨aR,cR,bR,dR,rfl,hR,kR⟩;replace hw:=hw.mono hleNR;refine fI jD rfl (fun b9=>eG 0 rfl rfl rfl rfl fG rfl rfl rfl rfl rfl (zN (eU [6,9] rfl ?_)));apply nX (fun _=>True) trivial 8 [gC _,gC _,gC _,fun v H=>∃ u,v = .tuple #[u,.int .i64 0] ∧ lJ ((((x.2 : Int) : Rat) - q - sv) * (((x.2 : Int) : Rat) - q - sv)) H u,fun v H=>lJ ((((x.2 : Int) : Rat) - q - sv) * (((x.2 : Int) : Rat) - q - sv)) H v,gC _,fun v H=>lJ ((((x.2 : Int) : Rat) - q - sv) * (((x.2 : Int) : Rat) - q - sv)) H v,slF jX [(((x.2 : Int) : Rat) - q - sv) * (((x.2 : Int) : Rat) - q - sv)]] follows zK zK ⟨aH _,aH _,aH _,fun _ _ _ hle ⟨u,h,k⟩=>⟨u,h,k.mono hle⟩,kG _,aH _,kG _,oQ _ _,trivial⟩ ?steps5 ?tail5
  case steps5 =>
   refine dH rfl ?_ ?_
   ·intro X HD bI _;exact aF rfl (bT 2 rfl rfl iG rfl rfl rfl (bF (eO trivial rfl)))
   refine dH rfl ?_ ?_
   ·intro X HD bI _;exact aF rfl (bT 0 rfl rfl fG rfl rfl rfl (bF (eO trivial rfl)))
   refine dH rfl ?_ ?_
   ·intro X HD bI _;exact aF rfl (bT 0 rfl rfl fG rfl rfl rfl (bF (eO trivial rfl)))
   refine dH rfl ?_ ?_
   ·intro X HD bI _;replace hR:=hR.mono bI;replace kR:=kR.mono bI;refine gL rfl (gL rfl (aF rfl (eZ rfl (aU8 ⟨_,_,_,_,rfl,hR,kR⟩ ⟨_,_,_,_,rfl,hR,kR⟩ zq4 zq4) rfl ?_)));rintro _ HN kI ⟨_,rfl,⟨aS,cS,bS,dS,rfl,hS,kS⟩⟩;exact bF (eO trivial (⟨_,rfl,⟨_,_,_,_,rfl,hS,kS⟩⟩))
   refine dH rfl ?_ ?_
   ·intro X HD bI _;refine eJ rfl rfl ?_;rintro _ ⟨_,rfl,aS,cS,bS,dS,rfl,hS,kS⟩;exact aF rfl (zX rfl (bF (eO trivial (⟨_,_,_,_,rfl,hS,kS⟩))))
   refine dH rfl ?_ ?_
   ·intro X HD bI _;refine eJ rfl rfl ?_;rintro _ ⟨_,rfl,aS,cS,bS,dS,rfl,hS,kS⟩;exact aF rfl (zX rfl (bF (eO trivial rfl)))
   refine dH rfl ?_ ?_
   ·intro X HD bI _;refine eJ rfl rfl ?_;rintro _ ⟨aS,cS,bS,dS,rfl,hS,kS⟩;exact gL rfl (aF rfl (fH rfl (aFe ⟨_,_,_,_,rfl,hS,kS⟩) rfl (bF (eO trivial (⟨_,_,_,_,rfl,hS,kS⟩)))))
   refine dH rfl ?_ ?_
   ·intro X HD bI _;refine eJ rfl rfl ?_;rintro _ ⟨aS,cS,bS,dS,rfl,hS,kS⟩;refine aF rfl (fS rfl cJ fG jD rfl rfl rfl (fun b30=>fT 0 rfl rfl rfl (fun HP30 oP30 hleP30 hbP30 hoP30=>?_)));have hsl30:=SlR.lit (ρ:=jX) (l:=[(((x.2 : Int) : Rat) - q - sv) * (((x.2 : Int) : Rat) - q - sv)]) hbP30 hoP30 (iH.one1 ⟨_,_,_,_,rfl,hS.mono hleP30,kS.mono hleP30⟩);exact bF (eO trivial (⟨_,rfl,hsl30⟩))
   exact jH rfl
  case tail5 =>
   intro HD bI _;replace hw:=hw.mono bI;refine gL rfl (gL rfl (gL rfl (eJ rfl rfl ?_)));rintro _ ⟨_,rfl,aS,cS,bS,dS,rfl,hS,kS⟩;refine eJ rfl rfl ?_;rintro _ ⟨aS,cS,bS,dS,rfl,hS,kS⟩;refine gL rfl (eJ rfl rfl ?_);rintro _ ⟨aS,cS,bS,dS,rfl,hS,kS⟩;refine eJ rfl rfl ?_;rintro _ ⟨bs30,rfl,hsl30⟩;refine aF rfl (iV 3 rfl rfl hw rfl rfl hsl30 rfl cJ fG jD rfl tY (by rw [hL,fB];have:=wU hok;have h9:=congrArg List.length hxs;rw [fQ] at h9;simp at h9 ⊢;omega) rfl (fun p31 a31 c31 hacc31=>eG 2 rfl rfl rfl rfl iG rfl rfl rfl rfl rfl (bF (fY ?_))));refine ⟨rfl,((b6,.cells 24 [.slice a31 (L ++ [(((x.2 : Int) : Rat) - q - sv) * (((x.2 : Int) : Rat) - q - sv)]).length c31]) :: p31 :: (b5,.cells 27 [.int .i64 0]) :: (b4,.cells 56 [.bool false,.slice none 0 0,.bool false,.slice none 0 0]) :: (b3,.cells 26 [.slice a Q.length c,.slice b S.length d]) :: rest),zA,?_⟩;exact ⟨p31,a31,c31,_,rfl,by rw [List.map_append,hL,List.map_cons,List.map_nil,sqQ,hrx],hacc31⟩
 ·rintro Hl ownL jQ ⟨pw,aw,cw,L,rfl,hL,hw⟩;refine fY (bO (zS (bT 0 rfl rfl iG rfl rfl rfl (iO 1 rfl hw rfl (fun HQ9 hleQ9 hsQ9=>eZ rfl (aVx _ _ _ _ hsQ9 (by rw [hL,fB];have:=wU hok;omega) (by rw [hL];exact hz)) rfl ?_)))));rintro _ HU hleU ⟨aU,cU,bU,dU,rfl,hU,kU⟩;refine eG 2 rfl rfl rfl rfl fG rfl rfl rfl rfl rfl (eG 1 rfl rfl rfl rfl jZ rfl rfl rfl rfl rfl (zN (eP (jO 1 (L:=[_,_,_,_]) rfl hrest rfl ((aC5 _ _ _).mono (fun u2 HE own2 lF hD=>?_))))));obtain ⟨h1,h2⟩:=hD;subst h2;replace hU:=hU.mono lF;replace kU:=kU.mono lF;refine ⟨by subst h1;rfl,_,_,rfl,(fN 2 rfl rfl fG rfl rfl (fN 0 rfl rfl jZ rfl rfl iD)),eQ.mk ?_⟩;exact ⟨rfl,_,rfl,by unfold aDp;rw [← hL];exact ⟨_,_,_,_,rfl,hU,kU⟩⟩
 rintro c Hl ownL jQ hK;exact hK.elim
end Go.Proofs

namespace Go.Proofs
open Go.XL
theorem loss_bad (m : Mk) (am : Option Addr) (cm : Nat) (Q S : List (Raw × Raw)) (a b : Option Addr) (c d : Nat) (H : Hp) (hm : SlR mkR H am cm m) (hs : SlR lS H a c Q) (ht : SlR lS H b d S) (hok : oF m) (hQ : Q.length ≤ 1000) (hS : S.length ≤ 1000) (hsz : ∀ x ∈ Q ++ S,aIp x) (hbad : ¬ (Q.length = m.length ∧ S.length = fO m ∧ ∀ x ∈ Q ++ S,okQ x.1 x.2)) : iP Tryz.prog 21 #[.slice am m.length cm,.agg ⟨[.slice a Q.length c,.slice b S.length d]⟩] H [] (eQ (fun v H2 own=>own = [] ∧ ∃ e,v = .tuple #[.agg ⟨[.bool false,.slice none 0 0,.bool false,.slice none 0 0]⟩,.int .i64 e] ∧ e ≠ 0)):=by
 refine iP.introD (args:=[.slice am m.length cm,.agg ⟨[.slice a Q.length c,.slice b S.length d]⟩]) Tryz.func21 rfl rfl Tryz.ntmps21 rfl rfl rfl fun G rest=>?_;refine zS ?_;refine iW rfl rfl rfl (fun b3=>?_);refine fI jD rfl (fun b4=>?_);refine fI sJ rfl (fun b5=>?_);refine zN ?_;refine zS ?_;refine mL (L:=[_,_,_]) rfl rfl rfl rfl rfl (fun msD rest hrest=>?_);simp only [fP,gN];refine zN ?_;refine zS ?_;refine zM rfl ?_;refine fH rfl (aJj _ _ m _ hm hok) rfl ?_;refine zN ?_;refine zS ?_;refine zM rfl ?_;refine bT 2 rfl rfl oR rfl rfl rfl ?_;refine sO rfl (formed_bad m _ _ Q S _ _ _ _ _ hm hs ht hok hQ hS hsz hbad) rfl ?_;intro HPn hlePn;refine pV ?_;refine jO 0 (L:=[_,_,_]) rfl hrest rfl ((aDg _ _ _ _).mono (fun u2 HE own2 lF hD=>?_));obtain ⟨h1,h2⟩:=hD;subst h2;refine ⟨h1,_,_,rfl,(fN 1 rfl rfl fG rfl rfl (fN 0 rfl rfl jZ rfl rfl iD)),eQ.mk ?_⟩;exact ⟨rfl,_,rfl,zD⟩
end Go.Proofs

namespace Go.XL
def stX (mods : List Nat) (L : Nat → Bool) (val : Nat → Value) : Nat → Option Value:=fun j=>bif mods.contains j && L j then some (val j) else none
def knX (l : List Oper) (mods : List Nat) (acc : gY) (s : Nat → Option Value) : Prop:=∀ k t v,mods.contains k = true → gU l k = some t → gY.get acc t = some v → s k = some v
def foX (mods : List Nat) (k : Nat) (FO : (Nat → Option Value) → Own → Hp → Prop) (s : Nat → Option Value) (e0 : Own) : Value → Own → Hp → Prop:=fun v e H =>
 bif mods.contains k then FO (fun j=>if j = k then some v else s j) e H else e = e0
def aRe (Gd : Hp → Prop) (mods : List Nat) (FO : (Nat → Option Value) → Own → Hp → Prop) (C : Ctx) (l : List Oper) (F : List (Value → Hp → Prop)) (env : gY) (df : List Deferred) (H : Hp) (own : Own) (k : Nat) (o : Oper) : Prop :=
 ∀ X e H',Le H H' → Gd H' → mK l F H' (kH o) [] fun acc=>∀ s,FO s e H' → s k = none → (∀ j,mods.contains j = true → aKx l j k = true → s j = none) → (∀ j,mods.contains j = true → aJe l k j = true → (s j).isSome = true) → knX l mods acc s →
  XO C l.toArray (aLj Gd o.dst (jN F k) (foX mods k FO s e) (acc ++ (env ++ X)) df own) [o] ⟨acc ++ (env ++ X),df,H',e ++ own⟩
def aBv (Gd : Hp → Prop) (mods : List Nat) (FO : (Nat → Option Value) → Own → Hp → Prop) (C : Ctx) (l : List Oper) (F : List (Value → Hp → Prop)) (env : gY) (df : List Deferred) (H : Hp) (own : Own) (m : Nat) : Nat → List Oper → Prop
 | _,[]=>True
 | k,o :: rest=>bif Nat.blt k m then aRe Gd mods FO C l F env df H own k o ∧ aBv Gd mods FO C l F env df H own m (k + 1) rest else True
theorem iJ {Gd : Hp → Prop} {mods : List Nat} {FO : (Nat → Option Value) → Own → Hp → Prop} {C : Ctx} {l : List Oper} {F : List (Value → Hp → Prop)} {env : gY} {df : List Deferred} {H : Hp} {own : Own} {m k : Nat} {o : Oper} {rest : List Oper} (hk : Nat.blt k m = true)
  (h : aRe Gd mods FO C l F env df H own k o) (k2 : aBv Gd mods FO C l F env df H own m (k + 1) rest) : aBv Gd mods FO C l F env df H own m k (o :: rest):=by
 rw [aBv,hk];exact ⟨h,k2⟩
theorem aBf {Gd : Hp → Prop} {mods : List Nat} {FO : (Nat → Option Value) → Own → Hp → Prop} {C : Ctx} {l : List Oper} {F : List (Value → Hp → Prop)} {env : gY} {df : List Deferred} {H : Hp} {own : Own} {m k : Nat} {rest : List Oper} (hk : Nat.blt k m = false) : aBv Gd mods FO C l F env df H own m k rest:=by
 cases rest with
 | nil=>trivial
 | cons o r=>rw [aBv,hk];trivial
section
variable {C : Ctx} {Q : Exit → St → Prop} {env : gY} {df : List Deferred} {H : Hp} {own : Own}
theorem aMk {Gd : Hp → Prop} {mods : List Nat} {FO : (Nat → Option Value) → Own → Hp → Prop} {l : List Oper} {F : List (Value → Hp → Prop)} {m : Nat} : ∀ (rest : List Oper) (k : Nat),aBv Gd mods FO C l F env df H own m k rest → ∀ (i : Nat) (o : Oper),rest[i]? = some o → k + i < m → aRe Gd mods FO C l F env df H own (k + i) o
 | [],k,_,i,o,hi,_=>by simp at hi
 | x :: rest,k,h,i,o,hi,hlt=>by
  simp only [aBv] at h;rw [show Nat.blt k m = true by simp;omega] at h;cases i with
  | zero=>simp only [mF,Option.some.injEq] at hi;subst hi;exact h.1
  | succ i =>
   have:=aMk rest (k + 1) h.2 i o (by simpa using hi) zO;rwa [show k + 1 + i = k + (i + 1) by omega] at this
theorem aF4 (Gd : Hp → Prop) (hG : Gd H) (mods : List Nat) (FO : (Nat → Option Value) → Own → Hp → Prop) (hFO : ∀ s p H H',Le H H' → FO s p H → FO s p H') {id : Nat} {l : List Oper} (m : Nat) (F : List (Value → Hp → Prop)) (hm : C.P.follows .mixedOrders = true) (hck : sS m l (env.map Prod.fst) = true) (hmono' : aE3 F)
  (hch : (mods.all fun k=>Nat.blt k m) = true) {q : Own} (hq0 : FO (fun _=>none) q H) (steps : aBv Gd mods FO C l F env df H own m 0 l)
  (tail : ∀ H',Le H H' → Gd H' → mK l F H' (List.range m) [] fun acc=>∀ e s,FO s e H' → (∀ k,mods.contains k = true → (s k).isSome = true) → knX l mods acc s → XO C l.toArray Q (l.drop m) ⟨acc ++ env,df,H',e ++ own⟩) : XC C (.region id l.toArray true) Q ⟨env,df,H,q ++ own⟩:=by
 have hmono:=xK hmono';intro a₀ w₀ hr₀;refine wpIn_region_any hm ?_;simp only [sS,fL,List.all_eq_true,fA] at hck;obtain ⟨⟨hml,hck1⟩,hck2⟩:=hck;have hml:=Nat.le_of_ble_eq_true hml
 have hpre : ∀ i,i < m → ∃ o,l[i]? = some o ∧ (∀ t,o.dst = some t → t ∉ env.map Prod.fst ∧ (∀ j,j < m → i ≠ j → gU l j ≠ some t)) ∧ (∀ e ∈ o.after,Region.binds .any e = true → e.on < i) ∧ (∀ j ∈ kH o,j < m ∧ ∃ e ∈ o.after,Region.binds .any e = true ∧ e.on = j):=by
  intro i hi;have h:=hck1 i hi;split at h
  ·rename_i o ho
   simp only [fL,List.all_eq_true] at h;obtain ⟨⟨⟨hnd,hd⟩,haf⟩,hp⟩:=h;refine ⟨o,ho,?_,?_,?_⟩
   ·intro t ht;rw [ht] at hd;simp only [fL,List.all_eq_true,fA,Bool.not_eq_true',List.contains_eq_mem,decide_eq_false_iff_not] at hd;refine ⟨hd.1,fun j hj hne he=>?_⟩;have:=hd.2 j hj;rw [he] at this;simp at this;exact hne this
   ·intro e he hb;have:=haf e (by simpa using he);simpa [hb] using this
   intro j hj;have:=hp j hj;simp only [List.any_eq_true,fL] at this;obtain ⟨h1,e,he,hb,hon⟩:=this;exact ⟨by simpa using h1,e,by simpa using he,hb,fV hon⟩
  cases h
 have hkey : ∀ i t,i < m → gU l i = some t → t ∉ env.map Prod.fst:=by
  intro i t hi ht;obtain ⟨o,ho,hd,_⟩:=hpre i hi;exact (hd t (by simpa [gU,ho] using ht)).1
 have hdis : ∀ i j t,i < m → j < m → gU l i = some t → gU l j = some t → i = j:=by
  intro i j t hi hj ht ht2;obtain ⟨o,ho,hd,_⟩:=hpre i hi;by_cases h : i = j
  ·exact h
  exact absurd ht2 ((hd t (by simpa [gU,ho] using ht)).2 j hj h)
 have htl : ∀ (i : Nat) (o : Oper),m ≤ i → l[i]? = some o → (∀ j,j < i → sW l l.length o j = true) ∧ (∀ e ∈ o.after,Region.binds .any e = true → e.on < i):=by
  intro i o hi ho;have hlt:=(bY.1 ho).1;have h:=hck2 i hlt;rw [ho] at h;rw [show Nat.blt i m = false from aE7 hi] at h;simp only [Bool.false_or,fL,List.all_eq_true,fA] at h;refine ⟨fun j hj=>h.1 j hj,fun e he hb=>?_⟩
  ·have:=h.2 e (by simpa using he);simpa [hb] using this
 have hdc : ∀ (i : Nat) (o : Oper),l[i]? = some o → ∀ e ∈ o.after,Region.binds .any e = true → e.on < i:=by
  intro i o ho;rcases gJ i m with h | h
  ·obtain ⟨o2,ho2,_,haf,_⟩:=hpre i h;rw [ho] at ho2;cases ho2;exact haf
  exact (htl i o h ho).2
 have main : ∀ (fuel : Nat) (L : Array Bool) (a : Act) (w : World) (val : Nat → Value) (kJ : Own) (H' : Hp),L.size = l.length → unl l.length L ≤ fuel → Le H H' → Gd H' → (∀ (i : Nat) (o : Oper),l[i]? = some o → jU L i = true → ∀ e ∈ o.after,Region.binds .any e = true → jU L e.on = true) → (∀ j,m ≤ j → jU L j = false) →
   a.tmps.size = C.N → (∀ t v,env.get t = some v → a.tmps.getD t undef = v) → (∃ ms : List Nat,a.defers = ms.map mark ++ df ∧ Ok C.G H' ((kJ ++ own) ++ (ms.map hid ++ C.hid)) w) → FO (stX mods (jU L) val) kJ H' →
   (∀ i,i < m → jU L i = true → ∀ t,gU l i = some t → a.tmps.getD t undef = val i ∧ jN F i (val i) H') →
   wpAnyIn (Fr C.r) 0 C.P .any l.toArray (nW C H Q) fuel L a w:=by
  intro fuel
  have done : ∀ (fuel : Nat) (L : Array Bool) (a : Act) (w : World) (val : Nat → Value) (kJ : Own) (H' : Hp),L.size = l.length → unl l.length L ≤ fuel → Le H H' → Gd H' → (∀ j,m ≤ j → jU L j = false) →
    a.tmps.size = C.N → (∀ t v,env.get t = some v → a.tmps.getD t undef = v) → (∃ ms : List Nat,a.defers = ms.map mark ++ df ∧ Ok C.G H' ((kJ ++ own) ++ (ms.map hid ++ C.hid)) w) → FO (stX mods (jU L) val) kJ H' →
    (∀ i,i < m → jU L i = true → ∀ t,gU l i = some t → a.tmps.getD t undef = val i ∧ jN F i (val i) H') → (∀ j,j < m → jU L j = true) →
    wpAnyIn (Fr C.r) 0 C.P .any l.toArray (nW C H Q) fuel L a w:=by
   intro fuel L a w val kJ H' hs hu hle hGd hT hsz henv hok hents hfacts hall;obtain ⟨acc',hk,hmem⟩:=pR (val:=val) (List.range m) [] _ (tail H' hle hGd) (fun j hj t ht=>(hfacts j (fA.1 hj) (hall j (fA.1 hj)) t ht).2);have hcount : l.length - m ≤ fuel:=by rw [uF hml hall hT];exact hu
   refine vC (m:=m) htl hdc fuel m L a w (gT _) hs hcount hml ?_ ?_
   ·intro j;rcases gJ j m with h | h
    ·rw [hall j h];simp [h]
    rw [hT j h];simp;omega
   have hk2:=hk kJ _ hents (fun k hkm=>by
    unfold stX;rw [hkm,hall k (by have:=List.all_eq_true.1 hch k (by simpa using hkm);simpa using this)];rfl) (by
    intro k t v hkm hdt hg;obtain ⟨j',hj',hdj,rfl⟩:=hmem t v (pM (by simpa using hg));have hkm2 : k < m:=by have:=List.all_eq_true.1 hch k (by simpa using hkm);simpa using this
    obtain rfl:=hdis _ j' t hkm2 (fA.1 hj') hdt hdj
    unfold stX;rw [hkm,hall k hkm2];rfl)
   refine lZ hle _ _ _ (hk2 a w ⟨hsz,?_,hok⟩);intro t v hg;simp only [gH] at hg;rw [gY.get_append] at hg;cases hga : gY.get acc' t with
   | none=>rw [hga] at hg;exact henv t v (by simpa using hg)
   | some u =>
    rw [hga] at hg;simp at hg;subst hg;obtain ⟨j,hj,hd,rfl⟩:=hmem t u (kB _ _ _ hga);have hj:=fA.1 hj;exact (hfacts j hj (hall j hj) t hd).1
  induction fuel with
  | zero =>
   intro L a w val kJ H' hs hu hle hGd hdown hT hsz henv hok hents hfacts;refine done 0 L a w val kJ H' hs hu hle hGd hT hsz henv hok hents hfacts ?_;intro j hj;cases hx : jU L j with
   | true=>rfl
   | false =>
    have:=qT (L:=L) (i:=j) hs zO hx;omega
  | succ fuel ih =>
   intro L a w val kJ H' hs hu hle hGd hdown hT hsz henv hok hents hfacts;by_cases hall : ∀ j,j < m → jU L j = true
   ·exact done (fuel + 1) L a w val kJ H' hs hu hle hGd hT hsz henv hok hents hfacts hall
   constructor
   ·intro hnil;exfalso;apply hall
    -- the least one that is not listed is ready
    intro j hj
    induction j using Nat.strongRecOn with
    | _ j ihj =>
     cases hx : jU L j with
     | true=>rfl
     | false =>
      exfalso;obtain ⟨o,ho,_,haf,_⟩:=hpre j hj
      have : j ∈ Region.ready .any l.toArray L:=by
       rw [mem_ready];refine ⟨?_,o,by simpa using ho,fun e he hb=>ihj e.on (haf e he hb) (by have:=haf e he hb;omega)⟩;unfold jU at hx;rw [dY,gG zO] at hx ⊢;simpa using hx
      rw [hnil] at this;cases this
   intro i hi;rw [mem_ready] at hi;obtain ⟨h0,o,ho,hbef⟩:=hi;have hilt : i < l.length:=by simpa using (Array.getElem?_eq_some_iff.1 ho).1
   have hun : jU L i = false:=by
    unfold jU;rw [dY,gG zO] at h0 ⊢;simpa using h0
   have ho' : l[i]? = some o:=by simpa using ho
   have him : i < m:=by
    rcases gJ i m with h | h
    ·exact h
    exfalso;apply hall;intro j hj;exact nC hdown _ o j hbef ((htl i o h ho').1 j zO)
   obtain ⟨o2,ho2,hd,haf,hprd⟩:=hpre i him;rw [ho'] at ho2;cases ho2;have hdo : gU l i = o.dst:=by simp [gU,ho']
   have hst:=aMk l 0 steps i o ho' zO;simp only [Nat.zero_add] at hst
   -- all that is known of the slots,a_s one list
   let X : gY:=(List.range m).filterMap fun j=>if jU L j then (gU l j).map fun t=>(t,val j) else none
   have hpredF : ∀ j ∈ kH o,∀ tj,gU l j = some tj → jN F j (val j) H':=fun j hj tj hdj=>by
    obtain ⟨hjm,e,he,hb,hon⟩:=hprd j hj;have hlj : jU L j = true:=by have:=hbef e he hb;rw [hon] at this;exact this
    exact (hfacts j hjm hlj tj hdj).2
   have hX : ∀ t v,(t,v) ∈ X → ∃ j,j < m ∧ jU L j = true ∧ gU l j = some t ∧ v = val j:=by
    intro t v h;obtain ⟨j,hj,hjj⟩:=List.mem_filterMap.1 h;split at hjj
    ·rename_i hlj
     cases hdj : gU l j with
     | none=>rw [hdj] at hjj;cases hjj
     | some tj =>
      rw [hdj] at hjj;simp only [Option.map_some,Option.some.injEq,Prod.mk.injEq] at hjj;obtain ⟨rfl,rfl⟩:=hjj;exact ⟨j,fA.1 hj,hlj,hdj,rfl⟩
    cases hjj
   have hgets : ∀ acc' : gY,(∀ t v,(t,v) ∈ acc' → ∃ j ∈ kH o,gU l j = some t ∧ v = val j) → ∀ t v,gY.get (acc' ++ (env ++ X)) t = some v → a.tmps.getD t undef = v:=by
    intro acc' hmem t v hgv;rw [gY.get_append,gY.get_append] at hgv;cases hga : gY.get acc' t with
    | some u =>
     rw [hga] at hgv;simp at hgv;subst hgv;obtain ⟨j,hj,hdj,rfl⟩:=hmem t u (kB _ _ _ hga);obtain ⟨hjm,e,he,hb,hon⟩:=hprd j hj;have hlj : jU L j = true:=by have:=hbef e he hb;rw [hon] at this;exact this
     exact (hfacts j hjm hlj t hdj).1
    | none =>
     rw [hga] at hgv;simp only [Option.none_or] at hgv;cases hge : gY.get env t with
     | some u=>rw [hge] at hgv;simp at hgv;subst hgv;exact henv t u hge
     | none =>
      rw [hge] at hgv;simp only [Option.none_or] at hgv;obtain ⟨j,hj,hlj,hdj,rfl⟩:=hX t v (kB _ _ _ hgv);exact (hfacts j hj hlj t hdj).1
   have hnextG : ∀ (acc' : gY),(∀ t v,(t,v) ∈ acc' → ∃ j ∈ kH o,gU l j = some t ∧ v = val j) → ∀ (a' : Act) (w' : World) (σ' : St) (v : Value) (ent' : Own),Rel C σ' a' w' → Le H' σ'.H → Gd σ'.H → σ'.df = df → σ'.env = jI o.dst v (acc' ++ (env ++ X)) → jN F i v σ'.H →
     (∀ ms : List Nat,Ok C.G σ'.H (σ'.own ++ (ms.map hid ++ C.hid)) w' → Ok C.G σ'.H ((ent' ++ own) ++ (ms.map hid ++ C.hid)) w') →
     FO (stX mods (jU (L.setIfInBounds i true)) (fun j=>if j = i then v else val j)) ent' σ'.H →
     wpAnyIn (Fr C.r) 0 C.P .any l.toArray (nW C H Q) fuel (L.setIfInBounds i true) a' w':=by
    intro acc' hmem a' w' σ' v ent' hr' hle' hGd' hdf' henv' hfv hown' hent';refine ih (L.setIfInBounds i true) a' w' (fun j=>if j = i then v else val j) ent' σ'.H (by simpa using hs) ?_ (hle.trans hle') hGd' ?_ ?_ hr'.size ?_ ?_ hent' ?_
    ·have:=qT hs hilt hun;omega
    ·intro i' o' hi' hl' e he hb;rw [jT zO] at hl' ⊢;split
     ·rfl
     split at hl'
     ·rename_i e1 e2;subst e2;rw [ho'] at hi';cases hi';exact hbef e he hb
     exact hdown i' o' hi' hl' e he hb
    ·intro j hj;rw [jT zO,dG zO];exact hT j hj
    ·intro t' v' hg';refine hr'.get t' v' ?_;have hin : t' ∈ env.map Prod.fst:=gS.2 ⟨(t',v'),kB _ _ _ hg',rfl⟩;rw [henv',nI (fun e=>(hd t' e).1 hin),gY.get_append,gY.get_append]
     have : gY.get acc' t' = none:=by
      cases hga : gY.get acc' t' with
      | none=>rfl
      | some u =>
       obtain ⟨j,hj,hdj,_⟩:=hmem t' u (kB _ _ _ hga);exact absurd hin (hkey j t' (hprd j hj).1 hdj)
     rw [this,hg'];rfl
    ·obtain ⟨ms,hd',hok'⟩:=hr'.ok;exact ⟨ms,by rw [hd',hdf'],hown' ms hok'⟩
    intro j hj hlj tj htj;rw [jT zO] at hlj;by_cases hji : j = i
    ·subst hji;rw [hdo] at htj;simp only [if_true];refine ⟨hr'.get tj v ?_,hfv⟩;rw [henv',htj];simp [jI,gY.get]
    rw [dG hji] at hlj;obtain ⟨h1,h2⟩:=hfacts j hj hlj tj htj;simp only [dG hji];refine ⟨hr'.get tj (val j) ?_,rR hmono hle' h2⟩;rw [henv',nI (fun e=>hji (hdis j i tj hj him htj (by rw [hdo,e]))),gY.get_append,gY.get_append]
    have hacc : gY.get acc' tj = none ∨ gY.get acc' tj = some (val j):=by
     cases hga : gY.get acc' tj with
     | none=>exact .inl rfl
     | some u =>
      obtain ⟨j',hj',hdj',rfl⟩:=hmem tj u (kB _ _ _ hga);obtain rfl:=hdis j' j tj (hprd j' hj').1 hj hdj' htj;exact .inr rfl
    rcases hacc with hacc | hacc
    ·rw [hacc]
     have henvn : gY.get env tj = none:=by
      cases hge : gY.get env tj with
      | none=>rfl
      | some u=>exact absurd (gS.2 ⟨(tj,u),kB _ _ _ hge,rfl⟩) (hkey j tj hj htj)
     rw [henvn];simp only [Option.none_or]
     -- it stands in X,once
     refine uX X (List.mem_filterMap.2 ⟨j,fA.2 hj,by simp only [hlj,if_true,htj,Option.map_some]⟩) ?_;intro u hu';obtain ⟨j',hj',_,hdj',rfl⟩:=hX tj u hu';obtain rfl:=hdis j' j tj hj' hj hdj' htj;rfl
    rw [hacc];rfl
   have hcase : ∀ (acc' : gY) (own2 : Own) (Q2 : Exit → St → Prop),(∀ e σ,e ≠ .normal → ¬ Q2 e σ) → XO C l.toArray Q2 [o] ⟨acc' ++ (env ++ X),df,H',own2⟩ → Rel C ⟨acc' ++ (env ++ X),df,H',own2⟩ a w →
     (∀ a' w',nW C H' Q2 .normal a' w' → wpAnyIn (Fr C.r) 0 C.P .any l.toArray (nW C H Q) fuel (L.setIfInBounds i true) a' w') → wpOpIn (Fr C.r) 0 C.P l.toArray (nW C H Q) i (fun a' w'=>wpAnyIn (Fr C.r) 0 C.P .any l.toArray (nW C H Q) fuel (L.setIfInBounds i true) a' w') a w:=by
    intro acc' own2 Q2 hno hk hrel hnext;have hrun:=hk a w hrel;unfold wpOpIn;rw [ho];simp only [wpListIn] at hrun ⊢;split
    ·rename_i hw
     rw [eX hw] at hrun;refine oV hnext ?_ hrun;rintro e a' w' he ⟨σ',_,_,hq⟩;exact absurd hq (hno e σ' he)
    rename_i hw
    rw [dG hw] at hrun;exact ⟨hrun.1,hnext _ _ hrun.2⟩
   obtain ⟨acc',hk0,hmem⟩:=pR (val:=val) (kH o) [] _ (hst X kJ H' hle hGd) hpredF
   have hk:=hk0 (stX mods (jU L) val) hents (by unfold stX;rw [hun,Bool.and_false];rfl) (by
    intro k hkm hw;unfold stX;cases hlk : jU L k with
    | false=>rw [Bool.and_false];rfl
    | true =>
     unfold aKx at hw;split at hw
     ·rename_i o3 ho3
      have:=nC hdown _ o3 i (hdown _ o3 ho3 hlk) hw;rw [hun] at this;cases this
     cases hw) (by
    intro k hkm hbk;unfold aJe at hbk;rw [ho'] at hbk;simp only [List.any_eq_true,fL] at hbk;obtain ⟨ed,hed,h4,h5⟩:=hbk;have:=hbef ed (by simpa using hed) h4;have this2 : jU L k = true:=by rw [fV h5] at this;exact this
    unfold stX;rw [hkm,this2];rfl) (by
    intro k t v hkm hdt hg;obtain ⟨j',hj',hdj,rfl⟩:=hmem t v (pM (by simpa using hg));have hkm2 : k < m:=by have:=List.all_eq_true.1 hch k (by simpa using hkm);simpa using this
    obtain rfl:=hdis _ j' t hkm2 (hprd j' hj').1 hdt hdj;obtain ⟨_,ed,hed,h4,h5⟩:=hprd k hj';have:=hbef ed hed h4;have this2 : jU L k = true:=by rw [h5] at this;exact this
    unfold stX;rw [hkm,this2];rfl)
   simp only [gH] at hk;refine hcase acc' _ _ (fun e σ he=>by cases e <;> first | exact absurd rfl he | exact fun h=>h) hk ⟨hsz,hgets acc' hmem,hok⟩ ?_;rintro a' w' ⟨σ',hr',hle',hGd',hdf',v,e2,henv',hfv,hown',hfo⟩;refine hnextG acc' hmem a' w' σ' v e2 hr' hle' hGd' hdf' henv' hfv ?_ ?_
   ·intro ms hok';rw [hown'] at hok';exact hok'
   unfold foX at hfo;cases hmk : mods.contains i with
   | false =>
    rw [hmk] at hfo;simp only [cond_false] at hfo;subst hfo
    have e : stX mods (jU (L.setIfInBounds i true)) (fun j=>if j = i then v else val j) = stX mods (jU L) val:=by
     funext j;unfold stX;by_cases hji : j = i
     ·subst hji;rw [hmk];rfl
     rw [jT zO,dG hji];simp only [dG hji]
    rw [e];exact hFO _ _ _ _ hle' hents
   | true =>
    rw [hmk] at hfo;simp only [cond_true] at hfo
    have e : stX mods (jU (L.setIfInBounds i true)) (fun j=>if j = i then v else val j) = fun j=>if j = i then some v else stX mods (jU L) val j:=by
     funext j;unfold stX;by_cases hji : j = i
     ·subst hji;rw [hmk,jT zO,eX rfl];simp
     rw [jT zO,dG hji];simp only [dG hji]
    rw [e];exact hfo
 have hlst0 : ∀ j,jU (Array.replicate l.toArray.size false) j = false:=fun j=>by simp [jU,dY,gA];split <;> rfl
 exact main l.toArray.size (Array.replicate l.toArray.size false) a₀ _ (fun _=>undef) q H zP (by
   refine eK (List.countP_le_length) zP) (Le.refl _) hG (fun i o _ hl=>by
   have : jU (Array.replicate l.toArray.size false) i = false:=by simp [jU,dY,gA];split <;> rfl
   rw [this] at hl;cases hl) (fun j _=>by simp [jU,dY,gA];split <;> rfl) hr₀.size hr₀.get
  (let ⟨ms,hd,hok⟩:=hr₀.ok;⟨ms,hd,hok.drew⟩) (by
   have e : stX mods (jU (Array.replicate l.toArray.size false)) (fun _=>undef) = fun _=>none:=by
    funext j;unfold stX;rw [hlst0,Bool.and_false];rfl
   rw [e];exact hq0) (fun i _ h=>by
   have : jU (Array.replicate l.toArray.size false) i = false:=by simp [jU,dY,gA];split <;> rfl
   rw [this] at h;cases h)
end
theorem nA {mods : List Nat} {k : Nat} {FO : (Nat → Option Value) → Own → Hp → Prop} {s : Nat → Option Value} {e : Own} {v : Value} {H : Hp} (hr : mods.contains k = false) : foX mods k FO s e v e H:=by unfold foX;rw [hr];rfl
theorem rU {mods : List Nat} {k : Nat} {FO : (Nat → Option Value) → Own → Hp → Prop} {s : Nat → Option Value} {e0 e : Own} {v : Value} {H : Hp} (hr : mods.contains k = true) (h : FO (fun j=>if j = k then some v else s j) e H) : foX mods k FO s e0 v e H:=by unfold foX;rw [hr];exact h
/-! ### Blocks made by operations of a region -/
abbrev xI (s : Nat → Option Value) (k : Nat) (v : Value) : Nat → Option Value:=fun j=>if j = k then some v else s j
abbrev aA4:=Nat → Value → Nat × SObj → (Nat → Option Value) → Hp → Prop
def aGt (P : aA4) (s : Nat → Option Value) (H : Hp) (i : Nat) (A : Own) : Prop:=match s i with
 | none=>A = []
 | some v=>∃ p,A = [p] ∧ P i v p s H
def lX (P : aA4) (s : Nat → Option Value) (H : Hp) : List Nat → Own → Prop
 | [],e=>e = []
 | i :: is,e=>∃ A e2,e.Perm (A ++ e2) ∧ aGt P s H i A ∧ lX P s H is e2
theorem lX.nil {P : aA4} {H : Hp} : ∀ {mk : List Nat},lX P (fun _=>none) H mk []
 | []=>rfl
 | i :: is=>⟨[],[],mO _,rfl,lX.nil⟩
theorem aFc {P : aA4} {s s' : Nat → Option Value} {H H' : Hp} {i : Nat} {A : Own} (he : s' i = s i) (hf : ∀ v q,P i v q s H → P i v q s' H') (h : aGt P s H i A) : aGt P s' H' i A:=by
 unfold aGt at h ⊢;rw [he];cases hs : s i with
 | none=>rw [hs] at h;exact h
 | some v=>rw [hs] at h;obtain ⟨p,h1,h2⟩:=h;exact ⟨p,h1,hf v p h2⟩
theorem lX.frame {P : aA4} {s s' : Nat → Option Value} {H H' : Hp} : ∀ {mk : List Nat} {e : Own},(∀ j ∈ mk,s' j = s j) → (∀ j v q,j ∈ mk → P j v q s H → P j v q s' H') → lX P s H mk e → lX P s' H' mk e
 | [],e,_,_,h=>h
 | i :: is,e,he,hf,⟨A,e2,h1,h2,h3⟩=>⟨A,e2,h1,aFc (he i zP) (fun v q=>hf i v q zP) h2,lX.frame (fun j hj=>he j (by simp [hj])) (fun j v q hj=>hf j v q (by simp [hj])) h3⟩
theorem lX.mono {P : aA4} (hP : ∀ i v p s H H',Le H H' → P i v p s H → P i v p s H') {s : Nat → Option Value} {H H' : Hp} {mk : List Nat} {e : Own} (hle : Le H H') (h : lX P s H mk e) : lX P s H' mk e :=
 h.frame (fun _ _=>rfl) fun j v q _ hq=>hP j v q s H H' hle hq
theorem lX.make {P : aA4} {s : Nat → Option Value} {H H' : Hp} {i : Nat} {v : Value} {p : Nat × SObj} : ∀ {mk : List Nat} {e : Own},mk.Nodup → i ∈ mk → s i = none → (∀ j v' q,j ∈ mk → j ≠ i → P j v' q s H → P j v' q (xI s i v) H') → P i v p (xI s i v) H' → lX P s H mk e → lX P (xI s i v) H' mk (p :: e)
 | [],e,_,hi,_,_,_,_=>by cases hi
 | j :: is,e,hnd,hi,hs,hf,hp,⟨A,e2,h1,h2,h3⟩=>by
  obtain ⟨hj,hnd2⟩:=List.nodup_cons.1 hnd;by_cases e1 : j = i
  ·subst e1;unfold aGt at h2;rw [hs] at h2;subst h2;refine ⟨[p],e2,by simpa using h1,?_,?_⟩
   ·unfold aGt;rw [show xI s j v j = some v from eX rfl];exact ⟨p,rfl,hp⟩
   exact h3.frame (fun k hk=>by show (if k = j then some v else s k) = s k;rw [dG (fun h : k = j=>hj (h ▸ hk))]) fun k v' q hk=>hf k v' q (by simp [hk]) (fun h=>hj (h ▸ hk))
  have hi2 : i ∈ is:=by rcases List.mem_cons.1 hi with h | h;exact absurd h.symm e1;exact h
  refine ⟨A,p :: e2,(h1.cons p).trans List.perm_middle.symm,aFc (by show (if j = i then some v else s j) = s j;rw [dG e1]) (fun v' q=>hf j v' q zP e1) h2,?_⟩;exact lX.make hnd2 hi2 hs (fun k v' q hk=>hf k v' q (by simp [hk])) hp h3
theorem lX.get {P : aA4} {s : Nat → Option Value} {H : Hp} {i : Nat} {v : Value} : ∀ {mk : List Nat} {e : Own},mk.Nodup → i ∈ mk → s i = some v → lX P s H mk e →
  ∃ p e2,e.Perm (p :: e2) ∧ P i v p s H ∧ ∀ (k : Nat) (w : Value) (p' : Nat × SObj) (H' : Hp),k ∉ mk → (∀ j v' q,j ∈ mk → j ≠ i → P j v' q s H → P j v' q (xI s k w) H') → P i v p' (xI s k w) H' → lX P (xI s k w) H' mk (p' :: e2)
 | [],e,_,hi,_,_=>by cases hi
 | j :: is,e,hnd,hi,hs,⟨A,e2,h1,h2,h3⟩=>by
  obtain ⟨hj,hnd2⟩:=List.nodup_cons.1 hnd;by_cases e1 : j = i
  ·subst e1;unfold aGt at h2;rw [hs] at h2;obtain ⟨p,rfl,hp⟩:=h2;refine ⟨p,e2,by simpa using h1,hp,fun k w p' H' hk hf hp'=>⟨[p'],e2,mO _,?_,?_⟩⟩
   ·have hjk : ¬ j = k:=fun h=>hk (by simp [h]);unfold aGt;rw [show xI s k w j = some v from by rw [← hs];exact dG hjk];exact ⟨p',rfl,hp'⟩
   exact h3.frame (fun x hx=>by show (if x = k then some w else s x) = s x;rw [dG (fun h : x = k=>hk (by rw [← h];simp [hx]))]) fun x v' q hx=>hf x v' q (by simp [hx]) (fun h=>hj (h ▸ hx))
  have hi2 : i ∈ is:=by rcases List.mem_cons.1 hi with h | h;exact absurd h.symm e1;exact h
  obtain ⟨p,e3,h4,h5,h6⟩:=lX.get hnd2 hi2 hs h3;refine ⟨p,A ++ e3,h1.trans ((h4.append_left A).trans List.perm_middle),h5,fun k w p' H' hk hf hp'=>⟨A,p' :: e3,List.perm_middle.symm,?_,?_⟩⟩
  ·exact aFc (by show (if j = k then some w else s j) = s j;rw [dG (fun h : j = k=>hk (by simp [h]))]) (fun v' q=>hf j v' q zP e1) h2
  exact h6 k w p' H' (fun h=>hk (by simp [h])) (fun x v' q hx=>hf x v' q (by simp [hx])) hp'
theorem lX.note {P : aA4} {s : Nat → Option Value} {H H' : Hp} {mk : List Nat} {e : Own} {k : Nat} {w : Value} (hk : k ∉ mk) (hf : ∀ j v' q,j ∈ mk → P j v' q s H → P j v' q (xI s k w) H') (h : lX P s H mk e) : lX P (xI s k w) H' mk e :=
 h.frame (fun x hx=>by show (if x = k then some w else s x) = s x;rw [dG (fun h : x = k=>hk (h ▸ hx))]) hf
theorem lX.cons_some {P : aA4} {s : Nat → Option Value} {H : Hp} {i : Nat} {is : List Nat} {e : Own} (hi : (s i).isSome = true) (h : lX P s H (i :: is) e) : ∃ p v e2,s i = some v ∧ P i v p s H ∧ e.Perm (p :: e2) ∧ lX P s H is e2:=by
 obtain ⟨A,e2,h1,h2,h3⟩:=h;obtain ⟨v,hv⟩:=Option.isSome_iff_exists.1 hi;unfold aGt at h2;rw [hv] at h2;obtain ⟨p,rfl,hp⟩:=h2;exact ⟨p,v,e2,hv,hp,by simpa using h1,h3⟩
end Go.XL

namespace Go.Proofs
open Go.XL
def sK (Q S : List Rat) (n : Nat) (l : List Kn) : List (List Rat):=(List.range n).map fun i=>(l.filter fun p=>p.1.1 == i).map (aAw Q S)
def sG (Q S : List Rat) (n : Nat) (l : List Kn) : List (List Rat):=(List.range n).map fun k=>(l.filter fun p=>p.1.2 == k).map (aAw Q S)
theorem wR (Q S : List Rat) (n : Nat) (l : List Kn) : (sK Q S n l).length = n:=by simp [sK]
theorem wZ (Q S : List Rat) (n : Nat) (l : List Kn) : (sG Q S n l).length = n:=by simp [sG]
theorem aGl {Q S : List Rat} {n i : Nat} {l : List Kn} (h : i < n) : (sK Q S n l)[i]? = some ((l.filter fun p=>p.1.1 == i).map (aAw Q S)):=by simp [sK,h]
theorem aGi {Q S : List Rat} {n k : Nat} {l : List Kn} (h : k < n) : (sG Q S n l)[k]? = some ((l.filter fun p=>p.1.2 == k).map (aAw Q S)):=by simp [sG,h]
theorem rowS_snoc {Q S : List Rat} {n : Nat} {l : List Kn} {x : Kn} {r : List Rat} (hx : x.1.1 < n) (hr : (sK Q S n l)[x.1.1]? = some r) : sK Q S n (l ++ [x]) = (sK Q S n l).set x.1.1 (r ++ [aAw Q S x]):=by
 rw [aGl hx] at hr;obtain rfl:=eE hr;apply iC;intro j;by_cases hj : j < n
 ·rw [aGl hj,iR,aGl hj,wR,List.filter_append,List.map_append];by_cases e : x.1.1 = j
  ·subst e;rw [eX rfl,eX hj];simp
  rw [dG e];simp [e]
 rw [dJ (by rw [wR];omega),dJ (by rw [gQ,wR];omega)]
theorem colS_snoc {Q S : List Rat} {n : Nat} {l : List Kn} {x : Kn} {r : List Rat} (hx : x.1.2 < n) (hr : (sG Q S n l)[x.1.2]? = some r) : sG Q S n (l ++ [x]) = (sG Q S n l).set x.1.2 (r ++ [aAw Q S x]):=by
 rw [aGi hx] at hr;obtain rfl:=eE hr;apply iC;intro j;by_cases hj : j < n
 ·rw [aGi hj,iR,aGi hj,wZ,List.filter_append,List.map_append];by_cases e : x.1.2 = j
  ·subst e;rw [eX rfl,eX hj];simp
  rw [dG e];simp [e]
 rw [dJ (by rw [wZ];omega),dJ (by rw [gQ,wZ];omega)]
theorem rowS_nil (Q S : List Rat) (n : Nat) : sK Q S n [] = List.replicate n []:=by
 apply iC;intro j;by_cases hj : j < n
 ·rw [aGl hj];simp [hj]
 rw [dJ (by rw [wR];omega),dJ (by rw [gR];omega)]
theorem colS_nil (Q S : List Rat) (n : Nat) : sG Q S n [] = List.replicate n []:=by
 apply iC;intro j;by_cases hj : j < n
 ·rw [aGi hj];simp [hj]
 rw [dJ (by rw [wZ];omega),dJ (by rw [gR];omega)]
def aGv (m : Mk) (Q S : List Rat) : List (List Rat):=sK Q S m.length (jW m) ++ sG Q S (fO m) (jW m) ++ [S]
def aXp (m : Mk) (Q S : List Rat) : Prop:=∀ l ∈ aGv m Q S,mP l = 0
def aA8 (n : Nat) : List nP:=List.replicate n ⟨(0,.nothing),none,0,[]⟩
theorem aMt (n : Nat) : (aA8 n).map RowO.p = List.replicate n (0,.nothing):=by simp [aA8]
theorem nilRows_raw (n : Nat) : (aA8 n).map RowO.raw = List.replicate n (none,0,0):=by simp [aA8,RowO.raw]
theorem aM1 (n : Nat) : (aA8 n).map RowO.l = List.replicate n []:=by simp [aA8]
theorem aJv (n : Nat) (H : Hp) : wX H (aA8 n):=fun r hr=>by rw [(List.mem_replicate.1 hr).2];exact Acc.nil _ _ _ _
section
variable {C : Ctx} {Q : Exit → St → Prop} {env : gY} {df : List Deferred} {H : Hp} {own : XL.Own}
theorem aJf {c : Code} : ∀ (n : Nat),XC C c Q ⟨env,df,H,List.replicate n (0,.nothing) ++ own⟩ → XC C c Q ⟨env,df,H,own⟩
 | 0,h=>h
 | n + 1,h=>aJf n (lR 0 h)
end
theorem aK6 {hs L L' : XL.Own} {x : Nat × SObj} (h : L.Perm (x :: L')) : (hs ++ L).Perm (x :: (hs ++ L')):=(h.append_left hs).trans List.perm_middle
theorem aHz {hs L L' : XL.Own} {x : Nat × SObj} (h : (x :: L').Perm L) : (x :: (hs ++ L')).Perm (hs ++ L):=(aK6 h.symm).symm
theorem permC {hs X Y R : XL.Own} {p q : Nat × SObj} : (hs ++ (p :: q :: (X ++ (Y ++ R)))).Perm (p :: (X ++ (q :: (Y ++ (hs ++ R))))):=by
 have h1 : (hs ++ ([p,q] ++ (X ++ (Y ++ R)))).Perm ([p,q] ++ (hs ++ (X ++ (Y ++ R)))):=List.perm_append_comm_assoc _ _ _;refine h1.trans (List.Perm.cons p ?_);have h2 : (([q] ++ hs) ++ (X ++ (Y ++ R))).Perm (X ++ (([q] ++ hs) ++ (Y ++ R))):=List.perm_append_comm_assoc _ _ _;have e : [q].append (hs ++ (X ++ (Y ++ R))) = ([q] ++ hs) ++ (X ++ (Y ++ R)):=by simp
 show (q :: (hs ++ (X ++ (Y ++ R)))).Perm _;refine List.Perm.trans (l₂:=X ++ (([q] ++ hs) ++ (Y ++ R))) (by simpa using h2) (List.Perm.append_left X ?_);show (q :: (hs ++ (Y ++ R))).Perm (q :: (Y ++ (hs ++ R)));exact List.Perm.cons q (List.perm_append_comm_assoc _ _ _)
def rE (n6 n7 : Nat) : aA4:=fun i v p s H =>
 if i = 2 then ∃ c,v = .slice (some ⟨p.1,0,none⟩) n6 c ∧ XL.Acc XL.rawR 24 H p (some ⟨p.1,0,none⟩) c (List.replicate n6 (none,0,0))
 else if i = 6 then ∃ c,v = .slice (some ⟨p.1,0,none⟩) n7 c ∧ XL.Acc XL.rawR 24 H p (some ⟨p.1,0,none⟩) c (List.replicate n7 (none,0,0))
 else if i = 7 then v = .pointer (some ⟨p.1,0,none⟩) ∧ ∃ w,p.2 = .cells 49 [w] ∧ (s 9 = none → w = .slice none 0 0) ∧ (s 9 ≠ none → s 2 = some w)
 else v = .pointer (some ⟨p.1,0,none⟩) ∧ p.2 = .cells 49 [.slice none 0 0]
theorem rE.two {n6 n7 : Nat} {v : Value} {p : Nat × SObj} {s : Nat → Option Value} {H : Hp} : rE n6 n7 2 v p s H ↔ ∃ c,v = .slice (some ⟨p.1,0,none⟩) n6 c ∧ XL.Acc XL.rawR 24 H p (some ⟨p.1,0,none⟩) c (List.replicate n6 (none,0,0)):=Iff.rfl
theorem rE.six {n6 n7 : Nat} {v : Value} {p : Nat × SObj} {s : Nat → Option Value} {H : Hp} : rE n6 n7 6 v p s H ↔ ∃ c,v = .slice (some ⟨p.1,0,none⟩) n7 c ∧ XL.Acc XL.rawR 24 H p (some ⟨p.1,0,none⟩) c (List.replicate n7 (none,0,0)):=Iff.rfl
theorem rE.seven {n6 n7 : Nat} {v : Value} {p : Nat × SObj} {s : Nat → Option Value} {H : Hp} : rE n6 n7 7 v p s H ↔ v = .pointer (some ⟨p.1,0,none⟩) ∧ ∃ w,p.2 = .cells 49 [w] ∧ (s 9 = none → w = .slice none 0 0) ∧ (s 9 ≠ none → s 2 = some w):=Iff.rfl
theorem rE.eight {n6 n7 : Nat} {v : Value} {p : Nat × SObj} {s : Nat → Option Value} {H : Hp} : rE n6 n7 8 v p s H ↔ v = .pointer (some ⟨p.1,0,none⟩) ∧ p.2 = .cells 49 [.slice none 0 0]:=Iff.rfl
theorem mem_mk {j : Nat} (h : j ∈ [2,6,7,8]) : j = 2 ∨ j = 6 ∨ j = 7 ∨ j = 8:=by simpa using h
theorem rE.frame {n6 n7 : Nat} {i : Nat} {v : Value} {p : Nat × SObj} {s s' : Nat → Option Value} {H H' : Hp} (hi : i ∈ [2,6,7,8]) (hle : Le H H') (h9 : i = 7 → s' 9 = s 9 ∧ (s 9 ≠ none → s' 2 = s 2)) (h : rE n6 n7 i v p s H) : rE n6 n7 i v p s' H':=by
 rcases mem_mk hi with rfl | rfl | rfl | rfl
 ·obtain ⟨c,h1,h2⟩:=rE.two.1 h;exact rE.two.2 ⟨c,h1,h2.mono hle⟩
 ·obtain ⟨c,h1,h2⟩:=rE.six.1 h;exact rE.six.2 ⟨c,h1,h2.mono hle⟩
 ·obtain ⟨a,w,b,c,d⟩:=rE.seven.1 h;obtain ⟨e1,e2⟩:=h9 rfl;exact rE.seven.2 ⟨a,w,b,fun h=>c (e1 ▸ h),fun h=>by have h' : s 9 ≠ none:=e1 ▸ h;rw [e2 h'];exact d h'⟩
 exact rE.eight.2 (rE.eight.1 h)
theorem aW7.mono {n6 n7 : Nat} : ∀ (s : Nat → Option Value) (e : XL.Own) (H H' : Hp),Le H H' → lX (rE n6 n7) s H [2,6,7,8] e → lX (rE n6 n7) s H' [2,6,7,8] e :=
 fun s e H H' hle h=>h.frame (fun _ _=>rfl) fun j v q hj hq=>hq.frame hj hle fun _=>⟨rfl,fun _=>rfl⟩
abbrev aW7 (n6 n7 : Nat) (s : Nat → Option Value) (e : XL.Own) (H : Hp) : Prop:=lX (rE n6 n7) s H [2,6,7,8] e
theorem permChk {e e2 e3 e4 rest : XL.Own} {p2 p6 p7 p8 x y : Nat × SObj} (h1 : e.Perm (p2 :: e2)) (h2 : e2.Perm (p6 :: e3)) (h3 : e3.Perm (p7 :: e4)) (h4 : e4.Perm [p8]) : (e ++ (x :: y :: rest)).Perm (p7 :: p8 :: x :: y :: p2 :: p6 :: rest):=by
 have h5 : e.Perm [p2,p6,p7,p8]:=h1.trans (List.Perm.cons _ (h2.trans (List.Perm.cons _ (h3.trans (List.Perm.cons _ h4)))));refine (h5.append_right _).trans ?_;have h6 : ([p2,p6] ++ ([p7,p8,x,y] ++ rest)).Perm ([p7,p8,x,y] ++ ([p2,p6] ++ rest)):=List.perm_append_comm_assoc _ _ _;exact h6
def aLm (L : List (List Rat)) (S : List Rat) : aA4:=fun i v p s H =>
 (s 7 = none → ∃ a c,v = .slice a L.length c ∧ XL.Acc mxR 24 H p a c L) ∧ (∀ w,s 7 = some w → ∃ a c,w = .slice a (L ++ [S]).length c ∧ XL.Acc mxR 24 H p a c (L ++ [S]))
theorem aLm.mono {L : List (List Rat)} {S : List Rat} : ∀ i v p s H H',Le H H' → aLm L S i v p s H → aLm L S i v p s H':=by
 intro i v p s H H' hle ⟨h1,h2⟩;exact ⟨fun h=>let ⟨a,c,h3,h4⟩:=h1 h;⟨a,c,h3,h4.mono hle⟩,fun w h=>let ⟨a,c,h3,h4⟩:=h2 w h;⟨a,c,h3,h4.mono hle⟩⟩
theorem aLm.mk {L : List (List Rat)} {S : List Rat} {i : Nat} {v : Value} {p : Nat × SObj} {s : Nat → Option Value} {H : Hp} (h1 : s 7 = none → ∃ a c,v = .slice a L.length c ∧ XL.Acc mxR 24 H p a c L) (h2 : ∀ w,s 7 = some w → ∃ a c,w = .slice a (L ++ [S]).length c ∧ XL.Acc mxR 24 H p a c (L ++ [S])) : aLm L S i v p s H:=⟨h1,h2⟩
theorem CatO.mono {L : List (List Rat)} {S : List Rat} : ∀ (s : Nat → Option Value) (e : XL.Own) (H H' : Hp),Le H H' → lX (aLm L S) s H [3] e → lX (aLm L S) s H' [3] e :=
 fun s e H H' hle h=>h.mono aLm.mono hle
theorem permOpen {X Y rest : XL.Own} {a b c d p q : Nat × SObj} : (X ++ (Y ++ (a :: b :: c :: d :: p :: q :: rest))).Perm (a :: b :: c :: d :: p :: q :: (X ++ (Y ++ rest))):=by
 have h1 : (Y ++ ([a,b,c,d,p,q] ++ rest)).Perm ([a,b,c,d,p,q] ++ (Y ++ rest)):=List.perm_append_comm_assoc _ _ _;have h2 : (X ++ ([a,b,c,d,p,q] ++ (Y ++ rest))).Perm ([a,b,c,d,p,q] ++ (X ++ (Y ++ rest))):=List.perm_append_comm_assoc _ _ _;exact (h1.append_left X).trans h2
theorem aOz {m : Mk} (hok : oF m) {pre post : List Kn} {x : Kn} (h : jW m = pre ++ x :: post) : pre.length ≤ 96:=by
 have h1:=wU hok;have h2:=hok.1;rw [h,fQ] at h1;omega
theorem aOu {m : Mk} (hok : oF m) {Q S : List Rat} (hr : ResSz m Q S) {l : List Rat} (h : l ∈ aGv m Q S) : l.length ≤ 96:=by
 have h1:=wU hok;have h2:=hok.1;have h3:=hok.2.1;have h4:=hr.lenS;have key : ∀ f : Kn → Bool,(((jW m).filter f).map (aAw Q S)).length ≤ 96:=fun f=>by rw [fB];have:=List.length_filter_le f (jW m);omega
 unfold aGv sK sG at h;rcases gM.1 h with h | h
 ·rcases gM.1 h with h | h
  ·obtain ⟨i,_,rfl⟩:=gS.1 h;exact key _
  obtain ⟨i,_,rfl⟩:=gS.1 h;exact key _
 simp at h;subst h;omega
theorem chk_yes {m : Mk} {Q S : List Rat} {k : Nat} {l : List Rat} {ok : Bool} (hok : ok = true ↔ ∀ x ∈ (aGv m Q S).take k,mP x = 0) (hl : (aGv m Q S)[k]? = some l) (h0 : mP l = 0) : ok = true ↔ ∀ x ∈ (aGv m Q S).take (k + 1),mP x = 0:=by
 rw [jK hl,hok];constructor
 ·intro h1 x hx;rcases gM.1 hx with h | h
  ·exact h1 x h
  simp at h;subst h;exact h0
 exact fun h x hx=>h x (jF _ hx)
theorem chk_no {m : Mk} {Q S : List Rat} {k : Nat} {l : List Rat} (hl : (aGv m Q S)[k]? = some l) (h0 : mP l ≠ 0) : false = true ↔ ∀ x ∈ (aGv m Q S).take (k + 1),mP x = 0 :=
 ⟨fun h=>(by cases h),fun h=>absurd (h l (by rw [jK hl];simp)) h0⟩
end Go.Proofs

namespace Go.Proofs
open Go.XL
theorem concM_own1 (a : Option Addr) (c : Nat) (l : List (List (List Rat))) (H : Hp) (hs : SlR (slR mxR) H a c l) (hl : l.length ≤ 1000) (hn : l.flatten.length ≤ 1073741824) (h0 : 0 < l.flatten.length) : iP Tryz.prog 45 #[.slice a l.length c] H [] (eQ (fun v H2 own=>∃ p a2 c2,own = [p] ∧ v = .slice a2 l.flatten.length c2 ∧ XL.Acc mxR 24 H2 p a2 c2 l.flatten)):=by
 refine iP.intro (args:=[.slice a l.length c]) Tryz.func45 rfl rfl Tryz.ntmps45 rfl rfl rfl fun G rest=>?_;refine zS ?_;refine zG rfl ?_;refine zN ?_;refine zS ?_;refine zG rfl ?_;refine zN ?_;refine cO ?_;refine zS ?_;refine zM rfl ?_;refine eD (ts:=#[]) rfl mI rfl ?_;refine zM rfl ?_;refine zN ?_;refine dK ?_;refine eU [3,11,0,9,10] rfl ?_;refine gO (base:=[(0,_),(9,_),(10,_)]) (fun ζ : Nat=>[(3,.int .i64 (((l.take (ζ)).flatten.length : Nat) : Int)),(11,.int .i64 (ζ : Nat))]) (fun ζ Hl own=>ζ ≤ l.length ∧ rest = own) (fun ζ=>l.length - ζ) 0 (zC) zB ⟨eS _,rfl⟩ ?_;rintro k Hl0 _ gB ⟨hkk,rfl⟩;replace hs:=hs.mono gB;try dsimp only at ⊢
 refine zS (zL rfl (zN (cO (fC rfl (fun nY=>?_) (fun nY=>?_)))))
 ·refine eF (bO (cO (dK (zS (eV rfl hs rfl mI oH zO rfl ?_)))));rintro eb13 eo13 _ x13 hx13 ⟨ax13,cx13,rfl,hd13⟩ hp13;refine eH rfl (by assumption) oH rfl rfl rfl (zG rfl (zN (zS ?_)));have hfl:=yW hx13;refine zM rfl (zM rfl (eD (ts:=#[]) rfl eI rfl (fR rfl rfl (dT zO zO) rfl (zG rfl (zN (zS (zM rfl (zL rfl (zN (gD rfl (aI zO) (eF (fY (bO (dL (fR rfl rfl (dT zO zO) rfl (zM rfl (bF (eW (k + 1) (by show l.length - (k + 1) < l.length - k;omega) (iL (pK rfl (by rw [oW hx13,fQ];omega)) (zC)) (⟨by show k + 1 ≤ l.length;omega,rfl⟩) zB (gB)))))))))))))))))))
 obtain rfl : k = l.length:=zO
 refine gI (fE (eY (fU rfl (bO (zS (zM rfl (XO.callG rfl (growM_fn _ (by rw [gF];exact hn) (by rw [gF];exact h0) _) rfl rfl ?_)))))));rintro _ HG _ sB ⟨pg,ag,cg,rfl,rfl,haccg⟩;simp only [fP,gN];replace hs:=hs.mono sB;refine zG rfl (zN (cO (zS (zM rfl (eD (ts:=#[]) rfl mI rfl (zM rfl (zN (dK (eU [6,27,25,26] rfl (gO (base:=[(25,_),(26,_)]) (fun ζ : Nat × ((Nat × SObj) × Option Addr × Nat)=>[(6,.slice ζ.2.2.1 ((l.take (ζ.1)).flatten).length ζ.2.2.2),(27,.int .i64 (ζ.1 : Nat))]) (fun ζ Hl own=>ζ.1 ≤ l.length ∧ ζ.2.1 :: rest = own ∧ Acc mxR 24 Hl ζ.2.1 ζ.2.2.1 ζ.2.2.2 ((l.take (ζ.1)).flatten)) (fun ζ=>l.length - ζ.1) (0,(pg,ag,cg)) (zC) zB ⟨eS _,rfl,haccg⟩ ?_))))))))));rintro ⟨j,⟨pw,aw,cw⟩⟩ Hl1 _ iT ⟨hkj,rfl,haccw⟩;replace hs:=hs.mono iT;try dsimp only at hkj haccw ⊢
 refine zS (zL rfl (zN (cO (fC rfl (fun c2_3=>?_) (fun c2_3=>?_)))))
 ·refine eF (bO (cO (dK (zS (eV rfl hs rfl mI oH zO rfl ?_)))));rintro eb29 eo29 _ x29 aFz ⟨ax29,cx29,rfl,hd29⟩ hp29;refine eH rfl (by assumption) oH rfl rfl rfl (zG rfl (zN (dL (zM rfl (zM rfl (iV 0 rfl rfl haccw rfl rfl (by assumption) rfl eI iG tA rfl aE1 (by have:=yW aFz;omega) rfl (fun p33 a33 c33 hacc33=>zG rfl (bF (fY (bO (dL (fR rfl rfl (dT zO zO) rfl (zM rfl (bF (eW ((j + 1,(p33,a33,c33))) (by show l.length - (j + 1) < l.length - j;omega) (iL (by first | rfl | (rw [oW aFz];rfl)) (zC)) (⟨by show j + 1 ≤ l.length;omega,rfl,by first | (exact hacc33) | (rw [oW aFz];exact hacc33)⟩) zB (iT))))))))))))))))
 obtain rfl : j = l.length:=zO
 rw [gF] at haccw ⊢;refine gI (fE (eY (fU rfl (bO (zS (zM rfl (zG rfl (zN (eP ?_)))))))));refine ⟨rfl,_,[_],rfl,zA,eQ.mk ?_⟩;exact ⟨_,_,_,rfl,rfl,haccw⟩
theorem concM_own0 (a : Option Addr) (c : Nat) (l : List (List (List Rat))) (H : Hp) (hs : SlR (slR mxR) H a c l) (hl : l.length ≤ 1000) (h0 : l.flatten.length = 0) : iP Tryz.prog 45 #[.slice a l.length c] H [] (eQ (fun v H2 own=>∃ p a2 c2,own = [p] ∧ v = .slice a2 l.flatten.length c2 ∧ XL.Acc mxR 24 H2 p a2 c2 l.flatten)):=by
 refine iP.intro (args:=[.slice a l.length c]) Tryz.func45 rfl rfl Tryz.ntmps45 rfl rfl rfl fun G rest=>?_;refine zS ?_;refine zG rfl ?_;refine zN ?_;refine zS ?_;refine zG rfl ?_;refine zN ?_;refine cO ?_;refine zS ?_;refine zM rfl ?_;refine eD (ts:=#[]) rfl mI rfl ?_;refine zM rfl ?_;refine zN ?_;refine dK ?_;refine eU [3,11,0,9,10] rfl ?_;refine gO (base:=[(0,_),(9,_),(10,_)]) (fun ζ : Nat=>[(3,.int .i64 (((l.take (ζ)).flatten.length : Nat) : Int)),(11,.int .i64 (ζ : Nat))]) (fun ζ Hl own=>ζ ≤ l.length ∧ rest = own) (fun ζ=>l.length - ζ) 0 (zC) zB ⟨eS _,rfl⟩ ?_;rintro k Hl0 _ gB ⟨hkk,rfl⟩;replace hs:=hs.mono gB;try dsimp only at ⊢
 refine zS (zL rfl (zN (cO (fC rfl (fun nY=>?_) (fun nY=>?_)))))
 ·refine eF (bO (cO (dK (zS (eV rfl hs rfl mI oH zO rfl ?_)))));rintro eb13 eo13 _ x13 hx13 ⟨ax13,cx13,rfl,hd13⟩ hp13;refine eH rfl (by assumption) oH rfl rfl rfl (zG rfl (zN (zS ?_)));have hfl:=yW hx13;refine zM rfl (zM rfl (eD (ts:=#[]) rfl eI rfl (fR rfl rfl (dT zO zO) rfl (zG rfl (zN (zS (zM rfl (zL rfl (zN (gD rfl (aI zO) (eF (fY (bO (dL (fR rfl rfl (dT zO zO) rfl (zM rfl (bF (eW (k + 1) (by show l.length - (k + 1) < l.length - k;omega) (iL (pK rfl (by rw [oW hx13,fQ];omega)) (zC)) (⟨by show k + 1 ≤ l.length;omega,rfl⟩) zB (gB)))))))))))))))))))
 obtain rfl : k = l.length:=zO
 refine gI (fE (eY (fU rfl (bO (zS (zM rfl ?_))))));rw [show (((l.take l.length).flatten.length : Nat) : Int) = 0 by rw [gF];omega];refine fH rfl (growM_nil _) rfl (zG rfl (zN (cO (zS (zM rfl (eD (ts:=#[]) rfl mI rfl (zM rfl (zN (dK (eU [6,27,25,26] rfl (lR 0 (gO (base:=[(25,_),(26,_)]) (fun ζ : Nat × ((Nat × SObj) × Option Addr × Nat)=>[(6,.slice ζ.2.2.1 ((l.take (ζ.1)).flatten).length ζ.2.2.2),(27,.int .i64 (ζ.1 : Nat))]) (fun ζ Hl own=>ζ.1 ≤ l.length ∧ ζ.2.1 :: rest = own ∧ Acc mxR 24 Hl ζ.2.1 ζ.2.2.1 ζ.2.2.2 ((l.take (ζ.1)).flatten)) (fun ζ=>l.length - ζ.1) (0,((0,.nothing),none,0)) (zC) zB ⟨eS _,rfl,Acc.nil _ _ _ _⟩ ?_))))))))))));rintro ⟨j,⟨pw,aw,cw⟩⟩ Hl1 _ iT ⟨hkj,rfl,haccw⟩;replace hs:=hs.mono iT;try dsimp only at hkj haccw ⊢
 refine zS (zL rfl (zN (cO (fC rfl (fun c2_3=>?_) (fun c2_3=>?_)))))
 ·refine eF (bO (cO (dK (zS (eV rfl hs rfl mI oH zO rfl ?_)))));rintro eb29 eo29 _ x29 aFz ⟨ax29,cx29,rfl,hd29⟩ hp29;refine eH rfl (by assumption) oH rfl rfl rfl (zG rfl (zN (dL (zM rfl (zM rfl (iV 0 rfl rfl haccw rfl rfl (by assumption) rfl eI iG tA rfl aE1 (by have:=yW aFz;omega) rfl (fun p33 a33 c33 hacc33=>zG rfl (bF (fY (bO (dL (fR rfl rfl (dT zO zO) rfl (zM rfl (bF (eW ((j + 1,(p33,a33,c33))) (by show l.length - (j + 1) < l.length - j;omega) (iL (by first | rfl | (rw [oW aFz];rfl)) (zC)) (⟨by show j + 1 ≤ l.length;omega,rfl,by first | (exact hacc33) | (rw [oW aFz];exact hacc33)⟩) zB (iT))))))))))))))))
 obtain rfl : j = l.length:=zO
 rw [gF] at haccw ⊢;refine gI (fE (eY (fU rfl (bO (zS (zM rfl (zG rfl (zN (eP ?_)))))))));refine ⟨rfl,_,[_],rfl,zA,eQ.mk ?_⟩;exact ⟨_,_,_,rfl,rfl,haccw⟩
theorem concM_own (a : Option Addr) (c : Nat) (l : List (List (List Rat))) (H : Hp) (hs : SlR (slR mxR) H a c l) (hl : l.length ≤ 1000) (hn : l.flatten.length ≤ 1073741824) :
  iP Tryz.prog 45 #[.slice a l.length c] H [] (eQ (fun v H2 own=>∃ p a2 c2,own = [p] ∧ v = .slice a2 l.flatten.length c2 ∧ XL.Acc mxR 24 H2 p a2 c2 l.flatten)):=by
 rcases Nat.eq_zero_or_pos l.flatten.length with h | h
 ·exact concM_own0 a c l H hs hl h
 exact concM_own1 a c l H hs hl hn h
end Go.Proofs

namespace Go.Proofs
open Go.XL
theorem ft_54_1 : aOi Tryz.prog 54 1 = some (1,30):=zK
theorem ft_56_0 : aOi Tryz.prog 56 0 = some (0,54):=zK
theorem aRx : nB Tryz.prog 49 = some [.slice none 0 0]:=zK
set_option maxRecDepth 100000 in
set_option maxHeartbeats 1600000 in
theorem aHe (m : Mk) (am : Option Addr) (cm : Nat) (Q S : List Rat) (a b : Option Addr) (c d : Nat) (H : Hp) (hm : SlR mkR H am cm m) (hs : SlR jX H a c Q) (ht : SlR jX H b d S) (hok : oF m) (hr : ResSz m Q S) (hzl : ∀ l ∈ aGv m Q S,pW l 499) : iP Tryz.prog 14 #[.slice am m.length cm,.agg ⟨[.slice a Q.length c,.slice b S.length d]⟩] H [] (eQ (fun v H2 own=>own = [] ∧ ∃ ok : Bool,v = .tuple #[.bool ok,.int .i64 0] ∧ (ok = true ↔ aXp m Q S))):=by
 refine iP.introD (args:=[.slice am m.length cm,.agg ⟨[.slice a Q.length c,.slice b S.length d]⟩]) Tryz.func14 rfl rfl Tryz.ntmps14 rfl rfl rfl fun G rest=>?_;have hl:=hok.1;have hwd:=hok.2.1;have hlS:=hr.lenS;refine zS ?_;refine iW rfl rfl rfl (fun b3=>?_);refine zG rfl ?_;refine fI sJ rfl (fun b5=>?_);refine zN ?_;refine zS ?_;refine mL (L:=[_,_]) rfl rfl rfl rfl rfl (fun msD rest hrest=>?_);simp only [fP,gN];refine zN ?_;refine zS ?_;refine zM rfl ?_;refine fH rfl (aJj _ _ m _ hm hok) rfl ?_;refine zN ?_;refine zS ?_;refine zM rfl ?_;refine bT 1 rfl rfl oR rfl rfl rfl ?_;refine fH rfl (aQo m _ _ Q S _ _ _ _ _ hm hs ht hok hr) rfl ?_;refine zN ?_;refine cO ?_;refine eU [0,3,5] rfl ?_;apply aF4 (q:=[]) (own:=(b5,.cells 27 [.int .i64 0]) :: (b3,.cells 26 [.slice a Q.length c,.slice b S.length d]) :: rest) (fun _=>True) trivial [2,6,7,8,9] (fun s e H=>aW7 m.length S.length s e H) (aW7.mono) 10 [gC _,gC _,fun v H=>∃ g c,v = .slice (some ⟨g,0,none⟩) m.length c,gC _,gC _,gC _,fun v H=>∃ g c,v = .slice (some ⟨g,0,none⟩) S.length c,fun v H=>∃ b,v = .pointer (some ⟨b,0,none⟩),fun v H=>∃ b,v = .pointer (some ⟨b,0,none⟩),vA] follows zK ⟨aH _,aH _,fun _ _ _ _ h=>h,aH _,aH _,aH _,fun _ _ _ _ h=>h,fun _ _ _ _ h=>h,fun _ _ _ _ h=>h,lN,trivial⟩ zD (lX.nil) ?steps3 ?tail3
 case steps3 =>
  refine iJ rfl ?_ ?_
  ·intro X e HD bI _;refine aO rfl ?_;intro s hfo hsn hw hb hkn;exact zM rfl (bF (iA (e:=e) trivial rfl rfl (nA rfl)))
  refine iJ rfl ?_ ?_
  ·intro X e HD bI _;refine fX rfl (aO rfl ?_);intro s hfo hsn hw hb hkn;exact eD (ts:=#[]) rfl cH rfl (bF (iA (e:=e) trivial rfl rfl (nA rfl)))
  refine iJ rfl ?_ ?_
  ·intro X e HD bI _;refine fX rfl (fX rfl (aO rfl ?_));intro s hfo hsn hw hb hkn;exact sT (ρ:=XL.rawR) (n:=m.length) (none,0,0) rfl rfl eI iG tA rfl aE1 zO rfl rfl (fun p20 c20 hacc20=>bF (iA (e:=p20 :: e) trivial (⟨_,_,rfl⟩) rfl (rU rfl (by exact lX.make zD zD hsn (fun j v2 q hj hji hq=>rE.frame (s:=s) hj (Le.refl _) (fun _=>⟨rfl,(fun h=>absurd (hw 9 rfl zK) h)⟩) hq) (rE.two.2 ⟨_,rfl,hacc20⟩) hfo))))
  refine iJ rfl ?_ ?_
  ·intro X e HD bI _;refine aO rfl ?_;intro s hfo hsn hw hb hkn;exact bJ rfl nU rfl (bF (iA (e:=e) trivial rfl rfl (nA rfl)))
  refine iJ rfl ?_ ?_
  ·intro X e HD bI _;refine fX rfl (aO rfl ?_);intro s hfo hsn hw hb hkn;exact jM List.perm_append_comm (bT 1 rfl rfl iG rfl rfl rfl (jM List.perm_append_comm (bF (iA (e:=e) trivial rfl rfl (nA rfl)))))
  refine iJ rfl ?_ ?_
  ·intro X e HD bI _;refine fX rfl (aO rfl ?_);intro s hfo hsn hw hb hkn;exact eD (ts:=#[]) rfl cJ rfl (bF (iA (e:=e) trivial rfl rfl (nA rfl)))
  refine iJ rfl ?_ ?_
  ·intro X e HD bI _;refine fX rfl (fX rfl (aO rfl ?_));intro s hfo hsn hw hb hkn;exact sT (ρ:=XL.rawR) (n:=S.length) (none,0,0) rfl rfl eI iG tA rfl aE1 zO rfl rfl (fun p24 c24 hacc24=>bF (iA (e:=p24 :: e) trivial (⟨_,_,rfl⟩) rfl (rU rfl (by exact lX.make zD zD hsn (fun j v2 q hj hji hq=>rE.frame (s:=s) hj (Le.refl _) (fun _=>⟨rfl,fun _=>rfl⟩) hq) (rE.six.2 ⟨_,rfl,hacc24⟩) hfo))))
  refine iJ rfl ?_ ?_
  ·intro X e HD bI _;refine aO rfl ?_;intro s hfo hsn hw hb hkn;exact fI aRx rfl (fun b6=>bF (iA (e:=(b6,.cells 49 [.slice none 0 0]) :: e) trivial (⟨_,rfl⟩) rfl (rU rfl (by exact lX.make zD zD hsn (fun j v2 q hj hji hq=>rE.frame (s:=s) hj (Le.refl _) (fun _=>⟨rfl,fun _=>rfl⟩) hq) (rE.seven.2 ⟨rfl,_,rfl,fun _=>rfl,(fun h=>absurd (hw 9 rfl zK) h)⟩) hfo))))
  refine iJ rfl ?_ ?_
  ·intro X e HD bI _;refine aO rfl ?_;intro s hfo hsn hw hb hkn;exact fI aRx rfl (fun b7=>bF (iA (e:=(b7,.cells 49 [.slice none 0 0]) :: e) trivial (⟨_,rfl⟩) rfl (rU rfl (by exact lX.make zD zD hsn (fun j v2 q hj hji hq=>rE.frame (s:=s) hj (Le.refl _) (fun _=>⟨rfl,fun _=>rfl⟩) hq) (rE.eight.2 ⟨rfl,rfl⟩) hfo))))
  refine iJ rfl ?_ ?_
  ·intro X e HD bI _;refine eR rfl rfl ?_;rintro _ ⟨b6,rfl⟩;refine eR rfl rfl ?_;rintro _ ⟨g20,c20,rfl⟩;refine aO rfl ?_;intro s hfo hsn hw hb hkn;have h7:=hkn 7 6 _ rfl rfl rfl;have h2:=hkn 2 20 _ rfl rfl rfl;obtain ⟨⟨b7g,z7⟩,e2,hpe,h7P,hput⟩:=lX.get zD zD h7 hfo;obtain ⟨hv7,w,hz,hw0,_⟩:=rE.seven.1 h7P;simp only at hz hv7;subst hz;obtain rfl:=hw0 hsn;obtain rfl : b6 = b7g:=by cases hv7;rfl
   exact jM (hpe.append_right _) (eG 0 rfl rfl rfl rfl oH rfl rfl rfl rfl rfl (bF (iA (e:=(b6,.cells 49 [.slice (some ⟨g20,0,none⟩) m.length c20]) :: e2) trivial (trivial) rfl (rU rfl (by exact hput 9 _ _ _ zD (fun j v2 q hj hji hq=>rE.frame (s:=s) hj (Le.refl _) (fun h7=>absurd h7 hji) hq) (rE.seven.2 ⟨rfl,_,rfl,fun h=>(by cases h),fun _=>h2⟩))))))
  exact aBf rfl
 case tail3 =>
  intro HD bI _;replace hm:=hm.mono bI;replace hs:=hs.mono bI;replace ht:=ht.mono bI;refine fX rfl (fX rfl (eR rfl rfl ?_));rintro _ ⟨g20,c20,rfl⟩;refine fX rfl (fX rfl (fX rfl (eR rfl rfl ?_)));rintro _ ⟨g24,c24,rfl⟩;refine eR rfl rfl ?_;rintro _ ⟨b6,rfl⟩;refine eR rfl rfl ?_;rintro _ ⟨b7,rfl⟩;refine pY rfl rfl (aO rfl ?_);intro e s hfo hall hkn;obtain ⟨⟨g2,z2⟩,v2,e2,hs2,hP2,hq2,hfo⟩:=lX.cons_some (hall 2 rfl) hfo;obtain ⟨⟨g6,z6⟩,v6,e3,hs6,hP6,hq6,hfo⟩:=lX.cons_some (hall 6 rfl) hfo;obtain ⟨⟨g7,z7⟩,v7,e4,hs7,hP7,hq7,hfo⟩:=lX.cons_some (hall 7 rfl) hfo;obtain ⟨⟨g8,z8⟩,v8,e5,hs8,hP8,hq8,hfo⟩:=lX.cons_some (hall 8 rfl) hfo;obtain rfl : e5 = []:=hfo;have k2:=hkn 2 20 _ rfl rfl rfl;have k6:=hkn 6 24 _ rfl rfl rfl;have k7:=hkn 7 6 _ rfl rfl rfl;have k8:=hkn 8 7 _ rfl rfl rfl;obtain ⟨cA,hvA,hA2⟩:=rE.two.1 hP2;obtain ⟨cB,hvB,hA6⟩:=rE.six.1 hP6;obtain ⟨hv7,w7,hz7,_,hw7⟩:=rE.seven.1 hP7;obtain ⟨hv8,hz8⟩:=rE.eight.1 hP8;have hw7:=hw7 (fun h=>by have:=hall 9 rfl;rw [h] at this;cases this);rw [hs2,hvA] at k2;rw [hs6,hvB] at k6;rw [hs7,hv7] at k7;rw [hs8,hv8] at k8;rw [hs2,hvA] at hw7;simp only at hz7 hz8 k2 k6 k7 k8 hw7 hA2 hA6;obtain ⟨rfl,rfl⟩ : g20 = g2 ∧ c20 = cA:=by cases k2;exact ⟨rfl,rfl⟩
  obtain ⟨rfl,rfl⟩ : g24 = g6 ∧ c24 = cB:=by cases k6;exact ⟨rfl,rfl⟩
  obtain rfl : b6 = g7:=by cases k7;rfl
  obtain rfl : b7 = g8:=by cases k8;rfl
  obtain rfl:=eE hw7;subst hz7;subst hz8;refine jM (permChk hq2 hq6 hq7 hq8) (eG 1 rfl rfl rfl rfl oH rfl rfl rfl rfl rfl (zN (cO (zS (zM rfl (eZ rfl (aGp _ _ _ 43 _) rfl ?_))))));rintro _ HK mE ⟨bK1,bK2,rfl,hK1,hK2⟩;replace hm:=hm.mono mE;replace hs:=hs.mono mE;replace ht:=ht.mono mE;replace hA2:=hA2.mono mE;replace hA6:=hA6.mono mE;refine zN (dK (eU [3,5,6,7,26] rfl (aJf S.length ?_)));rw [← aMt];refine aJf m.length ?_;rw [← aMt];rw [← nilRows_raw] at hA2 hA6;refine oT permOpen (qS (enc:=aTv) rfl (aEg _ _ m _ _ _ _ hm (by have:=hok.1;omega) hok.rows hK1 hK2 aIv rfl) (fun _=>rfl) rfl rfl (fun pre Hl own=>∃ (pe pj : Nat × SObj) (re rj : List nP),(b6,.cells 49 [.slice (some ⟨g20,0,none⟩) m.length c20]) :: (b7,.cells 49 [.slice (some ⟨g24,0,none⟩) S.length c24]) :: (b5,.cells 27 [.int .i64 0]) :: (b3,.cells 26 [.slice a Q.length c,.slice b S.length d]) :: pe :: pj :: (re.map RowO.p ++ (rj.map RowO.p ++ rest)) = own ∧ XL.Acc XL.rawR 24 Hl pe (some ⟨g20,0,none⟩) c20 (re.map RowO.raw) ∧ XL.Acc XL.rawR 24 Hl pj (some ⟨g24,0,none⟩) c24 (rj.map RowO.raw) ∧ wX Hl re ∧ wX Hl rj ∧ re.map RowO.l = sK Q S m.length pre ∧ rj.map RowO.l = sG Q S (fO m) pre) (fun _ _ _=>False) (⟨_,_,_,_,rfl,hA2,hA6,aJv _ _,aJv _ _,by rw [aM1,rowS_nil],by rw [aM1,colS_nil,hlS]⟩) (.inl rfl) ?_ ?_ ?_)
  ·rintro G lp hd1 hd2 hrec pre x post hxs Hl ownL jQ ⟨pe,pj,re,rj,rfl,hTe,hTj,hoe,hoj,hle,hlj⟩;have hxm : x ∈ jW m:=by rw [hxs];simp
   obtain ⟨q,sv,hq,hsv,hrx,hxb,zq1,zq2,zq3,zq4,hi1,hi2⟩:=hr.mark hok hxm;change XC _ _ _ ⟨wO [27,28] [.agg ⟨[.int .i64 (x.1.1 : Nat),.int .i64 (x.1.2 : Nat)]⟩,.int .i64 x.2] _,_,_,_⟩;have hpl:=aOz hok hxs;have hlene : ∀ l : List Rat,(sK Q S m.length pre)[x.1.1]? = some l → l.length ≤ 96:=fun l h=>by rw [aGl hi1] at h;cases h;rw [fB];exact eK (List.length_filter_le _ _) hpl
   have hlenj : ∀ l : List Rat,(sG Q S (fO m) pre)[x.1.2]? = some l → l.length ≤ 96:=fun l h=>by rw [aGi hi2] at h;cases h;rw [fB];exact eK (List.length_filter_le _ _) hpl
   replace hs:=hs.mono jQ;replace ht:=ht.mono jQ;refine zS (fI aIa rfl (fun b8=>eG 0 rfl rfl rfl rfl aF2 rfl rfl rfl rfl rfl (zN (dL (zG rfl (bF (tS (dK (zS (bT 4 rfl rfl oR rfl rfl rfl (bT 0 rfl rfl aF2 rfl rfl rfl (zM rfl (eZ rfl (aQw Q S _ _ _ _ x.1.1 x.1.2 x.2 q sv _ hs ht hq hsv hxb (by have:=hr.lenQ;have:=hok.1;omega) (by have:=hr.lenS;have:=hok.2.1;omega) zq1 zq2 zq3) rfl ?_)))))))))))));rintro _ HNR hleNR ⟨aR,cR,bR,dR,rfl,hR,kR⟩;replace hs:=hs.mono hleNR;replace hTe:=hTe.mono hleNR;replace hTj:=hTj.mono hleNR;replace hoe:=hoe.mono hleNR;replace hoj:=hoj.mono hleNR;refine fI jD rfl (fun b10=>eG 0 rfl rfl rfl rfl fG rfl rfl rfl rfl rfl (zN (cO ?_)));obtain ⟨⟨rp,ra,rc,rl⟩,hre,hRe⟩:=uJ hle (show x.1.1 < (sK Q S m.length pre).length by rw [wR];omega);have hrle : re.length = m.length:=by rw [aCy hle,wR]
   have hrawe : (re.map RowO.raw)[x.1.1]? = some (ra,rl.length,rc):=aBa hre;have hacce:=hoe _ (cF hre);simp only at hacce hRe;have hlne:=hlene _ hRe;obtain ⟨othE,hpE1,hpE2⟩:=aD7 hre (rj.map RowO.p ++ rest);refine oT (aK6 (hs:=[_,_,_,_,_,_,_,_]) hpE1) (eU [6,7,8,10] rfl ?_);apply aGd (fun _=>True) trivial 10 (fun z H=>XL.Acc jX 56 H z ra rc rl) (fun v z H=>∃ a c,v = .slice a (rl ++ [(((x.2 : Int) : Rat) - q - sv)]).length c ∧ XL.Acc jX 56 H z a c (rl ++ [(((x.2 : Int) : Rat) - q - sv)])) (fun _ _ _ hle h=>h.mono hle) (fun _ _ _ _ hle ⟨a,c,h1,h2⟩=>⟨a,c,h1,h2.mono hle⟩) 11 [gC _,gC _,gC _,gC _,gC _,gC _,gC _,gC _,gC _,slF jX [(((x.2 : Int) : Rat) - q - sv)],vA] follows zK ⟨aH _,aH _,aH _,aH _,aH _,aH _,aH _,aH _,aH _,oQ _ _,lN,trivial⟩ rfl rfl hacce ?steps7 ?tail7
   case steps7 =>
    refine iQ rfl ?_ ?_
    ·intro X e HD bI _ hfa;exact aO rfl (bT 3 rfl rfl oH rfl rfl rfl (bF (fF trivial rfl (by unfold foV;rw [dG zD]))))
    refine iQ rfl ?_ ?_
    ·intro X e HD bI _ hfa;exact aO rfl (lO rfl rfl lE gK zF zF rfl (bF (fF trivial rfl (by unfold foV;rw [dG zD]))))
    refine iQ rfl ?_ ?_
    ·intro X e HD bI _ hfa;exact fX rfl (aO rfl (bT 2 rfl rfl gK rfl rfl rfl (bF (fF trivial rfl (by unfold foV;rw [dG zD])))))
    refine iQ rfl ?_ ?_
    ·intro X e HD bI _ hfa;exact aO rfl (bT 3 rfl rfl oH rfl rfl rfl (bF (fF trivial rfl (by unfold foV;rw [dG zD]))))
    refine iQ rfl ?_ ?_
    ·intro X e HD bI _ hfa;exact aO rfl (lO rfl rfl lE gK zF zF rfl (bF (fF trivial rfl (by unfold foV;rw [dG zD]))))
    refine iQ rfl ?_ ?_
    ·intro X e HD bI _ hfa;exact fX rfl (aO rfl (bT 2 rfl rfl gK rfl rfl rfl (bF (fF trivial rfl (by unfold foV;rw [dG zD])))))
    refine iQ rfl ?_ ?_
    ·intro X e HD bI _ hfa;exact fX rfl (fX rfl (aO rfl (fK rfl rfl eI iG zO zO rfl (bF (fF trivial rfl (by unfold foV;rw [dG zD]))))))
    refine iQ rfl ?_ ?_
    ·intro X e HD bI _ hfa;replace hTe:=hTe.mono bI;exact fX rfl (aO rfl (uK 7 rfl rfl hTe (by rw [eN];exact hrawe) iG rfl (bF (fF trivial rfl (by unfold foV;rw [dG zD])))))
    refine iQ rfl ?_ ?_
    ·intro X e HD bI _ hfa;exact aO rfl (bT 1 rfl rfl fG rfl rfl rfl (bF (fF trivial rfl (by unfold foV;rw [dG zD]))))
    refine iQ rfl ?_ ?_
    ·intro X e HD bI _ hfa;replace hR:=hR.mono bI;replace kR:=kR.mono bI;refine fX rfl (aO rfl (fS rfl cJ fG jD rfl rfl rfl (fun b42=>fT 0 rfl rfl rfl (fun HP42 oP42 hleP42 hbP42 hoP42=>?_))));replace hR:=hR.mono hleP42;replace kR:=kR.mono hleP42;have hsl42:=SlR.lit (ρ:=jX) (l:=[(((x.2 : Int) : Rat) - q - sv)]) hbP42 hoP42 (iH.one1 ⟨_,_,_,_,rfl,hR,kR⟩);exact bF (fF trivial (⟨_,rfl,hsl42⟩) (by unfold foV;rw [dG zD]))
    refine iQ rfl ?_ ?_
    ·intro X e HD bI _ hfa;refine fX rfl (eR rfl rfl ?_);rintro _ ⟨bs42,rfl,hsl42⟩;refine aO rfl ?_;have hfa:=hfa rfl
     skip
     exact iV 0 rfl rfl hfa rfl rfl hsl42 rfl cJ fG jD rfl tY zI rfl (fun pX aX cX hape=>bF (fF trivial (trivial) (by unfold foV;rw [eX rfl];exact ⟨_,_,rfl,hape⟩)))
    exact aBx rfl
   case tail7 =>
    intro HD bI _;replace hs:=hs.mono bI;replace hTe:=hTe.mono bI;replace hTj:=hTj.mono bI;replace hoe:=hoe.mono bI;replace hoj:=hoj.mono bI;replace hR:=hR.mono bI;replace kR:=kR.mono bI;refine fX rfl (fX rfl (fX rfl (fX rfl (fX rfl (fX rfl (fX rfl (fX rfl (fX rfl (eR rfl rfl ?_)))))))));rintro _ ⟨bs42,rfl,hsl42⟩;refine eR rfl rfl ?_;rintro _ _;refine aO rfl ?_;intro e he;obtain ⟨aNe,cNe,hvN,hANe⟩:=he _ rfl;subst hvN;refine fK rfl rfl eI iG zO zO rfl (lH 7 rfl rfl rfl hTe (k:=((x.1.1 : Nat) : Int).toNat) (u:=(aNe,(rl ++ [(((x.2 : Int) : Rat) - q - sv)]).length,cNe)) (by rw [eN,fB];omega) (by rfl) (by rfl) iG rfl (fun pTe hTe2=>?_));rw [eN] at hTe2;obtain ⟨re2,hrse2⟩ : ∃ r,r = re.set x.1.1 (⟨e,aNe,cNe,rl ++ [(((x.2 : Int) : Rat) - q - sv)]⟩ : nP):=⟨_,rfl⟩
    have hTqe : ((re.map RowO.raw).set x.1.1 (aNe,(rl ++ [(((x.2 : Int) : Rat) - q - sv)]).length,cNe)) = re2.map RowO.raw:=by rw [hrse2,List.map_set];rfl
    rw [hTqe] at hTe2;have hoe2:=RowsO.set hoe x.1.1 (r:=(⟨e,aNe,cNe,rl ++ [(((x.2 : Int) : Rat) - q - sv)]⟩ : nP)) hANe;rw [← hrse2] at hoe2;have jJ : re2.map RowO.l = sK Q S m.length (pre ++ [x]):=by rw [hrse2,List.map_set,hle];show List.set _ _ (rl ++ [(((x.2 : Int) : Rat) - q - sv)]) = _;rw [← hrx];exact (rowS_snoc hi1 hRe).symm
    refine jM (aHz (hs:=[_,_,_,_,_,_,_,_]) (hpE2 (⟨e,aNe,cNe,rl ++ [(((x.2 : Int) : Rat) - q - sv)]⟩ : nP))) ?_;rw [← hrse2];refine zN ?_;obtain ⟨⟨sp,sa,sc,sl⟩,hrj,hRj⟩:=uJ hlj (show x.1.2 < (sG Q S (fO m) pre).length by rw [wZ];omega);have hrlj : rj.length = S.length:=by rw [aCy hlj,wZ];exact hr.lenS.symm
    have hrawj : (rj.map RowO.raw)[x.1.2]? = some (sa,sl.length,sc):=aBa hrj;have haccj:=hoj _ (cF hrj);simp only at haccj hRj;have hlnj:=hlenj _ hRj;obtain ⟨othJ,hpJ1,hpJ2⟩:=aD7 hrj rest;refine oT (aK6 (hs:=[_,_,_,_,_,_,_,_]) (aK6 (hs:=re2.map RowO.p) hpJ1)) (eU [7,8,10] rfl ?_);apply aGd (fun _=>True) trivial 10 (fun z H=>XL.Acc jX 56 H z sa sc sl) (fun v z H=>∃ a c,v = .slice a (sl ++ [(((x.2 : Int) : Rat) - q - sv)]).length c ∧ XL.Acc jX 56 H z a c (sl ++ [(((x.2 : Int) : Rat) - q - sv)])) (fun _ _ _ hle h=>h.mono hle) (fun _ _ _ _ hle ⟨a,c,h1,h2⟩=>⟨a,c,h1,h2.mono hle⟩) 11 [gC _,gC _,gC _,gC _,gC _,gC _,gC _,gC _,gC _,slF jX [(((x.2 : Int) : Rat) - q - sv)],vA] follows zK ⟨aH _,aH _,aH _,aH _,aH _,aH _,aH _,aH _,aH _,oQ _ _,lN,trivial⟩ rfl rfl haccj ?steps10 ?tail10
    case steps10 =>
     refine iQ rfl ?_ ?_
     ·intro X e HD bI _ hfa;exact aO rfl (bT 4 rfl rfl oH rfl rfl rfl (bF (fF trivial rfl (by unfold foV;rw [dG zD]))))
     refine iQ rfl ?_ ?_
     ·intro X e HD bI _ hfa;exact aO rfl (lO rfl rfl lE gK zF zF rfl (bF (fF trivial rfl (by unfold foV;rw [dG zD]))))
     refine iQ rfl ?_ ?_
     ·intro X e HD bI _ hfa;exact fX rfl (aO rfl (bT 2 rfl rfl gK rfl rfl rfl (bF (fF trivial rfl (by unfold foV;rw [dG zD])))))
     refine iQ rfl ?_ ?_
     ·intro X e HD bI _ hfa;exact aO rfl (bT 4 rfl rfl oH rfl rfl rfl (bF (fF trivial rfl (by unfold foV;rw [dG zD]))))
     refine iQ rfl ?_ ?_
     ·intro X e HD bI _ hfa;exact aO rfl (lO rfl rfl lE gK zF zF rfl (bF (fF trivial rfl (by unfold foV;rw [dG zD]))))
     refine iQ rfl ?_ ?_
     ·intro X e HD bI _ hfa;exact fX rfl (aO rfl (bT 2 rfl rfl gK rfl rfl rfl (bF (fF trivial rfl (by unfold foV;rw [dG zD])))))
     refine iQ rfl ?_ ?_
     ·intro X e HD bI _ hfa;exact fX rfl (fX rfl (aO rfl (fK rfl rfl eI iG zO zO rfl (bF (fF trivial rfl (by unfold foV;rw [dG zD]))))))
     refine iQ rfl ?_ ?_
     ·intro X e HD bI _ hfa;replace hTj:=hTj.mono bI;exact fX rfl (aO rfl (uK 8 rfl rfl hTj (by rw [eN];exact hrawj) iG rfl (bF (fF trivial rfl (by unfold foV;rw [dG zD])))))
     refine iQ rfl ?_ ?_
     ·intro X e HD bI _ hfa;exact aO rfl (bT 1 rfl rfl fG rfl rfl rfl (bF (fF trivial rfl (by unfold foV;rw [dG zD]))))
     refine iQ rfl ?_ ?_
     ·intro X e HD bI _ hfa;replace hR:=hR.mono bI;replace kR:=kR.mono bI;refine fX rfl (aO rfl (fS rfl cJ fG jD rfl rfl rfl (fun b54=>fT 0 rfl rfl rfl (fun HP54 oP54 hleP54 hbP54 hoP54=>?_))));replace hR:=hR.mono hleP54;replace kR:=kR.mono hleP54;have hsl54:=SlR.lit (ρ:=jX) (l:=[(((x.2 : Int) : Rat) - q - sv)]) hbP54 hoP54 (iH.one1 ⟨_,_,_,_,rfl,hR,kR⟩);exact bF (fF trivial (⟨_,rfl,hsl54⟩) (by unfold foV;rw [dG zD]))
     refine iQ rfl ?_ ?_
     ·intro X e HD bI _ hfa;refine fX rfl (eR rfl rfl ?_);rintro _ ⟨bs54,rfl,hsl54⟩;refine aO rfl ?_;have hfa:=hfa rfl
      skip
      exact iV 0 rfl rfl hfa rfl rfl hsl54 rfl cJ fG jD rfl tY zI rfl (fun pX aX cX hapj=>bF (fF trivial (trivial) (by unfold foV;rw [eX rfl];exact ⟨_,_,rfl,hapj⟩)))
     exact aBx rfl
    case tail10 =>
     intro HD bI _;replace hs:=hs.mono bI;replace hTj:=hTj.mono bI;replace hoj:=hoj.mono bI;replace hTe2:=hTe2.mono bI;replace hoe2:=hoe2.mono bI;refine fX rfl (fX rfl (fX rfl (fX rfl (fX rfl (fX rfl (fX rfl (fX rfl (fX rfl (eR rfl rfl ?_)))))))));rintro _ ⟨bs54,rfl,hsl54⟩;refine eR rfl rfl ?_;rintro _ _;refine aO rfl ?_;intro e he;obtain ⟨aNj,cNj,hvN,hANj⟩:=he _ rfl;subst hvN;refine fK rfl rfl eI iG zO zO rfl (lH 8 rfl rfl rfl hTj (k:=((x.1.2 : Nat) : Int).toNat) (u:=(aNj,(sl ++ [(((x.2 : Int) : Rat) - q - sv)]).length,cNj)) (by rw [eN,fB];omega) (by rfl) (by rfl) iG rfl (fun pTj hTj2=>?_));rw [eN] at hTj2;obtain ⟨rj2,hrsj2⟩ : ∃ r,r = rj.set x.1.2 (⟨e,aNj,cNj,sl ++ [(((x.2 : Int) : Rat) - q - sv)]⟩ : nP):=⟨_,rfl⟩
     have hTqj : ((rj.map RowO.raw).set x.1.2 (aNj,(sl ++ [(((x.2 : Int) : Rat) - q - sv)]).length,cNj)) = rj2.map RowO.raw:=by rw [hrsj2,List.map_set];rfl
     rw [hTqj] at hTj2;have hoj2:=RowsO.set hoj x.1.2 (r:=(⟨e,aNj,cNj,sl ++ [(((x.2 : Int) : Rat) - q - sv)]⟩ : nP)) hANj;rw [← hrsj2] at hoj2;have hlj2 : rj2.map RowO.l = sG Q S (fO m) (pre ++ [x]):=by rw [hrsj2,List.map_set,hlj];show List.set _ _ (sl ++ [(((x.2 : Int) : Rat) - q - sv)]) = _;rw [← hrx];exact (colS_snoc hi2 hRj).symm
     refine jM (aHz (hs:=[_,_,_,_,_,_,_,_]) (aHz (hs:=re2.map RowO.p) (hpJ2 (⟨e,aNj,cNj,sl ++ [(((x.2 : Int) : Rat) - q - sv)]⟩ : nP)))) ?_;rw [← hrsj2];refine bF (fY ?_);refine ⟨rfl,((b6,.cells 49 [.slice (some ⟨g20,0,none⟩) m.length c20]) :: (b7,.cells 49 [.slice (some ⟨g24,0,none⟩) S.length c24]) :: (b5,.cells 27 [.int .i64 0]) :: (b3,.cells 26 [.slice a Q.length c,.slice b S.length d]) :: pTe :: pTj :: (re2.map RowO.p ++ (rj2.map RowO.p ++ rest))),zA,?_⟩;exact ⟨_,_,_,_,rfl,hTe2,hTj2,hoe2,hoj2,jJ,hlj2⟩
  ·rintro Hl ownL jQ ⟨pe,pj,re,rj,rfl,hTe,hTj,hoe,hoj,hle,hlj⟩;replace hm:=hm.mono jQ;replace hs:=hs.mono jQ;replace ht:=ht.mono jQ;replace hA2:=hA2.mono jQ;replace hA6:=hA6.mono jQ;replace hK1:=hK1.mono jQ;replace hK2:=hK2.mono jQ;refine fY (bO (zS (zG rfl (jM (permC (hs:=[_,_,_,_])) (aDe hTe hoe (fun HT1 hleT1 hsE=>?_))))));rw [hle] at hsE;replace hm:=hm.mono hleT1;replace hs:=hs.mono hleT1;replace ht:=ht.mono hleT1;replace hA2:=hA2.mono hleT1;replace hA6:=hA6.mono hleT1;replace hK1:=hK1.mono hleT1;replace hK2:=hK2.mono hleT1;replace hTj:=hTj.mono hleT1;replace hoj:=hoj.mono hleT1;refine aDe hTj hoj (fun HT2 hleT2 hsJ=>?_);rw [hlj] at hsJ;replace hm:=hm.mono hleT2;replace hs:=hs.mono hleT2;replace ht:=ht.mono hleT2;replace hA2:=hA2.mono hleT2;replace hA6:=hA6.mono hleT2;replace hK1:=hK1.mono hleT2;replace hK2:=hK2.mono hleT2;replace hsE:=hsE.mono hleT2;have hLE:=wR Q S m.length (jW m);have hLJ:=wZ Q S (fO m) (jW m);have hlS:=hr.lenS;refine zN (cO (cO (eU [3,4,5,6,7] rfl ?_)));apply aF4 (q:=[]) (own:=(b6,.cells 49 [.slice (some ⟨g20,0,none⟩) m.length c20]) :: (b7,.cells 49 [.slice (some ⟨g24,0,none⟩) S.length c24]) :: (b5,.cells 27 [.int .i64 0]) :: (b3,.cells 26 [.slice a Q.length c,.slice b S.length d]) :: rest) (fun _=>True) trivial [3,7] (fun s e H=>lX (aLm ((sK Q S m.length (jW m)) ++ (sG Q S (fO m) (jW m))) S) s H [3] e) (CatO.mono) 10 [gC _,gC _,slF (slR mxR) [(sK Q S m.length (jW m)),(sG Q S (fO m) (jW m))],fun v H=>∃ a c,v = .slice a ((sK Q S m.length (jW m)) ++ (sG Q S (fO m) (jW m))).length c,gC _,gC _,slF mxR [S],fun v H=>∃ a c,v = .slice a (((sK Q S m.length (jW m)) ++ (sG Q S (fO m) (jW m))) ++ [S]).length c,gC _,gC _] follows zK ⟨aH _,aH _,oQ _ _,fun _ _ _ _ h=>h,aH _,aH _,oQ _ _,fun _ _ _ _ h=>h,aH _,aH _,trivial⟩ zD (lX.nil) ?steps13 ?tail13
   case steps13 =>
    refine iJ rfl ?_ ?_
    ·intro X e HD bI _;refine aO rfl ?_;intro s hfo hsn hw hb hkn;exact jM List.perm_append_comm (bT 0 rfl rfl oH rfl rfl rfl (jM List.perm_append_comm (bF (iA (e:=e) trivial rfl rfl (nA rfl)))))
    refine iJ rfl ?_ ?_
    ·intro X e HD bI _;refine aO rfl ?_;intro s hfo hsn hw hb hkn;exact jM List.perm_append_comm (bT 1 rfl rfl oH rfl rfl rfl (jM List.perm_append_comm (bF (iA (e:=e) trivial rfl rfl (nA rfl)))))
    refine iJ rfl ?_ ?_
    ·intro X e HD bI _;replace hsE:=hsE.mono bI;replace hsJ:=hsJ.mono bI;refine fX rfl (fX rfl (aO rfl ?_));intro s hfo hsn hw hb hkn;refine fS rfl mI oH aRx rfl rfl rfl (fun b59=>fT 0 rfl rfl rfl (fun HP59 oP59 hleP59 hbP59 hoP59=>?_));replace hsE:=hsE.mono hleP59;replace hsJ:=hsJ.mono hleP59;have lC:=SlR.lit (ρ:=(slR mxR)) (l:=[(sK Q S m.length (jW m)),(sG Q S (fO m) (jW m))]) hbP59 hoP59 (iH.cons1 (cs:=[_]) ⟨some ⟨g20,0,none⟩,c20,by rw [hLE],hsE⟩ (iH.one1 ⟨some ⟨g24,0,none⟩,c24,by rw [hLJ,hlS];rfl,hsJ⟩));exact bF (iA (e:=e) trivial (⟨_,rfl,lC⟩) rfl (nA rfl))
    refine iJ rfl ?_ ?_
    ·intro X e HD bI _;refine eR rfl rfl ?_;rintro _ ⟨bs59,rfl,lC⟩;refine aO rfl ?_;intro s hfo hsn hw hb hkn;have hcall:=concM_own _ _ [(sK Q S m.length (jW m)),(sG Q S (fO m) (jW m))] _ lC zP zI;rw [show [(sK Q S m.length (jW m)),(sG Q S (fO m) (jW m))].flatten = ((sK Q S m.length (jW m)) ++ (sG Q S (fO m) (jW m))) by simp] at hcall;refine kK [] (nQ:=[]) (rst:=_) rfl hcall rfl rfl ?_;rintro _ HN own2 kI ⟨pC,aC,cC,rfl,rfl,hAC⟩;replace hfo:=CatO.mono _ _ _ _ kI hfo;exact bF (iA (e:=pC :: e) trivial (⟨_,_,rfl⟩) rfl (rU rfl (by exact lX.make zD zD hsn (fun j v2 q hj hji hq=>absurd (by simpa using hj) hji) ⟨fun _=>⟨_,_,rfl,hAC⟩,fun w h=>absurd (h.symm.trans (hw 7 rfl zK)) zP⟩ hfo)))
    refine iJ rfl ?_ ?_
    ·intro X e HD bI _;refine aO rfl ?_;intro s hfo hsn hw hb hkn;exact bJ rfl nU rfl (bF (iA (e:=e) trivial rfl rfl (nA rfl)))
    refine iJ rfl ?_ ?_
    ·intro X e HD bI _;refine fX rfl (aO rfl ?_);intro s hfo hsn hw hb hkn;exact jM List.perm_append_comm (bT 3 rfl rfl iG rfl rfl rfl (jM List.perm_append_comm (bF (iA (e:=e) trivial rfl rfl (nA rfl)))))
    refine iJ rfl ?_ ?_
    ·intro X e HD bI _;replace ht:=ht.mono bI;refine fX rfl (aO rfl ?_);intro s hfo hsn hw hb hkn;refine fS rfl eI iG tA rfl rfl rfl (fun b63=>fT 0 rfl rfl rfl (fun HP63 oP63 hleP63 hbP63 hoP63=>?_));replace ht:=ht.mono hleP63;have hsl63:=SlR.lit (ρ:=mxR) (l:=[S]) hbP63 hoP63 (iH.one1 ⟨_,_,rfl,ht⟩);exact bF (iA (e:=e) trivial (⟨_,rfl,hsl63⟩) rfl (nA rfl))
    refine iJ rfl ?_ ?_
    ·intro X e HD bI _;refine eR rfl rfl ?_;rintro _ ⟨a60,c60,rfl⟩;refine eR rfl rfl ?_;rintro _ ⟨bs63,rfl,hsl63⟩;refine aO rfl ?_;intro s hfo hsn hw hb hkn;have h3:=hkn 3 60 _ rfl rfl rfl;obtain ⟨p3,e2,hpe,h3P,hput⟩:=lX.get zD zD h3 hfo;obtain ⟨aL,cL,hvL,hAL⟩:=h3P.1 hsn;obtain ⟨rfl,rfl⟩ : a60 = aL ∧ c60 = cL:=by cases hvL;exact ⟨rfl,rfl⟩
     exact jM (hpe.append_right _) (iV 0 rfl rfl hAL rfl rfl hsl63 rfl eI iG tA rfl aE1 zI rfl (fun p64 a64 c64 hacc64=>bF (iA (e:=p64 :: e2) trivial (⟨_,_,rfl⟩) rfl (rU rfl (by exact hput 7 _ _ _ zD (fun j v2 q hj hji hq=>absurd (by simpa using hj) hji) (aLm.mk (fun h=>(by cases h)) (fun w h=>(by cases h;exact ⟨_,_,rfl,hacc64⟩))))))))
    refine iJ rfl ?_ ?_
    ·intro X e HD bI _;refine eR rfl rfl ?_;rintro _ ⟨a64,c64,rfl⟩;refine aO rfl ?_;intro s hfo hsn hw hb hkn;exact eD (ts:=#[]) rfl eI rfl (bF (iA (e:=e) trivial rfl rfl (nA rfl)))
    refine iJ rfl ?_ ?_
    ·intro X e HD bI _;refine aO rfl ?_;intro s hfo hsn hw hb hkn;exact zM rfl (bF (iA (e:=e) trivial rfl rfl (nA rfl)))
    exact aBf rfl
   case tail13 =>
    intro HD bI _;replace hm:=hm.mono bI;replace hs:=hs.mono bI;replace ht:=ht.mono bI;replace hA2:=hA2.mono bI;replace hA6:=hA6.mono bI;replace hK1:=hK1.mono bI;replace hK2:=hK2.mono bI;replace hsE:=hsE.mono bI;replace hsJ:=hsJ.mono bI;refine fX rfl (fX rfl (eR rfl rfl ?_));rintro _ ⟨bs59,rfl,lC⟩;refine eR rfl rfl ?_;rintro _ ⟨a60,c60,rfl⟩;refine fX rfl (fX rfl (eR rfl rfl ?_));rintro _ ⟨bs63,rfl,hsl63⟩;refine eR rfl rfl ?_;rintro _ ⟨a64,c64,rfl⟩;refine fX rfl (fX rfl (aO rfl ?_));intro e s hfo hall hkn;obtain ⟨p3,v3,e2,hs3,hP3,hq3,hfo⟩:=lX.cons_some (hall 3 rfl) hfo;obtain rfl : e2 = []:=hfo;have k7:=hkn 7 64 _ rfl rfl rfl;obtain ⟨aL,cL,hvL,hAL⟩:=hP3.2 _ k7;obtain ⟨rfl,rfl⟩ : a64 = aL ∧ c64 = cL:=by cases hvL;exact ⟨rfl,rfl⟩
    refine jM (hq3.append_right _) (iO 0 rfl hAL rfl (fun HQ wE hsL=>?_));replace hm:=hm.mono wE;replace hs:=hs.mono wE;replace ht:=ht.mono wE;replace hA2:=hA2.mono wE;replace hA6:=hA6.mono wE;replace hK1:=hK1.mono wE;replace hK2:=hK2.mono wE;replace hsE:=hsE.mono wE;replace hsJ:=hsJ.mono wE;replace lC:=lC.mono wE;replace hsl63:=hsl63.mono wE;have hLL : (((sK Q S m.length (jW m)) ++ (sG Q S (fO m) (jW m))) ++ [S]).length ≤ 11:=by rw [fQ,fQ,hLE,hLJ];show _ + _ + 1 ≤ 11;omega
    refine zN (dK (eU [4,66,5,64,65] rfl (gO (base:=[(5,_),(64,_),(65,_)]) (fun ζ : Nat × (Bool)=>[(4,.bool ζ.2),(66,.int .i64 (ζ.1 : Nat))]) (fun ζ Hl own=>ζ.1 ≤ (((sK Q S m.length (jW m)) ++ (sG Q S (fO m) (jW m))) ++ [S]).length ∧ (b5,.cells 27 [.int .i64 0]) :: rest = own ∧ (ζ.2 = true ↔ ∀ x ∈ (aGv m Q S).take (ζ.1),mP x = 0)) (fun ζ=>(((sK Q S m.length (jW m)) ++ (sG Q S (fO m) (jW m))) ++ [S]).length - ζ.1) (0,true) (zC) zB ⟨eS _,rfl,by simp⟩ ?_)));rintro ⟨k,ok⟩ Hl1 _ iT ⟨hkk,rfl,vN⟩;replace hm:=hm.mono iT;replace hs:=hs.mono iT;replace ht:=ht.mono iT;replace hA2:=hA2.mono iT;replace hA6:=hA6.mono iT;replace hK1:=hK1.mono iT;replace hK2:=hK2.mono iT;replace hsE:=hsE.mono iT;replace hsJ:=hsJ.mono iT;replace lC:=lC.mono iT;replace hsl63:=hsl63.mono iT;replace hsL:=hsL.mono iT;try dsimp only at hkk vN ⊢
    refine zS (zL rfl (zN (cO (fC rfl (fun c0_14=>?_) (fun c0_14=>?_)))))
    ·refine eF (bO (cO (dK (zS (eV rfl hsL rfl eI iG zO rfl ?_)))));rintro eb68 eo68 _ x68 hx68 ⟨ax68,cx68,rfl,hd68⟩ hp68;refine eH rfl (by assumption) iG rfl rfl rfl (zG rfl (zN (zS (zM rfl (eZ rfl (aVx x68 _ _ _ hd68 (by have:=aOu hok hr (cF hx68);omega) (hzl x68 (cF hx68))) rfl ?_)))));rintro _ HNU hleNU ⟨aU,cU,bU,dU,rfl,hU,kU⟩;replace iT:=iT.trans hleNU;refine XO.field rfl ft_56_0 iE rfl rfl rfl (XO.field rfl ft_54_1 gE rfl rfl rfl (eD (ts:=#[]) rfl bK rfl (zY rfl (zN (fC rfl (fun c1_17=>?_) (fun c1_17=>?_))))))
     ·have hU0 : mP x68 ≠ 0:=aFt.1 zO;refine dL (zG rfl (bF (fY (bO (dL (fR rfl rfl (dT zO zO) rfl (zM rfl (bF (eW ((k + 1,false)) (by show (((sK Q S m.length (jW m)) ++ (sG Q S (fO m) (jW m))) ++ [S]).length - (k + 1) < (((sK Q S m.length (jW m)) ++ (sG Q S (fO m) (jW m))) ++ [S]).length - k;omega) (zC) (⟨by show k + 1 ≤ (((sK Q S m.length (jW m)) ++ (sG Q S (fO m) (jW m))) ++ [S]).length;omega,rfl,chk_no hx68 hU0⟩) zB (iT))))))))))
     have hU0 : mP x68 = 0:=Classical.byContradiction fun h=>by have:=aFt.2 h;omega
     refine eF (fY (bO (dL (fR rfl rfl (dT zO zO) rfl (zM rfl (bF (eW ((k + 1,ok)) (by show (((sK Q S m.length (jW m)) ++ (sG Q S (fO m) (jW m))) ++ [S]).length - (k + 1) < (((sK Q S m.length (jW m)) ++ (sG Q S (fO m) (jW m))) ++ [S]).length - k;omega) (zC) (⟨by show k + 1 ≤ (((sK Q S m.length (jW m)) ++ (sG Q S (fO m) (jW m))) ++ [S]).length;omega,rfl,chk_yes vN hx68 hU0⟩) zB (iT))))))))
    obtain rfl : k = (((sK Q S m.length (jW m)) ++ (sG Q S (fO m) (jW m))) ++ [S]).length:=zO
    change ok = true ↔ ∀ x ∈ (aGv m Q S).take (aGv m Q S).length,mP x = 0 at vN;rw [gF] at vN;refine gI (fE (eY (fU rfl (bO (zS (zM rfl (zG rfl (eG 0 rfl rfl rfl rfl jZ rfl rfl rfl rfl rfl (zN (eP (jO 0 (L:=[_]) rfl hrest rfl ((aC5 _ _ _).mono (fun u2 HE own2 lF hD=>?_)))))))))))));obtain ⟨h1,h2⟩:=hD;subst h2;refine ⟨by subst h1;rfl,_,_,rfl,(mM rfl (fN 0 rfl rfl jZ rfl rfl iD)),eQ.mk ?_⟩;exact ⟨rfl,ok,rfl,vN⟩
  rintro c Hl ownL jQ hK;exact hK.elim
end Go.Proofs

namespace Go.Proofs
open Go.XL
def aA5 (l : List Int) : Int:=l.foldr (· + ·) 0
theorem aA6 (x : Int) (l : List Int) : aA5 (x :: l) = x + aA5 l:=rfl
theorem aQv : ∀ (a b : List Int),aA5 (a ++ b) = aA5 a + aA5 b
 | [],b=>by simp [aA5]
 | x :: a,b=>by rw [fP,aA6,aA6,aQv a b];omega
theorem aHg (a : List Int) (x : Int) : aA5 (a ++ [x]) = aA5 a + x:=by rw [aQv];simp [aA5]
theorem aJa {f : Kn → Int} {B : Nat} : ∀ {l : List Kn},(∀ p ∈ l,(f p).natAbs ≤ B) → (aA5 (l.map f)).natAbs ≤ l.length * B
 | [],_=>by simp [aA5]
 | p :: l,h=>by
  have h1:=h p zP;have h2:=aJa (l:=l) (B:=B) fun q hq=>h q (by simp [hq]);rw [List.map_cons,aA6,jL,Nat.add_mul,Nat.one_mul];omega
theorem aTm {f : Kn → Int} : ∀ {l : List Kn},(∀ p ∈ l,0 ≤ f p) → 0 ≤ aA5 (l.map f)
 | [],_=>by simp [aA5]
 | p :: l,h=>by have h1:=h p zP;have h2:=aTm (l:=l) fun q hq=>h q (by simp [hq]);rw [List.map_cons,aA6];omega
def qO (K : List Kn) (i : Nat) : Nat:=(K.filter fun p=>p.1.1 == i).length
def rQ (K : List Kn) (i : Nat) : Int:=aA5 ((K.filter fun p=>p.1.1 == i).map Prod.snd)
def aE6 (n : Nat) (K : List Kn) : List Int:=(List.range n).map fun i=>((qO K i : Nat) : Int)
def aE0 (n : Nat) (K : List Kn) : List Int:=(List.range n).map (rQ K)
theorem pL (n : Nat) (K : List Kn) : (aE6 n K).length = n:=by simp [aE6]
theorem qI (n : Nat) (K : List Kn) : (aE0 n K).length = n:=by simp [aE0]
theorem aA0 {n i : Nat} {K : List Kn} (h : i < n) : (aE6 n K)[i]? = some ((qO K i : Nat) : Int):=by simp [aE6,h]
theorem aAx {n i : Nat} {K : List Kn} (h : i < n) : (aE0 n K)[i]? = some (rQ K i):=by simp [aE0,h]
theorem manyL_nil (n : Nat) : aE6 n [] = List.replicate n 0:=by
 apply iC;intro j;by_cases hj : j < n
 ·rw [aA0 hj];simp [hj,qO]
 rw [dJ (by rw [pL];omega),dJ (by rw [gR];omega)]
theorem sumsL_nil (n : Nat) : aE0 n [] = List.replicate n 0:=by
 apply iC;intro j;by_cases hj : j < n
 ·rw [aAx hj];simp [hj,rQ,aA5]
 rw [dJ (by rw [qI];omega),dJ (by rw [gR];omega)]
theorem manyL_snoc {n : Nat} {K : List Kn} {x : Kn} (hx : x.1.1 < n) : aE6 n (K ++ [x]) = (aE6 n K).set x.1.1 ((qO K x.1.1 : Nat) + 1):=by
 apply iC;intro j;by_cases hj : j < n
 ·rw [aA0 hj,iR,aA0 hj,pL];by_cases e : x.1.1 = j
  ·subst e;rw [eX rfl,eX hj];simp [qO,List.filter_append]
  rw [dG e];simp [qO,List.filter_append,e]
 rw [dJ (by rw [pL];omega),dJ (by rw [gQ,pL];omega)]
theorem sumsL_snoc {n : Nat} {K : List Kn} {x : Kn} (hx : x.1.1 < n) : aE0 n (K ++ [x]) = (aE0 n K).set x.1.1 (rQ K x.1.1 + x.2):=by
 apply iC;intro j;by_cases hj : j < n
 ·rw [aAx hj,iR,aAx hj,qI];by_cases e : x.1.1 = j
  ·subst e;rw [eX rfl,eX hj];simp [rQ,List.filter_append,aHg]
  rw [dG e];simp [rQ,List.filter_append,e]
 rw [dJ (by rw [qI];omega),dJ (by rw [gQ,qI];omega)]
theorem aNx (K : List Kn) (i : Nat) : qO K i ≤ K.length:=List.length_filter_le _ _
theorem aQa {K : List Kn} {x : Kn} (h : x ∈ K) : 0 < qO K x.1.1:=List.length_pos_of_mem (lD.2 ⟨h,by simp⟩)
theorem aGm {m : Mk} (hok : oF m) {K : List Kn} (hK : ∀ p ∈ K,p ∈ jW m) (i : Nat) : 0 ≤ rQ K i ∧ rQ K i ≤ K.length * 1000:=by
 have hb : ∀ p ∈ K.filter (fun p=>p.1.1 == i),0 ≤ p.2 ∧ p.2 ≤ 1000:=fun p hp=>by
  obtain ⟨l,h1,h2,h3⟩:=aAf (hK p (lD.1 hp).1);have:=(hok.at h1).2.2 _ (cF h2);omega
 have h1:=aTm (f:=Prod.snd) (l:=K.filter fun p=>p.1.1 == i) fun p hp=>(hb p hp).1;have h2:=aJa (f:=Prod.snd) (B:=1000) (l:=K.filter fun p=>p.1.1 == i) fun p hp=>by have:=hb p hp;omega
 have h3:=List.length_filter_le (fun p : Kn=>p.1.1 == i) K;unfold rQ;have h4 : (K.filter fun p=>p.1.1 == i).length * 1000 ≤ K.length * 1000:=Nat.mul_le_mul_right _ h3;omega
def shK (K : List Kn) (i : Nat) : Int:=720720 / ((qO K i : Nat) : Int)
theorem aUd (K : List Kn) (i : Nat) : 0 ≤ shK K i ∧ shK K i ≤ 720720:=by
 unfold shK;exact ⟨Int.ediv_nonneg zD zO,Int.ediv_le_self _ zD⟩
def thB (m : Mk) (i j : Nat) : Bool:=decide ((m.getD i []).getD j (-1) ≠ -1)
def aT1 (m : Mk) (K : List Kn) (k j : Nat) (x : Kn) : Int:=(if j = k then 720720 else 0) - (if thB m x.1.1 j then shK K x.1.1 else 0)
def bT1 (K : List Kn) (x : Kn) : Int:=x.2 * 720720 - rQ K x.1.1 * shK K x.1.1
def aE (m : Mk) (K pre : List Kn) (k j : Nat) : Int:=aA5 ((pre.filter fun p=>p.1.2 == k).map (aT1 m K k j))
def bE (K pre : List Kn) (k : Nat) : Int:=aA5 ((pre.filter fun p=>p.1.2 == k).map (bT1 K))
def uL (m : Mk) (K pre : List Kn) (n k : Nat) : List Int:=(List.range n).map (aE m K pre k)
def aH4 (m : Mk) (K pre : List Kn) (n : Nat) : List (List Int):=(List.range (n + 1)).map (uL m K pre n)
def aIr (K pre : List Kn) (n : Nat) : List Int:=(List.range (n + 1)).map (bE K pre)
theorem mT (m : Mk) (K pre : List Kn) (n k : Nat) : (uL m K pre n k).length = n:=by simp [uL]
theorem uT (m : Mk) (K pre : List Kn) (n : Nat) : (aH4 m K pre n).length = n + 1:=by simp [aH4]
theorem tK (K pre : List Kn) (n : Nat) : (aIr K pre n).length = n + 1:=by simp [aIr]
theorem aBe {m : Mk} {K pre : List Kn} {n k j : Nat} (h : j < n) : (uL m K pre n k)[j]? = some (aE m K pre k j):=by simp [uL,h]
theorem aDt {m : Mk} {K pre : List Kn} {n k : Nat} (h : k < n + 1) : (aH4 m K pre n)[k]? = some (uL m K pre n k):=by simp [aH4,h]
theorem aEe {K pre : List Kn} {n k : Nat} (h : k < n + 1) : (aIr K pre n)[k]? = some (bE K pre k):=by simp [aIr,h]
theorem aTab_nil (m : Mk) (K : List Kn) (n : Nat) : aH4 m K [] n = List.replicate (n + 1) (List.replicate n 0):=by
 have h1 : ∀ k,uL m K [] n k = List.replicate n 0:=fun k=>by
  apply iC;intro j;by_cases hj : j < n
  ·rw [aBe hj];simp [hj,aE,aA5]
  rw [dJ (by rw [mT];omega),dJ (by rw [gR];omega)]
 apply iC;intro j;by_cases hj : j < n + 1
 ·rw [aDt hj,h1];simp [hj]
 rw [dJ (by rw [uT];omega),dJ (by rw [gR];omega)]
theorem bTab_nil (K : List Kn) (n : Nat) : aIr K [] n = List.replicate (n + 1) 0:=by
 apply iC;intro j;by_cases hj : j < n + 1
 ·rw [aEe hj];simp [hj,bE,aA5]
 rw [dJ (by rw [tK];omega),dJ (by rw [gR];omega)]
theorem bTab_snoc {K pre : List Kn} {n : Nat} {x : Kn} (hx : x.1.2 < n + 1) : aIr K (pre ++ [x]) n = (aIr K pre n).set x.1.2 (bE K pre x.1.2 + bT1 K x):=by
 apply iC;intro j;by_cases hj : j < n + 1
 ·rw [aEe hj,iR,aEe hj,tK];by_cases e : x.1.2 = j
  ·subst e;rw [eX rfl,eX hj];simp [bE,List.filter_append,aHg]
  rw [dG e];simp [bE,List.filter_append,e]
 rw [dJ (by rw [tK];omega),dJ (by rw [gQ,tK];omega)]
theorem aTab_snoc {m : Mk} {K pre : List Kn} {n : Nat} {x : Kn} (hx : x.1.2 < n + 1) : aH4 m K (pre ++ [x]) n = (aH4 m K pre n).set x.1.2 (uL m K (pre ++ [x]) n x.1.2):=by
 apply iC;intro j;by_cases hj : j < n + 1
 ·rw [aDt hj,iR,aDt hj,uT];by_cases e : x.1.2 = j
  ·subst e;rw [eX rfl,eX hj]
  rw [dG e];congr 1;unfold uL;congr 1;funext i;simp [aE,List.filter_append,e]
 rw [dJ (by rw [uT];omega),dJ (by rw [gQ,uT];omega)]
def aH3 (r l : List Int) (sh : Int) : List Int:=List.zipWith (fun v x=>if x ≠ -1 then v - sh else v) r l
theorem aJi {r l : List Int} {sh : Int} (h : l.length = r.length) : (aH3 r l sh).length = r.length:=by simp [aH3,h]
theorem aO5 {r l : List Int} {sh v x : Int} {j : Nat} (h : r[j]? = some v) (h2 : l[j]? = some x) : (aH3 r l sh)[j]? = some (if x ≠ -1 then v - sh else v):=by unfold aH3;rw [List.getElem?_zipWith,h,h2]
theorem aRow_put {m : Mk} {K pre : List Kn} {n : Nat} {x : Kn} {l : List Int} (hx : x.1.2 < n) (hl : m[x.1.1]? = some l) (hln : l.length = n) :
  aH3 ((uL m K pre n x.1.2).set x.1.2 (aE m K pre x.1.2 x.1.2 + 720720)) l (shK K x.1.1) = uL m K (pre ++ [x]) n x.1.2:=by
 apply iC;intro j;by_cases hj : j < n
 ·obtain ⟨y,hy⟩ : ∃ y,l[j]? = some y:=⟨_,aJ zO⟩
  have hth : thB m x.1.1 j = decide (y ≠ -1):=by unfold thB;rw [jE hl,jE hy]
  have hE : aE m K (pre ++ [x]) x.1.2 j = aE m K pre x.1.2 j + aT1 m K x.1.2 j x:=by simp [aE,List.filter_append,aHg]
  have hrow : ((uL m K pre n x.1.2).set x.1.2 (aE m K pre x.1.2 x.1.2 + 720720))[j]? = some (aE m K pre x.1.2 j + if j = x.1.2 then 720720 else 0):=by
   rw [iR,aBe hj,mT];by_cases e : x.1.2 = j
   ·rw [eX e,eX hx,eX e.symm,e]
   rw [dG e,dG (fun h=>e h.symm),Int.add_zero]
  rw [aO5 hrow hy,aBe hj,hE];unfold aT1;rw [hth]
  congr 1
  by_cases hy1 : y ≠ -1
  ·rw [eX hy1,eX (bG hy1)];omega
  rw [dG hy1,dG (fun h=>hy1 (eT h))];omega
 rw [dJ (by rw [aJi (by rw [gQ,mT,hln]),gQ,mT];omega),dJ (by rw [mT];omega)]
theorem aVa (m : Mk) (K pre : List Kn) (k j : Nat) : (aE m K pre k j).natAbs ≤ pre.length * 1441440:=by
 refine eK (aJa (B:=1441440) fun p _=>?_) (Nat.mul_le_mul_right _ (List.length_filter_le _ _));have:=aUd K p.1.1;unfold aT1;split <;> split <;> omega
theorem bT1_bd {m : Mk} (hok : oF m) {x : Kn} (hx : x ∈ jW m) : (bT1 (jW m) x).natAbs ≤ 70000000000:=by
 obtain ⟨l,h1,h2,h3⟩:=aAf hx;have h4:=(hok.at h1).2.2 _ (cF h2);have h5:=aGm hok (K:=jW m) (fun _ h=>h) x.1.1;have h6:=aUd (jW m) x.1.1;have h7:=wU hok;have h8:=hok.1;unfold bT1;have h9 : 0 ≤ rQ (jW m) x.1.1 * shK (jW m) x.1.1:=Int.mul_nonneg h5.1 h6.1;have h10 : rQ (jW m) x.1.1 * shK (jW m) x.1.1 ≤ 96000 * 720720:=Int.mul_le_mul zO h6.2 h6.1 zD;omega
theorem aR2 {m : Mk} (hok : oF m) {pre : List Kn} (hp : ∀ p ∈ pre,p ∈ jW m) (k : Nat) : (bE (jW m) pre k).natAbs ≤ pre.length * 70000000000 :=
 eK (aJa (B:=70000000000) fun p h=>bT1_bd hok (hp p (lD.1 h).1)) (Nat.mul_le_mul_right _ (List.length_filter_le _ _))
theorem aR8 {m : Mk} {pre post : List Kn} {x : Kn} (h : jW m = pre ++ x :: post) : ∀ p ∈ pre,p ∈ jW m:=fun p hp=>by rw [h];exact jF _ hp
end Go.Proofs

namespace Go.Proofs
open Go.XL
theorem aAp : qF Tryz.prog 122 0 = some 0:=zK
theorem aLe : qF Tryz.prog 122 1 = some 1:=zK
theorem tL : qF Tryz.prog 124 0 = some 0:=zK
theorem aK9 : qF Tryz.prog 124 1 = some 2:=zK
theorem aK7 : qF Tryz.prog 124 2 = some 3:=zK
set_option maxRecDepth 100000 in
set_option maxHeartbeats 1600000 in
theorem put_fn (bs : Nat) (a1 a3 a4 al : Option Addr) (c1 c2 c3 c4 cl gb gr cr : Nat) (i k : Nat) (mark mi si bk rk : Int) (l r bl ml sl : List Int) (raws : List XL.Raw) (pb pr : Nat × SObj) (H : Hp)
  (hp : rC H bs 0 [.slice a1 raws.length c1,.slice (some ⟨gb,0,none⟩) bl.length c2,.slice a3 ml.length c3,.slice a4 sl.length c4]) (hT : SlR XL.rawR H a1 c1 raws) (hraw : raws[k]? = some (some ⟨gr,0,none⟩,r.length,cr))
  (hM : SlR (gV .i64) H a3 c3 ml) (hS : SlR (gV .i64) H a4 c4 sl) (hL : SlR (gV .i64) H al cl l) (hmi : ml[i]? = some mi) (hsi : sl[i]? = some si) (hbk : bl[k]? = some bk) (hrk : r[k]? = some rk)
  (hB : XL.Acc (gV .i64) 3 H pb (some ⟨gb,0,none⟩) c2 bl) (hR : XL.Acc (gV .i64) 3 H pr (some ⟨gr,0,none⟩) cr r) (hlr : l.length = r.length) (wD : raws.length ≤ 1000 ∧ r.length ≤ 1000 ∧ bl.length ≤ 1000 ∧ ml.length ≤ 1000 ∧ sl.length ≤ 1000)
  (hb1 : 0 < mi ∧ mi ≤ 1000) (hb2 : 0 ≤ si ∧ si ≤ 96000) (hb3 : -1 ≤ mark ∧ mark ≤ 1000) (hb4 : bk.natAbs ≤ 100000000000000) (hb5 : ∀ v ∈ r,v.natAbs ≤ 1000000000) : iP Tryz.prog 67 #[.pointer (some ⟨bs,0,none⟩),.int .i64 (i : Nat),.int .i64 (k : Nat),.int .i64 mark,.slice al l.length cl] H [pb,pr] (eQ (fun v H2 own=>∃ pb2 pr2,own = [pb2,pr2] ∧ v = .tuple #[] ∧ XL.Acc (gV .i64) 3 H2 pb2 (some ⟨gb,0,none⟩) c2 (bl.set k (bk + (mark * 720720 - si * (720720 / mi)))) ∧ XL.Acc (gV .i64) 3 H2 pr2 (some ⟨gr,0,none⟩) cr (aH3 (r.set k (rk + 720720)) l (720720 / mi)))):=by
 refine iP.intro (args:=[.pointer (some ⟨bs,0,none⟩),.int .i64 (i : Nat),.int .i64 (k : Nat),.int .i64 mark,.slice al l.length cl]) Tryz.func67 rfl rfl Tryz.ntmps67 rfl rfl rfl fun G rest=>?_;have i1:=(bY.1 hmi).1;have i2:=(bY.1 hsi).1;have i3:=(bY.1 hbk).1;have i4:=(bY.1 hrk).1;have i5:=(bY.1 hraw).1;have hsh1 : 0 ≤ (720720 / mi):=Int.ediv_nonneg zD zO;have hsh2 : (720720 / mi) ≤ 720720:=Int.ediv_le_self _ zD;have hsp1 : 0 ≤ si * (720720 / mi):=Int.mul_nonneg hb2.1 hsh1;have hsp2 : si * (720720 / mi) ≤ 96000 * 720720:=Int.mul_le_mul hb2.2 hsh2 hsh1 zD;have hrkb:=hb5 rk (cF hrk);refine zS ?_;refine zM rfl ?_;refine iB rfl rfl ?_;refine bJ rfl aK9 rfl ?_;refine nF (off:=2) rfl hp gE rfl rfl rfl ?_;refine zM rfl ?_;refine eV (i:=i) rfl hM rfl bK gK zO rfl ?_;rintro eb18 eo18 _ x18 hx18 rfl hp18;obtain rfl:=eE (hmi.symm.trans hx18);refine eH rfl (by assumption) gK rfl rfl rfl ?_;refine aNf (c:=(720720 / mi)) rfl rfl zO (aI1 zO zO zO) rfl ?_;refine zG rfl ?_;refine zN ?_;refine cO ?_;refine eU [0,1,2,3,4,10] rfl ?_;obtain ⟨bEQ,oEQ,rfl⟩:=hS.addr zO;obtain ⟨_,xQ,hxQ,rfl,hpQ⟩:=hS.elem (i) zO;obtain rfl:=eE (hsi.symm.trans hxQ);apply pI 20 [gC _,gC _,gC _,gC _,gC _,gC _,gC _,gC _,gC _,gC _,gC _,gC _,gC _,gC _,gC _,gC _,gC _,gC _,gC _,gC _] follows zK zK ⟨aH _,aH _,aH _,aH _,aH _,aH _,aH _,aH _,aH _,aH _,aH _,aH _,aH _,aH _,aH _,aH _,aH _,aH _,aH _,aH _,trivial⟩ ?steps4 ?tail4
 case steps4 =>
  refine dF rfl ?_ ?_
  ·intro X;exact aF rfl (zM rfl zQ)
  refine dF rfl ?_ ?_
  ·intro X;exact gL rfl (aF rfl (iB rfl rfl zQ))
  refine dF rfl ?_ ?_
  ·intro X;exact gL rfl (aF rfl (bJ rfl tL rfl zQ))
  refine dF rfl ?_ ?_
  ·intro X;exact gL rfl (aF rfl (bJ rfl aLe rfl zQ))
  refine dF rfl ?_ ?_
  ·intro X;exact gL rfl (aF rfl (nF (off:=1) rfl hp gE rfl rfl rfl zQ))
  refine dF rfl ?_ ?_
  ·intro X;exact aF rfl (zM rfl zQ)
  refine dF rfl ?_ ?_
  ·intro X;exact gL rfl (gL rfl (aF rfl (fK rfl rfl bK gK zO (by first | omega | (dsimp only;omega)) rfl zQ)))
  refine dF rfl ?_ ?_
  ·intro X;refine gL rfl (aF rfl (lY 0 rfl rfl hB (by rw [eN];exact hbk) gK rfl (fun cs7 v7 hR7 hv7=>?_) (fun cs7 hR7=>⟨_,by cases hR7;rfl⟩)));cases hR7;cases hv7;exact zQ
  refine dF rfl ?_ ?_
  ·intro X;exact aF rfl (zM rfl zQ)
  refine dF rfl ?_ ?_
  ·intro X;exact gL rfl (aF rfl (aAb rfl rfl (dT zO zO) rfl zQ))
  refine dF rfl ?_ ?_
  ·intro X;exact aF rfl (zM rfl zQ)
  refine dF rfl ?_ ?_
  ·intro X;exact gL rfl (aF rfl (iB rfl rfl zQ))
  refine dF rfl ?_ ?_
  ·intro X;exact gL rfl (aF rfl (bJ rfl aK7 rfl zQ))
  refine dF rfl ?_ ?_
  ·intro X;exact gL rfl (aF rfl (nF (off:=3) rfl hp gE rfl rfl rfl zQ))
  refine dF rfl ?_ ?_
  ·intro X;exact aF rfl (zM rfl zQ)
  refine dF rfl ?_ ?_
  ·intro X;exact gL rfl (gL rfl (aF rfl (fK rfl rfl bK gK zO zO rfl zQ)))
  refine dF rfl ?_ ?_
  ·intro X;exact gL rfl (aF rfl (eH rfl (by assumption) gK rfl rfl rfl zQ))
  refine dF rfl ?_ ?_
  ·intro X;exact aF rfl (zM rfl zQ)
  refine dF rfl ?_ ?_
  ·intro X;exact gL rfl (gL rfl (aF rfl (aAb rfl rfl (dT zO zO) rfl zQ)))
  refine dF rfl ?_ ?_
  ·intro X;exact gL rfl (gL rfl (aF rfl (lK rfl rfl (dT zO zO) rfl zQ)))
  exact jH rfl
 case tail4 =>
  refine gL rfl (gL rfl (gL rfl (gL rfl (gL rfl (gL rfl (gL rfl (gL rfl (gL rfl (gL rfl (gL rfl (gL rfl (gL rfl (gL rfl (gL rfl (gL rfl (gL rfl (gL rfl (gL rfl (gL rfl (aF rfl (fR rfl rfl (dT zO zO) rfl (fK rfl rfl bK gK zO (by first | omega | (dsimp only;omega)) rfl (lH 0 rfl rfl rfl hB (k:=((k : Nat) : Int).toNat) (u:=bk + (mark * 720720 - si * (720720 / mi))) (by rw [eN];omega) rfl rfl gK rfl (fun pb1 hB1=>?_))))))))))))))))))))))));rw [eN] at hB1;refine zN (zS (zM rfl (iB rfl rfl (bJ rfl tL rfl (bJ rfl aAp rfl (nF (off:=0) rfl hp pO rfl rfl rfl (zM rfl (eV rfl hT rfl cH gE zO rfl ?_))))))));rintro eb49 eo49 _ x49 hx49 rfl hp49;obtain rfl:=eE (hraw.symm.trans hx49);refine eH rfl (by assumption) gE rfl rfl rfl (zM rfl (fK rfl rfl bK gK zO (by first | omega | (dsimp only;omega)) rfl (lY 1 rfl rfl hR (by rw [eN];exact hrk) gK rfl (fun cs14 v14 hR14 hv14=>?_) (fun cs14 hR14=>⟨_,by cases hR14;rfl⟩))));cases hR14;cases hv14;refine fR rfl rfl (dT zO zO) rfl (fK rfl rfl bK gK zO (by first | omega | (dsimp only;omega)) rfl (lH 1 rfl rfl rfl hR (k:=((k : Nat) : Int).toNat) (u:=rk + 720720) (by rw [eN];omega) rfl rfl gK rfl (fun pr1 hR1=>?_)));rw [eN] at hR1;refine zN (zS (zM rfl (eD (ts:=#[]) rfl bK rfl (zM rfl (zN (dK (eU [58,0,2,10,56,57] rfl (gO (base:=[(0,_),(2,_),(10,_),(56,_),(57,_)]) (fun ζ : Nat × (Nat × SObj)=>[(58,.int .i64 (ζ.1 : Nat))]) (fun ζ Hl own=>ζ.1 ≤ l.length ∧ pb1 :: ζ.2 :: rest = own ∧ (XL.Acc (gV .i64) 3 Hl ζ.2 (some ⟨gr,0,none⟩) cr ((aH3 (r.set k (rk + 720720)) l (720720 / mi)).take (ζ.1) ++ (r.set k (rk + 720720)).drop (ζ.1)))) (fun ζ=>l.length - ζ.1) (0,pr1) (zC) zB ⟨eS _,rfl,by rw [List.take_zero,List.drop_zero,gN];exact hR1⟩ ?_))))))));rintro ⟨j,pr2⟩ Hl0 _ gB ⟨hkj,rfl,hR2⟩;replace hp:=hp.mono gB;replace hT:=hT.mono gB;replace hM:=hM.mono gB;replace hS:=hS.mono gB;replace hL:=hL.mono gB;replace hp18:=hp18.mono gB;replace hpQ:=hpQ.mono gB;replace hB1:=hB1.mono gB;replace hR1:=hR1.mono gB;try dsimp only at hkj hR2 ⊢
  refine zS (zL rfl (zN (cO (fC rfl (fun c0_16=>?_) (fun c0_16=>?_)))))
  ·refine eF (bO (cO (dK (zS (zM rfl (eV rfl hL rfl bK gK zO rfl ?_))))));rintro eb61 eo61 _ x61 hx61 rfl hp61;refine eH rfl (by assumption) gK rfl rfl rfl (zG rfl (zG rfl (zN (zS ?_))));have hFl : (aH3 (r.set k (rk + 720720)) l (720720 / mi)).length = (r.set k (rk + 720720)).length:=aJi (by rw [gQ];exact hlr);have hR1l : (r.set k (rk + 720720)).length = r.length:=gQ ..;have hmx:=wC (F:=(aH3 (r.set k (rk + 720720)) l (720720 / mi))) (l:=(r.set k (rk + 720720))) (k:=j) hFl zO;obtain ⟨vj,hvj⟩ : ∃ v,(r.set k (rk + 720720))[j]? = some v:=⟨_,aJ zO⟩
   have hvm:=(aJ9 (F:=(aH3 (r.set k (rk + 720720)) l (720720 / mi))) (l:=(r.set k (rk + 720720))) (k:=j) hFl zO).trans hvj
   have hvb : vj.natAbs ≤ 1000720720:=by
    rw [iR] at hvj;split at hvj
    ·first | (have:=eE hvj;omega) | (split at hvj <;> cases hvj;omega)
    have:=hb5 vj (cF hvj);omega
   refine zM rfl (fH rfl (aGu x61 _) rfl (zN (fC rfl (fun c1_19=>?_) (fun c1_19=>?_))))
   ·have hth : x61 ≠ -1:=by assumption
    refine dL (zM rfl (iB rfl rfl (bJ rfl tL rfl (bJ rfl aAp rfl (nF (off:=0) rfl hp pO rfl rfl rfl (zM rfl (eV rfl hT rfl cH gE zO rfl ?_)))))));rintro eb71 eo71 _ x71 hx71 rfl hp71;obtain rfl:=eE (hraw.symm.trans hx71);refine eH rfl (by assumption) gE rfl rfl rfl (zM rfl (fK rfl rfl bK gK zO (by first | omega | (dsimp only;omega)) rfl (lY 1 rfl rfl hR2 (by rw [eN];exact hvm) gK rfl (fun cs23 v23 hR23 hv23=>?_) (fun cs23 hR23=>⟨_,by cases hR23;rfl⟩))));cases hR23;cases hv23;refine zM rfl (lK rfl rfl (dT zO zO) rfl (fK rfl rfl bK gK zO (by first | omega | (dsimp only;omega)) rfl (lH 1 rfl rfl rfl hR2 (k:=((j : Nat) : Int).toNat) (u:=vj - (720720 / mi)) (by rw [eN,hmx];omega) rfl rfl gK rfl (fun prN hRN=>?_))));rw [eN,← yT (F:=(aH3 (r.set k (rk + 720720)) l (720720 / mi))) (by rw [aO5 hvj hx61,eX hth]) hFl] at hRN;refine bF (fY (bO (dL (fR rfl rfl (dT zO zO) rfl (zM rfl (bF (eW ((j + 1,prN)) (by show l.length - (j + 1) < l.length - j;omega) (zC) (⟨by show j + 1 ≤ l.length;omega,rfl,hRN⟩) zB (gB))))))))
   have hth : ¬ x61 ≠ -1:=by assumption
   refine eF (fY (bO (dL (fR rfl rfl (dT zO zO) rfl (zM rfl (bF (eW ((j + 1,pr2)) (by show l.length - (j + 1) < l.length - j;omega) (zC) (⟨by show j + 1 ≤ l.length;omega,rfl,by rw [aDc (F:=(aH3 (r.set k (rk + 720720)) l (720720 / mi))) (y:=vj) (by rw [aO5 hvj hx61,dG hth]) hFl hvj];exact hR2⟩) zB (gB))))))))
  obtain rfl : j = l.length:=zO
  rw [show l.length = (r.set k (rk + 720720)).length by rw [gQ];exact hlr,aG1 (aJi (by rw [gQ];exact hlr))] at hR2;refine gI (fE (eY (fU rfl ?_)));exact ⟨rfl,_,[pb1,pr2],rfl,jP _,eQ.mk ⟨_,_,rfl,rfl,hB1,hR2⟩⟩
end Go.Proofs

namespace Go.Proofs
open Go.XL
def grR (l : List Int) : List Bool:=l.map fun x=>decide (x ≠ -1)
def rL (m : Mk) : Tb:=m.map grR
theorem vU (l : List Int) : (grR l).length = l.length:=by simp [grR]
theorem mY (m : Mk) : (rL m).length = m.length:=by simp [rL]
theorem aC3 {l : List Int} {k : Nat} {x : Int} (h : l[k]? = some x) : (grR l)[k]? = some (decide (x ≠ -1)):=by unfold grR;rw [iI,h];rfl
theorem aC8 {m : Mk} {k : Nat} {l : List Int} (h : m[k]? = some l) : (rL m)[k]? = some (grR l):=by unfold rL;rw [iI,h];rfl
def uZ (z : Int) : Rat:=Rat.divInt z 720720
def aCr (r : List Int) : List Rat:=r.map uZ
theorem qX (r : List Int) : (aCr r).length = r.length:=by simp [aCr]
theorem aBb {r : List Int} {k : Nat} {z : Int} (h : r[k]? = some z) : (aCr r)[k]? = some (uZ z):=by unfold aCr;rw [iI,h];rfl
def aH0 (m : Mk) : List (List Int):=(aH4 m (jW m) (jW m) (fO m)).set (fO m) (List.replicate (fO m) 720720)
def aQ (m : Mk) : List (List Rat):=(aH0 m).map aCr
def bQ (m : Mk) : List Rat:=aCr (aIr (jW m) (jW m) (fO m))
theorem aKl (m : Mk) : (aH0 m).length = fO m + 1:=by unfold aH0;rw [gQ,uT]
theorem aHk (m : Mk) : (aQ m).length = fO m + 1:=by unfold aQ;rw [fB,aKl]
theorem aOt (m : Mk) : (bQ m).length = fO m + 1:=by unfold bQ;rw [qX,tK]
theorem aRs {m : Mk} {k : Nat} {r : List Int} (h : (aH0 m)[k]? = some r) : (aQ m)[k]? = some (aCr r):=by unfold aQ;rw [iI,h];rfl
def jV (m : Mk) : List Rat:=aH1 (aAc (aQ m) (bQ m)) (fO m)
theorem tM (m : Mk) : (jV m).length = fO m:=aDi _ _
def tT (X : List Rat) (l : List Int) (q : Rat) : Nat → Rat
 | 0=>q
 | k + 1=>if l.getD k (-1) ≠ -1 then tT X l q k - X.getD k 0 else tT X l q k
def aPq (m : Mk) (X : List Rat) (i : Nat) : Rat:=tT X (m.getD i []) ((rQ (jW m) i : Int) : Rat) (m.getD i []).length / ((qO (jW m) i : Nat) : Int)
def rA (m : Mk) (X : List Rat) : List Rat:=(List.range m.length).map (aPq m X)
theorem aAj (m : Mk) (X : List Rat) : (rA m X).length = m.length:=by simp [rA]
theorem aD2 {m : Mk} {X : List Rat} {i : Nat} (h : i < m.length) : (rA m X)[i]? = some (aPq m X i):=by simp [rA,h]
theorem subK_yes {X : List Rat} {l : List Int} {q s : Rat} {k : Nat} {x : Int} (hx : l[k]? = some x) (hs : X[k]? = some s) (h : x ≠ -1) : tT X l q (k + 1) = tT X l q k - s:=by
 rw [tT,jE hx,jE hs,eX h]
theorem subK_no {X : List Rat} {l : List Int} {q : Rat} {k : Nat} {x : Int} (hx : l[k]? = some x) (h : ¬ x ≠ -1) : tT X l q (k + 1) = tT X l q k:=by
 rw [tT,jE hx,dG h]
structure QuaSz (m : Mk) (X : List Rat) : Prop where
 x : ∀ s ∈ X,mZ s 499
 sub : ∀ i l,m[i]? = some l → ∀ k,mZ (tT X l ((rQ (jW m) i : Int) : Rat) k) 499
 cnt : ∀ i,i < m.length → 0 < qO (jW m) i
section
variable {α : Type}
def xX (ρ : Rep α) (T T2 : TypeId) (C : Nat × SObj) (a : Option Addr) (c : Nat) (rs : List (RowO α)) (pt : Nat × SObj) (x : List α) : Nat → Value → XL.Own → Hp → Prop
 | 0,v,o,H=>o = [C,pt] ++ rs.map RowO.p ∧ XL.Acc XL.rawR T2 H pt a c (rs.map RowO.raw) ∧ RowsO ρ T H rs
 | 1,v,o,H=>∃ pf af cf,v = .slice af x.length cf ∧ o = [C,pf,pt] ++ rs.map RowO.p ∧ XL.Acc ρ T H pf af cf x ∧ XL.Acc XL.rawR T2 H pt a c (rs.map RowO.raw) ∧ RowsO ρ T H rs
 | 2,v,o,H=>∃ pf af cf bl,v = .slice (some ⟨bl,0,none⟩) 1 1 ∧ SlR XL.rawR H (some ⟨bl,0,none⟩) 1 [(af,x.length,cf)] ∧ o = [C,pf,pt] ++ rs.map RowO.p ∧ XL.Acc ρ T H pf af cf x ∧ XL.Acc XL.rawR T2 H pt a c (rs.map RowO.raw) ∧ RowsO ρ T H rs
 | _,v,o,H=>∃ (r : RowO α) (pt2 : Nat × SObj) (a2 : Option Addr) (c2 : Nat),v = .slice a2 (rs ++ [r]).length c2 ∧ o = [C,pt2] ++ (rs ++ [r]).map RowO.p ∧ r.l = x ∧ XL.Acc XL.rawR T2 H pt2 a2 c2 ((rs ++ [r]).map RowO.raw) ∧ RowsO ρ T H (rs ++ [r])
variable {ρ : Rep α} {T T2 : TypeId} {C : Nat × SObj} {a : Option Addr} {c : Nat} {rs : List (RowO α)} {pt : Nat × SObj} {x : List α}
theorem xX.mono : ∀ j v o H H',Le H H' → xX ρ T T2 C a c rs pt x j v o H → xX ρ T T2 C a c rs pt x j v o H'
 | 0,v,o,H,H',hle,⟨h1,h2,h3⟩=>⟨h1,h2.mono hle,h3.mono hle⟩
 | 1,v,o,H,H',hle,⟨pf,af,cf,h1,h2,h3,h4,h5⟩=>⟨pf,af,cf,h1,h2,h3.mono hle,h4.mono hle,h5.mono hle⟩
 | 2,v,o,H,H',hle,⟨pf,af,cf,bl,h0,h1,h2,h3,h4,h5⟩=>⟨pf,af,cf,bl,h0,h1.mono hle,h2,h3.mono hle,h4.mono hle,h5.mono hle⟩
 | (k + 3),v,o,H,H',hle,⟨r,pt2,a2,c2,h1,h2,h3,h4,h5⟩=>⟨r,pt2,a2,c2,h1,h2,h3,h4.mono hle,h5.mono hle⟩
theorem xX.cell {v : Value} {o : XL.Own} {H : Hp} : ∀ {j : Nat},j ≤ 2 → xX ρ T T2 C a c rs pt x j v o H → ∃ tl,o = C :: tl
 | 0,_,⟨h1,_⟩=>⟨_,h1⟩
 | 1,_,⟨_,_,_,_,h1,_⟩=>⟨_,h1⟩
 | 2,_,⟨_,_,_,_,_,_,h1,_⟩=>⟨_,h1⟩
 | (k + 3),h,_=>absurd h zO
theorem xX.zero {v : Value} {o : XL.Own} {H : Hp} (h : xX ρ T T2 C a c rs pt x 0 v o H) : o = [C,pt] ++ rs.map RowO.p ∧ XL.Acc XL.rawR T2 H pt a c (rs.map RowO.raw) ∧ RowsO ρ T H rs:=h
theorem xX.one {v : Value} {o : XL.Own} {H : Hp} (h : xX ρ T T2 C a c rs pt x 1 v o H) :
  ∃ pf af cf,v = .slice af x.length cf ∧ o = [C,pf,pt] ++ rs.map RowO.p ∧ XL.Acc ρ T H pf af cf x ∧ XL.Acc XL.rawR T2 H pt a c (rs.map RowO.raw) ∧ RowsO ρ T H rs:=h
theorem xX.two {v : Value} {o : XL.Own} {H : Hp} (h : xX ρ T T2 C a c rs pt x 2 v o H) :
  ∃ pf af cf bl,v = .slice (some ⟨bl,0,none⟩) 1 1 ∧ SlR XL.rawR H (some ⟨bl,0,none⟩) 1 [(af,x.length,cf)] ∧ o = [C,pf,pt] ++ rs.map RowO.p ∧ XL.Acc ρ T H pf af cf x ∧ XL.Acc XL.rawR T2 H pt a c (rs.map RowO.raw) ∧ RowsO ρ T H rs:=h
theorem xX.three {v : Value} {o : XL.Own} {H : Hp} (h : xX ρ T T2 C a c rs pt x 3 v o H) :
  ∃ (r : RowO α) (pt2 : Nat × SObj) (a2 : Option Addr) (c2 : Nat),v = .slice a2 (rs ++ [r]).length c2 ∧ o = [C,pt2] ++ (rs ++ [r]).map RowO.p ∧ r.l = x ∧ XL.Acc XL.rawR T2 H pt2 a2 c2 ((rs ++ [r]).map RowO.raw) ∧ RowsO ρ T H (rs ++ [r]):=h
theorem xX.new {C' : Nat × SObj} {a0 : Option Addr} {c0 : Nat} {H : Hp} {pf p : Nat × SObj} {af a' : Option Addr} {cf c' : Nat} (hf : XL.Acc ρ T H pf af cf x) (hr : RowsO ρ T H rs) (ht : XL.Acc XL.rawR T2 H p a' c' ((rs.map RowO.raw) ++ [(af,x.length,cf)])) :
  xX ρ T T2 C' a0 c0 rs pt x 3 (.slice a' ((rs.map RowO.raw) ++ [(af,x.length,cf)]).length c') ([C',p] ++ (rs ++ [(⟨pf,af,cf,x⟩ : RowO α)]).map RowO.p) H :=
 ⟨⟨pf,af,cf,x⟩,p,a',c',by simp,rfl,rfl,by show XL.Acc _ _ _ _ _ _ ((rs ++ [_]).map RowO.raw);rw [List.map_append];exact ht,hr.snoc hf⟩
theorem SlR.ofRaw {H : Hp} (h : SlR XL.rawR H a c (rs.map RowO.raw)) (h2 : ∀ r ∈ rs,SlR ρ H r.a r.c r.l) : SlR (slR ρ) H a c (rs.map RowO.l) :=
 ⟨by have:=h.le;rw [fB] at this ⊢;exact this,h.nil,fun i y hy=>by
  rw [iI] at hy;cases hr : rs[i]? with
  | none=>rw [hr] at hy;cases hy
  | some r =>
   rw [hr] at hy;cases hy;obtain ⟨b,o,cs,h3,h4,h5⟩:=h.el i r.raw (by rw [iI,hr];rfl)
   exact ⟨b,o,cs,h3,h4,r.a,r.c,h5,h2 r (cF hr)⟩⟩
end
section
variable {C : Ctx} {ops : Array Oper} {Q : Exit → St → Prop} {rest : List Oper} {env : gY} {df : List Deferred} {H : Hp} {rst : XL.Own} {α : Type} {ρ : Rep α} {T : TypeId} {rs : List (RowO α)}
theorem XO.publishR (hrows : RowsO ρ T H rs) (h : ∀ H',Le H H' → (∀ r ∈ rs,SlR ρ H' r.a r.c r.l) → XO C ops Q rest ⟨env,df,H',rst⟩) : XO C ops Q rest ⟨env,df,H,rs.map RowO.p ++ rst⟩:=by
 intro act w hr;obtain ⟨ms,hdf,hok⟩:=hr.ok;obtain ⟨H1,iT,hs1,vN⟩:=aCa rs H (fr:=rst ++ (ms.map hid ++ C.hid)) (by simpa only [eM] using hok) hrows;exact lZ iT _ _ _ (h H1 iT hs1 act w ⟨hr.size,hr.get,ms,hdf,vN⟩)
end
def aB7 (n : Nat) : aA4:=fun i v p s H =>
 if i = 7 then v = .pointer (some ⟨p.1,0,none⟩) ∧ p.2 = .cells 124 [.slice none 0 0,.slice none 0 0,.slice none 0 0,.slice none 0 0]
 else ∃ c,v = .slice (some ⟨p.1,0,none⟩) n c ∧ XL.Acc (gV .i64) 3 H p (some ⟨p.1,0,none⟩) c (List.replicate n 0)
theorem aB7.mono {n : Nat} : ∀ i v p s H H',Le H H' → aB7 n i v p s H → aB7 n i v p s H':=by
 intro i v p s H H' hle h;by_cases e : i = 7
 ·subst e;exact h
 unfold aB7 at h ⊢;rw [dG e] at h ⊢;obtain ⟨c,h1,h2⟩:=h;exact ⟨c,h1,h2.mono hle⟩
theorem aB7.seven {n : Nat} {v : Value} {p : Nat × SObj} {s : Nat → Option Value} {H : Hp} : aB7 n 7 v p s H ↔ v = .pointer (some ⟨p.1,0,none⟩) ∧ p.2 = .cells 124 [.slice none 0 0,.slice none 0 0,.slice none 0 0,.slice none 0 0]:=Iff.rfl
theorem aB7.two {n : Nat} {v : Value} {p : Nat × SObj} {s : Nat → Option Value} {H : Hp} : aB7 n 2 v p s H ↔ ∃ c,v = .slice (some ⟨p.1,0,none⟩) n c ∧ XL.Acc (gV .i64) 3 H p (some ⟨p.1,0,none⟩) c (List.replicate n 0):=Iff.rfl
theorem aB7.five {n : Nat} {v : Value} {p : Nat × SObj} {s : Nat → Option Value} {H : Hp} : aB7 n 5 v p s H ↔ ∃ c,v = .slice (some ⟨p.1,0,none⟩) n c ∧ XL.Acc (gV .i64) 3 H p (some ⟨p.1,0,none⟩) c (List.replicate n 0):=Iff.rfl
def aTs (v w : Value) : Value:=.agg ⟨[.slice none 0 0,.slice none 0 0,v,w]⟩
def aCm (n : Nat) (s : Nat → Option Value) (e : XL.Own) (H : Hp) : Prop:=lX (aB7 n) s H [2,5,7] e ∧ ∀ v6,s 6 = some v6 → ∃ v2 v5,s 2 = some v2 ∧ s 5 = some v5 ∧ v6 = aTs v2 v5
theorem aCm.mono {n : Nat} : ∀ (s : Nat → Option Value) (e : XL.Own) (H H' : Hp),Le H H' → aCm n s e H → aCm n s e H':=fun s e H H' hle h=>⟨h.1.mono aB7.mono hle,h.2⟩
theorem aCm.make {n : Nat} {s : Nat → Option Value} {e : XL.Own} {H : Hp} {i : Nat} {v : Value} {p : Nat × SObj} (hi : i ∈ [2,5,7]) (hs : s i = none) (h6 : i ≠ 7 → s 6 = none) (hp : aB7 n i v p (xI s i v) H) (h : aCm n s e H) : aCm n (xI s i v) (p :: e) H:=by
 refine ⟨lX.make zD hi hs (fun _ _ _ _ _ hq=>hq) hp h.1,fun v6 hv=>?_⟩;have hi6 : i ≠ 6:=by intro h;subst h;exact absurd hi zD
 have hv : s 6 = some v6:=by rw [← hv];exact (dG (fun h=>hi6 h.symm)).symm
 by_cases e7 : i = 7
 ·subst e7;obtain ⟨v2,v5,h2,h5,h⟩:=h.2 v6 hv;exact ⟨v2,v5,h2,h5,h⟩
 rw [h6 e7] at hv;cases hv
theorem aCm.note {n : Nat} {s : Nat → Option Value} {e : XL.Own} {H : Hp} {v2 v5 : Value} (h2 : s 2 = some v2) (h5 : s 5 = some v5) (h : aCm n s e H) : aCm n (xI s 6 (aTs v2 v5)) e H :=
 ⟨lX.note zD (fun _ _ _ _ hq=>hq) h.1,fun v6 hv=>⟨v2,v5,h2,h5,by cases hv;rfl⟩⟩
theorem aCm.nil {n : Nat} {H : Hp} : aCm n (fun _=>none) [] H:=⟨lX.nil,fun _ h=>by cases h⟩
theorem agg4_inj {v w v' w' : Value} (h : aTs v w = aTs v' w') : v = v' ∧ w = w':=by unfold aTs at h;cases h;exact ⟨rfl,rfl⟩
theorem permFit {e e2 e3 R : XL.Own} {p2 p5 p7 : Nat × SObj} (h1 : e.Perm (p2 :: e2)) (h2 : e2.Perm (p5 :: e3)) (h3 : e3.Perm [p7]) : (e ++ R).Perm (p7 :: p2 :: p5 :: R) :=
 ((h1.trans ((h2.trans ((h3.cons p5))).cons p2)).append_right R).trans ((((gW p7 p5 R).cons p2).trans (gW p7 p2 (p5 :: R))))
def aGk (old : List (List Rat)) (row : List Rat) (oldb : List Rat) (x : Rat) (a : Option Addr) (c : Nat) (b : Option Addr) (d : Nat) (s : Nat → Option Value) (e : XL.Own) (H : Hp) : Prop :=
 ∃ pA pB,e = [pA,pB] ∧ (s 3 = none → XL.Acc mxR 24 H pA a c old) ∧ (∀ v,s 3 = some v → ∃ a2 c2,v = .slice a2 (old ++ [row]).length c2 ∧ XL.Acc mxR 24 H pA a2 c2 (old ++ [row])) ∧ (s 13 = none → XL.Acc jX 56 H pB b d oldb) ∧ (∀ v,s 13 = some v → ∃ a2 c2,v = .slice a2 (oldb ++ [x]).length c2 ∧ XL.Acc jX 56 H pB a2 c2 (oldb ++ [x]))
theorem aGk.mono {old : List (List Rat)} {row : List Rat} {oldb : List Rat} {x : Rat} {a : Option Addr} {c : Nat} {b : Option Addr} {d : Nat} : ∀ (s : Nat → Option Value) (e : XL.Own) (H H' : Hp),Le H H' → aGk old row oldb x a c b d s e H → aGk old row oldb x a c b d s e H':=by
 rintro s e H H' hle ⟨pA,pB,h1,h2,h3,h4,h5⟩;exact ⟨pA,pB,h1,fun h=>(h2 h).mono hle,fun v h=>let ⟨p,q,r,t⟩:=h3 v h;⟨p,q,r,t.mono hle⟩,fun h=>(h4 h).mono hle,fun v h=>let ⟨p,q,r,t⟩:=h5 v h;⟨p,q,r,t.mono hle⟩⟩
section
variable {α : Type} {rs : List (RowO α)} {i : Nat} {r : RowO α}
theorem aOs {R : List (List α)} (h : rs.map RowO.l = R) (hi : i < R.length) : ∃ r : RowO α,rs[i]? = some r ∧ R[i]? = some r.l:=by
 have hl : i < rs.length:=by have:=congrArg List.length h;rw [fB] at this;omega
 exact ⟨rs[i],aJ hl,by rw [← h,iI,aJ hl];rfl⟩
theorem aOe (h : rs[i]? = some r) : (rs.map RowO.raw)[i]? = some (r.a,r.l.length,r.c):=by rw [iI,h];rfl
theorem aH2 (h : rs[i]? = some r) (rest : XL.Own) : ∃ oth : XL.Own,(rs.map RowO.p ++ rest).Perm (r.p :: (oth ++ rest)) ∧ ∀ r' : RowO α,(r'.p :: (oth ++ rest)).Perm ((rs.set i r').map RowO.p ++ rest):=by
 have hi : i < rs.length:=(bY.1 h).1
 have e : ∀ r' : RowO α,(rs.set i r').Perm (r' :: rs.eraseIdx i):=by
  intro r';clear h
  induction rs generalizing i with
  | nil=>simp at hi
  | cons y l ih =>
   cases i with
   | zero=>simp
   | succ i=>simp only [List.set_cons_succ,List.eraseIdx_cons_succ];exact ((ih (by simpa using hi)).cons y).trans (gW _ _ _)
 have ho : ∀ r' : RowO α,((rs.set i r').map RowO.p ++ rest).Perm (r'.p :: ((rs.eraseIdx i).map RowO.p ++ rest)):=fun r'=>by
  have:=((e r').map RowO.p).append_right rest;simpa using this
 exact ⟨_,by have:=ho r;rwa [aGx h] at this,fun r'=>(ho r').symm⟩
end
theorem aGk.nil {old : List (List Rat)} {row : List Rat} {oldb : List Rat} {x : Rat} {a : Option Addr} {c : Nat} {b : Option Addr} {d : Nat} {H : Hp} {pA pB : Nat × SObj} (h1 : XL.Acc mxR 24 H pA a c old) (h2 : XL.Acc jX 56 H pB b d oldb) : aGk old row oldb x a c b d (fun _=>none) [pA,pB] H :=
 ⟨pA,pB,rfl,fun _=>h1,fun v (h : none = some v)=>absurd h zP,fun _=>h2,fun v (h : none = some v)=>absurd h zP⟩
section
variable {old : List (List Rat)} {row : List Rat} {oldb : List Rat} {x : Rat} {a : Option Addr} {c : Nat} {b : Option Addr} {d : Nat} {H : Hp} {pA pB p2 : Nat × SObj} {s : Nat → Option Value} {a2 : Option Addr} {c2 : Nat}
theorem aGk.fst (h2 : ∀ v,s 13 = some v → ∃ a2 c2,v = .slice a2 (oldb ++ [x]).length c2 ∧ XL.Acc jX 56 H pB a2 c2 (oldb ++ [x])) (h1 : s 13 = none → XL.Acc jX 56 H pB b d oldb) (hA : XL.Acc mxR 24 H p2 a2 c2 (old ++ [row])) :
  aGk old row oldb x a c b d (xI s 3 (.slice a2 (old ++ [row]).length c2)) [p2,pB] H :=
 ⟨p2,pB,rfl,fun h=>by simp [xI] at h,fun v h=>by simp [xI] at h;exact ⟨a2,c2,by rw [← h];simp,hA⟩,fun h=>h1 (by simpa [xI] using h),fun v h=>h2 v (by simpa [xI] using h)⟩
theorem aGk.snd (h2 : ∀ v,s 3 = some v → ∃ a2 c2,v = .slice a2 (old ++ [row]).length c2 ∧ XL.Acc mxR 24 H pA a2 c2 (old ++ [row])) (h1 : s 3 = none → XL.Acc mxR 24 H pA a c old) (hB : XL.Acc jX 56 H p2 a2 c2 (oldb ++ [x])) :
  aGk old row oldb x a c b d (xI s 13 (.slice a2 (oldb ++ [x]).length c2)) [pA,p2] H :=
 ⟨pA,p2,rfl,fun h=>h1 (by simpa [xI] using h),fun v h=>h2 v (by simpa [xI] using h),fun h=>by simp [xI] at h,fun v h=>by simp [xI] at h;exact ⟨a2,c2,by rw [← h];simp,hB⟩⟩
end
theorem aTf {m : Mk} (hok : oF m) {r : List Int} (hr : r ∈ aH0 m) : r.length = fO m ∧ ∀ v ∈ r,v.natAbs ≤ 1000000000:=by
 unfold aH0 at hr;rcases List.mem_or_eq_of_mem_set hr with h | h
 ·unfold aH4 at h;obtain ⟨k,_,rfl⟩:=gS.1 h;refine ⟨mT _ _ _ _ _,fun v hv=>?_⟩;obtain ⟨j,hj⟩:=List.getElem?_of_mem hv;have hjl:=(bY.1 hj).1;rw [mT] at hjl;rw [aBe hjl] at hj;have h1:=aVa m (jW m) (jW m) k j;have h2:=wU hok;have h3:=hok.1;rw [eE hj] at h1;omega
 subst h;exact ⟨gR,fun v hv=>by rw [List.eq_of_mem_replicate hv];decide⟩
theorem aVb {n : Nat} (h : 0 < n) : (((n : Nat) : Int) : Rat) ≠ 0:=fun e=>by
 have h2 : ((n : Nat) : Int) = 0:=by exact_mod_cast e
 omega
end Go.Proofs
