/- The walks of the functions of the graph: what each of them computes,at any input. -/
import Derived.Test.YthpfckdllencmaaGreatB1
import Derived.Test.YthpfckdllencmaaGreatB3
import Derived.Test.YthpfckdllencmaaGreatB2
set_option maxRecDepth 100000
set_option autoImplicit false
set_option linter.unusedVariables false
set_option linter.unusedSimpArgs false
namespace Go.Proofs
open Go.XL
theorem sJ : nB Tryz.prog 27 = some [.int .i64 0]:=zK
theorem ze_91 : nB Tryz.prog 91 = some [.slice none 0 0]:=zK
theorem tree_fn (a : Option Addr) (c : Nat) (m : Tb) (H : Hp) (hs : SlR tbR H a c m) (hl : m.length < 9223372036854775808) : iP Tryz.prog 11 #[.slice a m.length c] H [] (eQ (fun v H2 own=>own = [] ∧ aUy m H2 v)):=by
 refine iP.introD (args:=[.slice a m.length c]) Tryz.func11 rfl rfl Tryz.ntmps11 rfl rfl rfl fun G rest=>?_;refine zS ?_;refine zG rfl ?_;refine zG rfl ?_;refine fI sJ rfl (fun b4=>?_);refine zN ?_;refine zS ?_;refine mL (L:=[_]) rfl rfl rfl rfl rfl (fun msD rest hrest=>?_);simp only [fP,gN];refine zN ?_;refine zS ?_;refine zM rfl ?_;refine fH rfl (aQf _ _ m _ hs hl) rfl ?_;by_cases hck : qV m = 0
 ·refine fH rfl (aSb _ hck _) rfl ?_;have hok:=aI2.1 hck;have hwm:=aF5 hok;have hlm:=hok.1;refine zN (zS (aF9 (σ:=[]) (fun ba=>fI ze_91 rfl (fun b5=>jM (gW _ _ _) (zN (zS (zM rfl (XO.makeFunc1 rfl rfl rfl (aF9 (σ:=[]) (fun b0=>kK [] (nQ:=[_,_,_]) rfl (aPr a none c 0 (b0,.nothing) m [] _ [(ba,.nothing),(b5,.cells 91 [.slice none 0 0])] (aXy b5) _ hs hok (Acc.nil _ _ _ _) zD trivial (add_cb b5 _) ⟨_,none,0,rfl,Acc.nil _ _ _ _⟩) rfl rfl ?_))))))))));rintro _ HG oG sB ⟨bf,up,d,oc2,rfl,hF,⟨pa2,a2,c2,rfl,hacc2⟩,rfl⟩;replace hs:=hs.mono sB;refine zG rfl (zN (cO (eU [4,5,6] rfl ?_)));apply pI 8 [gC _,gC _,gC _,gC _,gC _,gC _,gC _,gC _] follows zK zK ⟨aH _,aH _,aH _,aH _,aH _,aH _,aH _,aH _,trivial⟩ ?steps2 ?tail2
  case steps2 =>
   refine dF rfl ?_ ?_
   ·intro X;exact aF rfl (bJ rfl aOw rfl zQ)
   refine dF rfl ?_ ?_
   ·intro X;exact gL rfl (aF rfl (bT 3 rfl rfl aVe rfl rfl rfl zQ))
   refine dF rfl ?_ ?_
   ·intro X;exact aF rfl (zM rfl zQ)
   refine dF rfl ?_ ?_
   ·intro X;exact gL rfl (aF rfl (iB rfl rfl zQ))
   refine dF rfl ?_ ?_
   ·intro X;exact gL rfl (aF rfl (bJ rfl aI7 rfl zQ))
   refine dF rfl ?_ ?_
   ·intro X;exact gL rfl (aF rfl (xP 0 rfl rfl gK aHr rfl zQ))
   refine dF rfl ?_ ?_
   ·intro X;exact gL rfl (aF rfl (yA rfl zQ))
   refine dF rfl ?_ ?_
   ·intro X;exact gL rfl (aF rfl (zG rfl zQ))
   exact jH rfl
  case tail2 =>
   refine gL rfl (gL rfl (gL rfl (gL rfl (gL rfl (gL rfl (gL rfl (gL rfl (aF rfl (zG rfl (eG 4 rfl rfl rfl rfl jZ rfl rfl rfl rfl rfl (zN (uU 2 rfl hacc2 rfl (fun HQ4 hleQ4 hsQ4=>?_)))))))))))));replace hs:=hs.mono hleQ4;refine eP (jO 3 (L:=[_,_,_,_]) rfl hrest rfl ((xL _ _ _).mono (fun u2 HE own2 lF hD=>?_)));obtain ⟨h1,h2⟩:=hD;subst h2;replace hs:=hs.mono lF;replace hsQ4:=hsQ4.mono lF;refine ⟨by subst h1;rfl,_,_,rfl,(mM rfl (mM rfl (fN 0 rfl rfl jZ rfl rfl iD))),eQ.mk ?_⟩;exact ⟨rfl,fun h=>absurd hck h,fun _=>⟨_,_,by assumption,rfl⟩⟩
 refine sO rfl (aPs _ hck _) rfl (fun HB pZ=>pV (jO 0 (L:=[_]) rfl hrest rfl ((aJ3 _ _ _ _).mono (fun u2 HE own2 lF hD=>?_))));obtain ⟨h1,h2⟩:=hD;subst h2;refine ⟨h1,_,_,rfl,(mM rfl (mM rfl (fN 0 rfl rfl jZ rfl rfl iD))),eQ.mk ?_⟩;exact ⟨rfl,fun _=>rfl,fun h=>absurd h hck⟩
end Go.Proofs

namespace Go.Proofs
open Go.XL
end Go.Proofs

namespace Go.Proofs
open Go.XL
def oY (n : Nat) : Nat → List Int → Nat → List (List Int)
 | 0,l,_=>[l]
 | k + 1,l,f=>(List.range' f (n - f)).flatMap fun j=>oY n k (l ++ [((j : Nat) : Int)]) (j + 1)
def vL (n k : Nat) (l : List Int) (f i : Nat) : List (List Int):=(List.range' f i).flatMap fun j=>oY n k (l ++ [((j : Nat) : Int)]) (j + 1)
theorem aIc (n k : Nat) (l : List Int) (f : Nat) : oY n (k + 1) l f = vL n k l f (n - f):=rfl
theorem aDf (n k : Nat) (l : List Int) (f i : Nat) : vL n k l f (i + 1) = vL n k l f i ++ oY n k (l ++ [((f + i : Nat) : Int)]) (f + i + 1):=by
 simp [vL,List.range'_concat]
theorem aMj (n k : Nat) (l : List Int) (f i : Nat) : ∀ d : Nat,∃ post,vL n k l f (i + d) = vL n k l f i ++ post
 | 0=>⟨[],by simp⟩
 | d + 1=>by
  obtain ⟨post,h⟩:=aMj n k l f i d;exact ⟨post ++ oY n k (l ++ [((f + (i + d) : Nat) : Int)]) (f + (i + d) + 1),by rw [← Nat.add_assoc,aDf,h,eM]⟩
theorem listsU_split {n k : Nat} {l : List Int} {f i m : Nat} (h : i < m) : ∃ post,vL n k l f m = vL n k l f i ++ (oY n k (l ++ [((f + i : Nat) : Int)]) (f + i + 1) ++ post):=by
 obtain ⟨post,h2⟩:=aMj n k l f (i + 1) (m - (i + 1));rw [show i + 1 + (m - (i + 1)) = m by omega,aDf,eM] at h2;exact ⟨post,h2⟩
abbrev BI:=(Nat × SObj) × Option Addr × Nat
abbrev aT9 (H : Hp) (p : Nat × SObj) (a : Option Addr) (c : Nat) (l : List Int) : Prop:=XL.Acc (gV .i64) 3 H p a c l
def aW9 (x : List Int) (b : BI) : List Value:=[.slice b.2.1 x.length b.2.2]
def aTl (x : List Int) (b : BI) (H : Hp) (o : XL.Own) : Prop:=o = [b.1] ∧ aT9 H b.1 b.2.1 b.2.2 x
def pt (b : Nat) : Value:=.pointer (some ⟨b,0,none⟩)
def aW3 (bl bmany bn bfrom : Nat) : Value:=.func (.func 74) #[] #[pt bl,pt bmany,pt bn,pt bfrom]
def aCn (w : Nat) : Nat → List (List Int)
 | 0=>[]
 | k + 1=>aCn w k ++ oY w k [] 0
def aLp (m : Tb) (o : List Int) : Bool:=decide ((1 : Int) < (qE m o).p)
def aW5 (m : Tb) (t : Int) (H : Hp) (v : Value) : Prop :=
 (qV m ≠ 0 → v = .tuple #[.slice none 0 0,.bool false,.int .i64 (qV m)]) ∧
 (qV m = 0 → (t < 0 ∨ 3 < t) → v = .tuple #[.slice none 0 0,.bool false,.int .i64 1]) ∧
 (∀ T : Nat,t = T → qV m = 0 → T ≤ 3 → (∀ o,(aCn (lA m) (T + 1)).find? (aLp m) = some o → ∃ a c,SlR (gV .i64) H a c o ∧ v = .tuple #[.slice a o.length c,.bool true,.int .i64 0]) ∧
  ((aCn (lA m) (T + 1)).find? (aLp m) = none → v = .tuple #[.slice none 0 0,.bool false,.int .i64 0]))
theorem find_first {α : Type} {p : α → Bool} {A B : List α} {x : α} (h : ∀ y ∈ A,p y = false) (hx : p x = true) : (A ++ x :: B).find? p = some x:=by
 rw [List.find?_append,List.find?_eq_none.2 (fun y hy=>by simp [h y hy])];simp [hx]
theorem find_lists {α : Type} {p : α → Bool} {A pre post q : List α} {x : α} (h : ∀ y ∈ A,p y = false) (h2 : ∀ y ∈ pre,p y = false) (hx : p x = true) : (A ++ ((pre ++ x :: post) ++ q)).find? p = some x:=by
 have:=find_first (A:=A ++ pre) (B:=post ++ q) (fun y hy=>(gM.1 hy).elim (h y) (h2 y)) hx;simpa using this
theorem allL_split {w i T : Nat} (h : i ≤ T) : ∃ post,aCn w (T + 1) = aCn w i ++ (oY w i [] 0 ++ post):=by
  induction T with
  | zero=>obtain rfl : i = 0:=zO
          exact ⟨[],by simp [aCn]⟩
  | succ T ih =>
    by_cases hi : i = T + 1
    · subst hi;exact ⟨[],by simp [aCn]⟩
    obtain ⟨post,e⟩:=ih zO;exact ⟨post ++ oY w (T + 1) [] 0,by rw [aCn,e];simp⟩
theorem aKg {n : Nat} : ∀ {k : Nat} {l : List Int} {f : Nat} {o : List Int},o ∈ oY n k l f → o.length = l.length + k
 | 0,l,f,o,h=>by simp [oY] at h;subst h;rfl
 | k + 1,l,f,o,h=>by
  rw [oY,List.mem_flatMap] at h;obtain ⟨j,_,h⟩:=h;have:=aKg h;simp at this;omega
end Go.Proofs

namespace Go.Proofs
open Go.XL
theorem aCl : Nat.ble (Tryz.prog.bytesOf 3) 4096 = true:=zK
theorem aRb : tP Tryz.prog 132 1 false = true:=zK
theorem gE : tP Tryz.prog 30 1 false = true:=zK
theorem ze_132 : nB Tryz.prog 132 = some [.nilFunc]:=zK
theorem rV : nB Tryz.prog 3 = some [.int .i64 0]:=zK
theorem aGe : nB Tryz.prog 30 = some [.slice none 0 0]:=zK
theorem aQd : nB Tryz.prog 4 = some [.bool false]:=zK
theorem clone_fn (a : Option Addr) (c : Nat) (l : List Int) (H : Hp) (hs : SlR (gV .i64) H a c l) (hl : l.length < 1000000) : iP Tryz.prog 36 #[.slice a l.length c] H [] (eQ (fun v H2 _=>∃ a2 c2,v = .slice a2 l.length c2 ∧ SlR (gV .i64) H2 a2 c2 l)):=by
 refine iP.intro (args:=[.slice a l.length c]) Tryz.func36 rfl rfl Tryz.ntmps36 rfl rfl rfl fun G rest=>?_;refine zS ?_;refine zG rfl ?_;refine zN ?_;refine cO ?_;refine zS ?_;refine zM rfl ?_;refine XO.eqlNil rfl bK rfl ?_;refine zN ?_;refine mN rfl (fun qK=>?_) (fun qK=>?_)
 ·have ha:=Option.isNone_iff_eq_none.1 qK
  obtain rfl : l = []:=by
   cases l with
   | nil=>rfl
   | cons x r=>obtain ⟨b,o,h⟩:=hs.addr zP;rw [ha] at h;cases h
  refine zS (zG rfl (zN (eP (fD ?_))));refine ⟨rfl,_,[],rfl,zA,eQ.mk ?_⟩;exact ⟨_,_,rfl,SlR.nil0 _ _⟩
 refine eF (bO (zS (yO (ρ:=(gV .i64)) (l:=[]) rfl bK gK rV rfl rfl rfl rfl rfl (fun p5 a5 c5 hacc5=>zM rfl (iV 0 rfl rfl hacc5 rfl rfl hs rfl bK gK rV rfl aCl zI rfl (fun p7 a7 c7 hacc7=>iO 0 rfl hacc7 rfl (fun HQ4 hleQ4 hsQ4=>?_)))))));replace hs:=hs.mono hleQ4;refine zG rfl (zN (eP ?_));refine ⟨rfl,_,[],rfl,zA,eQ.mk ?_⟩;exact ⟨_,_,rfl,by assumption⟩
theorem from_all (n many : Nat) (hn : n ≤ 1000) (hm : many ≤ 1000) (bl bmany bn bfrom : Nat) (H0 : Hp) (hbm : rC H0 bmany 0 [.int .i64 (many : Nat)]) (hbn : rC H0 bn 0 [.int .i64 (n : Nat)]) (hbf : rC H0 bfrom 0 [aW3 bl bmany bn bfrom]) (yv : Value) (xs : List (List Int)) (J : JS (List Int)) (K : Hp → XL.Own → Prop) (hy : YOk Tryz.prog yv H0 aW9 aTl xs J K) :
 ∀ (k : Nat) (l : List Int) (f : Nat) (pre post : List (List Int)) (pd : Nat × SObj) (a : Option Addr) (c : Nat) (oc : XL.Own) (H : Hp),LeW H0 H → f ≤ 1000 → l.length + k = many → xs = pre ++ (oY n k l f ++ post) → aT9 H pd a c l → J.Holds pre H oc →
 iP Tryz.prog 74 #[.int .i64 (f : Nat),yv,.pointer (some ⟨bl,0,none⟩),.pointer (some ⟨bmany,0,none⟩),.pointer (some ⟨bn,0,none⟩),.pointer (some ⟨bfrom,0,none⟩)] H (pd :: (bl,.cells 30 [.slice a (l).length c]) :: oc) (eQ fun v H2 own2=>(v = .bool true ∧ ∃ pd2 a2 c2 oc2,own2 = pd2 :: (bl,.cells 30 [.slice a2 (l).length c2]) :: oc2 ∧ aT9 H2 pd2 a2 c2 l ∧ J.Holds (pre ++ oY n k l f) H2 oc2) ∨ (v = .bool false ∧ K H2 own2)):=by
 intro k;refine Nat.strongRecOn k ?_;clear k;intro k ih l f pre post pd a c oc H hH hf1 hlk hxs hacc hS;replace hbm:=hbm.mono hH;replace hbn:=hbn.mono hH;replace hbf:=hbf.mono hH;refine iP.intro (args:=[.int .i64 (f : Nat),yv,.pointer (some ⟨bl,0,none⟩),.pointer (some ⟨bmany,0,none⟩),.pointer (some ⟨bn,0,none⟩),.pointer (some ⟨bfrom,0,none⟩)]) Tryz.func74 rfl rfl Tryz.ntmps74 rfl rfl rfl fun G rest=>?_;refine zS ?_;refine zG rfl ?_;refine zN ?_;refine cO ?_;refine zS ?_;refine bT 1 rfl rfl gE rfl rfl rfl ?_;refine eD (ts:=#[]) rfl bK rfl ?_;refine eH rfl (by assumption) gK rfl rfl rfl ?_;refine zZ rfl ?_;refine zN ?_;refine fC rfl (fun nY=>?_) (fun nY=>?_)
 ·obtain rfl : k = 0:=zO
  refine zS (zM rfl (bT 1 rfl rfl gE rfl rfl rfl (jM (gW _ _ _) (qQ [_] rfl trivial rfl (hy pre l post hxs (pd,a,c) _ [pd] oc hH hS ⟨rfl,hacc⟩) rfl rfl ?_))));rintro _ HC oC qA (⟨rfl,oc2,rfl,hS2⟩ | ⟨rfl,hK⟩)
  ·refine jM (gW _ _ _) ?_;replace hacc:=hacc.mono qA;refine zG rfl (zN (eP (fD ?_)));refine ⟨rfl,_,(_ :: _ :: oc2),rfl,zB,eQ.mk ?_⟩;exact Or.inl ⟨rfl,pd,a,c,oc2,rfl,hacc,hS2⟩
  replace hH:=hH.mono qA
  skip
  refine zG rfl (zN (eP (fD ?_)));refine ⟨rfl,_,oC,rfl,zB,eQ.mk ?_⟩;exact Or.inr ⟨rfl,hK⟩
 obtain ⟨k,rfl⟩ : ∃ q,k = q + 1:=⟨k - 1,zO⟩
 refine eF (bO (cO (zS (zM rfl (zG rfl (zN (dK (eU [9,1,2,4,5] rfl (gO (base:=[(1,_),(2,_),(4,_),(5,_)]) (fun ζ : Nat × (Nat × SObj) × (Option Addr) × (Nat) × (XL.Own)=>[(9,.int .i64 ((f + ζ.1 : Nat) : Int))]) (fun ζ Hl own=>ζ.1 ≤ (n - f) ∧ ζ.2.1 :: (bl,.cells 30 [.slice ζ.2.2.1 (l).length ζ.2.2.2.1]) :: (ζ.2.2.2.2 ++ rest) = own ∧ (aT9 Hl ζ.2.1 ζ.2.2.1 ζ.2.2.2.1 l) ∧ (J.Holds (pre ++ vL n k l f ζ.1) Hl ζ.2.2.2.2)) (fun ζ=>(n - f) - ζ.1) (0,pd,a,c,oc) (zC) zB ⟨eS _,rfl,hacc,by simpa [vL] using hS⟩ ?_)))))))));rintro ⟨i,pd,a,c,oc⟩ Hl0 _ gB ⟨hki,rfl,hacc,hS⟩;replace hH:=hH.mono gB;replace hbm:=hbm.mono gB;replace hbn:=hbn.mono gB;replace hbf:=hbf.mono gB;try dsimp only at hki hacc hS ⊢
 refine cO (zS (zM rfl (eH rfl (by assumption) gK rfl rfl rfl (zL rfl (zN (fC rfl (fun c1_2=>?_) (fun c1_2=>?_)))))))
 ·refine eF (bO (cO (dK (zS (bT 1 rfl rfl gE rfl rfl rfl (zM rfl (fS rfl bK gK rV rfl rfl rfl (fun b25=>fT 0 rfl rfl rfl (fun HP25 oP25 sX hbP25 hoP25=>?_)))))))));have hsl25:=SlR.lit (ρ:=(gV .i64)) (l:=[((f + i : Nat) : Int)]) hbP25 hoP25 (iH.one1 rfl);replace hH:=hH.mono sX;replace hbm:=hbm.mono sX;replace hbn:=hbn.mono sX;replace hbf:=hbf.mono sX;replace hacc:=hacc.mono sX;replace hS:=hS.mono sX;replace gB:=gB.trans sX;refine iV 0 rfl rfl hacc rfl rfl hsl25 rfl bK gK rV rfl aCl zI rfl (fun p26 a26 c26 hacc26=>eG 1 rfl rfl rfl rfl gE rfl rfl rfl rfl rfl (zN (cO (zS (eH rfl (by assumption) aRb rfl rfl rfl (zM rfl (fR (c:=((f + i + 1 : Nat) : Int)) rfl rfl ((dT zO zO).trans zO) rfl (zM rfl ?_))))))));obtain ⟨post2,hsp⟩:=listsU_split (n:=n) (k:=k) (l:=l) (f:=f) (show i < n - f by omega);have hxs2 : xs = (pre ++ vL n k l f i) ++ (oY n k (l ++ [((f + i : Nat) : Int)]) (f + i + 1) ++ (post2 ++ post)):=by rw [hxs,aIc,hsp];simp only [eM]
  refine qQ [] rfl trivial rfl (wH.of_fn (cap:=[.pointer (some ⟨bl,0,none⟩),.pointer (some ⟨bmany,0,none⟩),.pointer (some ⟨bn,0,none⟩),.pointer (some ⟨bfrom,0,none⟩)]) (args:=[_,_]) (ih k zO (l ++ [((f + i : Nat) : Int)]) (f + i + 1) (pre ++ vL n k l f i) _ p26 a26 c26 oc _ hH zO zI hxs2 hacc26 hS)) rfl rfl ?_;rintro _ HC oC qA (⟨rfl,pd2,a2,c2,oc2,rfl,hacc2,hS2⟩ | ⟨rfl,hK⟩)
  ·skip
   replace gB:=gB.trans qA;refine lB rfl rfl (zN (gD rfl rfl (eF (bO (dL (bT 1 rfl rfl gE rfl rfl rfl (bT 1 rfl rfl gE rfl rfl rfl (eD (ts:=#[]) rfl bK rfl (lK (c:=((l.length : Nat) : Int)) rfl rfl ((dT (by simp only [fQ,jL,List.length_nil];omega) (by simp only [fQ,jL,List.length_nil];omega)).trans zP) rfl (XO.sliceA 0 (n:=l.length) rfl rfl rfl hacc2 zP bK gK rfl (fun p37 hacc37=>?_)))))))))));simp only [List.take_left] at hacc37 ⊢;refine eG 1 rfl rfl rfl rfl gE rfl rfl rfl rfl rfl (bF (fY (bO (dL (zM rfl (fR rfl rfl (dT zO zO) rfl (zG rfl (bF (eW ((i + 1,p37,a2,c2,oc2)) (by show (n - f) - (i + 1) < (n - f) - i;omega) (zC) (⟨by show i + 1 ≤ (n - f);omega,rfl,hacc37,by rw [aDf,← eM];exact hS2⟩) zB (gB))))))))))
  skip
  refine lB rfl rfl (zN (jB rfl rfl (zS (zG rfl (zN (eP (fD (iS (fD (jR (iS (fD ?_))))))))))));refine ⟨rfl,_,oC,rfl,zB,eQ.mk ?_⟩;exact Or.inr ⟨rfl,hK⟩
 obtain rfl : i = n - f:=zO
 rw [← aIc] at hS;refine gI (fE (eY (fU rfl (bO (zS (zG rfl (zN (eP ?_))))))));refine ⟨rfl,_,(_ :: _ :: oc),rfl,zB,eQ.mk ?_⟩;exact Or.inl ⟨rfl,pd,a,c,oc,rfl,hacc,hS⟩
theorem each_fn (n many : Nat) (hn : n ≤ 1000) (hm : many ≤ 1000) (bl bmany bn bfrom : Nat) (H : Hp) (hbm : rC H bmany 0 [.int .i64 (many : Nat)]) (hbn : rC H bn 0 [.int .i64 (n : Nat)]) (hbf : rC H bfrom 0 [aW3 bl bmany bn bfrom]) (pd : Nat × SObj) (a : Option Addr) (c : Nat) (hacc : aT9 H pd a c []) : aWb Tryz.prog 75 [pt bfrom] H [pd,(bl,.cells 30 [.slice a 0 c])] aW9 aTl (oY n many [] 0):=by
 intro yv J K oc hy hS;refine iP.intro (args:=[yv,.pointer (some ⟨bfrom,0,none⟩)]) Tryz.func75 rfl rfl Tryz.ntmps75 rfl rfl rfl fun G rest=>?_;refine dL ?_;refine eH rfl (by assumption) aRb rfl rfl rfl ?_;refine zM rfl ?_;refine qQ [] rfl trivial rfl (wH.of_fn (cap:=[.pointer (some ⟨bl,0,none⟩),.pointer (some ⟨bmany,0,none⟩),.pointer (some ⟨bn,0,none⟩),.pointer (some ⟨bfrom,0,none⟩)]) (args:=[_,_]) (from_all n many hn hm bl bmany bn bfrom H hbm hbn hbf yv (oY n many [] 0) J K hy many [] 0 [] [] pd a c oc _ (Le.refl _) zO zP zP hacc hS)) rfl rfl ?_;rintro _ HC oC qA (⟨rfl,pd2,a2,c2,oc2,rfl,hacc2,hS2⟩ | ⟨rfl,hK⟩)
 ·skip
  refine bF ?_;refine ⟨rfl,_,(_ :: _ :: oc2),rfl,zB,eQ.mk ?_⟩;exact ⟨rfl,[_,_],oc2,rfl,Or.inl (by simpa using hS2)⟩
 skip
 refine bF ?_;refine ⟨rfl,_,oC,rfl,zB,eQ.mk ?_⟩;exact ⟨rfl,[],oC,rfl,Or.inr hK⟩
theorem lists_fn (n many : Nat) (hn : n ≤ 1000) (hm : many ≤ 1000) (H : Hp) : iP Tryz.prog 32 #[.int .i64 (n : Nat),.int .i64 (many : Nat)] H [] (eQ (fun v H2 own=>∃ bfrom bl pd a c,v = .func (.func 75) #[] #[pt bfrom] ∧ own = [pd,(bl,.cells 30 [.slice a 0 c])] ∧ aWb Tryz.prog 75 [pt bfrom] H2 [pd,(bl,.cells 30 [.slice a 0 c])] aW9 aTl (oY n many [] 0))):=by
 refine iP.intro (args:=[.int .i64 (n : Nat),.int .i64 (many : Nat)]) Tryz.func32 rfl rfl Tryz.ntmps32 rfl rfl rfl fun G rest=>?_;refine zS ?_;refine iW rfl rfl rfl (fun b2=>?_);refine iW rfl rfl rfl (fun b3=>?_);refine fT 1 rfl rfl rfl (fun HK2 oK2 pE aFw aFx=>?_);have qU:=rC.of_is aFw aFx;refine fT 0 rfl rfl rfl (fun HK3 oK3 rH aDr aDs=>?_);have aCo:=rC.of_is aDr aDs;replace qU:=qU.mono rH;refine zG rfl ?_;refine zN ?_;refine zS ?_;refine eH rfl (by assumption) gK rfl rfl rfl ?_;refine XO.makeCap (ρ:=gV .i64) rfl rfl bK gK rV rfl aCl zO rfl (fun p8 hacc8=>?_);refine fI aGe rfl (fun b5=>?_);refine eG 0 rfl rfl rfl rfl gE rfl rfl rfl rfl rfl ?_;refine zN ?_;refine zS ?_;refine fI ze_132 rfl (fun b6=>?_);refine zN ?_;refine zS ?_;refine mA rfl rfl ?_;refine eG 0 rfl rfl rfl rfl aRb rfl rfl rfl rfl rfl ?_;refine zN ?_;refine zS ?_;refine fT 0 rfl rfl rfl (fun HK6 oK6 hleK6 hbK6 hoK6=>?_);have hpK6:=rC.of_is hbK6 hoK6;replace qU:=qU.mono hleK6;replace aCo:=aCo.mono hleK6;replace hacc8:=hacc8.mono hleK6;refine jM (gW _ _ _) ?_;refine mA rfl rfl ?_;refine zG rfl ?_;refine zN ?_;refine eP ?_;refine ⟨rfl,_,[_,_],rfl,zA,eQ.mk ?_⟩;exact ⟨b6,b5,p8,_,many,rfl,rfl,each_fn n many hn hm b5 b3 b2 b6 _ aCo qU hpK6 _ _ _ hacc8⟩
theorem resist_fn (a : Option Addr) (c : Nat) (m : Tb) (H : Hp) (hs : SlR tbR H a c m) (hl : m.length < 9223372036854775808) (t : Int) (ht : -9223372036854775808 ≤ t ∧ t ≤ 9223372036854775807) : iP Tryz.prog 10 #[.slice a m.length c,.int .i64 t] H [] (eQ (fun v H2 own=>own = [] ∧ aW5 m t H2 v)):=by
 refine iP.introD (args:=[.slice a m.length c,.int .i64 t]) Tryz.func10 rfl rfl Tryz.ntmps10 rfl rfl rfl fun G rest=>?_;refine zS ?_;refine iW rfl rfl rfl (fun b2=>?_);refine fT 0 rfl rfl rfl (fun HK2 oK2 pE aFw aFx=>?_);have qU:=rC.of_is aFw aFx;replace hs:=hs.mono pE;refine fI aGe rfl (fun b4=>?_);refine fI aQd rfl (fun b5=>?_);refine fI sJ rfl (fun b6=>?_);refine zN ?_;refine zS ?_;refine mL (L:=[_,_,_]) rfl rfl rfl rfl rfl (fun msD rest hrest=>?_);simp only [fP,gN];refine zN ?_;refine zS ?_;refine eH rfl (by assumption) aIb rfl rfl rfl ?_;refine fH rfl (aQf _ _ m _ hs hl) rfl ?_;by_cases hck : qV m = 0
 ·refine fH rfl (aSb _ hck _) rfl ?_;have hok:=aI2.1 hck;have hwm:=aF5 hok;have hlm:=hok.1;refine zN (cO (zS (zM rfl (zL rfl (zM rfl (iM rfl rfl rfl rfl (fun g2=>?_) (fun g2=>?_)))))))
  ·have g2p:=fM g2;refine zM rfl (zT rfl g2 (zY rfl (zW g2 rfl (zN (fC rfl (fun c0_3=>?_) (fun c0_3=>?_))))))
   ·refine zS (eG 2 rfl rfl rfl rfl gE rfl rfl rfl rfl rfl (eG 1 rfl rfl rfl rfl oA rfl rfl rfl rfl rfl (eG 0 rfl rfl rfl rfl jZ rfl rfl rfl rfl rfl (zN (eP (fD (jO 0 (L:=[_,_,_]) rfl hrest rfl ((xL _ _ _).mono (fun u2 HE own2 lF hD=>?_)))))))));obtain ⟨h1,h2⟩:=hD;subst h2;refine ⟨by subst h1;rfl,_,_,rfl,(fN 2 rfl rfl gE rfl rfl (fN 1 rfl rfl oA rfl rfl (fN 0 rfl rfl jZ rfl rfl iD))),eQ.mk ?_⟩;exact ⟨rfl,fun h=>absurd hck h,fun _ _=>rfl,fun T hT _ h3=>zO⟩
   obtain ⟨T,rfl⟩ : ∃ T : Nat,t = T:=⟨t.toNat,zO⟩
   refine eF (bO (cO (zS (zM rfl (fR rfl rfl (dT zO zO) rfl (zM rfl (zN (dK (eU [20,2,4,5,6,19] rfl (gO (base:=[(2,_),(4,_),(5,_),(6,_),(19,_)]) (fun ζ : Nat=>[(20,.int .i64 (ζ : Nat))]) (fun ζ Hl own=>ζ ≤ (T + 1) ∧ (b6,.cells 27 [.int .i64 0]) :: (b5,.cells 4 [.bool false]) :: (b4,.cells 30 [.slice none 0 0]) :: rest = own ∧ (∀ o ∈ aCn (lA m) ζ,aLp m o = false)) (fun ζ=>(T + 1) - ζ) 0 (zC) zB ⟨eS _,rfl,by simp [aCn]⟩ ?_))))))))));rintro i Hl0 _ gB ⟨hki,rfl,hno⟩;replace hs:=hs.mono gB;replace qU:=qU.mono gB;try dsimp only at ⊢
   refine zS (zL rfl (zN (cO (fC rfl (fun aCc=>?_) (fun aCc=>?_)))))
   ·refine eF (bO (cO (dK (zS (zM rfl (zG rfl (zN (zS (eH rfl (by assumption) aIb rfl rfl rfl (fH rfl (aNg _ _ m _ hs zO) rfl (zM rfl ?_)))))))))));have hcall26:=lists_fn (lA m) i zO zO Hl0;refine kK [] (nQ:=[]) rfl hcall26 rfl rfl ?_;rintro _ HL oL jQ ⟨bfrom,bl,pd,aL,cL,rfl,rfl,hseq⟩;replace hs:=hs.mono jQ;replace qU:=qU.mono jQ;replace gB:=gB.trans jQ;refine zN (dK (eU [2,4,5,6,19,20,26] rfl (aAa (lend:=aTl) rfl hseq (fun _ _=>rfl) rfl rfl (fun pre Hl own=>(b6,.cells 27 [.int .i64 0]) :: (b5,.cells 4 [.bool false]) :: (b4,.cells 30 [.slice none 0 0]) :: rest = own ∧ ∀ o ∈ pre,aLp m o = false) (fun c Hl own=>c = .ret ∧ ∃ o a c,(b6,.cells 27 [.int .i64 0]) :: (b5,.cells 4 [.bool true]) :: (b4,.cells 30 [.slice a o.length c]) :: rest = own ∧ SlR (gV .i64) Hl a c o ∧ (aCn (lA m) (T + 1)).find? (aLp m) = some o) (fun _ _ _ _ _ h=>h) (⟨rfl,by simp⟩) (.inl rfl) ?_ ?_ ?_)))
    ·rintro G lp hd1 hd2 hrec pre x post hxs ⟨px,ax,cx⟩ Hl _ ownL jQ ⟨rfl,hno2⟩ ⟨rfl,haccL⟩;have hxl : x.length ≤ 4:=by have:=aKg (show x ∈ oY (lA m) i [] 0 by rw [hxs];simp);simp at this;omega
     replace hs:=hs.mono jQ;replace qU:=qU.mono jQ;refine dL (zG rfl (bF (tS (dK (zS (eH rfl (by assumption) aIb rfl rfl rfl (zM rfl (kK [] (nQ:=[_]) rfl (aPr a ax c cx px m x _ [] aXu _ hs hok haccL zO trivial (nop41_cb _) rfl) rfl rfl ?_))))))));rintro _ HG oG sB ⟨bf,up,d,oc2,rfl,hF,hoc2,rfl⟩;obtain rfl : oc2 = []:=hoc2;replace hs:=hs.mono sB;replace qU:=qU.mono sB;replace haccL:=haccL.mono sB;refine iB rfl rfl (bJ rfl aI7 rfl (xP 0 rfl rfl gK aHr rfl (zY rfl (zN (fC rfl (fun c2_8=>?_) (fun c2_8=>?_))))))
     ·refine zS (zM rfl (iO 1 rfl haccL rfl (fun HQ10 hleQ10 hsQ10=>?_)));replace hs:=hs.mono hleQ10;replace qU:=qU.mono hleQ10;refine eZ rfl (clone_fn _ _ x _ hsQ10 zO) rfl ?_;rintro _ HC36 hleC36 ⟨a36,c36,rfl,hs36⟩;replace hs:=hs.mono hleC36;replace qU:=qU.mono hleC36;replace hsQ10:=hsQ10.mono hleC36;refine eG 3 rfl rfl rfl rfl gE rfl rfl rfl rfl rfl (eG 2 rfl rfl rfl rfl oA rfl rfl rfl rfl rfl (eG 1 rfl rfl rfl rfl jZ rfl rfl rfl rfl rfl (zN (eP (iS ?_)))));refine ⟨rfl,((b6,.cells 27 [.int .i64 0]) :: (b5,.cells 4 [.bool true]) :: (b4,.cells 30 [.slice a36 x.length c36]) :: rest),zA,?_⟩;exact ⟨rfl,x,a36,c36,rfl,hs36,by obtain ⟨post2,e⟩:=allL_split (w:=lA m) (show i ≤ T by omega);rw [e,hxs];exact find_lists hno hno2 (bG (by assumption))⟩
     refine eF (fY ?_);refine ⟨rfl,(px :: (b6,.cells 27 [.int .i64 0]) :: (b5,.cells 4 [.bool false]) :: (b4,.cells 30 [.slice none 0 0]) :: rest),zA,?_⟩;exact ⟨_,rfl,rfl,fun o ho=>(gM.1 ho).elim (hno2 o) (fun h=>by simp only [lW] at h;subst h;exact aI (by assumption))⟩
    ·rintro Hl ownL jQ ⟨rfl,hno2⟩;replace gB:=gB.trans jQ;refine fY (fY (bO (dL (fR rfl rfl (dT zO zO) rfl (zM rfl (bF (eW (i + 1) (by show (T + 1) - (i + 1) < (T + 1) - i;omega) (zC) (⟨by show i + 1 ≤ (T + 1);omega,rfl,fun o ho=>(gM.1 ho).elim (hno o) (hno2 o)⟩) zB (gB))))))))
    rintro _ Hl ownL jQ ⟨rfl,o,ao,co,rfl,hso,hfind⟩;refine eP (iS (iS (fD (jR (iS (fD (jO 0 (L:=[_,_,_]) rfl hrest rfl ((xL _ _ _).mono (fun u2 HE own2 lF hD=>?_)))))))));obtain ⟨h1,h2⟩:=hD;subst h2;replace hso:=hso.mono lF;refine ⟨by subst h1;rfl,_,_,rfl,(fN 2 rfl rfl gE rfl rfl (fN 1 rfl rfl oA rfl rfl (fN 0 rfl rfl jZ rfl rfl iD))),eQ.mk ?_⟩
    exact ⟨rfl,fun h=>absurd hck h,fun _ h=>zO,fun T2 hT _ _=>by
     obtain rfl : T2 = T:=zO
     exact ⟨fun o2 h2=>(by rw [hfind] at h2;cases h2;exact ⟨_,_,hso,rfl⟩),fun h2=>(by rw [hfind] at h2;cases h2)⟩⟩
   obtain rfl : i = T + 1:=zO
   refine gI (fE (eY (fU rfl (bO (zS (eG 2 rfl rfl rfl rfl gE rfl rfl rfl rfl rfl (eG 1 rfl rfl rfl rfl oA rfl rfl rfl rfl rfl (eG 0 rfl rfl rfl rfl jZ rfl rfl rfl rfl rfl (zN (eP (jO 0 (L:=[_,_,_]) rfl hrest rfl ((xL _ _ _).mono (fun u2 HE own2 lF hD=>?_)))))))))))));obtain ⟨h1,h2⟩:=hD;subst h2;refine ⟨by subst h1;rfl,_,_,rfl,(fN 2 rfl rfl gE rfl rfl (fN 1 rfl rfl oA rfl rfl (fN 0 rfl rfl jZ rfl rfl iD))),eQ.mk ?_⟩
   exact ⟨rfl,fun h=>absurd hck h,fun _ h=>zO,fun T2 hT _ _=>by
    obtain rfl : T2 = T:=zO
    exact ⟨fun o2 h2=>(by have:=List.find?_some h2;rw [hno o2 (List.mem_of_find?_eq_some h2)] at this;cases this),fun _=>rfl⟩⟩
  have g2p:=eT g2;refine zU rfl g2 (zV g2 rfl (zN (jB rfl rfl (zS (eG 2 rfl rfl rfl rfl gE rfl rfl rfl rfl rfl (eG 1 rfl rfl rfl rfl oA rfl rfl rfl rfl rfl (eG 0 rfl rfl rfl rfl jZ rfl rfl rfl rfl rfl (zN (eP (fD (jO 0 (L:=[_,_,_]) rfl hrest rfl ((xL _ _ _).mono (fun u2 HE own2 lF hD=>?_)))))))))))));obtain ⟨h1,h2⟩:=hD;subst h2;refine ⟨by subst h1;rfl,_,_,rfl,(fN 2 rfl rfl gE rfl rfl (fN 1 rfl rfl oA rfl rfl (fN 0 rfl rfl jZ rfl rfl iD))),eQ.mk ?_⟩;exact ⟨rfl,fun h=>absurd hck h,fun _ _=>rfl,fun T hT _ h3=>zO⟩
 refine sO rfl (aPs _ hck _) rfl (fun HB pZ=>pV (jO 0 (L:=[_,_,_]) rfl hrest rfl ((aJ3 _ _ _ _).mono (fun u2 HE own2 lF hD=>?_))));obtain ⟨h1,h2⟩:=hD;subst h2;refine ⟨h1,_,_,rfl,(fN 2 rfl rfl gE rfl rfl (fN 1 rfl rfl oA rfl rfl (fN 0 rfl rfl jZ rfl rfl iD))),eQ.mk ?_⟩;exact ⟨rfl,fun _=>rfl,fun h=>absurd h hck,fun T hT h=>absurd h hck⟩
end Go.Proofs

namespace Go.Proofs
open Go.XL
abbrev ilR : Rep (List Int):=slR (gV .i64)
def aV2 (hi : Nat) : Nat → List Int → Prop
 | _,[]=>True
 | lo,x :: r=>∃ j : Nat,x = j ∧ lo ≤ j ∧ j < hi ∧ aV2 hi (j + 1) r
theorem aFg {n : Nat} : ∀ {k : Nat} {l : List Int} {f : Nat} {o : List Int},o ∈ oY n k l f ↔ ∃ r,o = l ++ r ∧ r.length = k ∧ aV2 n f r
 | 0,l,f,o=>by
  simp only [oY,lW];constructor
  ·rintro rfl;exact ⟨[],by simp,rfl,trivial⟩
  rintro ⟨r,rfl,h,_⟩;rw [List.length_eq_zero_iff] at h;subst h;simp
 | k + 1,l,f,o=>by
  rw [oY,List.mem_flatMap];constructor
  ·rintro ⟨j,hj,h⟩;rw [List.mem_range'_1] at hj;obtain ⟨r,rfl,h1,h2⟩:=aFg.1 h;exact ⟨((j : Nat) : Int) :: r,by simp,by simp [h1],j,rfl,hj.1,zO,h2⟩
  rintro ⟨r,rfl,h1,h2⟩;cases r with
  | nil=>simp at h1
  | cons x r =>
   obtain ⟨j,rfl,h3,h4,h5⟩:=h2;exact ⟨j,List.mem_range'_1.2 ⟨h3,zO⟩,aFg.2 ⟨r,by simp,by simpa using h1,h5⟩⟩
theorem mem_lists0 {n k : Nat} {o : List Int} : o ∈ oY n k [] 0 ↔ o.length = k ∧ aV2 n 0 o:=by
 rw [aFg];constructor
 ·rintro ⟨r,rfl,h1,h2⟩;exact ⟨by simpa using h1,by simpa using h2⟩
 rintro ⟨h1,h2⟩;exact ⟨o,by simp,h1,h2⟩
def aX3 : List Int → List Int → Prop
 | x :: a,y :: b=>x < y ∨ x = y ∧ aX3 a b
 | _,_=>False
def keepJ (out : List Int) (w : Nat) : List Nat:=(List.range w).filter fun j=>decide (((j : Nat) : Int) ∉ out)
def wRowN (out : List Int) (row : List Bool) (k : Nat) : List Bool:=(keepJ out k).map fun j=>row.getD j false
def WoM (m : Tb) (out : List Int) : Tb:=m.map fun row=>wRowN out row row.length
end Go.Proofs

namespace Go.Proofs
open Go.XL
end Go.Proofs

namespace Go.Proofs
open Go.XL
theorem qR {P : Program} {f : FuncId} {args : Array Value} {H : Hp} {R : Value → Hp → Prop} (h : iP P f args H [] (eQ fun v H2 own=>own = [] ∧ R v H2)) : iP P f args H [] (eQ fun v H2 _=>R v H2) :=
 h.mono fun e _ _ _ hr=>by
  cases e with
  | returned v=>exact hr.2
  | panicked _=>exact hr.elim
  | outgrown=>exact hr.elim
abbrev tbAll : Tb:=[[true,true],[true,true]]
abbrev tbTwo : Tb:=[[true,false],[false,true]]
abbrev tbStar : Tb:=[[true,true,false],[true,false,false],[true,false,true]]
end Go.Proofs

namespace Go.Proofs
open Go.XL
end Go.Proofs

namespace Go.Proofs
open Go.XL Go.RowKit Go.ChangeShapes
theorem opens_tb : rP Tryz.prog 23 (slR tbR) (fun l : Tb=>l.length ≤ maxLen ∧ ∀ r ∈ l,r.length ≤ maxLen ∧ ∀ b ∈ r,True) :=
 rP.slice gP zK zD (rP.slice iZ zK zD (rP.bool nR))
def trL (m : Tb) : List (Int × Int):=if qV m = 0 then (qE m []).l else []
def trP (m : Tb) : Prop:=qV m = 0 ∧ (qE m []).p ≤ 1
instance (m : Tb) : Decidable (trP m):=by unfold trP;infer_instance
def aVz (m : Tb) (H : Hp) (v : Value) : Prop:=∃ a c,SlR aEz H a c (trL m) ∧ v = .tuple #[.slice a (trL m).length c,.bool (decide (trP m)),.int .i64 (qV m)]
theorem aUy.u {m : Tb} {H : Hp} {v : Value} (h : aUy m H v) : aVz m H v:=by
 unfold aVz trL trP;by_cases h0 : qV m = 0
 ·obtain ⟨a,c,h1,h2⟩:=h.2 h0;simp only [h0,if_true,true_and];exact ⟨a,c,h1,h2⟩
 simp only [h0,if_false,false_and,decide_false];exact ⟨none,0,SlR.nil0 _ _,h.1 h0⟩
def cuP (m : Tb) : Prop:=qV m = 0 ∧ ¬ (qE m []).p ≤ 1
instance (m : Tb) : Decidable (cuP m):=by unfold cuP;infer_instance
def cuA (m : Tb) : List Int:=if cuP m then aL3 (qE m []).Pl 0 m.length else []
def cuB (m : Tb) : List Int:=if cuP m then aL3 (qE m []).Pl m.length (lA m) else []
def CutU (m : Tb) (H : Hp) (v : Value) : Prop:=∃ a c b d,SlR (gV .i64) H a c (cuA m) ∧ SlR (gV .i64) H b d (cuB m) ∧ v = .tuple #[.slice a (cuA m).length c,.slice b (cuB m).length d,.bool (decide (cuP m)),.int .i64 (qV m)]
def reF (m : Tb) (t : Int) : Option (List Int):=if qV m = 0 ∧ 0 ≤ t ∧ t ≤ 3 then (aCn (lA m) (t.toNat + 1)).find? (aLp m) else none
def reL (m : Tb) (t : Int) : List Int:=(reF m t).getD []
def reP (m : Tb) (t : Int) : Prop:=(reF m t).isSome = true
instance (m : Tb) (t : Int) : Decidable (reP m t):=by unfold reP;infer_instance
def reE (m : Tb) (t : Int) : Int:=if qV m ≠ 0 then qV m else if t < 0 ∨ 3 < t then 1 else 0
def aXg (m : Tb) (t : Int) (H : Hp) (v : Value) : Prop:=∃ a c,SlR (gV .i64) H a c (reL m t) ∧ v = .tuple #[.slice a (reL m t).length c,.bool (decide (reP m t)),.int .i64 (reE m t)]
theorem reP_dec (m : Tb) (t : Int) : decide (reP m t) = (reF m t).isSome:=by
 by_cases h : reP m t
 ·rw [bG h];exact h.symm
 rw [aI h];symm;simpa [reP] using h
theorem aW5.u {m : Tb} {t : Int} {H : Hp} {v : Value} (h : aW5 m t H v) : aXg m t H v:=by
 unfold aXg reL reE;rw [reP_dec];by_cases h0 : qV m = 0
 ·by_cases ht : t < 0 ∨ 3 < t
  ·have h2:=h.2.1 h0 ht;have e : reF m t = none:=by rw [reF,dG zO]
   rw [e,dG zO,eX ht];exact ⟨none,0,SlR.nil0 _ _,h2⟩
  have e : reF m t = (aCn (lA m) (t.toNat + 1)).find? (aLp m):=by rw [reF,eX zO]
  rw [e,dG zO,dG ht];obtain ⟨h2,h3⟩:=h.2.2 t.toNat zO h0 zO;cases hf : (aCn (lA m) (t.toNat + 1)).find? (aLp m) with
  | none=>exact ⟨none,0,SlR.nil0 _ _,h3 hf⟩
  | some o=>obtain ⟨a,c,h4,h5⟩:=h2 o hf;exact ⟨a,c,h4,h5⟩
 have e : reF m t = none:=by rw [reF,dG zO]
 rw [e,eX h0];exact ⟨none,0,SlR.nil0 _ _,h.1 h0⟩
theorem toU {P : Program} {f : FuncId} {args : Array Value} {H : Hp} {R R' : Value → Hp → Prop} (h : iP P f args H [] (eQ fun v H2 _=>R v H2)) (hr : ∀ v H2,R v H2 → R' v H2) : iP P f args H [] (eQ fun v H2 _=>R' v H2) :=
 h.mono fun e _ _ _ h2=>by
  cases e with
  | returned v=>exact hr _ _ h2
  | panicked _=>exact h2.elim
  | outgrown=>exact h2.elim
section
variable (a : Option Addr) (c : Nat) (m : Tb) (H : Hp) (hs : SlR tbR H a c m) (hl : m.length < 9223372036854775808)
include hs hl
theorem aJl : iP Tryz.prog 11 #[.slice a m.length c] H [] (eQ fun v H2 _=>aVz m H2 v):=toU (qR (tree_fn a c m H hs hl)) fun _ _ h=>h.u
theorem wP (t : Int) (ht : -9223372036854775808 ≤ t ∧ t ≤ 9223372036854775807) : iP Tryz.prog 10 #[.slice a m.length c,.int .i64 t] H [] (eQ fun v H2 _=>aXg m t H2 v):=toU (qR (resist_fn a c m H hs hl t ht)) fun _ _ h=>h.u
end
theorem aQn {w : Nat} : ∀ {k : Nat} {o : List Int},o ∈ aCn w k ↔ o.length < k ∧ aV2 w 0 o
 | 0,o=>by simp [aCn]
 | k + 1,o=>by
  rw [aCn,gM,aQn,mem_lists0];constructor
  ·rintro (⟨h1,h2⟩ | ⟨h1,h2⟩)
   ·exact ⟨zO,h2⟩
   exact ⟨zO,h2⟩
  rintro ⟨h1,h2⟩;by_cases h : o.length = k
  ·exact Or.inr ⟨h,h2⟩
  exact Or.inl ⟨zO,h2⟩
end Go.Proofs

namespace Go.Proofs
open Go.XL
/-! ### Rising lists -/
def chkR (l : List Int) (n : Nat) : Prop:=∀ (i : Nat) (x : Int),l[i]? = some x → 0 ≤ x ∧ x < n ∧ ∀ y,0 < i → l[i - 1]? = some y → y < x
def aUp (m : Tb) : Prop:=m.length ≤ 10 ∧ aW8 m ∧ qV m = 0 ∧ lA m ≤ 8
instance (m : Tb) : Decidable (aUp m):=by unfold aUp;infer_instance
/-! ### One -/
theorem trL_len_p {m : Tb} (hck : qV m = 0) : ((trL m).length : Int) + (qE m []).p = (m.length : Int) + (lA m : Nat):=by
 have:=tree_p (aI2.1 hck);rw [trL,eX hck,aUr,fB];omega
def befL (a b : List Int) : Prop:=a.length < b.length ∨ a.length = b.length ∧ aX3 a b
section
variable {m : Tb} {T : Nat}
theorem reF_ok (hck : qV m = 0) (hT : T ≤ 3) : reF m (T : Nat) = (aCn (lA m) (T + 1)).find? (aLp m):=by
 rw [reF,eX ⟨hck,zO,zO⟩,eN]
theorem reP_none {t : Int} (h : ¬ reP m t) : reF m t = none:=by
 unfold reP at h;cases hf : reF m t with
 | none=>rfl
 | some o=>rw [hf] at h;exact absurd rfl h
def befP (m : Tb) (t : Int) (o : List Int) : Prop:=¬ reP m t ∨ befL o (reL m t)
noncomputable instance (m : Tb) (t : Int) (o : List Int) : Decidable (befP m t o):=Classical.propDecidable _
end
section
variable {m : Tb} {t : Int} {o : List Int}
end
end Go.Proofs

namespace Go.Proofs
open Go.XL
theorem qH : tP Tryz.prog 170 1 false = true:=zK
theorem aNs (a : Option Addr) (c : Nat) (l : List Int) (H : Hp) (hs : SlR (gV .i64) H a c l) (hl : l.length < 9223372036854775808) (hd : tX l) : iP Tryz.prog 131 #[.slice a l.length c] H [] (eQ (fun v H2 _=>DgU (gZ l).toNat c H2 v)):=by
 refine iP.intro (args:=[.slice a l.length c]) Tryz.func131 rfl rfl Tryz.ntmps131 rfl rfl rfl fun G rest=>?_;refine zS ?_;refine zG rfl ?_;refine zN ?_;refine zS ?_;refine zM rfl ?_;refine eD (ts:=#[]) rfl eC rfl ?_;refine zG rfl ?_;refine zN ?_;refine cO ?_;refine dK ?_;refine eU [3,0] rfl ?_;refine gO (base:=[(0,_)]) (fun ζ : Nat=>[(3,.int .i64 ((l.length - ζ : Nat) : Int))]) (fun ζ Hl own=>ζ ≤ l.length ∧ rest = own ∧ (∀ j x,l.length - ζ ≤ j → l[j]? = some x → x = 0)) (fun ζ=>l.length - ζ) 0 (zC) zB ⟨eS _,rfl,fun j x hj hx=>by rw [dJ zO] at hx;cases hx⟩ ?_;rintro k Hl0 _ gB ⟨hkk,rfl,hz⟩;replace hs:=hs.mono gB;try dsimp only at ⊢
 refine cO (zS (zM rfl (zY rfl (zM rfl (iM rfl rfl rfl rfl (fun g1=>?_) (fun g1=>?_))))))
 ·have g1p:=eT g1;refine zM rfl (zT rfl g1 (zM rfl (zT rfl g1 (lK (c:=((l.length - k - 1 : Nat) : Int)) rfl rfl ((dT zO zO).trans zO) rfl (zT rfl g1 (eV (i:=(l.length - k - 1)) rfl hs rfl eC gK zO rfl ?_))))));rintro eb12 eo12 _ x12 hx12 rfl hp12;refine zT rfl g1 (eH rfl (by assumption) gK rfl rfl rfl (zT rfl g1 (zZ rfl (zV g1 rfl (zN (fC rfl (fun c0_4=>?_) (fun c0_4=>?_)))))))
  ·refine eF (bO (dK (dL (zM rfl (lK (c:=((l.length - k - 1 : Nat) : Int)) rfl rfl ((dT zO zO).trans zO) rfl (zG rfl (bF (fY (eW (k + 1) (by show l.length - (k + 1) < l.length - k;omega) (iL (pK rfl zO) (iL rfl aJ0)) (⟨by show k + 1 ≤ l.length;omega,rfl,trim_step hz zO hx12 (by assumption)⟩) zB (gB))))))))))
  refine gI (fE (eY (fU rfl (bO (zS (zM rfl (zM rfl (aG3 (lo':=0) (hi':=((l.length - k : Nat) : Int)) (m':=((c : Nat) : Int)) rfl hs qJ (tQ rfl) qJ zP zO zO zO (by have:=SlR.le hs;omega) zO eC gK rfl (fun as20 ls20 hls20 hss20=>?_)))))))));obtain rfl : ls20 = l.take (l.length - k):=by rw [hls20];rfl
  refine zG rfl (zN (eP ?_));refine ⟨rfl,_,[],rfl,zA,eQ.mk ?_⟩;have e:=aSz hd (Nat.sub_le _ _) hz (.inr ⟨_,hx12,by assumption⟩);rw [e] at hss20 ⊢;exact ⟨_,rfl,hss20⟩
 have g1p:=fM g1;refine zU rfl g1 (zU rfl g1 (zU rfl g1 (zU rfl g1 (zU rfl g1 (zW g1 rfl (zN (gD rfl rfl (gI (fE (eY (fU rfl (bO (zS (zM rfl (zM rfl (aG3 (lo':=0) (hi':=((l.length - k : Nat) : Int)) (m':=((c : Nat) : Int)) rfl hs qJ (tQ rfl) qJ zP zO zO zO (by have:=SlR.le hs;omega) zO eC gK rfl (fun as20 ls20 hls20 hss20=>?_)))))))))))))))));obtain rfl : ls20 = l.take (l.length - k):=by rw [hls20];rfl
 refine zG rfl (zN (eP ?_));refine ⟨rfl,_,[],rfl,zA,eQ.mk ?_⟩;have e:=aSz hd (Nat.sub_le _ _) hz (.inl zO);rw [e] at hss20 ⊢;exact ⟨_,rfl,hss20⟩
theorem aG8 (a : Option Addr) (c n : Nat) (l : List Int) (H : Hp) (hs : SlR (gV .i64) H a c l) (hl : l.length < 9223372036854775808) (hd : tX l) (hn : n = l.length) : iP Tryz.prog 131 #[.slice a n c] H [] (eQ (fun v H2 _=>DgU (gZ l).toNat c H2 v)):=by
 subst hn;exact aNs a c l H hs hl hd
theorem aSp (a : Option Addr) (c : Nat) (l : List Int) (H : Hp) (hs : SlR (gV .i64) H a c l) (hl : l.length < 9223372036854775808) (i : Nat) (hi : i < 9223372036854775808) : iP Tryz.prog 140 #[.slice a l.length c,.int .i64 (i : Nat)] H [] (eQ (fun v _ _=>v = .int .i64 (atD l i))):=by
 refine iP.intro (args:=[.slice a l.length c,.int .i64 (i : Nat)]) Tryz.func140 rfl rfl Tryz.ntmps140 rfl rfl rfl fun G rest=>?_;refine zS ?_;refine zG rfl ?_;refine zN ?_;refine cO ?_;refine zS ?_;refine zM rfl ?_;refine zM rfl ?_;refine eD (ts:=#[]) rfl eC rfl ?_;refine zL rfl ?_;refine zN ?_;refine fC rfl (fun nY=>?_) (fun nY=>?_)
 ·refine zS (zM rfl (zM rfl (eV (i:=i) rfl hs rfl eC gK zO rfl ?_)));rintro eb11 eo11 _ x11 aEv rfl hp11;refine eH rfl (by assumption) gK rfl rfl rfl (zG rfl (zN (eP (fD ?_))));refine ⟨rfl,_,[],rfl,zA,eQ.mk ?_⟩;exact congrArg (Value.int .i64) (aOv aEv).symm
 refine eF (bO (zS (zG rfl (zN (eP ?_)))));refine ⟨rfl,_,[],rfl,zA,eQ.mk ?_⟩;exact congrArg (Value.int .i64) (aLg zO).symm
theorem aFr (n : Nat) (hn : n ≤ 1000000) (H : Hp) (g : Value) (f : Nat → Int) (hg : ∀ i H2,i < n → Le H H2 → wH Tryz.prog g [.int .i64 ((i : Nat) : Int)] H2 [] (eQ fun u _ _=>u = .int .i64 (f i))) (hf : ∀ i,i < n → -4611686018427387904 ≤ f i ∧ f i ≤ 4611686018427387904) : iP Tryz.prog 138 #[.int .i64 (n : Nat),g] H [] (eQ (fun v H2 _=>DgU (gZ (dsI f n)).toNat n H2 v)):=by
 refine iP.intro (args:=[.int .i64 (n : Nat),g]) Tryz.func138 rfl rfl Tryz.ntmps138 rfl rfl rfl fun G rest=>?_;refine zS ?_;refine zG rfl ?_;refine zN ?_;refine zS ?_;refine zM rfl ?_;refine uS (ρ:=(gV .i64)) (n:=n) 0 rfl rfl eC gK rV rfl aCl zF rfl rfl (fun p10 c10 hc10 hacc10=>?_);replace hc10:=hc10.symm;subst hc10;refine zG rfl ?_;refine zG rfl ?_;refine zN ?_;refine cO ?_;refine zS ?_;refine zM rfl ?_;refine eD (ts:=#[]) rfl eC rfl ?_;refine zM rfl ?_;refine zN ?_;refine dK ?_;refine eU [6,13,1,5,12] rfl ?_;refine gO (base:=[(1,_),(5,_),(12,_)]) (fun ζ : Nat × (Nat × SObj)=>[(6,.int .i64 (cI f ζ.1)),(13,.int .i64 (ζ.1 : Nat))]) (fun ζ Hl own=>ζ.1 ≤ n ∧ ζ.2 :: rest = own ∧ Acc (gV .i64) 3 Hl ζ.2 (some ⟨p10.1,0,none⟩) n (dsI f (ζ.1) ++ List.replicate (n - (ζ.1)) 0)) (fun ζ=>n - ζ.1) (0,p10) (zC) zB ⟨eS _,rfl,hacc10⟩ ?_;rintro ⟨k,pm⟩ Hl0 _ gB ⟨hkk,rfl,haccm⟩;replace hacc10:=hacc10.mono gB;try dsimp only at hkk haccm ⊢
 refine zS (zL rfl (zN (cO (fC rfl (fun nY=>?_) (fun nY=>?_)))))
 ·refine eF (bO (cO (dK (zS (zM rfl (zG rfl (zN (zS (zM rfl (zM rfl ?_))))))))));have hcb:=aWt hf k zO;have hfb:=hf k zO;refine sZ rfl trivial rfl (hg k _ zO gB) rfl ?_;rintro _ rfl;refine zM rfl (fR rfl rfl (dT zO zO) rfl (zG rfl (zN (dL (zM rfl (zM rfl (zM rfl (aDw rfl rfl rfl ?_))))))));rw [aEd];refine zM rfl (aB6 rfl rfl zD rfl ?_);rw [aI6];refine fK rfl rfl eC gK zO zO rfl (lH 0 rfl rfl rfl haccm (by rw [ds_len f zO];omega) rfl rfl gK rfl (fun ps6 haccs6=>zG rfl (bF (fY (bO (dL (fR rfl rfl (dT zO zO) rfl (zM rfl (bF (eW ((k + 1,ps6)) (by show n - (k + 1) < n - k;omega) (zC) (⟨by show k + 1 ≤ n;omega,rfl,by first | (exact haccs6) | (rw [dsI_put zO];exact haccs6)⟩) zB (gB)))))))))))
 obtain rfl : k = n:=zO
 rw [dsI_full] at haccm;refine gI (fE (eY (fU rfl (bO (zS (zM rfl (iO 0 rfl haccm rfl (fun HQ7 hleQ7 hsQ7=>eZ rfl (aG8 _ _ _ (dsI f k) _ (by assumption) (by rw [aB1];omega) (aOb f k) (by rw [aB1])) rfl ?_))))))));rintro _ HN kI hN;refine zG rfl (zN (eP ?_));refine ⟨rfl,_,[],rfl,zA,eQ.mk ?_⟩;exact hN
theorem add1_fn (a b : Option Addr) (c d : Nat) (l m : List Int) (H : Hp) (hs : SlR (gV .i64) H a c l) (ht : SlR (gV .i64) H b d m) (hl : l.length < 9223372036854775808) (hm : m.length < 9223372036854775808) (b1 b2 : Nat) (hp1 : rC H b1 0 [.slice a l.length c]) (hp2 : rC H b2 0 [.slice b m.length d]) (hdl : tX l) (hdm : tX m) (i : Nat) (hi : i < 9223372036854775808) : iP Tryz.prog 139 #[.int .i64 (i : Nat),.pointer (some ⟨b1,0,none⟩),.pointer (some ⟨b2,0,none⟩)] H [] (eQ (fun v _ _=>v = .int .i64 (atD l i + atD m i))):=by
 refine iP.intro (args:=[.int .i64 (i : Nat),.pointer (some ⟨b1,0,none⟩),.pointer (some ⟨b2,0,none⟩)]) Tryz.func139 rfl rfl Tryz.ntmps139 rfl rfl rfl fun G rest=>?_;refine zS ?_;refine zG rfl ?_;refine zN ?_;refine cO ?_;refine eU [0,1,2] rfl ?_;apply pI 5 [gC _,gC _,gC _,gC _,gC _] follows zK zK ⟨aH _,aH _,aH _,aH _,aH _,trivial⟩ ?steps1 ?tail1
 case steps1 =>
  refine dF rfl ?_ ?_
  ·intro X;exact aF rfl (eH rfl (by assumption) qH rfl rfl rfl zQ)
  refine dF rfl ?_ ?_
  ·intro X;exact aF rfl (zM rfl zQ)
  refine dF rfl ?_ ?_
  ·intro X;exact gL rfl (gL rfl (aF rfl (fH rfl (aSp a c l _ hs hl i hi) rfl zQ)))
  refine dF rfl ?_ ?_
  ·intro X;exact aF rfl (eH rfl (by assumption) qH rfl rfl rfl zQ)
  refine dF rfl ?_ ?_
  ·intro X;exact aF rfl (zM rfl zQ)
  exact jH rfl
 case tail1 =>
  refine gL rfl (gL rfl (gL rfl (gL rfl (gL rfl (aF rfl (fH rfl (aSp b d m _ ht hm i hi) rfl ?_))))));have hal:=aAd hdl i;have ham:=aAd hdm i;refine fR rfl rfl (dT zO zO) rfl (zG rfl (zN (eP ?_)));refine ⟨rfl,_,[],rfl,zA,eQ.mk ?_⟩;rfl
theorem sub1_fn (a b : Option Addr) (c d : Nat) (l m : List Int) (H : Hp) (hs : SlR (gV .i64) H a c l) (ht : SlR (gV .i64) H b d m) (hl : l.length < 9223372036854775808) (hm : m.length < 9223372036854775808) (b1 b2 : Nat) (hp1 : rC H b1 0 [.slice a l.length c]) (hp2 : rC H b2 0 [.slice b m.length d]) (hdl : tX l) (hdm : tX m) (i : Nat) (hi : i < l.length) : iP Tryz.prog 141 #[.int .i64 (i : Nat),.pointer (some ⟨b1,0,none⟩),.pointer (some ⟨b2,0,none⟩)] H [] (eQ (fun v _ _=>v = .int .i64 (atD l i - atD m i))):=by
 refine iP.intro (args:=[.int .i64 (i : Nat),.pointer (some ⟨b1,0,none⟩),.pointer (some ⟨b2,0,none⟩)]) Tryz.func141 rfl rfl Tryz.ntmps141 rfl rfl rfl fun G rest=>?_;refine zS ?_;refine zG rfl ?_;refine zN ?_;refine cO ?_;refine eU [0,1,2] rfl ?_;obtain ⟨bE7,oE7,rfl⟩:=hs.addr zO;obtain ⟨_,x7,hx7,rfl,hp7⟩:=hs.elem (i) zO;apply pI 7 [gC _,gC _,gC _,gC _,gC _,gC _,gC _] follows zK zK ⟨aH _,aH _,aH _,aH _,aH _,aH _,aH _,trivial⟩ ?steps1 ?tail1
 case steps1 =>
  refine dF rfl ?_ ?_
  ·intro X;exact aF rfl (eH rfl (by assumption) qH rfl rfl rfl zQ)
  refine dF rfl ?_ ?_
  ·intro X;exact aF rfl (zM rfl zQ)
  refine dF rfl ?_ ?_
  ·intro X;exact gL rfl (gL rfl (aF rfl (fK rfl rfl eC gK zO zO rfl zQ)))
  refine dF rfl ?_ ?_
  ·intro X;exact gL rfl (aF rfl (eH rfl (by assumption) gK rfl rfl rfl zQ))
  refine dF rfl ?_ ?_
  ·intro X;exact aF rfl (eH rfl (by assumption) qH rfl rfl rfl zQ)
  refine dF rfl ?_ ?_
  ·intro X;exact aF rfl (zM rfl zQ)
  refine dF rfl ?_ ?_
  ·intro X;exact gL rfl (gL rfl (aF rfl (fH rfl (aSp b d m _ ht hm i zO) rfl zQ)))
  exact jH rfl
 case tail1 =>
  refine gL rfl (gL rfl (gL rfl (gL rfl (gL rfl (gL rfl (gL rfl (aF rfl ?_)))))));have hal:=aAd hdl i;have ham:=aAd hdm i;have e7:=aOv hx7;refine lK (c:=atD l i - atD m i) rfl rfl ((dT zO zO).trans zO) rfl (zG rfl (zN (eP ?_)));refine ⟨rfl,_,[],rfl,zA,eQ.mk ?_⟩;rfl
theorem dadd_fn (x y : Nat) (a b : Option Addr) (c d : Nat) (H : Hp) (hs : SlR (gV .i64) H a c (dg x)) (ht : SlR (gV .i64) H b d (dg y)) (hx : (dg x).length ≤ 100000) (hy : (dg y).length ≤ 100000) : iP Tryz.prog 128 #[.slice a (dg x).length c,.slice b (dg y).length d] H [] (eQ (fun v H2 _=>DgU (x + y) (max (dg x).length (dg y).length + 1) H2 v)):=by
 refine iP.intro (args:=[.slice a (dg x).length c,.slice b (dg y).length d]) Tryz.func128 rfl rfl Tryz.ntmps128 rfl rfl rfl fun G rest=>?_;refine zS ?_;refine iW rfl rfl rfl (fun b2=>?_);refine iW rfl rfl rfl (fun b3=>?_);refine zG rfl ?_;refine zN ?_;refine zS ?_;refine bT 1 rfl rfl qH rfl rfl rfl ?_;refine eD (ts:=#[]) rfl eC rfl ?_;refine bT 0 rfl rfl qH rfl rfl rfl ?_;refine eD (ts:=#[]) rfl eC rfl ?_;refine aKs rfl rfl rfl ?_;refine fR (c:=((max (dg x).length (dg y).length + 1 : Nat) : Int)) rfl rfl ((dT zO zO).trans zO) rfl ?_;refine fT 1 rfl rfl rfl (fun HK2 oK2 pE aFw aFx=>?_);have qU:=rC.of_is aFw aFx;replace hs:=hs.mono pE;replace ht:=ht.mono pE;refine fT 0 rfl rfl rfl (fun HK3 oK3 rH aDr aDs=>?_);have aCo:=rC.of_is aDr aDs;replace hs:=hs.mono rH;replace ht:=ht.mono rH;replace qU:=qU.mono rH;refine mA rfl rfl ?_;refine eZ rfl (aFr (max (dg x).length (dg y).length + 1) zO _ _ (fun i=>atD (dg x) i + atD (dg y) i) (fun i H2 hi hle=>wH.of_fn (cap:=[_,_]) (args:=[_]) (add1_fn a b c d (dg x) (dg y) H2 (SlR.mono hle (by assumption)) (SlR.mono hle (by assumption)) zO zO _ _ (rC.mono hle (by assumption)) (rC.mono hle (by assumption)) (mH x) (mH y) i zO)) (fun i _=>by have h1:=aAd (mH x) i;have h2:=aAd (mH y) i;show _ ≤ atD (dg x) i + atD (dg y) i ∧ atD (dg x) i + atD (dg y) i ≤ _;omega)) rfl ?_;rintro _ HN kI hN;refine zG rfl ?_;refine zN ?_;refine eP ?_;refine ⟨rfl,_,[],rfl,zA,eQ.mk ?_⟩;rw [add_val,eN] at hN;exact hN
theorem aSr (x y : Nat) (a b : Option Addr) (c d : Nat) (H : Hp) (hs : SlR (gV .i64) H a c (dg x)) (ht : SlR (gV .i64) H b d (dg y)) (hx : (dg x).length ≤ 100000) (hy : (dg y).length ≤ 100000) (hxy : y ≤ x) : iP Tryz.prog 129 #[.slice a (dg x).length c,.slice b (dg y).length d] H [] (eQ (fun v H2 _=>DgU (x - y) (dg x).length H2 v)):=by
 refine iP.intro (args:=[.slice a (dg x).length c,.slice b (dg y).length d]) Tryz.func129 rfl rfl Tryz.ntmps129 rfl rfl rfl fun G rest=>?_;refine zS ?_;refine iW rfl rfl rfl (fun b2=>?_);refine iW rfl rfl rfl (fun b3=>?_);refine zG rfl ?_;refine zN ?_;refine zS ?_;refine bT 1 rfl rfl qH rfl rfl rfl ?_;refine eD (ts:=#[]) rfl eC rfl ?_;refine fT 1 rfl rfl rfl (fun HK2 oK2 pE aFw aFx=>?_);have qU:=rC.of_is aFw aFx;replace hs:=hs.mono pE;replace ht:=ht.mono pE;refine fT 0 rfl rfl rfl (fun HK3 oK3 rH aDr aDs=>?_);have aCo:=rC.of_is aDr aDs;replace hs:=hs.mono rH;replace ht:=ht.mono rH;replace qU:=qU.mono rH;refine mA rfl rfl ?_;refine eZ rfl (aFr ((dg x).length) zO _ _ (fun i=>atD (dg x) i - atD (dg y) i) (fun i H2 hi hle=>wH.of_fn (cap:=[_,_]) (args:=[_]) (sub1_fn a b c d (dg x) (dg y) H2 (SlR.mono hle (by assumption)) (SlR.mono hle (by assumption)) zO zO _ _ (rC.mono hle (by assumption)) (rC.mono hle (by assumption)) (mH x) (mH y) i hi)) (fun i _=>by have h1:=aAd (mH x) i;have h2:=aAd (mH y) i;show _ ≤ atD (dg x) i - atD (dg y) i ∧ atD (dg x) i - atD (dg y) i ≤ _;omega)) rfl ?_;rintro _ HN kI hN;refine zG rfl ?_;refine zN ?_;refine eP ?_;refine ⟨rfl,_,[],rfl,zA,eQ.mk ?_⟩;rw [sub_val hxy,eN] at hN;exact hN
end Go.Proofs

namespace Go.Proofs
open Go.XL
set_option maxRecDepth 100000 in
set_option maxHeartbeats 1600000 in
theorem dmul_fn (x y : Nat) (a b : Option Addr) (c d : Nat) (H : Hp) (hs : SlR (gV .i64) H a c (dg x)) (ht : SlR (gV .i64) H b d (dg y)) (hx : (dg x).length ≤ 100000) (hy : (dg y).length ≤ 100000) : iP Tryz.prog 116 #[.slice a (dg x).length c,.slice b (dg y).length d] H [] (eQ (fun v H2 _=>DgU (x * y) ((dg x).length + (dg y).length) H2 v)):=by
 refine iP.intro (args:=[.slice a (dg x).length c,.slice b (dg y).length d]) Tryz.func116 rfl rfl Tryz.ntmps116 rfl rfl rfl fun G rest=>?_;refine zS ?_;refine zG rfl ?_;refine zN ?_;refine XC.scope ?_;refine zS ?_;refine zM rfl ?_;refine eD (ts:=#[]) rfl eC rfl ?_;refine zM rfl ?_;refine eD (ts:=#[]) rfl eC rfl ?_;refine fR (c:=(((dg x).length + (dg y).length : Nat) : Int)) rfl rfl ((dT zO zO).trans zO) rfl ?_;refine uS (ρ:=(gV .i64)) (n:=((dg x).length + (dg y).length)) 0 rfl rfl eC gK rV rfl aCl zF rfl rfl (fun p17 c17 hc17 hacc17=>?_);replace hc17:=hc17.symm;subst hc17;refine zG rfl ?_;refine zN ?_;refine cO ?_;refine XC.label ?_;refine bO ?_;refine cO ?_;refine zS ?_;refine zM rfl ?_;refine eD (ts:=#[]) rfl eC rfl ?_;refine zM rfl ?_;refine zN ?_;refine dK ?_;refine eU [20,1,5,18,19] rfl ?_;refine gO (base:=[(1,_),(5,_),(18,_),(19,_)]) (fun ζ : Nat × (List Int) × (Nat × SObj)=>[(20,.int .i64 (ζ.1 : Nat))]) (fun ζ Hl own=>ζ.1 ≤ (dg x).length ∧ ζ.2.2 :: rest = own ∧ Acc (gV .i64) 3 Hl ζ.2.2 (some ⟨p17.1,0,none⟩) ((dg x).length + (dg y).length) (ζ.2.1) ∧ (MulO (dg x) (dg y) (ζ.1) ζ.2.1)) (fun ζ=>(dg x).length - ζ.1) (0,(List.replicate ((dg x).length + (dg y).length) 0),p17) (zC) zB ⟨eS _,rfl,hacc17,MulO.zero _ _⟩ ?_;rintro ⟨k,ml,pm⟩ Hl0 _ gB ⟨hkk,rfl,haccm,hO⟩;replace hs:=hs.mono gB;replace ht:=ht.mono gB;replace hacc17:=hacc17.mono gB;try dsimp only at hkk haccm hO ⊢
 refine zS (zL rfl (zN (cO (fC rfl (fun qK=>?_) (fun qK=>?_)))))
 ·refine eF (bO (cO (dK (zS (zM rfl (eV rfl hs rfl eC gK zO rfl ?_))))));rintro eb23 eo23 _ x23 aFy rfl rY;refine eH rfl (by assumption) gK rfl rfl rfl (zG rfl (zG rfl (zN (cO (zS (zM rfl (zZ rfl (zN (fC rfl (fun aCc=>?_) (fun aCc=>?_))))))))))
  ·refine gI (fE (fU rfl (bO (dL (fR rfl rfl (dT zO zO) rfl (zM rfl (bF (eW ((k + 1,_,pm)) (by show (dg x).length - (k + 1) < (dg x).length - k;omega) (zC) (⟨by show k + 1 ≤ (dg x).length;omega,rfl,by first | (exact haccm) | (rw [rfl];exact haccm),by first | exact hO.skip (by rw [aFy];congr 1) | exact hO.next aFy hI⟩) zB (gB)))))))))
  refine eF (bO (zS (zG rfl (zN (cO (zS (zM rfl (eD (ts:=#[]) rfl eC rfl (zM rfl (zN (dK (eU [8,29,1,5,6,7,18,19,20,27,28] rfl (gO (base:=[(1,_),(5,_),(6,_),(7,_),(18,_),(19,_),(20,_),(27,_),(28,_)]) (fun ζ : Nat × (List Int) × (Int) × (Nat × SObj)=>[(8,.int .i64 ζ.2.2.1),(29,.int .i64 (ζ.1 : Nat))]) (fun ζ Hl own=>ζ.1 ≤ (dg y).length ∧ ζ.2.2.2 :: rest = own ∧ Acc (gV .i64) 3 Hl ζ.2.2.2 (some ⟨p17.1,0,none⟩) ((dg x).length + (dg y).length) (ζ.2.1) ∧ (MulI ml (dg y) x23 k (ζ.1) ζ.2.1 ζ.2.2.1)) (fun ζ=>(dg y).length - ζ.1) (0,ml,0,pm) (zC) zB ⟨eS _,rfl,haccm,hO.row x23⟩ ?_)))))))))))));rintro ⟨j,m2,o,pw⟩ Hl1 _ iT ⟨hkj,rfl,haccw,hI⟩;replace hs:=hs.mono iT;replace ht:=ht.mono iT;replace haccm:=haccm.mono iT;replace rY:=rY.mono iT;replace gB:=gB.trans iT;try dsimp only at hkj haccw hI ⊢
  refine zS (zL rfl (zN (cO (fC rfl (fun c2_5=>?_) (fun c2_5=>?_)))))
  ·refine eF (bO (cO (dK (zS (zM rfl (eV rfl ht rfl eC gK zO rfl ?_))))));rintro eb32 eo32 _ x32 hx32 rfl aHa;refine eH rfl (by assumption) gK rfl rfl rfl (zG rfl (zG rfl (zN (zS ?_))));have hbx:=aIe (mR (mH x) aFy) (mR (mH y) hx32);have hbo:=hI.oo;obtain ⟨z,hz⟩ : ∃ z,m2[k + j]? = some z:=⟨_,aJ (by have h1:=hI.len;have h2:=hO.len;omega)⟩
   have hbz:=mR hI.ok hz;refine zM rfl (zM rfl (zM rfl (fR (c:=((k + j : Nat) : Int)) rfl rfl ((dT zO zO).trans zO) rfl (fK rfl rfl eC gK zO zO rfl (lY 0 rfl rfl haccw (hz) gK rfl (fun cs9 v9 hR9 hv9=>?_) (fun cs9 hR9=>⟨_,by cases hR9;rfl⟩))))));cases hR9;cases hv9;refine zM rfl (zM rfl (aAb rfl rfl (dT zO zO) rfl (fR rfl rfl (dT zO zO) rfl (zM rfl (fR rfl rfl (dT zO zO) rfl (zG rfl (zN (dL (zM rfl (zM rfl (zM rfl (fR (c:=((k + j : Nat) : Int)) rfl rfl ((dT zO zO).trans zO) rfl (zM rfl (aDw rfl rfl rfl ?_))))))))))))));rw [aEd];refine zM rfl (aB6 rfl rfl zD rfl ?_);rw [aI6];refine fK rfl rfl eC gK zO zO rfl (lH 0 rfl rfl rfl haccw (by have h1:=hI.len;have h2:=hO.len;omega) rfl rfl gK rfl (fun ps14 haccs14=>zG rfl (bF (fY (bO (dL (fR rfl rfl (dT zO zO) rfl (zM rfl (bF (eW ((j + 1,_,_,ps14)) (by show (dg y).length - (j + 1) < (dg y).length - j;omega) (zC) (⟨by show j + 1 ≤ (dg y).length;omega,rfl,by first | (exact haccs14) | (rw [rfl];exact haccs14),hI.step (mR (mH x) aFy) (mH y) hx32 hz⟩) zB (iT)))))))))))
  obtain rfl : j = (dg y).length:=zO
  refine gI (fE (eY (fU rfl (bO (dL (zM rfl (zM rfl (zM rfl (eD (ts:=#[]) rfl eC rfl (fR (c:=((k + (dg y).length : Nat) : Int)) rfl rfl ((dT zO zO).trans zO) rfl (zM rfl (fK rfl rfl eC gK zO zO rfl (lH 0 rfl rfl rfl haccw (by have h1:=hI.len;have h2:=hO.len;omega) rfl rfl gK rfl (fun ps17 haccs17=>bF (fY (bO (dL (fR rfl rfl (dT zO zO) rfl (zM rfl (bF (eW ((k + 1,_,ps17)) (by show (dg x).length - (k + 1) < (dg x).length - k;omega) (zC) (⟨by show k + 1 ≤ (dg x).length;omega,rfl,by first | (exact haccs17) | (rw [rfl];exact haccs17),by first | exact hO.skip (by rw [aFy];congr 1) | exact hO.next aFy hI⟩) zB (gB))))))))))))))))))))))
 obtain rfl : k = (dg x).length:=zO
 refine gI (fE (eY (fU rfl (bO (zS (zM rfl (iO 0 rfl haccm rfl (fun HQ18 hleQ18 hsQ18=>?_))))))));replace hs:=hs.mono hleQ18;replace ht:=ht.mono hleQ18;refine eZ rfl (aG8 _ _ _ ml _ (by assumption) (by have:=hO.len;omega) hO.ok hO.len.symm) rfl ?_;rintro _ HN kI hN;refine zG rfl (zN (eP (scopeX_ret ?_)));refine ⟨rfl,_,[],rfl,zA,eQ.mk ?_⟩;rw [hO.done,nN,nN,← Int.natCast_mul,eN] at hN;exact hN
end Go.Proofs

namespace Go.Proofs
open Go.XL
def aBs : ByteArray:=⟨#[0,1,2,2,3,3,3,3,4,4,4,4,4,4,4,4,5,5,5,5,5,5,5,5,5,5,5,5,5,5,5,5,6,6,6,6,6,6,6,6,6,6,6,6,6,6,6,6,6,6,6,6,6,6,6,6,6,6,6,6,6,6,6,6,7,7,7,7,7,7,7,7,7,7,7,7,7,7,7,7,7,7,7,7,7,7,7,7,7,7,7,7,7,7,7,7,7,7,7,7,7,7,7,7,7,7,7,7,7,7,7,7,7,7,7,7,7,7,7,7,7,7,7,7,7,7,7,7,8,8,8,8,8,8,8,8,8,8,8,8,8,8,8,8,8,8,8,8,8,8,8,8,8,8,8,8,8,8,8,8,8,8,8,8,8,8,8,8,8,8,8,8,8,8,8,8,8,8,8,8,8,8,8,8,8,8,8,8,8,8,8,8,8,8,8,8,8,8,8,8,8,8,8,8,8,8,8,8,8,8,8,8,8,8,8,8,8,8,8,8,8,8,8,8,8,8,8,8,8,8,8,8,8,8,8,8,8,8,8,8,8,8,8,8,8,8,8,8,8,8,8,8,8,8,8,8]⟩
def aAt (n : Nat) : UInt8:=aBs.data.getD n 0
theorem aOp (n : Nat) : aBs[n % 256]? = some (aAt (n % 256)):=by
 have h : n % 256 < aBs.size:=Nat.lt_of_lt_of_le (Nat.mod_lt _ zD) zD;have e : aBs[n % 256]? = some (aBs[n % 256]'h):=by simp [getElem?_pos,h]
 rw [e]
 congr 1
 unfold aAt;rw [dY,gG (by exact h)];rfl
theorem tab_all : (List.range 256).all (fun n=>Nat.ble 1 (2 ^ (aAt n).toNat) && Nat.blt n (2 ^ (aAt n).toNat) && (n == 0 || (Nat.ble 1 (aAt n).toNat && Nat.ble (2 ^ ((aAt n).toNat - 1)) n))) = true:=by decide +kernel
theorem tabP {n : Nat} (h : n < 256) : n < 2 ^ (aAt n).toNat ∧ (0 < n → 1 ≤ (aAt n).toNat ∧ 2 ^ ((aAt n).toNat - 1) ≤ n):=by
 have:=List.all_eq_true.1 tab_all n (fA.2 h);simp only [fL,Bool.or_eq_true,beq_iff_eq,Nat.ble_eq,Nat.blt_eq] at this;exact ⟨this.1.2,fun h0=>by rcases this.2 with h1 | h1;omega;exact h1⟩
theorem aO8 (n : Nat) : IntKind.u8.wrap (n : Int) = ((n % 256 : Nat) : Int):=by
 simp only [IntKind.wrap,IntKind.bits,IntKind.signed,Bool.false_and,Bool.false_eq_true,if_false];omega
theorem aO4 (b : UInt8) : IntKind.i64.wrap ((b.toNat : Nat) : Int) = ((b.toNat : Nat) : Int):=by
 have:=UInt8.toNat_lt b;exact dT zO zO
theorem wr8 (a : Int) (b : UInt8) (h : 0 ≤ a ∧ a ≤ 100) : IntKind.i64.wrap (a + ((b.toNat : Nat) : Int)) = a + ((b.toNat : Nat) : Int):=by
 have:=UInt8.toNat_lt b;exact dT zO zO
theorem aKb (x : Nat) (n : Nat) (k : Nat) (h : min n k = n) : ((x : Int)).fdiv (2 ^ min ((n : Int)).toNat k) = ((x / 2 ^ n : Nat) : Int):=by
 rw [eN,h,Int.fdiv_eq_ediv_of_nonneg _ (Int.le_of_lt (Int.pow_pos zD))];rw [show (2 : Int) ^ n = ((2 ^ n : Nat) : Int) by rw [Int.natCast_pow];rfl,Int.natCast_ediv]
theorem aIx {x s y : Nat} (hs : y = x / 2 ^ s) (hy : 0 < y ∧ y < 256) (hx : x < 2 ^ 30) : 1 ≤ s + (aAt (y % 256)).toNat ∧ s + (aAt (y % 256)).toNat ≤ 30 ∧ x < 2 ^ (s + (aAt (y % 256)).toNat):=by
 rw [Nat.mod_eq_of_lt hy.2];obtain ⟨h1,h2⟩:=tabP hy.2;obtain ⟨h3,h4⟩:=h2 hy.1;have hp:=Nat.pow_pos (a:=2) (n:=s) zD
 have hlo : 2 ^ (s + (aAt y).toNat - 1) ≤ x:=by
  rw [show s + (aAt y).toNat - 1 = s + ((aAt y).toNat - 1) by omega,Nat.pow_add];have : 2 ^ s * y ≤ x:=by rw [hs];exact Nat.mul_div_le _ _
  exact eK (Nat.mul_le_mul_left _ h4) this
 refine ⟨zO,?_,?_⟩
 ·have : 2 ^ (s + (aAt y).toNat - 1) < 2 ^ 30:=jS hlo hx;have:=(Nat.pow_lt_pow_iff_right (a:=2) zD).1 this;omega
 rw [Nat.pow_add];have h5 : x < 2 ^ s * (y + 1):=by rw [hs];exact Nat.lt_mul_div_succ x hp
 exact Nat.lt_of_lt_of_le h5 (Nat.mul_le_mul_left _ h1)
theorem aDl (s : Nat) : (2 : Int) ^ s = ((2 ^ s : Nat) : Int):=by rw [Int.natCast_pow];rfl
theorem aUw {a : Int} {s : Nat} (h : 0 ≤ a ∧ a < 1073741824) (hs : s ≤ 29) : IntKind.i64.wrap (a * 2 ^ min ((s : Int)).toNat IntKind.i64.bits) = a * 2 ^ s ∧ 0 ≤ a * 2 ^ s ∧ a * 2 ^ s ≤ 576460752303423488:=by
 rw [eN,show min s IntKind.i64.bits = s from Nat.min_eq_left (by show s ≤ 64;omega)]
 have h1 : (2 : Int) ^ s ≤ 536870912:=by
  rw [aDl];have:=Nat.pow_le_pow_right (n:=2) zD hs;have h2 : (2 : Nat) ^ 29 = 536870912:=zD
  omega
 have h0 : (0 : Int) < 2 ^ s:=Int.pow_pos zD;have h2 : 0 ≤ a * 2 ^ s:=Int.mul_nonneg h.1 zO;have h3 : a * 2 ^ s ≤ 1073741824 * 536870912:=Int.mul_le_mul zO h1 zO zD;exact ⟨dT zO zO,h2,zO⟩
theorem mov_val {x s : Nat} (hs : s ≤ 30) : gZ (dsI (fun i=>atD (dg x) i * 2 ^ s) ((dg x).length + 1)) = ((x * 2 ^ s : Nat) : Int):=by
 have e : sI (fun i=>atD (dg x) i * 2 ^ s) ((dg x).length + 1) = ((x * 2 ^ s : Nat) : Int):=by
  rw [aU1,aK0 zO,nN,Int.natCast_mul,aDl]
 rw [aHn,e];rw [e,Int.pow_succ];have h1:=aOa x
 have h2 : (2 : Int) ^ s ≤ 1073741824:=by
  rw [aDl];have:=Nat.pow_le_pow_right (n:=2) zD hs;have h2 : (2 : Nat) ^ 30 = 1073741824:=zD
  omega
 have h0 : (0 : Int) < 2 ^ s:=Int.pow_pos zD;rw [Int.natCast_mul,← aDl];refine ⟨Int.mul_nonneg zO zO,?_⟩;have h3 : (x : Int) * 2 ^ s ≤ x * 1073741824:=Int.mul_le_mul_of_nonneg_left h2 zO;have h4 : (x : Int) * 1073741824 < 1073741824 ^ (dg x).length * 1073741824:=Int.mul_lt_mul_of_pos_right h1 zD;omega
end Go.Proofs

namespace Go.Proofs
open Go.XL
theorem mov1_fn (a : Option Addr) (c : Nat) (l : List Int) (H : Hp) (hs : SlR (gV .i64) H a c l) (hl : l.length < 9223372036854775808) (hd : tX l) (s : Nat) (hsn : s ≤ 29) (b1 b2 : Nat) (hp1 : rC H b1 0 [.slice a l.length c]) (hp2 : rC H b2 0 [.int .i64 (s : Nat)]) (i : Nat) (hi : i < 9223372036854775808) : iP Tryz.prog 147 #[.int .i64 (i : Nat),.pointer (some ⟨b1,0,none⟩),.pointer (some ⟨b2,0,none⟩)] H [] (eQ (fun v _ _=>v = .int .i64 (atD l i * 2 ^ s))):=by
 refine iP.intro (args:=[.int .i64 (i : Nat),.pointer (some ⟨b1,0,none⟩),.pointer (some ⟨b2,0,none⟩)]) Tryz.func147 rfl rfl Tryz.ntmps147 rfl rfl rfl fun G rest=>?_;refine zS ?_;refine zG rfl ?_;refine zN ?_;refine cO ?_;refine eU [0,1,2] rfl ?_;apply pI 4 [gC _,gC _,gC _,gC _] follows zK zK ⟨aH _,aH _,aH _,aH _,trivial⟩ ?steps1 ?tail1
 case steps1 =>
  refine dF rfl ?_ ?_
  ·intro X;exact aF rfl (eH rfl (by assumption) qH rfl rfl rfl zQ)
  refine dF rfl ?_ ?_
  ·intro X;exact aF rfl (zM rfl zQ)
  refine dF rfl ?_ ?_
  ·intro X;exact gL rfl (gL rfl (aF rfl (fH rfl (aSp a c l _ hs hl i hi) rfl zQ)))
  refine dF rfl ?_ ?_
  ·intro X;exact aF rfl (eH rfl (by assumption) gK rfl rfl rfl zQ)
  exact jH rfl
 case tail1 =>
  refine gL rfl (gL rfl (gL rfl (gL rfl (aF rfl (aHf rfl rfl zO rfl ?_)))));rw [(aUw (aAd hd i) hsn).1];refine zG rfl (zN (eP ?_));refine ⟨rfl,_,[],rfl,zA,eQ.mk ?_⟩;rfl
theorem aP0 (x s : Nat) (a : Option Addr) (c : Nat) (H : Hp) (hs : SlR (gV .i64) H a c (dg x)) (hx : (dg x).length ≤ 100000) (hsn : s ≤ 29) : iP Tryz.prog 145 #[.slice a (dg x).length c,.int .i64 (s : Nat)] H [] (eQ (fun v H2 _=>DgU (x * 2 ^ s) ((dg x).length + 1) H2 v)):=by
 refine iP.intro (args:=[.slice a (dg x).length c,.int .i64 (s : Nat)]) Tryz.func145 rfl rfl Tryz.ntmps145 rfl rfl rfl fun G rest=>?_;refine zS ?_;refine iW rfl rfl rfl (fun b2=>?_);refine iW rfl rfl rfl (fun b3=>?_);refine zG rfl ?_;refine zN ?_;refine zS ?_;refine bT 1 rfl rfl qH rfl rfl rfl ?_;refine eD (ts:=#[]) rfl eC rfl ?_;refine fR (c:=(((dg x).length + 1 : Nat) : Int)) rfl rfl ((dT zO zO).trans zO) rfl ?_;refine fT 1 rfl rfl rfl (fun HK2 oK2 pE aFw aFx=>?_);have qU:=rC.of_is aFw aFx;replace hs:=hs.mono pE;refine fT 0 rfl rfl rfl (fun HK3 oK3 rH aDr aDs=>?_);have aCo:=rC.of_is aDr aDs;replace hs:=hs.mono rH;replace qU:=qU.mono rH;refine mA rfl rfl ?_;refine eZ rfl (aFr ((dg x).length + 1) zO _ _ (fun i=>atD (dg x) i * 2 ^ s) (fun i H2 hi hle=>wH.of_fn (cap:=[_,_]) (args:=[_]) (mov1_fn a c (dg x) H2 (SlR.mono hle (by assumption)) zO (mH x) s hsn _ _ (rC.mono hle (by assumption)) (rC.mono hle (by assumption)) i zO)) (fun i _=>by have:=aUw (aAd (mH x) i) hsn;show _ ≤ atD (dg x) i * 2 ^ s ∧ atD (dg x) i * 2 ^ s ≤ _;omega)) rfl ?_;rintro _ HN kI hN;refine zG rfl ?_;refine zN ?_;refine eP ?_;refine ⟨rfl,_,[],rfl,zA,eQ.mk ?_⟩;rw [mov_val zO,eN] at hN;exact hN
theorem len64_fn (x : Nat) (hx : 0 < x ∧ x < 1073741824) (H : Hp) : iP Tryz.prog 146 #[.int .u64 (x : Nat)] H [] (eQ (fun v _ _=>∃ n : Nat,v = .int .i64 (n : Nat) ∧ 1 ≤ n ∧ n ≤ 30 ∧ x < 2 ^ n)):=by
 refine iP.intro (args:=[.int .u64 (x : Nat)]) Tryz.func146 rfl rfl Tryz.ntmps146 rfl rfl rfl fun G rest=>?_;refine zS ?_;refine zG rfl ?_;refine zN ?_;refine cO ?_;refine zS ?_;refine zM rfl ?_;refine yB rfl ?_;refine zN ?_;refine gD rfl (aI zO) ?_;refine eF ?_;refine bO ?_;refine cO ?_;refine zS ?_;refine zM rfl ?_;refine yB rfl ?_;refine zN ?_;refine fC rfl (fun c1_1=>?_) (fun c1_1=>?_)
 ·refine zS (zM rfl (aB6 rfl rfl zD rfl ?_));rw [show (16 : Int) = ((16 : Nat) : Int) from rfl,aKb _ 16 _ zD];refine zG rfl (zN (dL (zM rfl (fR rfl rfl (dT zO zO) rfl (zG rfl (zN (cO (zS (zM rfl (yB rfl (zN (fC rfl (fun c2_3=>?_) (fun c2_3=>?_)))))))))))))
  ·refine zS (zM rfl (aB6 rfl rfl zD rfl ?_));rw [show (8 : Int) = ((8 : Nat) : Int) from rfl,aKb _ 8 _ zD];refine zG rfl (zN (dL (zM rfl (fR rfl rfl (dT zO zO) rfl (zG rfl (zN (zS (zM rfl (zM rfl (qZ rfl mS nS (aO8 _) rfl (yR (s:=aBs) rfl rfl (aOp _) Tryz.underlying9 rfl (qZ rfl nS lL (aO4 _) rfl (fR rfl rfl (wr8 _ _ zO) rfl (zG rfl (zN (eP ?_))))))))))))))));refine ⟨rfl,_,[],rfl,zA,eQ.mk ?_⟩;exact ⟨24 + (aAt (x / 2 ^ 16 / 2 ^ 8 % 256)).toNat,congrArg (Value.int .i64) zO,aIx (s:=24) (y:=x / 2 ^ 16 / 2 ^ 8) zO zO zO⟩
  refine eF (bO (zS (zM rfl (zM rfl (qZ rfl mS nS (aO8 _) rfl (yR (s:=aBs) rfl rfl (aOp _) Tryz.underlying9 rfl (qZ rfl nS lL (aO4 _) rfl (fR rfl rfl (wr8 _ _ zO) rfl (zG rfl (zN (eP ?_)))))))))));refine ⟨rfl,_,[],rfl,zA,eQ.mk ?_⟩;exact ⟨16 + (aAt (x / 2 ^ 16 % 256)).toNat,congrArg (Value.int .i64) zO,aIx (s:=16) (y:=x / 2 ^ 16) zO zO zO⟩
 refine eF (bO (cO (zS (zM rfl (yB rfl (zN (fC rfl (fun c2_13=>?_) (fun c2_13=>?_))))))))
 ·refine zS (zM rfl (aB6 rfl rfl zD rfl ?_));rw [show (8 : Int) = ((8 : Nat) : Int) from rfl,aKb _ 8 _ zD];refine zG rfl (zN (dL (zM rfl (fR rfl rfl (dT zO zO) rfl (zG rfl (zN (zS (zM rfl (zM rfl (qZ rfl mS nS (aO8 _) rfl (yR (s:=aBs) rfl rfl (aOp _) Tryz.underlying9 rfl (qZ rfl nS lL (aO4 _) rfl (fR rfl rfl (wr8 _ _ zO) rfl (zG rfl (zN (eP ?_))))))))))))))));refine ⟨rfl,_,[],rfl,zA,eQ.mk ?_⟩;exact ⟨8 + (aAt (x / 2 ^ 8 % 256)).toNat,congrArg (Value.int .i64) zO,aIx (s:=8) (y:=x / 2 ^ 8) zO zO zO⟩
 refine eF (bO (zS (zM rfl (zM rfl (qZ rfl mS nS (aO8 _) rfl (yR (s:=aBs) rfl rfl (aOp _) Tryz.underlying9 rfl (qZ rfl nS lL (aO4 _) rfl (fR rfl rfl (wr8 _ _ zO) rfl (zG rfl (zN (eP ?_)))))))))));refine ⟨rfl,_,[],rfl,zA,eQ.mk ?_⟩;exact ⟨0 + (aAt (x % 256)).toNat,congrArg (Value.int .i64) zO,aIx (s:=0) (y:=x) zO zO zO⟩
theorem lz_fn (x : Nat) (hx : 0 < x ∧ x < 1073741824) (H : Hp) : iP Tryz.prog 144 #[.int .u64 (x : Nat)] H [] (eQ (fun v _ _=>∃ n : Nat,v = .int .i64 ((64 : Int) - (n : Nat)) ∧ 1 ≤ n ∧ n ≤ 30 ∧ x < 2 ^ n)):=by
 refine iP.intro (args:=[.int .u64 (x : Nat)]) Tryz.func144 rfl rfl Tryz.ntmps144 rfl rfl rfl fun G rest=>?_;refine zS ?_;refine zG rfl ?_;refine zN ?_;refine zS ?_;refine zM rfl ?_;refine kO rfl (len64_fn x hx _) rfl ?_;rintro _ ⟨nL,rfl,hL1,hL2,hL3⟩;refine lK rfl rfl (dT zO zO) rfl ?_;refine zG rfl ?_;refine zN ?_;refine eP ?_;refine ⟨rfl,_,[],rfl,zA,eQ.mk ?_⟩;exact ⟨nL,rfl,hL1,hL2,hL3⟩
end Go.Proofs

namespace Go.Proofs
open Go.XL
def yK (l : List Int) : List (Int × Int):=(List.range l.length).map fun k=>((l.length : Int) - 1 - (k : Nat),l.getD (l.length - 1 - k) 0)
theorem aEm (l : List Int) : (yK l).length = l.length:=by simp [yK]
theorem aK3 {l : List Int} {k : Nat} {x : Int} (hk : k < l.length) (hx : l[l.length - 1 - k]? = some x) : (yK l)[k]? = some ((l.length : Int) - 1 - (k : Nat),x):=by
 simp [yK,hk,dB,hx]
theorem down_split {l : List Int} {k : Nat} {x : Int} (hk : k < l.length) (hx : l[l.length - 1 - k]? = some x) : yK l = (yK l).take k ++ ((l.length : Int) - 1 - (k : Nat),x) :: (yK l).drop (k + 1):=by
 have h:=aK3 hk hx;obtain ⟨h1,h2⟩:=bY.1 h;have h3:=nO k (yK l);rw [List.drop_eq_getElem_cons h1,h2] at h3;exact h3.symm
theorem down_succ {l : List Int} {k : Nat} {x : Int} (hk : k < l.length) (hx : l[l.length - 1 - k]? = some x) : (yK l).take (k + 1) = (yK l).take k ++ [((l.length : Int) - 1 - (k : Nat),x)]:=by
 rw [List.take_add_one,aK3 hk hx];rfl
theorem aRv {l : List Int} {pre post : List (Int × Int)} {x : Int × Int} (h : yK l = pre ++ x :: post) : pre.length < l.length ∧ x.1 = (l.length : Int) - 1 - (pre.length : Nat) ∧ l[l.length - 1 - pre.length]? = some x.2:=by
 have h1 : (yK l)[pre.length]? = some x:=by rw [h];simp
 have h2 : pre.length < l.length:=by
  have:=(bY.1 h1).1;rw [aEm] at this;exact this
 have h3:=aK3 h2 (aJ (show l.length - 1 - pre.length < l.length by omega));rw [h1] at h3;simp only [Option.some.injEq] at h3;subst h3;exact ⟨h2,rfl,aJ _⟩
end Go.Proofs

namespace Go.Proofs
open Go.XL
theorem aPo (a : Option Addr) (c : Nat) (l : List Int) (H : Hp) (b1 : Nat) (hs : SlR (gV .i64) H a c l) (hl : l.length < 4611686018427387904) (h1 : rC H b1 0 [.slice a l.length c]) : aV9 Tryz.prog 142 [.pointer (some ⟨b1,0,none⟩)] H [] (fun p : Int × Int=>[.int .i64 p.1,.int .i64 p.2]) (yK l):=by
 intro yv J K ownY hy hJ0;refine iP.intro (args:=[yv,.pointer (some ⟨b1,0,none⟩)]) Tryz.func142 rfl rfl Tryz.ntmps142 rfl rfl rfl fun G rest=>?_;refine zS ?_;refine eH rfl h1 qH rfl rfl rfl ?_;refine eD (ts:=#[]) rfl eC rfl ?_;refine lK rfl rfl (dT zO zO) rfl ?_;refine zG rfl ?_;refine zN ?_;refine dK ?_;refine eU [3,0,1] rfl ?_;refine gO (base:=[(0,_),(1,_)]) (fun k : Nat=>[(3,.int .i64 ((l.length : Int) - 1 - (k : Nat)))]) (fun k Hl own=>k ≤ l.length ∧ Le H Hl ∧ ∃ oy,oy ++ rest = own ∧ J ((yK l).take k) Hl oy) (fun k=>l.length - k) 0 (iL (pK rfl zO) (zC)) (jP _) ⟨eS _,Le.refl _,ownY,rfl,by simpa using hJ0⟩ ?_;rintro k Hl _ hle ⟨hk,hH,oy,rfl,hJ⟩;replace hs:=hs.mono hH;replace h1:=h1.mono hH;refine cO ?_;refine zS ?_;refine zM rfl ?_;refine yB rfl ?_;refine zN ?_;refine fC rfl (fun qK=>?_) (fun qK=>?_)
 ·refine eF (bO (cO (dK (zS (zM rfl (zM rfl (eH rfl h1 qH rfl rfl rfl (zM rfl (aEc rfl hs rfl eC gK zO zO rfl ?_)))))))));rintro eb eo _ xE hxE rfl hpE;refine eH rfl (by assumption) gK rfl rfl rfl ?_;have hxt : ((l.length : Int) - 1 - (k : Nat)).toNat = l.length - 1 - k:=zO
  rw [hxt] at hxE;refine qQ [] (nQ:=oy) (rst:=rest) rfl trivial rfl (hy _ _ _ (down_split zO hxE) Hl oy hH hJ) rfl rfl ?_;rintro u HY oy2 yG hR;rcases hR with ⟨rfl,hJ2⟩ | ⟨rfl,hK2⟩
  ·have hH2:=hH.trans yG;rw [← down_succ zO hxE] at hJ2;refine lB rfl rfl (zN (gD rfl rfl (eF (fY (bO (dL (zM rfl (lK rfl rfl (dT zO zO) rfl (zG rfl (bF (eW (k + 1) zO (iL (pK rfl zO) (zC)) (⟨zO,hH2,oy2,rfl,hJ2⟩) zA (hle.trans yG))))))))))))
  have hH2:=hH.trans yG;refine lB rfl rfl (zN (jB rfl rfl (eP (iS (fD (jR (iS ?_)))))));exact ⟨rfl,_,oy2,rfl,zA,eQ.mk ⟨rfl,[],oy2,rfl,.inr hK2⟩⟩
 obtain rfl : k = l.length:=zO
 rw [fJ (by rw [aEm];exact gT _)] at hJ;refine gI (fE (eY (fU rfl ?_)));exact ⟨rfl,_,oy,rfl,zA,eQ.mk ⟨rfl,[],oy,rfl,.inl hJ⟩⟩
theorem back_fn (a : Option Addr) (c n : Nat) (H : Hp) : iP Tryz.prog 132 #[.slice a n c] H [] (eQ (fun v H2 _=>∃ b1,v = .func (.func 142) #[] #[.pointer (some ⟨b1,0,none⟩)] ∧ rC H2 b1 0 [.slice a n c])):=by
 refine iP.intro (args:=[.slice a n c]) Tryz.func132 rfl rfl Tryz.ntmps132 rfl rfl rfl fun G rest=>?_;refine zS ?_;refine iW rfl rfl rfl (fun b1=>?_);refine zG rfl ?_;refine zN ?_;refine zS ?_;refine fT 0 rfl rfl rfl (fun HA o1 iT hb1 ho1=>?_);refine mA rfl rfl ?_;refine zG rfl ?_;refine zN ?_;refine eP ?_;refine ⟨rfl,_,[],rfl,zA,eQ.mk ?_⟩;exact ⟨_,rfl,rC.of_is hb1 ho1⟩
theorem aR6 (a : Option Addr) (c n : Nat) (H : Hp) : iP Tryz.prog 117 #[.slice a n c] H [] (eQ (fun v H2 _=>∃ b1,v = .func (.func 142) #[] #[.pointer (some ⟨b1,0,none⟩)] ∧ rC H2 b1 0 [.slice a n c])):=by
 refine iP.intro (args:=[.slice a n c]) Tryz.func117 rfl rfl Tryz.ntmps117 rfl rfl rfl fun G rest=>?_;refine zS ?_;refine zG rfl ?_;refine zN ?_;refine zS ?_;refine zM rfl ?_;refine eZ rfl (back_fn _ _ _ _) rfl ?_;rintro _ HB pZ ⟨bB,rfl,hpB⟩;refine zG rfl ?_;refine zN ?_;refine eP ?_;refine ⟨rfl,_,[],rfl,zA,eQ.mk ?_⟩;exact ⟨_,rfl,hpB⟩
end Go.Proofs

namespace Go.Proofs
open Go.XL
def aCz (p q : Nat) : Int:=if p < q then -1 else if p = q then 0 else 1
theorem aLv {p q : Nat} (h : (dg p).length < (dg q).length) : p < q:=by
 rcases gJ p q with h1 | h1
 ·exact h1
 have:=lP h1;omega
theorem cmp_len {p q : Nat} (h : (dg p).length ≠ (dg q).length) : 2 * min 1 (max 0 (((dg p).length : Int) - ((dg q).length : Int))) - 1 = aCz p q:=by
 unfold aCz;rcases gJ (dg p).length (dg q).length with h1 | h1
 ·rw [eX (aLv h1)];omega
 have:=aLv (show (dg q).length < (dg p).length by omega);rw [dG zO,dG zO];omega
theorem aNt {p q j : Nat} {u v : Int} (he : (dg p).drop (j + 1) = (dg q).drop (j + 1)) (hu : (dg p)[j]? = some u) (hv : (dg q)[j]? = some v) (h : u < v) : p < q:=by
 have h1:=pD (dg p) j;have h2:=pD (dg q) j;have l1:=(bY.1 hu).1;have l2:=(bY.1 hv).1;rw [nN,rW hu,Nat.min_eq_left zO] at h1;rw [nN,rW hv,Nat.min_eq_left zO,← he] at h2;have b1:=uR (qW j (mH p));rw [List.length_take,Nat.min_eq_left zO] at b1;have b2:=lI (qW j (mH q));have hp:=yY j;have h3 : 1073741824 ^ j * (u + 1073741824 * gZ ((dg p).drop (j + 1)) + 1) ≤ 1073741824 ^ j * (v + 1073741824 * gZ ((dg p).drop (j + 1))):=Int.mul_le_mul_of_nonneg_left zO zO;rw [Int.mul_add] at h3;omega
theorem cmp_next {p q n k : Nat} {u v : Int} (hk : k < n) (he : (dg p).drop (n - k) = (dg q).drop (n - k)) (hu : (dg p)[n - 1 - k]? = some u) (hv : (dg q)[n - 1 - k]? = some v) (h : u = v) : (dg p).drop (n - (k + 1)) = (dg q).drop (n - (k + 1)):=by
 obtain ⟨l1,e1⟩:=bY.1 hu;obtain ⟨l2,e2⟩:=bY.1 hv;rw [show n - (k + 1) = n - 1 - k by omega,List.drop_eq_getElem_cons l1,List.drop_eq_getElem_cons l2,e1,e2,show n - 1 - k + 1 = n - k by omega,he,h]
theorem cmp_eq {p q : Nat} (he : (dg p).drop 0 = (dg q).drop 0) : aCz p q = 0:=by
 rw [List.drop_zero,List.drop_zero] at he;have h1:=nN p;rw [he,nN] at h1;have : p = q:=zO
 unfold aCz;rw [dG zO,eX this]
theorem aWd {p q : Nat} (h : p < q) : aCz p q = -1:=eX h
theorem aWp {p q : Nat} (h : q < p) : aCz p q = 1:=by unfold aCz;rw [dG zO,dG zO]
end Go.Proofs

namespace Go.Proofs
open Go.XL
theorem xJ (p q : Nat) (a b : Option Addr) (c d : Nat) (H : Hp) (hs : SlR (gV .i64) H a c (dg p)) (ht : SlR (gV .i64) H b d (dg q)) (hx : (dg p).length ≤ 100000) (hy : (dg q).length ≤ 100000) : iP Tryz.prog 101 #[.slice a (dg p).length c,.slice b (dg q).length d] H [] (eQ (fun v _ _=>v = .int .i64 (aCz p q))):=by
 refine iP.introC (args:=[.slice a (dg p).length c,.slice b (dg q).length d]) Tryz.func101 rfl rfl Tryz.ntmps101 rfl rfl rfl fun G rest=>?_;refine zS ?_;refine iW rfl rfl rfl (fun b3=>?_);refine fI rV rfl (fun b4=>?_);refine zN ?_;refine cO ?_;refine zS ?_;refine zM rfl ?_;refine eD (ts:=#[]) rfl eC rfl ?_;refine bT 1 rfl rfl qH rfl rfl rfl ?_;refine eD (ts:=#[]) rfl eC rfl ?_;refine zJ rfl ?_;refine zN ?_;refine fC rfl (fun nY=>?_) (fun nY=>?_)
 ·refine zS (zM rfl (eD (ts:=#[]) rfl eC rfl (bT 1 rfl rfl qH rfl rfl rfl (eD (ts:=#[]) rfl eC rfl (lK rfl rfl (dT zO zO) rfl (aKs rfl rfl rfl (aF3 rfl rfl rfl (aAb rfl rfl (dT zO zO) rfl (lK rfl rfl (dT zO zO) rfl (eG 0 rfl rfl rfl rfl gK rfl rfl rfl rfl rfl (zN (eP (fD ?_)))))))))))));refine ⟨rfl,_,[],(fN 0 rfl rfl gK rfl rfl iD),zA,eQ.mk ?_⟩;exact congrArg (Value.int .i64) (cmp_len zO)
 have wD : (dg p).length = (dg q).length:=zO
 refine eF (bO (cO (zS (zM rfl (eZ rfl (aR6 _ _ _ _) rfl ?_)))));rintro _ HB pZ ⟨bB,rfl,hpB⟩;replace hs:=hs.mono pZ;replace ht:=ht.mono pZ;refine zN (dK (eU [3,4,22] rfl (qS (enc:=(fun p : Int × Int=>[.int .i64 p.1,.int .i64 p.2])) rfl (aPo _ _ (dg p) _ _ hs zO hpB) (fun _=>rfl) rfl rfl (fun pre Hl own=>(b4,.cells 3 [.int .i64 (0)]) :: (b3,.cells 170 [.slice b (dg q).length d]) :: rest = own ∧ (dg p).drop ((dg p).length - pre.length) = (dg q).drop ((dg p).length - pre.length)) (fun c Hl own=>c = .ret ∧ (b4,.cells 3 [.int .i64 (aCz p q)]) :: (b3,.cells 170 [.slice b (dg q).length d]) :: rest = own) (⟨rfl,by rw [List.drop_eq_nil_of_le zP,List.drop_eq_nil_of_le zI]⟩) (.inl rfl) ?_ ?_ ?_)))
 ·rintro G lp hd1 hd2 hrec pre x post hxs Hl ownL jQ ⟨rfl,he⟩;obtain ⟨hpl,hx1,hx2⟩:=aRv hxs;have hxt : x.1.toNat = (dg p).length - 1 - pre.length:=zO
  replace hs:=hs.mono jQ;replace ht:=ht.mono jQ;replace hpB:=hpB.mono jQ;refine zS (zG rfl (zN (dL (zG rfl (bF (tS (dK (dK (zS (zM rfl (bT 1 rfl rfl qH rfl rfl rfl (zM rfl (aEc rfl ht rfl eC gK zO zO rfl ?_)))))))))))));rintro eb29 eo29 _ y29 hy29 rfl hp29;rw [hxt] at hy29;refine eH rfl (by assumption) gK rfl rfl rfl (zL rfl (zG rfl (zN (fC rfl (fun aCc=>?_) (fun aCc=>?_)))))
  ·refine zS ?_;refine eG 0 rfl rfl rfl rfl gK rfl rfl rfl rfl rfl ?_;refine zN ?_;refine eP ?_;refine iS ?_;refine iS ?_;refine ⟨rfl,_,zA,?_⟩;first | exact ⟨rfl,by rw [aWd (aNt (j:=(dg p).length - 1 - pre.length) (by rw [show (dg p).length - 1 - pre.length + 1 = (dg p).length - pre.length by omega];exact he) hx2 hy29 zO)]⟩ | exact ⟨rfl,by rw [aWp (aNt (j:=(dg p).length - 1 - pre.length) (by rw [show (dg p).length - 1 - pre.length + 1 = (dg p).length - pre.length by omega];exact he.symm) hy36 hx2 zO)]⟩
  refine zS (zM rfl (bT 1 rfl rfl qH rfl rfl rfl (zM rfl (aEc rfl ht rfl eC gK zO zO rfl ?_))));rintro eb36 eo36 _ y36 hy36 rfl hp36;rw [hxt] at hy36;refine eH rfl (by assumption) gK rfl rfl rfl (zY rfl (zG rfl (zN (fC rfl (fun c2_6=>?_) (fun c2_6=>?_)))))
  ·refine zS ?_;refine eG 0 rfl rfl rfl rfl gK rfl rfl rfl rfl rfl ?_;refine zN ?_;refine eP ?_;refine iS ?_;refine iS ?_;refine ⟨rfl,_,zA,?_⟩;first | exact ⟨rfl,by rw [aWd (aNt (j:=(dg p).length - 1 - pre.length) (by rw [show (dg p).length - 1 - pre.length + 1 = (dg p).length - pre.length by omega];exact he) hx2 hy29 zO)]⟩ | exact ⟨rfl,by rw [aWp (aNt (j:=(dg p).length - 1 - pre.length) (by rw [show (dg p).length - 1 - pre.length + 1 = (dg p).length - pre.length by omega];exact he.symm) hy36 hx2 zO)]⟩
  obtain rfl:=eE (hy29.symm.trans hy36);refine eF (fY (fY ?_));refine ⟨rfl,((b4,.cells 3 [.int .i64 (0)]) :: (b3,.cells 170 [.slice b (dg q).length d]) :: rest),zA,?_⟩;exact ⟨rfl,by rw [fQ];exact cmp_next hpl he hx2 hy29 zO⟩
 ·rintro Hl ownL jQ ⟨rfl,he⟩;refine fY (bO (zS (eG 0 rfl rfl rfl rfl gK rfl rfl rfl rfl rfl (zN (eP ?_)))));refine ⟨rfl,_,[],(fN 0 rfl rfl gK rfl rfl iD),zA,eQ.mk ?_⟩;rw [aEm,Nat.sub_self] at he;exact congrArg (Value.int .i64) (cmp_eq he).symm
 rintro _ Hl ownL jQ ⟨rfl,rfl⟩;refine eP (iS (fD ?_));refine ⟨rfl,_,[],(fN 0 rfl rfl gK rfl rfl iD),zA,eQ.mk ?_⟩;rfl
end Go.Proofs

namespace Go.Proofs
open Go.XL
theorem aO0 {r : Int} (h : 0 ≤ r ∧ r < 8589934592) : IntKind.i64.wrap (r * 2 ^ min (30 : Int).toNat IntKind.i64.bits) = r * 1073741824:=by
 rw [show (2 ^ min (30 : Int).toNat IntKind.i64.bits : Int) = 1073741824 from by decide];exact dT zO zO
theorem DgU.mono {n c : Nat} {v : Value} {H H' : Hp} (hle : Le H H') (h : DgU n c H v) : DgU n c H' v:=by
 obtain ⟨a,h1,h2⟩:=h;exact ⟨a,h1,h2.mono hle⟩
theorem aDa (n c : Nat) : ∀ v H H',Le H H' → DgU n c H v → DgU n c H' v:=fun _ _ _ hle h=>h.mono hle
theorem ShI.at {a q : List Int} {d r : Int} {n k : Nat} (hk : k < n) (h : ShI a d (n - k) q r) : ShI a d ((n - 1 - k) + 1) q r:=by
 rw [show n - 1 - k + 1 = n - k by omega];exact h
end Go.Proofs

namespace Go.Proofs
open Go.XL
theorem ze_170 : nB Tryz.prog 170 = some [.slice none 0 0]:=zK
theorem aPt (p d : Nat) (a : Option Addr) (c : Nat) (H : Hp) (hs : SlR (gV .i64) H a c (dg p)) (hx : (dg p).length ≤ 200000) (hd : 0 < d ∧ d ≤ 1073741824) : iP Tryz.prog 136 #[.slice a (dg p).length c,.int .i64 (d : Nat)] H [] (eQ (fun v H2 _=>∃ a2,v = .tuple #[.slice a2 (dg (p / d)).length (dg p).length,.int .i64 ((p % d : Nat) : Int)] ∧ SlR (gV .i64) H2 a2 (dg p).length (dg (p / d)))):=by
 refine iP.introC (args:=[.slice a (dg p).length c,.int .i64 (d : Nat)]) Tryz.func136 rfl rfl Tryz.ntmps136 rfl rfl rfl fun G rest=>?_;refine zS ?_;refine iW rfl rfl rfl (fun b3=>?_);refine fI ze_170 rfl (fun b4=>?_);refine fI rV rfl (fun b5=>?_);refine zN ?_;refine zS ?_;refine zM rfl ?_;refine eD (ts:=#[]) rfl eC rfl ?_;refine uS (ρ:=(gV .i64)) (n:=(dg p).length) 0 rfl rfl eC gK rV rfl aCl zF rfl rfl (fun p10 c10 hc10 hacc10=>?_);replace hc10:=hc10.symm;subst hc10;refine eG 2 rfl rfl rfl rfl qH rfl rfl rfl rfl rfl ?_;refine zN ?_;refine cO ?_;refine zS ?_;refine zM rfl ?_;refine eZ rfl (aR6 _ _ _ _) rfl ?_;rintro _ HB pZ ⟨bB,rfl,hpB⟩;replace hs:=hs.mono pZ;replace hacc10:=hacc10.mono pZ;refine zN ?_;refine dK ?_;refine eU [3,4,5,12] rfl ?_;refine qS (enc:=(fun p : Int × Int=>[.int .i64 p.1,.int .i64 p.2])) rfl (aPo _ _ (dg p) _ _ hs zO hpB) (fun _=>rfl) rfl rfl (fun pre Hl own=>∃ (pr : Nat × SObj) (ql : List Int) (r : Int),pr :: (b5,.cells 3 [.int .i64 (r)]) :: (b4,.cells 170 [.slice (some ⟨p10.1,0,none⟩) (dg p).length (dg p).length]) :: (b3,.cells 3 [.int .i64 (d : Nat)]) :: rest = own ∧ XL.Acc (gV .i64) 3 Hl pr (some ⟨p10.1,0,none⟩) (dg p).length (ql) ∧ ShI (dg p) (d : Nat) ((dg p).length - pre.length) ql r) (fun _ _ _=>False) (⟨_,_,_,rfl,hacc10,ShI.start _ zO⟩) (.inl rfl) ?_ ?_ ?_
 ·rintro G lp hd1 hd2 hrec pre x post hxs Hl ownL jQ ⟨pr,ql,r,rfl,hacc,hI⟩;obtain ⟨hpl,hx1,hx2⟩:=aRv hxs;have hxt : x.1.toNat = (dg p).length - 1 - pre.length:=zO
  have hxb:=mR (mH p) hx2;have hrr:=hI.rr;obtain ⟨hst,hst2⟩:=(ShI.at hpl hI).step (mH p) zO hx2;refine zS (zG rfl (zN (dL (zG rfl (bF (tS (dK (zS (bT 1 rfl rfl gK rfl rfl rfl (aHf rfl rfl zD rfl ?_))))))))));rw [aO0 zO];refine zM rfl (aN7 rfl rfl rfl ?_);rw [aN1 zO zO];refine eG 1 rfl rfl rfl rfl gK rfl rfl rfl rfl rfl (zN (eU [3,4,5,6] rfl ?_));apply aC7 (fun _=>True) trivial 9 (fun z H=>XL.Acc (gV .i64) 3 H z (some ⟨p10.1,0,none⟩) (dg p).length (ql)) (fun z H=>XL.Acc (gV .i64) 3 H z (some ⟨p10.1,0,none⟩) (dg p).length (ql.set x.1.toNat ((r * 1073741824 + x.2) / (d : Nat)))) (fun _ _ _ hle h=>h.mono hle) (fun _ _ _ hle h=>h.mono hle) 10 [gC _,gC _,gC _,gC _,gC _,gC _,gC _,gC _,gC _,vA] follows zK ⟨aH _,aH _,aH _,aH _,aH _,aH _,aH _,aH _,aH _,lN,trivial⟩ rfl hacc ?steps4 ?tail4
  case steps4 =>
   refine fZ rfl ?_ ?_
   ·intro X e HD bI _ hfa;exact aO rfl (bT 2 rfl rfl qH rfl rfl rfl (bF (fF trivial rfl (by unfold rT;rw [dG zD]))))
   refine fZ rfl ?_ ?_
   ·intro X e HD bI _ hfa;exact aO rfl (zM rfl (bF (fF trivial rfl (by unfold rT;rw [dG zD]))))
   refine fZ rfl ?_ ?_
   ·intro X e HD bI _ hfa;exact aO rfl (bT 1 rfl rfl gK rfl rfl rfl (bF (fF trivial rfl (by unfold rT;rw [dG zD]))))
   refine fZ rfl ?_ ?_
   ·intro X e HD bI _ hfa;exact aO rfl (bT 3 rfl rfl gK rfl rfl rfl (bF (fF trivial rfl (by unfold rT;rw [dG zD]))))
   refine fZ rfl ?_ ?_
   ·intro X e HD bI _ hfa;exact fX rfl (fX rfl (aO rfl (aNf (c:=(r * 1073741824 + x.2) / (d : Nat)) rfl rfl zO (aI1 zO zO zO) rfl (bF (fF trivial rfl (by unfold rT;rw [dG zD]))))))
   refine fZ rfl ?_ ?_
   ·intro X e HD bI _ hfa;exact aO rfl (bT 1 rfl rfl gK rfl rfl rfl (bF (fF trivial rfl (by unfold rT;rw [dG zD]))))
   refine fZ rfl ?_ ?_
   ·intro X e HD bI _ hfa;exact aO rfl (bT 3 rfl rfl gK rfl rfl rfl (bF (fF trivial rfl (by unfold rT;rw [dG zD]))))
   refine fZ rfl ?_ ?_
   ·intro X e HD bI _ hfa;exact fX rfl (fX rfl (aO rfl (XO.rem (c:=(r * 1073741824 + x.2) % (d : Nat)) rfl rfl zO (Int.tmod_eq_emod_of_nonneg zO) rfl (bF (fF trivial rfl (by unfold rT;rw [dG zD]))))))
   refine fZ rfl ?_ ?_
   ·intro X e HD bI _ hfa;exact fX rfl (fX rfl (aO rfl (fK rfl rfl eC gK zO zO rfl (bF (fF trivial rfl (by unfold rT;rw [dG zD]))))))
   refine fZ rfl ?_ ?_
   ·intro X e HD bI _ hfa;refine fX rfl (fX rfl (aO rfl ?_));replace hfa:=hfa (Or.inl rfl)
    skip
    exact lH 0 rfl rfl rfl hfa (k:=x.1.toNat) (u:=(r * 1073741824 + x.2) / (d : Nat)) (by have:=hI.len;omega) rfl rfl gK rfl (fun p9 hacc9=>bF (fF trivial (trivial) (by unfold rT;rw [eX rfl];exact hacc9)))
   exact xG rfl
  case tail4 =>
   intro HD bI _;refine fX rfl (fX rfl (fX rfl (fX rfl (fX rfl (fX rfl (fX rfl (fX rfl (fX rfl (pY rfl rfl (aO rfl ?_))))))))));intro e he
   skip
   refine eG 1 rfl rfl rfl rfl gK rfl rfl rfl rfl rfl (bF (fY ?_));refine ⟨rfl,(e :: (b5,.cells 3 [.int .i64 ((r * 1073741824 + x.2) % (d : Nat))]) :: (b4,.cells 170 [.slice (some ⟨p10.1,0,none⟩) (dg p).length (dg p).length]) :: (b3,.cells 3 [.int .i64 (d : Nat)]) :: rest),zA,?_⟩;rw [hxt] at he;exact ⟨e,_,_,rfl,he,by rw [fQ,List.length_singleton,show (dg p).length - (pre.length + 1) = (dg p).length - 1 - pre.length by omega];exact hst⟩
 ·rintro Hl ownL jQ ⟨pr,ql,r,rfl,hacc,hI⟩;rw [aEm,Nat.sub_self] at hI;obtain ⟨hq,hrm⟩:=hI.done (mH p);rw [nN] at hq hrm;have hqn : (gZ ql).toNat = p / d:=by rw [hq,← Int.natCast_ediv,eN]
  rw [← Int.natCast_emod] at hrm;refine fY (bO (cO (uU 0 rfl hacc rfl (fun HQ wE hsQ=>oT (aBj _ 1 _ rfl) (eU [4,5] rfl ?_)))));apply aC7 (fun _=>True) trivial 3 (fun z _=>z = (b4,.cells 170 [.slice (some ⟨p10.1,0,none⟩) (dg p).length (dg p).length])) (fun z H=>∃ a,z = (b4,.cells 170 [.slice a (dg (p / d)).length (dg p).length]) ∧ SlR (gV .i64) H a (dg p).length (dg (p / d))) (fun _ _ _ _ h=>h) (fun _ _ _ hle ⟨a,h,k⟩=>⟨a,h,k.mono hle⟩) 4 [gC _,fun v H=>DgU (p / d) (dg p).length H v,gC _,vA] follows zK ⟨aH _,aDa _ _,aH _,lN,trivial⟩ rfl rfl ?steps9 ?tail9
  case steps9 =>
   refine fZ rfl ?_ ?_
   ·intro X e HD bI _ hfa;refine aO rfl ?_;replace hfa:=hfa (Or.inr rfl);subst hfa;exact bT 0 rfl rfl qH rfl rfl rfl (bF (fF trivial rfl (by unfold rT;rw [dG zD])))
   refine fZ rfl ?_ ?_
   ·intro X e HD bI _ hfa;replace hsQ:=hsQ.mono bI;refine fX rfl (aO rfl (eZ rfl (aG8 _ _ _ ql _ hsQ (by have:=hI.len;omega) hI.ok hI.len.symm) rfl ?_));rintro _ HN kI hN29;exact bF (fF trivial (by rw [hqn] at hN29;exact hN29) (by unfold rT;rw [dG zD]))
   refine fZ rfl ?_ ?_
   ·intro X e HD bI _ hfa;exact aO rfl (bT 1 rfl rfl gK rfl rfl rfl (bF (fF trivial rfl (by unfold rT;rw [dG zD]))))
   refine fZ rfl ?_ ?_
   ·intro X e HD bI _ hfa;refine eR rfl rfl ?_;rintro _ ⟨a29,rfl,hd29⟩;refine aO rfl ?_;replace hfa:=hfa (Or.inl rfl);subst hfa;exact eG 0 rfl rfl rfl rfl qH rfl rfl rfl rfl rfl (bF (fF trivial (trivial) (by unfold rT;rw [eX rfl];exact ⟨_,rfl,hd29⟩)))
   exact xG rfl
  case tail9 =>
   intro HD bI _;refine fX rfl (eR rfl rfl ?_);rintro _ ⟨a29,rfl,hd29⟩;refine fX rfl (pY rfl rfl (aO rfl ?_));intro e he;obtain ⟨aN,rfl,hN⟩:=he;refine eG 1 rfl rfl rfl rfl gK rfl rfl rfl rfl rfl (zN (eP ?_));refine ⟨rfl,_,[],(fN 0 rfl rfl qH rfl rfl (fN 1 rfl rfl gK rfl rfl iD)),zA,eQ.mk ?_⟩;exact ⟨aN,by rw [hrm];rfl,hN⟩
 rintro c Hl ownL jQ hK;exact hK.elim
end Go.Proofs

namespace Go.Proofs
open Go.XL
theorem u64_id {a : Int} (h : 0 ≤ a ∧ a < 1073741824) : IntKind.u64.wrap a = ((a.toNat : Nat) : Int):=by
 simp only [IntKind.wrap,IntKind.bits,IntKind.signed,Bool.false_and,Bool.false_eq_true,if_false];omega
theorem moved_len {q s n : Nat} {x : Int} (h2 : 1 ≤ (dg q).length) (hx : (dg q)[(dg q).length - 1]? = some x) (hs : s + n = 30) (hn : x.toNat < 2 ^ n) : (dg (q * 2 ^ s)).length = (dg q).length:=by
 have hq:=pD (dg q) ((dg q).length - 1);rw [nN,rW hx,List.drop_eq_nil_of_le zO,Nat.min_eq_left zO] at hq;simp only [gZ,Int.mul_zero,Int.add_zero] at hq;have hlo:=uR (qW ((dg q).length - 1) (mH q));rw [List.length_take,Nat.min_eq_left zO] at hlo;have hxd:=mR (mH q) hx;have hp : ((1073741824 ^ ((dg q).length - 1) : Nat) : Int) = (1073741824 : Int) ^ ((dg q).length - 1):=by rw [Int.natCast_pow];rfl
 have h1 : q < (x.toNat + 1) * 1073741824 ^ ((dg q).length - 1):=by
  have : (q : Int) < ((x.toNat + 1 : Nat) : Int) * ((1073741824 ^ ((dg q).length - 1) : Nat) : Int):=by
   rw [hp,show ((x.toNat + 1 : Nat) : Int) = x + 1 by omega,Int.add_mul,Int.one_mul,Int.mul_comm x];omega
  rw [← Int.natCast_mul] at this;exact Int.ofNat_lt.1 this
 have hle : (dg q).length ≤ (dg (q * 2 ^ s)).length:=lP (Nat.le_mul_of_pos_right q (Nat.pow_pos zD))
 have hge : (dg (q * 2 ^ s)).length ≤ (dg q).length:=by
  rw [lG]
  have e : 1073741824 ^ (dg q).length = 2 ^ n * 2 ^ s * 1073741824 ^ ((dg q).length - 1):=by
   rw [← Nat.pow_add,show n + s = 30 by omega];obtain ⟨k,hk⟩ : ∃ k,(dg q).length = k + 1:=⟨(dg q).length - 1,zO⟩
   rw [hk,Nat.pow_succ,Nat.add_sub_cancel,Nat.mul_comm]
  rw [e];have h3 : q * 2 ^ s < (x.toNat + 1) * 1073741824 ^ ((dg q).length - 1) * 2 ^ s:=Nat.mul_lt_mul_of_pos_right h1 (Nat.pow_pos zD);refine Nat.lt_of_lt_of_le h3 ?_;rw [Nat.mul_right_comm];exact Nat.mul_le_mul_right _ (Nat.mul_le_mul_right _ zO)
 omega
theorem aK2 {l : List Int} {n : Nat} (h : l.length ≤ n) (hn : n ≤ l.length + 2) : gZ ((l ++ [0,0]).take n) = gZ l ∧ ((l ++ [0,0]).take n).length = n:=by
 constructor
 ·rw [List.take_append,fJ h,xS]
  have : gZ ([0,0].take (n - l.length)) = 0:=by
   have h1 : n - l.length = 0 ∨ n - l.length = 1 ∨ n - l.length = 2:=zO
   rcases h1 with h1 | h1 | h1 <;> rw [h1] <;> rfl
  rw [this];simp
 rw [List.length_take,fQ];simp;omega
theorem okD_zeros {l : List Int} (h : tX l) (n : Nat) : tX ((l ++ [0,0]).take n):=qW n (okD_app.2 ⟨h,aGw 2⟩)
theorem aL8 (n : Nat) : ((1073741824 ^ n : Nat) : Int) = (1073741824 : Int) ^ n:=by rw [Int.natCast_pow];rfl
theorem long_start {p q s : Nat} (hq : q ≤ p) (h2 : 1 ≤ (dg q).length) (hk : (dg (q * 2 ^ s)).length = (dg q).length) (hs : s ≤ 29) :
  LgI ((p : Int) * ((2 ^ s : Nat) : Int)) (dg (q * 2 ^ s)) ((dg p).length + 1) ((dg p).length - (dg (q * 2 ^ s)).length + 1) ((dg (p * 2 ^ s) ++ [0,0]).take ((dg p).length + 1)) (List.replicate ((dg p).length - (dg (q * 2 ^ s)).length + 1) 0):=by
 have hl:=lP hq
 have hpl : (dg (p * 2 ^ s)).length ≤ (dg p).length + 1:=by
  rw [lG,Nat.pow_succ];have h1:=aEy p;have h3 : 2 ^ s ≤ 1073741824:=eK (Nat.pow_le_pow_right zD hs) zD;exact jS (Nat.mul_le_mul_left _ h3) (Nat.mul_lt_mul_of_pos_right h1 zD)
 have hpg : (dg p).length ≤ (dg (p * 2 ^ s)).length:=lP (Nat.le_mul_of_pos_right p (Nat.pow_pos zD));obtain ⟨e1,e2⟩:=aK2 (l:=dg (p * 2 ^ s)) (n:=(dg p).length + 1) hpl zO
 have hst:=LgI.start (v:=dg (q * 2 ^ s)) (mH _) (okD_zeros (mH (p * 2 ^ s)) ((dg p).length + 1)) e2 zO (by
  rw [e1,nN,nN,hk,← aL8,← Int.natCast_mul];refine Int.ofNat_lt.2 ?_;have h1:=aEy p;have h3:=dg_ge (n:=q) (fun h=>by rw [h,dg0] at h2;simp at h2)
  have h4 : 1073741824 ^ (dg p).length ≤ q * 1073741824 ^ ((dg p).length + 1 - (dg q).length):=by
   have e : 1073741824 ^ (dg p).length = 1073741824 ^ ((dg q).length - 1) * 1073741824 ^ ((dg p).length + 1 - (dg q).length):=by
    rw [← Nat.pow_add];congr 1;omega
   rw [e];exact Nat.mul_le_mul_right _ h3
  have h5 : p * 2 ^ s < q * 1073741824 ^ ((dg p).length + 1 - (dg q).length) * 2 ^ s:=Nat.mul_lt_mul_of_pos_right (Nat.lt_of_lt_of_le h1 h4) (Nat.pow_pos zD);rw [Nat.mul_right_comm] at h5
  exact h5)
 rw [e1,nN,Int.natCast_mul,show (dg p).length + 1 - (dg (q * 2 ^ s)).length = (dg p).length - (dg (q * 2 ^ s)).length + 1 by omega] at hst;exact hst
theorem moved_le (p : Nat) {s : Nat} (hs : s ≤ 29) : (dg (p * 2 ^ s)).length ≤ (dg p).length + 1:=by
 rw [lG,Nat.pow_succ];have h1:=aEy p;have h3 : 2 ^ s ≤ 1073741824:=eK (Nat.pow_le_pow_right zD hs) zD;exact jS (Nat.mul_le_mul_left _ h3) (Nat.mul_lt_mul_of_pos_right h1 zD)
def ShU (p d : Nat) (H : Hp) (v : Value) : Prop:=∃ a2,v = .tuple #[.slice a2 (dg (p / d)).length (dg p).length,.int .i64 ((p % d : Nat) : Int)] ∧ SlR (gV .i64) H a2 (dg p).length (dg (p / d))
theorem aQ0 (p d : Nat) : ∀ v H H',Le H H' → ShU p d H v → ShU p d H' v:=fun _ _ _ hle ⟨a,h1,h2⟩=>⟨a,h1,h2.mono hle⟩
theorem shl_1 {s : Nat} (hs : s ≤ 29) : IntKind.i64.wrap (1 * 2 ^ min ((s : Int)).toNat IntKind.i64.bits) = ((2 ^ s : Nat) : Int):=by
 rw [(aUw (a:=1) zD hs).1,Int.one_mul,aDl]
theorem dg_val_le {l : List Int} (h : tX l) : (dg (gZ l).toNat).length ≤ l.length:=by
 rw [lG];have h1:=uR h;have h2:=lI h;rw [← aL8] at h1;omega
theorem natDiv {x : Int} {a b : Nat} (h0 : 0 ≤ x) (h : x / ((a : Nat) : Int) = ((b : Nat) : Int)) : x.toNat / a = b:=by
 obtain ⟨n,rfl⟩:=Int.eq_ofNat_of_zero_le h0;rw [eN];exact Int.ofNat_inj.1 (by rw [Int.natCast_ediv];exact h)
theorem guess_init {head v t : Int} (hv : 0 < v ∧ v < 1073741824) (hh : 0 ≤ head ∧ head < (v + 1) * 1073741824) (ht : t < 1073741824) (hi : ∀ g,head / v = g → t ≤ g) :
  (t ≤ min (head / v) 1073741823 ∧ 0 ≤ min (head / v) 1073741823 ∧ min (head / v) 1073741823 < 1073741824) ∧ 0 ≤ head - min (head / v) 1073741823 * v ∧ head - min (head / v) 1073741823 * v < 2147483648:=by
 have h1:=hi _ rfl;have h2 : 0 ≤ head / v:=Int.ediv_nonneg hh.1 zO;have h3 : head / v * v ≤ head:=Int.ediv_mul_le _ zO;have h4 : head < (head / v + 1) * v:=Int.lt_ediv_add_one_mul_self _ hv.1;rw [Int.add_mul,Int.one_mul] at h4;refine ⟨zO,?_⟩;rcases Int.le_total (head / v) 1073741823 with h5 | h5
 ·rw [Int.min_eq_left h5];omega
 rw [Int.min_eq_right h5];have h6 : 1073741823 * v ≤ head / v * v:=Int.mul_le_mul_of_nonneg_right h5 zO;rw [Int.add_mul] at hh;omega
end Go.Proofs

namespace Go.Proofs
open Go.XL
set_option maxRecDepth 100000 in
set_option maxHeartbeats 1600000 in
theorem dlong_fn (p q : Nat) (a b : Option Addr) (c d : Nat) (H : Hp) (hs : SlR (gV .i64) H a c (dg p)) (ht : SlR (gV .i64) H b d (dg q)) (hx : (dg p).length ≤ 100000) (hy : (dg q).length ≤ 100000) (hq2 : 2 ≤ (dg q).length) (hqp : q ≤ p) : iP Tryz.prog 137 #[.slice a (dg p).length c,.slice b (dg q).length d] H [] (eQ (fun v H2 _=>∃ a1 c1 a2 c2,v = .tuple #[.slice a1 (dg (p / q)).length c1,.slice a2 (dg (p % q)).length c2] ∧ SlR (gV .i64) H2 a1 c1 (dg (p / q)) ∧ SlR (gV .i64) H2 a2 c2 (dg (p % q)))):=by
 refine iP.intro (args:=[.slice a (dg p).length c,.slice b (dg q).length d]) Tryz.func137 rfl rfl Tryz.ntmps137 rfl rfl rfl fun G rest=>?_;refine zS ?_;refine zG rfl ?_;refine zG rfl ?_;refine zN ?_;refine zS ?_;refine zM rfl ?_;refine zM rfl ?_;refine eD (ts:=#[]) rfl eC rfl ?_;refine lK (c:=(((dg q).length - 1 : Nat) : Int)) rfl rfl ((dT zO zO).trans zO) rfl ?_;refine eV (i:=(dg q).length - 1) rfl ht rfl eC gK zO rfl ?_;rintro eb23 eo23 _ x23 aFy rfl rY;refine eH rfl (by assumption) gK rfl rfl rfl ?_;have hxd:=mR (mH q) aFy;have hx0:=aO7 aFy;refine qZ rfl lL mS (u64_id (mR (mH q) aFy)) rfl ?_;refine kO rfl (lz_fn x23.toNat zO _) rfl ?_;rintro _ ⟨nL,rfl,hL1,hL2,hL3⟩;refine lK (c:=((30 - nL : Nat) : Int)) rfl rfl ((dT zO zO).trans zO) rfl ?_;obtain ⟨s,hsd⟩ : ∃ s,s = 30 - nL:=⟨_,rfl⟩
 rw [← hsd];have hs29 : s ≤ 29:=zO
 have hk:=moved_len (s:=s) (n:=nL) zO aFy zO hL3;have hlqp:=lP hqp;have hpg : (dg p).length ≤ (dg (p * 2 ^ s)).length:=lP (Nat.le_mul_of_pos_right p (Nat.pow_pos zD));have hpl:=moved_le p hs29;refine zG rfl (zN (zS (zM rfl (zM rfl (eZ rfl (aP0 q s _ _ _ ht zO hs29) rfl ?_)))));rintro _ HV vF ⟨aV,rfl,hV⟩;replace hs:=hs.mono vF;replace ht:=ht.mono vF;replace rY:=rY.mono vF;refine zG rfl (zN (zS (zM rfl (zM rfl (eZ rfl (aP0 p s _ _ _ hs zO hs29) rfl ?_)))));rintro _ HU hleU ⟨aU,rfl,hU⟩;replace hs:=hs.mono hleU;replace ht:=ht.mono hleU;replace rY:=rY.mono hleU;replace hV:=hV.mono hleU;refine fS rfl eC gK rV rfl rfl rfl (fun b34=>fT 0 rfl rfl rfl (fun HP34 oP34 hleP34 hbP34 hoP34=>?_));have tD:=SlR.lit (ρ:=(gV .i64)) (l:=[_,_]) hbP34 hoP34 (iH.cons1 (cs:=[_]) rfl (iH.one1 rfl));replace hs:=hs.mono hleP34;replace ht:=ht.mono hleP34;replace rY:=rY.mono hleP34;replace hV:=hV.mono hleP34;replace hU:=hU.mono hleP34;refine aFb rfl hU rfl rfl (by assumption) rfl zI eC gK rV rfl aCl zI rfl (fun p35 a35 c35 qB=>zG rfl (zN (zS (zM rfl (zM rfl (eD (ts:=#[]) rfl eC rfl (fR (c:=(((dg p).length + 1 : Nat) : Int)) rfl rfl ((dT zO zO).trans zO) rfl (XO.sliceA 0 (n:=(dg p).length + 1) rfl rfl rfl qB zI eC gK rfl (fun p40 hacc40=>?_)))))))));have hL0:=(aK2 (l:=dg (p * 2 ^ s)) (n:=(dg p).length + 1) hpl zO).2;have haddr:=hacc40.addr (by rw [hL0];omega);subst haddr;refine zG rfl (zN (zS (zM rfl (eD (ts:=#[]) rfl eC rfl (zG rfl (zN (zS (zM rfl (eD (ts:=#[]) rfl eC rfl (zM rfl (lK (c:=(((dg p).length - (dg (q * 2 ^ s)).length : Nat) : Int)) rfl rfl ((dT zO zO).trans zO) rfl (fR (c:=(((dg p).length - (dg (q * 2 ^ s)).length + 1 : Nat) : Int)) rfl rfl ((dT zO zO).trans zO) rfl (uS (ρ:=(gV .i64)) (n:=((dg p).length - (dg (q * 2 ^ s)).length + 1)) 0 rfl rfl eC gK rV rfl aCl zF rfl rfl (fun p48 c48 hc48 hacc48=>?_))))))))))))));replace hc48:=hc48.symm;subst hc48;refine zG rfl (zN (cO (zS (zM rfl (eD (ts:=#[]) rfl eC rfl (lK (c:=(((dg p).length - (dg (q * 2 ^ s)).length : Nat) : Int)) rfl rfl ((dT zO zO).trans zO) rfl (zG rfl (zN (dK (eU [10,4,6,7,8,9] rfl (gO (base:=[(4,_),(6,_),(7,_),(8,_),(9,_)]) (fun ζ : Nat × (List Int) × (List Int) × (Nat × SObj) × (Nat × SObj)=>[(10,.int .i64 ((((dg p).length - (dg (q * 2 ^ s)).length : Nat) : Int) - ((ζ.1 : Nat) : Int)))]) (fun ζ Hl own=>ζ.1 ≤ ((dg p).length - (dg (q * 2 ^ s)).length + 1) ∧ ζ.2.2.2.2 :: ζ.2.2.2.1 :: rest = own ∧ Acc (gV .i64) 3 Hl ζ.2.2.2.1 (some ⟨p40.1,0,none⟩) c35 (ζ.2.1) ∧ Acc (gV .i64) 3 Hl ζ.2.2.2.2 (some ⟨p48.1,0,none⟩) ((dg p).length - (dg (q * 2 ^ s)).length + 1) (ζ.2.2.1) ∧ (LgI ((p : Int) * ((2 ^ s : Nat) : Int)) (dg (q * 2 ^ s)) ((dg p).length + 1) ((dg p).length - (dg (q * 2 ^ s)).length + 1 - (ζ.1)) ζ.2.1 ζ.2.2.1)) (fun ζ=>((dg p).length - (dg (q * 2 ^ s)).length + 1) - ζ.1) (0,((dg (p * 2 ^ s) ++ [0,0]).take ((dg p).length + 1)),(List.replicate ((dg p).length - (dg (q * 2 ^ s)).length + 1) 0),p40,p48) (iL (pK rfl zO) (zC)) zB ⟨eS _,rfl,hacc40,hacc48,long_start hqp zO hk hs29⟩ ?_)))))))))));rintro ⟨j,uu,qq,pu,pq⟩ Hl0 _ gB ⟨hkj,rfl,haccu,haccq,hI⟩;replace hs:=hs.mono gB;replace ht:=ht.mono gB;replace rY:=rY.mono gB;replace hV:=hV.mono gB;replace hU:=hU.mono gB;replace tD:=tD.mono gB;replace qB:=qB.mono gB;replace hacc40:=hacc40.mono gB;replace hacc48:=hacc48.mono gB;try dsimp only at hkj haccu haccq hI ⊢
 refine cO (zS (zM rfl (yB rfl (zN (fC rfl (fun c0_12=>?_) (fun c0_12=>?_))))))
 ·have hj : j ≤ (dg p).length - (dg (q * 2 ^ s)).length:=zO
  obtain ⟨i,hij⟩ : ∃ i,i = (dg p).length - (dg (q * 2 ^ s)).length - j:=⟨_,rfl⟩
  have hIi : LgI ((p : Int) * ((2 ^ s : Nat) : Int)) (dg (q * 2 ^ s)) ((dg p).length + 1) (i + 1) uu qq:=by rw [show i + 1 = (dg p).length - (dg (q * 2 ^ s)).length + 1 - j by omega];exact hI
  have hlu:=hIi.lu;have hlq:=hIi.lq;obtain ⟨w0,hw0⟩ : ∃ w,uu[i + (dg (q * 2 ^ s)).length]? = some w:=⟨_,aJ zO⟩
  obtain ⟨w1,hw1⟩ : ∃ w,uu[i + (dg (q * 2 ^ s)).length - 1]? = some w:=⟨_,aJ zO⟩
  obtain ⟨w2,hw2⟩ : ∃ w,uu[i + (dg (q * 2 ^ s)).length - 2]? = some w:=⟨_,aJ zO⟩
  obtain ⟨v1,hv1⟩ : ∃ w,(dg (q * 2 ^ s))[(dg (q * 2 ^ s)).length - 1]? = some w:=⟨_,aJ zO⟩
  obtain ⟨v2,hv2⟩ : ∃ w,(dg (q * 2 ^ s))[(dg (q * 2 ^ s)).length - 2]? = some w:=⟨_,aJ zO⟩
  have hv10:=aO7 hv1;obtain ⟨t,hW⟩:=hIi.window (mH _) zO hv1 hv2 hv10 zO hw0 hw1 hw2;have d0:=mR hIi.ou hw0;have d1:=mR hIi.ou hw1;have d2:=mR hIi.ou hw2;have e1:=mR (mH _) hv1;have e2:=mR (mH _) hv2;have hh:=hW.hh;have htt:=hW.ht;have hi10 : (((dg p).length - (dg (q * 2 ^ s)).length : Nat) : Int) - ((j : Nat) : Int) = ((i : Nat) : Int):=zO
  rw [hi10];refine eF (bO (cO (dK (cO (eU [4,6,7,8,9,10] rfl ?_)))));apply pI 14 [gC _,gC _,gC _,gC _,gC _,gC _,gC _,gC _,gC _,gC _,gC _,gC _,gC _,gC _] follows zK zK ⟨aH _,aH _,aH _,aH _,aH _,aH _,aH _,aH _,aH _,aH _,aH _,aH _,aH _,aH _,trivial⟩ ?steps13 ?tail13
  case steps13 =>
   refine dF rfl ?_ ?_
   ·intro X;exact aF rfl (zM rfl zQ)
   refine dF rfl ?_ ?_
   ·intro X;exact aF rfl (zM rfl zQ)
   refine dF rfl ?_ ?_
   ·intro X;exact aF rfl (zM rfl zQ)
   refine dF rfl ?_ ?_
   ·intro X;exact gL rfl (gL rfl (aF rfl (fR (c:=((i + (dg (q * 2 ^ s)).length : Nat) : Int)) rfl rfl ((dT zO zO).trans zO) rfl zQ)))
   refine dF rfl ?_ ?_
   ·intro X;exact gL rfl (gL rfl (aF rfl (fK rfl rfl eC gK zO zO rfl zQ)))
   refine dF rfl ?_ ?_
   ·intro X;refine gL rfl (aF rfl (lY 1 rfl rfl haccu (hw0) gK rfl (fun csZ vZ hRZ hvZ=>?_) (fun csZ hRZ=>⟨_,by cases hRZ;rfl⟩)));cases hRZ;cases hvZ;exact zQ
   refine dF rfl ?_ ?_
   ·intro X;refine gL rfl (aF rfl (aHf rfl rfl zD rfl ?_));rw [aO0 zO];exact zQ
   refine dF rfl ?_ ?_
   ·intro X;exact aF rfl (zM rfl zQ)
   refine dF rfl ?_ ?_
   ·intro X;exact aF rfl (zM rfl zQ)
   refine dF rfl ?_ ?_
   ·intro X;exact aF rfl (zM rfl zQ)
   refine dF rfl ?_ ?_
   ·intro X;exact gL rfl (gL rfl (aF rfl (fR (c:=((i + (dg (q * 2 ^ s)).length : Nat) : Int)) rfl rfl ((dT zO zO).trans zO) rfl zQ)))
   refine dF rfl ?_ ?_
   ·intro X;exact gL rfl (aF rfl (lK (c:=((i + (dg (q * 2 ^ s)).length - 1 : Nat) : Int)) rfl rfl ((dT zO zO).trans zO) rfl zQ))
   refine dF rfl ?_ ?_
   ·intro X;exact gL rfl (gL rfl (aF rfl (fK rfl rfl eC gK zO zO rfl zQ)))
   refine dF rfl ?_ ?_
   ·intro X;refine gL rfl (aF rfl (lY 1 rfl rfl haccu (hw1) gK rfl (fun csZ vZ hRZ hvZ=>?_) (fun csZ hRZ=>⟨_,by cases hRZ;rfl⟩)));cases hRZ;cases hvZ;exact zQ
   exact jH rfl
  case tail13 =>
   refine gL rfl (gL rfl (gL rfl (gL rfl (gL rfl (gL rfl (gL rfl (gL rfl (gL rfl (gL rfl (gL rfl (gL rfl (gL rfl (gL rfl (aF rfl (aN7 rfl rfl rfl ?_)))))))))))))));rw [aN1 zO zO];refine zG rfl (zN (zS (zM rfl (zM rfl (zM rfl (lK (c:=(((dg (q * 2 ^ s)).length - 1 : Nat) : Int)) rfl rfl ((dT zO zO).trans zO) rfl (eV (i:=(dg (q * 2 ^ s)).length - 1) rfl hV rfl eC gK zO rfl ?_)))))));rintro eb75 eo75 _ x75 hx75 rfl aCp;refine eH rfl (by assumption) gK rfl rfl rfl ?_;obtain rfl:=eE (hv1.symm.trans hx75);refine aNf (c:=(w0 * 1073741824 + w1) / v1) rfl rfl zO (aI1 zO zO zO) rfl (aF3 rfl rfl rfl (zG rfl (zN (aN2 (base:=[(4,_),(6,_),(7,_),(8,_),(9,_),(10,_)]) (fun ζ : (Nat × SObj) × (Nat × SObj) × (Int)=>[(12,.int .i64 ζ.2.2)]) (fun ζ Hl own=>ζ.1 :: ζ.2.1 :: rest = own ∧ (XL.Acc (gV .i64) 3 Hl ζ.1 (some ⟨p48.1,0,none⟩) ((dg p).length - (dg (q * 2 ^ s)).length + 1) qq) ∧ (XL.Acc (gV .i64) 3 Hl ζ.2.1 (some ⟨p40.1,0,none⟩) c35 uu) ∧ ((t ≤ ζ.2.2 ∧ 0 ≤ ζ.2.2 ∧ ζ.2.2 < 1073741824) ∧ ζ.2.2 ≤ t + 1)) (zC) (fun hleJ26=>?_) ?_))))
   ·skip
    refine dK (eU [12,4,6,7,8,9,10,11] rfl (gO (base:=[(4,_),(6,_),(7,_),(8,_),(9,_),(10,_),(11,_)]) (fun ζ : Nat × (Int) × (Nat × SObj) × (Nat × SObj)=>[(12,.int .i64 ζ.2.1)]) (fun ζ Hl own=>ζ.2.2.2 :: ζ.2.2.1 :: rest = own ∧ Acc (gV .i64) 3 Hl ζ.2.2.1 (some ⟨p40.1,0,none⟩) c35 (uu) ∧ Acc (gV .i64) 3 Hl ζ.2.2.2 (some ⟨p48.1,0,none⟩) ((dg p).length - (dg (q * 2 ^ s)).length + 1) (qq) ∧ ((t ≤ ζ.2.1 ∧ 0 ≤ ζ.2.1 ∧ ζ.2.1 < 1073741824) ∧ 0 ≤ (w0 * 1073741824 + w1) - ζ.2.1 * v1 ∧ (w0 * 1073741824 + w1) - ζ.2.1 * v1 < 2147483648)) (fun ζ=>ζ.2.1.toNat) (0,(min ((w0 * 1073741824 + w1) / v1) 1073741823),pu,pq) (zC) zB ⟨rfl,haccu,haccq,guess_init zO hh htt.2 hW.hi⟩ ?_));rintro ⟨r,g,pm1,pm2⟩ Hl1 _ iT ⟨rfl,haccm1,haccm2,hg⟩;replace hs:=hs.mono iT;replace ht:=ht.mono iT;replace rY:=rY.mono iT;replace hV:=hV.mono iT;replace hU:=hU.mono iT;replace tD:=tD.mono iT;replace qB:=qB.mono iT;replace haccu:=haccu.mono iT;replace haccq:=haccq.mono iT;replace aCp:=aCp.mono iT;replace hleJ26:=hleJ26.trans iT;try dsimp only at haccm1 haccm2 hg ⊢
    refine cO (cO ?_);by_cases hG1 : ((w0 * 1073741824 + w1) - g * v1) * 1073741824 + w2 < g * v2
    ·skip
     refine eU [4,6,7,8,9,10,11,12] rfl ?_;obtain ⟨bEA,oEA,rfl⟩:=hV.addr zO;obtain ⟨_,xA,hxA,rfl,hpA⟩:=hV.elem ((dg (q * 2 ^ s)).length - 2) zO;obtain ⟨_,xB,hxB,rfl,hpB⟩:=hV.elem ((dg (q * 2 ^ s)).length - 1) zO;have eA : v2 = xA:=eE (hv2.symm.trans hxA);subst eA;have eB : v1 = xB:=eE (hv1.symm.trans hxB);subst eB;have hb1:=aIe hg.1.2 e1;have hb2:=aIe hg.1.2 e2;apply aAv (fun _=>True) trivial [] zD (fun _ _ _ _=>True) (fun _ _ _ _ _ _ h=>h) 35 [gC _,gC _,gC _,gC _,gC _,gC _,gC _,gC _,gC _,gC _,gC _,gC _,gC _,gC _,gC _,gC _,gC _,gC _,gC _,gC _,gC _,gC _,gC _,gC _,gC _,gC _,gC _,gC _,gC _,gC _,gC _,gC _,gC _,gC _,gC _] follows zK ⟨aH _,aH _,aH _,aH _,aH _,aH _,aH _,aH _,aH _,aH _,aH _,aH _,aH _,aH _,aH _,aH _,aH _,aH _,aH _,aH _,aH _,aH _,aH _,aH _,aH _,aH _,aH _,aH _,aH _,aH _,aH _,aH _,aH _,aH _,aH _,trivial⟩ zD ?steps27 ?tail27
     case steps27 =>
      refine dO rfl ?_ ?_
      ·intro X ext HD bI _;exact aO rfl (zM rfl zR)
      refine dO rfl ?_ ?_
      ·intro X ext HD bI _;exact aO rfl (zM rfl zR)
      refine dO rfl ?_ ?_
      ·intro X ext HD bI _;exact aO rfl (zM rfl zR)
      refine dO rfl ?_ ?_
      ·intro X ext HD bI _;exact fX rfl (aO rfl (lK (c:=(((dg (q * 2 ^ s)).length - 2 : Nat) : Int)) rfl rfl ((dT zO zO).trans zO) rfl zR))
      refine dO rfl ?_ ?_
      ·intro X ext HD bI _;exact fX rfl (fX rfl (aO rfl (fK rfl rfl eC gK zO zO rfl zR)))
      refine dO rfl ?_ ?_
      ·intro X ext HD bI _;replace hs:=hs.mono bI;replace ht:=ht.mono bI;replace rY:=rY.mono bI;replace hV:=hV.mono bI;replace hU:=hU.mono bI;replace tD:=tD.mono bI;replace qB:=qB.mono bI;replace aCp:=aCp.mono bI;replace haccm1:=haccm1.mono bI;replace haccm2:=haccm2.mono bI;replace hpA:=hpA.mono bI;replace hpB:=hpB.mono bI;exact fX rfl (aO rfl (eH rfl (by assumption) gK rfl rfl rfl zR))
      refine dO rfl ?_ ?_
      ·intro X ext HD bI _;exact fX rfl (fX rfl (aO rfl (aAb rfl rfl (dT zO zO) rfl zR)))
      refine dO rfl ?_ ?_
      ·intro X ext HD bI _;exact aO rfl (zM rfl zR)
      refine dO rfl ?_ ?_
      ·intro X ext HD bI _;exact aO rfl (zM rfl zR)
      refine dO rfl ?_ ?_
      ·intro X ext HD bI _;exact aO rfl (zM rfl zR)
      refine dO rfl ?_ ?_
      ·intro X ext HD bI _;exact aO rfl (zM rfl zR)
      refine dO rfl ?_ ?_
      ·intro X ext HD bI _;exact fX rfl (aO rfl (lK (c:=(((dg (q * 2 ^ s)).length - 1 : Nat) : Int)) rfl rfl ((dT zO zO).trans zO) rfl zR))
      refine dO rfl ?_ ?_
      ·intro X ext HD bI _;exact fX rfl (fX rfl (aO rfl (fK rfl rfl eC gK zO zO rfl zR)))
      refine dO rfl ?_ ?_
      ·intro X ext HD bI _;replace hs:=hs.mono bI;replace ht:=ht.mono bI;replace rY:=rY.mono bI;replace hV:=hV.mono bI;replace hU:=hU.mono bI;replace tD:=tD.mono bI;replace qB:=qB.mono bI;replace aCp:=aCp.mono bI;replace haccm1:=haccm1.mono bI;replace haccm2:=haccm2.mono bI;replace hpA:=hpA.mono bI;replace hpB:=hpB.mono bI;exact fX rfl (aO rfl (eH rfl (by assumption) gK rfl rfl rfl zR))
      refine dO rfl ?_ ?_
      ·intro X ext HD bI _;exact fX rfl (fX rfl (aO rfl (aAb rfl rfl (dT zO zO) rfl zR)))
      refine dO rfl ?_ ?_
      ·intro X ext HD bI _;exact fX rfl (fX rfl (aO rfl (lK rfl rfl (dT zO zO) rfl zR)))
      refine dO rfl ?_ ?_
      ·intro X ext HD bI _;refine fX rfl (aO rfl (aHf rfl rfl zD rfl ?_));rw [aO0 zO];exact zR
      refine dO rfl ?_ ?_
      ·intro X ext HD bI _;exact aO rfl (zM rfl zR)
      refine dO rfl ?_ ?_
      ·intro X ext HD bI _;exact aO rfl (zM rfl zR)
      refine dO rfl ?_ ?_
      ·intro X ext HD bI _;exact aO rfl (zM rfl zR)
      refine dO rfl ?_ ?_
      ·intro X ext HD bI _;exact fX rfl (fX rfl (aO rfl (fR (c:=((i + (dg (q * 2 ^ s)).length : Nat) : Int)) rfl rfl ((dT zO zO).trans zO) rfl zR)))
      refine dO rfl ?_ ?_
      ·intro X ext HD bI _;exact fX rfl (aO rfl (lK (c:=((i + (dg (q * 2 ^ s)).length - 2 : Nat) : Int)) rfl rfl ((dT zO zO).trans zO) rfl zR))
      refine dO rfl ?_ ?_
      ·intro X ext HD bI _;exact fX rfl (fX rfl (aO rfl (fK rfl rfl eC gK zO zO rfl zR)))
      refine dO rfl ?_ ?_
      ·intro X ext HD bI _;replace haccm1:=haccm1.mono bI;refine fX rfl (aO rfl (lY 1 rfl rfl haccm1 (hw2) gK rfl (fun csZ vZ hRZ hvZ=>?_) (fun csZ hRZ=>⟨_,by cases hRZ;rfl⟩)));cases hRZ;cases hvZ;exact zR
      refine dO rfl ?_ ?_
      ·intro X ext HD bI _;refine fX rfl (fX rfl (aO rfl (aN7 rfl rfl rfl ?_)));rw [aN1 zO zO];exact zR
      refine dO rfl ?_ ?_
      ·intro X ext HD bI _;exact fX rfl (fX rfl (aO rfl (zY rfl zR)))
      refine dO rfl ?_ ?_
      ·intro X ext HD bI _;exact fX rfl (aO rfl (zM rfl zR))
      refine dO rfl ?_ ?_
      ·intro X ext HD bI _;exact fX rfl (aO rfl (zT rfl (bG hG1) (zM rfl zR)))
      refine dO rfl ?_ ?_
      ·intro X ext HD bI _;exact fX rfl (aO rfl (zT rfl (bG hG1) (zM rfl zR)))
      refine dO rfl ?_ ?_
      ·intro X ext HD bI _;exact fX rfl (aO rfl (zT rfl (bG hG1) (zM rfl zR)))
      refine dO rfl ?_ ?_
      ·intro X ext HD bI _;exact fX rfl (aO rfl (zT rfl (bG hG1) (zM rfl zR)))
      refine dO rfl ?_ ?_
      ·intro X ext HD bI _;exact fX rfl (fX rfl (aO rfl (zT rfl (bG hG1) (lK (c:=(((dg (q * 2 ^ s)).length - 1 : Nat) : Int)) rfl rfl ((dT zO zO).trans zO) rfl zR))))
      refine dO rfl ?_ ?_
      ·intro X ext HD bI _;exact fX rfl (fX rfl (fX rfl (aO rfl (zT rfl (bG hG1) (fK rfl rfl eC gK zO zO rfl zR)))))
      refine dO rfl ?_ ?_
      ·intro X ext HD bI _;replace hs:=hs.mono bI;replace ht:=ht.mono bI;replace rY:=rY.mono bI;replace hV:=hV.mono bI;replace hU:=hU.mono bI;replace tD:=tD.mono bI;replace qB:=qB.mono bI;replace aCp:=aCp.mono bI;replace haccm1:=haccm1.mono bI;replace haccm2:=haccm2.mono bI;replace hpA:=hpA.mono bI;replace hpB:=hpB.mono bI;exact fX rfl (fX rfl (aO rfl (zT rfl (bG hG1) (eH rfl (by assumption) gK rfl rfl rfl zR))))
      refine dO rfl ?_ ?_
      ·intro X ext HD bI _;exact fX rfl (fX rfl (fX rfl (aO rfl (zT rfl (bG hG1) (aAb rfl rfl (dT zO zO) rfl zR)))))
      exact uE rfl
     case tail27 =>
      intro HD bI _;replace haccm1:=haccm1.mono bI;replace haccm2:=haccm2.mono bI;replace hleJ26:=hleJ26.trans bI;replace iT:=iT.trans bI;refine fX rfl (fX rfl (fX rfl (fX rfl (fX rfl (fX rfl (fX rfl (fX rfl (fX rfl (fX rfl (fX rfl (fX rfl (fX rfl (fX rfl (fX rfl (fX rfl (fX rfl (fX rfl (fX rfl (fX rfl (fX rfl (fX rfl (fX rfl (fX rfl (fX rfl (fX rfl (fX rfl (fX rfl (fX rfl (fX rfl (fX rfl ?_))))))))))))))))))))))))))))));refine fX rfl (fX rfl (fX rfl (fX rfl (aO rfl (nT (zT rfl (bG hG1) (lK rfl rfl (dT zO zO) rfl (zT rfl (bG hG1) (yA rfl (zV (bG hG1) rfl (zN (fC rfl (fun c1_40=>?_) (fun c1_40=>?_)))))))))))))
      ·have hgt:=hW.less g zO hG1;have hgn : (t ≤ g - 1 ∧ 0 ≤ g - 1 ∧ g - 1 < 1073741824) ∧ 0 ≤ (w0 * 1073741824 + w1) - (g - 1) * v1 ∧ (w0 * 1073741824 + w1) - (g - 1) * v1 < 2147483648:=⟨⟨hgt,zO,zO⟩,by rw [Int.sub_mul,Int.one_mul];omega,by rw [Int.sub_mul,Int.one_mul];omega⟩
       refine eF (bO (dK (dL (zM rfl (lK rfl rfl (dT zO zO) rfl (zG rfl (bF (fY (eW ((r + 1,(g - 1),pm1,pm2)) (by show (g - 1).toNat < g.toNat;omega) (zC) (⟨rfl,by first | (exact haccm1) | (rw [rfl];exact haccm1),by first | (exact haccm2) | (rw [rfl];exact haccm2),hgn⟩) zB (iT))))))))))
      have hgl : g ≤ t + 1:=hW.lo g zO (by first | exact .inl zO | exact .inr zO);refine gI (fE (eY (fU rfl (wJ (pm2,pm1,g) (zC) (⟨rfl,haccm2,haccm1,by first | exact ⟨hg.1,hgl⟩ | exact ⟨hg.1,hW.lo g hg.1.2 (.inl zO)⟩⟩) zB hleJ26))))
    skip
    refine eU [4,6,7,8,9,10,11,12] rfl ?_;obtain ⟨bEA,oEA,rfl⟩:=hV.addr zO;obtain ⟨_,xA,hxA,rfl,hpA⟩:=hV.elem ((dg (q * 2 ^ s)).length - 2) zO;obtain ⟨_,xB,hxB,rfl,hpB⟩:=hV.elem ((dg (q * 2 ^ s)).length - 1) zO;have eA : v2 = xA:=eE (hv2.symm.trans hxA);subst eA;have eB : v1 = xB:=eE (hv1.symm.trans hxB);subst eB;have hb1:=aIe hg.1.2 e1;have hb2:=aIe hg.1.2 e2;apply aAv (fun _=>True) trivial [] zD (fun _ _ _ _=>True) (fun _ _ _ _ _ _ h=>h) 35 [gC _,gC _,gC _,gC _,gC _,gC _,gC _,gC _,gC _,gC _,gC _,gC _,gC _,gC _,gC _,gC _,gC _,gC _,gC _,gC _,gC _,gC _,gC _,gC _,gC _,gC _,gC _,gC _,gC _,gC _,gC _,gC _,gC _,gC _,gC _] follows zK ⟨aH _,aH _,aH _,aH _,aH _,aH _,aH _,aH _,aH _,aH _,aH _,aH _,aH _,aH _,aH _,aH _,aH _,aH _,aH _,aH _,aH _,aH _,aH _,aH _,aH _,aH _,aH _,aH _,aH _,aH _,aH _,aH _,aH _,aH _,aH _,trivial⟩ zD ?steps41 ?tail41
    case steps41 =>
     refine dO rfl ?_ ?_
     ·intro X ext HD bI _;exact aO rfl (zM rfl zR)
     refine dO rfl ?_ ?_
     ·intro X ext HD bI _;exact aO rfl (zM rfl zR)
     refine dO rfl ?_ ?_
     ·intro X ext HD bI _;exact aO rfl (zM rfl zR)
     refine dO rfl ?_ ?_
     ·intro X ext HD bI _;exact fX rfl (aO rfl (lK (c:=(((dg (q * 2 ^ s)).length - 2 : Nat) : Int)) rfl rfl ((dT zO zO).trans zO) rfl zR))
     refine dO rfl ?_ ?_
     ·intro X ext HD bI _;exact fX rfl (fX rfl (aO rfl (fK rfl rfl eC gK zO zO rfl zR)))
     refine dO rfl ?_ ?_
     ·intro X ext HD bI _;replace hs:=hs.mono bI;replace ht:=ht.mono bI;replace rY:=rY.mono bI;replace hV:=hV.mono bI;replace hU:=hU.mono bI;replace tD:=tD.mono bI;replace qB:=qB.mono bI;replace aCp:=aCp.mono bI;replace haccm1:=haccm1.mono bI;replace haccm2:=haccm2.mono bI;replace hpA:=hpA.mono bI;replace hpB:=hpB.mono bI;exact fX rfl (aO rfl (eH rfl (by assumption) gK rfl rfl rfl zR))
     refine dO rfl ?_ ?_
     ·intro X ext HD bI _;exact fX rfl (fX rfl (aO rfl (aAb rfl rfl (dT zO zO) rfl zR)))
     refine dO rfl ?_ ?_
     ·intro X ext HD bI _;exact aO rfl (zM rfl zR)
     refine dO rfl ?_ ?_
     ·intro X ext HD bI _;exact aO rfl (zM rfl zR)
     refine dO rfl ?_ ?_
     ·intro X ext HD bI _;exact aO rfl (zM rfl zR)
     refine dO rfl ?_ ?_
     ·intro X ext HD bI _;exact aO rfl (zM rfl zR)
     refine dO rfl ?_ ?_
     ·intro X ext HD bI _;exact fX rfl (aO rfl (lK (c:=(((dg (q * 2 ^ s)).length - 1 : Nat) : Int)) rfl rfl ((dT zO zO).trans zO) rfl zR))
     refine dO rfl ?_ ?_
     ·intro X ext HD bI _;exact fX rfl (fX rfl (aO rfl (fK rfl rfl eC gK zO zO rfl zR)))
     refine dO rfl ?_ ?_
     ·intro X ext HD bI _;replace hs:=hs.mono bI;replace ht:=ht.mono bI;replace rY:=rY.mono bI;replace hV:=hV.mono bI;replace hU:=hU.mono bI;replace tD:=tD.mono bI;replace qB:=qB.mono bI;replace aCp:=aCp.mono bI;replace haccm1:=haccm1.mono bI;replace haccm2:=haccm2.mono bI;replace hpA:=hpA.mono bI;replace hpB:=hpB.mono bI;exact fX rfl (aO rfl (eH rfl (by assumption) gK rfl rfl rfl zR))
     refine dO rfl ?_ ?_
     ·intro X ext HD bI _;exact fX rfl (fX rfl (aO rfl (aAb rfl rfl (dT zO zO) rfl zR)))
     refine dO rfl ?_ ?_
     ·intro X ext HD bI _;exact fX rfl (fX rfl (aO rfl (lK rfl rfl (dT zO zO) rfl zR)))
     refine dO rfl ?_ ?_
     ·intro X ext HD bI _;refine fX rfl (aO rfl (aHf rfl rfl zD rfl ?_));rw [aO0 zO];exact zR
     refine dO rfl ?_ ?_
     ·intro X ext HD bI _;exact aO rfl (zM rfl zR)
     refine dO rfl ?_ ?_
     ·intro X ext HD bI _;exact aO rfl (zM rfl zR)
     refine dO rfl ?_ ?_
     ·intro X ext HD bI _;exact aO rfl (zM rfl zR)
     refine dO rfl ?_ ?_
     ·intro X ext HD bI _;exact fX rfl (fX rfl (aO rfl (fR (c:=((i + (dg (q * 2 ^ s)).length : Nat) : Int)) rfl rfl ((dT zO zO).trans zO) rfl zR)))
     refine dO rfl ?_ ?_
     ·intro X ext HD bI _;exact fX rfl (aO rfl (lK (c:=((i + (dg (q * 2 ^ s)).length - 2 : Nat) : Int)) rfl rfl ((dT zO zO).trans zO) rfl zR))
     refine dO rfl ?_ ?_
     ·intro X ext HD bI _;exact fX rfl (fX rfl (aO rfl (fK rfl rfl eC gK zO zO rfl zR)))
     refine dO rfl ?_ ?_
     ·intro X ext HD bI _;replace haccm1:=haccm1.mono bI;refine fX rfl (aO rfl (lY 1 rfl rfl haccm1 (hw2) gK rfl (fun csZ vZ hRZ hvZ=>?_) (fun csZ hRZ=>⟨_,by cases hRZ;rfl⟩)));cases hRZ;cases hvZ;exact zR
     refine dO rfl ?_ ?_
     ·intro X ext HD bI _;refine fX rfl (fX rfl (aO rfl (aN7 rfl rfl rfl ?_)));rw [aN1 zO zO];exact zR
     refine dO rfl ?_ ?_
     ·intro X ext HD bI _;exact fX rfl (fX rfl (aO rfl (zY rfl zR)))
     refine dO rfl ?_ ?_
     ·intro X ext HD bI _;exact fX rfl (aO rfl (zM rfl zR))
     refine dO rfl ?_ ?_
     ·intro X ext HD bI _;exact fX rfl (aO rfl (zU rfl (aI hG1) zR))
     refine dO rfl ?_ ?_
     ·intro X ext HD bI _;exact fX rfl (aO rfl (zU rfl (aI hG1) zR))
     refine dO rfl ?_ ?_
     ·intro X ext HD bI _;exact fX rfl (aO rfl (zU rfl (aI hG1) zR))
     refine dO rfl ?_ ?_
     ·intro X ext HD bI _;exact fX rfl (aO rfl (zU rfl (aI hG1) zR))
     refine dO rfl ?_ ?_
     ·intro X ext HD bI _;exact fX rfl (fX rfl (aO rfl (zU rfl (aI hG1) zR)))
     refine dO rfl ?_ ?_
     ·intro X ext HD bI _;exact fX rfl (fX rfl (fX rfl (aO rfl (zU rfl (aI hG1) zR))))
     refine dO rfl ?_ ?_
     ·intro X ext HD bI _;exact fX rfl (fX rfl (aO rfl (zU rfl (aI hG1) zR)))
     refine dO rfl ?_ ?_
     ·intro X ext HD bI _;exact fX rfl (fX rfl (fX rfl (aO rfl (zU rfl (aI hG1) zR))))
     exact uE rfl
    case tail41 =>
     intro HD bI _;replace haccm1:=haccm1.mono bI;replace haccm2:=haccm2.mono bI;replace hleJ26:=hleJ26.trans bI;refine fX rfl (fX rfl (fX rfl (fX rfl (fX rfl (fX rfl (fX rfl (fX rfl (fX rfl (fX rfl (fX rfl (fX rfl (fX rfl (fX rfl (fX rfl (fX rfl (fX rfl (fX rfl (fX rfl (fX rfl (fX rfl (fX rfl (fX rfl (fX rfl (fX rfl (fX rfl (fX rfl (fX rfl (fX rfl (fX rfl (fX rfl ?_))))))))))))))))))))))))))))));refine fX rfl (fX rfl (fX rfl (fX rfl (aO rfl (nT (zU rfl (aI hG1) (zU rfl (aI hG1) (zW (aI hG1) rfl (zN (gD rfl rfl (gI (fE (eY (fU rfl (wJ (pm2,pm1,g) (zC) (⟨rfl,haccm2,haccm1,by first | exact ⟨hg.1,hgl⟩ | exact ⟨hg.1,hW.lo g hg.1.2 (.inl zO)⟩⟩) zB hleJ26)))))))))))))))
   rintro ⟨pj2,pj1,gj⟩ Hl _ hleK26 ⟨rfl,hj2,hj1,hgj⟩;replace hs:=hs.mono hleK26;replace ht:=ht.mono hleK26;replace rY:=rY.mono hleK26;replace hV:=hV.mono hleK26;replace hU:=hU.mono hleK26;replace tD:=tD.mono hleK26;replace qB:=qB.mono hleK26;replace haccu:=haccu.mono hleK26;replace haccq:=haccq.mono hleK26;replace aCp:=aCp.mono hleK26;replace gB:=gB.trans hleK26;try dsimp only at hj2 hj1 hgj⊢ 
   refine zS (zG rfl (zN (cO (zS (zM rfl (eD (ts:=#[]) rfl eC rfl (zM rfl (zN (dK (eU [13,121,4,6,7,8,9,10,12,120] rfl (gO (base:=[(4,_),(6,_),(7,_),(8,_),(9,_),(10,_),(12,_),(120,_)]) (fun ζ : Nat × (List Int) × (Int) × (Nat × SObj) × (Nat × SObj)=>[(13,.int .i64 ζ.2.2.1),(121,.int .i64 (ζ.1 : Nat))]) (fun ζ Hl own=>ζ.1 ≤ (dg (q * 2 ^ s)).length ∧ ζ.2.2.2.2 :: ζ.2.2.2.1 :: rest = own ∧ Acc (gV .i64) 3 Hl ζ.2.2.2.1 (some ⟨p40.1,0,none⟩) c35 (ζ.2.1) ∧ Acc (gV .i64) 3 Hl ζ.2.2.2.2 (some ⟨p48.1,0,none⟩) ((dg p).length - (dg (q * 2 ^ s)).length + 1) (qq) ∧ (SbI uu (dg (q * 2 ^ s)) gj i (ζ.1) ζ.2.1 ζ.2.2.1)) (fun ζ=>(dg (q * 2 ^ s)).length - ζ.1) (0,uu,0,pj1,pj2) (zC) zB ⟨eS _,rfl,hj1,hj2,SbI.start _ _ _ hIi.ou⟩ ?_)))))))))));rintro ⟨e,us,o,ps1,ps2⟩ Hl2 _ jJ ⟨hke,rfl,haccs1,haccs2,hS⟩;replace hs:=hs.mono jJ;replace ht:=ht.mono jJ;replace rY:=rY.mono jJ;replace hV:=hV.mono jJ;replace hU:=hU.mono jJ;replace tD:=tD.mono jJ;replace qB:=qB.mono jJ;replace haccu:=haccu.mono jJ;replace haccq:=haccq.mono jJ;replace aCp:=aCp.mono jJ;replace hj2:=hj2.mono jJ;replace hj1:=hj1.mono jJ;replace gB:=gB.trans jJ;try dsimp only at hke haccs1 haccs2 hS ⊢
   refine zS (zL rfl (zN (cO (fC rfl (fun c2_52=>?_) (fun c2_52=>?_)))))
   ·refine eF (bO (cO (dK (zS (zM rfl (zG rfl (zN (cO (eU [4,6,7,8,9,10,12,13,14,120,121] rfl ?_)))))))));obtain ⟨z,hz⟩ : ∃ z,us[i + e]? = some z:=⟨_,aJ (by have:=hS.len;omega)⟩
    obtain ⟨bEY,oEY,rfl⟩:=hV.addr zO;obtain ⟨_,xY,hxY,rfl,hpY⟩:=hV.elem (e) zO;have hbp:=aIe hgj.1.2 (mR (mH _) hxY);have hbo:=hS.oo;have hbz:=mR hS.ok hz;apply pI 14 [gC _,gC _,gC _,gC _,gC _,gC _,gC _,gC _,gC _,gC _,gC _,gC _,gC _,gC _] follows zK zK ⟨aH _,aH _,aH _,aH _,aH _,aH _,aH _,aH _,aH _,aH _,aH _,aH _,aH _,aH _,trivial⟩ ?steps53 ?tail53
    case steps53 =>
     refine dF rfl ?_ ?_
     ·intro X;exact aF rfl (zM rfl zQ)
     refine dF rfl ?_ ?_
     ·intro X;exact aF rfl (zM rfl zQ)
     refine dF rfl ?_ ?_
     ·intro X;exact aF rfl (zM rfl zQ)
     refine dF rfl ?_ ?_
     ·intro X;exact gL rfl (gL rfl (aF rfl (fR (c:=((i + e : Nat) : Int)) rfl rfl ((dT zO zO).trans zO) rfl zQ)))
     refine dF rfl ?_ ?_
     ·intro X;exact gL rfl (gL rfl (aF rfl (fK rfl rfl eC gK zO zO rfl zQ)))
     refine dF rfl ?_ ?_
     ·intro X;refine gL rfl (aF rfl (lY 1 rfl rfl haccs1 (hz) gK rfl (fun csZ vZ hRZ hvZ=>?_) (fun csZ hRZ=>⟨_,by cases hRZ;rfl⟩)));cases hRZ;cases hvZ;exact zQ
     refine dF rfl ?_ ?_
     ·intro X;exact aF rfl (zM rfl zQ)
     refine dF rfl ?_ ?_
     ·intro X;exact aF rfl (zM rfl zQ)
     refine dF rfl ?_ ?_
     ·intro X;exact aF rfl (zM rfl zQ)
     refine dF rfl ?_ ?_
     ·intro X;exact gL rfl (gL rfl (aF rfl (fK rfl rfl eC gK zO zO rfl zQ)))
     refine dF rfl ?_ ?_
     ·intro X;exact gL rfl (aF rfl (eH rfl (by assumption) gK rfl rfl rfl zQ))
     refine dF rfl ?_ ?_
     ·intro X;exact gL rfl (gL rfl (aF rfl (aAb rfl rfl (dT zO zO) rfl zQ)))
     refine dF rfl ?_ ?_
     ·intro X;exact gL rfl (gL rfl (aF rfl (lK rfl rfl (dT zO zO) rfl zQ)))
     refine dF rfl ?_ ?_
     ·intro X;exact aF rfl (zM rfl zQ)
     exact jH rfl
    case tail53 =>
     refine gL rfl (gL rfl (gL rfl (gL rfl (gL rfl (gL rfl (gL rfl (gL rfl (gL rfl (gL rfl (gL rfl (gL rfl (gL rfl (gL rfl (aF rfl (fR rfl rfl (dT zO zO) rfl (zG rfl (zN (dL (zM rfl (zM rfl (zM rfl (fR (c:=((i + e : Nat) : Int)) rfl rfl ((dT zO zO).trans zO) rfl (zM rfl (aDw rfl rfl rfl ?_))))))))))))))))))))))));rw [aEd];refine zM rfl (aB6 rfl rfl zD rfl ?_);rw [aI6];refine fK rfl rfl eC gK zO zO rfl (lH 1 rfl rfl rfl haccs1 (by have:=hS.len;omega) rfl rfl gK rfl (fun ps62 haccs62=>zG rfl (bF (fY (bO (dL (fR rfl rfl (dT zO zO) rfl (zM rfl (bF (eW ((e + 1,_,_,ps62,ps2)) (by show (dg (q * 2 ^ s)).length - (e + 1) < (dg (q * 2 ^ s)).length - e;omega) (zC) (⟨by show e + 1 ≤ (dg (q * 2 ^ s)).length;omega,rfl,by first | (exact haccs62) | (rw [rfl];exact haccs62),by first | (exact haccs2) | (rw [rfl];exact haccs2),hS.step hgj.1.2 (mH _) hxY hz⟩) zB (jJ)))))))))))
   obtain rfl : e = (dg (q * 2 ^ s)).length:=zO
   have hzS : us[i + (dg (q * 2 ^ s)).length]? = some w0:=by rw [hS.far _ (.inr (gT _))];exact hw0
   have hbo:=hS.oo;obtain ⟨hSy,hSn⟩:=LgI.sub hIi (mH _) zO hW hS ⟨hgj.1.1,hgj.2⟩ hgj.1.2.2 hw0;refine gI (fE (eY (fU rfl (bO (zS (zM rfl (zM rfl (zM rfl (fR (c:=((i + (dg (q * 2 ^ s)).length : Nat) : Int)) rfl rfl ((dT zO zO).trans zO) rfl (fK rfl rfl eC gK zO zO rfl (lY 1 rfl rfl haccs1 (hzS) gK rfl (fun cs65 v65 hR65 hv65=>?_) (fun cs65 hR65=>⟨_,by cases hR65;rfl⟩))))))))))));cases hR65;cases hv65;refine zM rfl (fR rfl rfl (dT zO zO) rfl (fK rfl rfl eC gK zO zO rfl (lH 1 rfl rfl rfl haccs1 (by have:=hS.len;omega) rfl rfl gK rfl (fun ps67 haccs67=>zN (cO (zS (zM rfl (zM rfl (zM rfl (fR (c:=((i + (dg (q * 2 ^ s)).length : Nat) : Int)) rfl rfl ((dT zO zO).trans zO) rfl (fK rfl rfl eC gK zO zO rfl (lY 1 rfl rfl haccs67 (List.getElem?_set_self (by have:=hS.len;omega)) gK rfl (fun cs70 v70 hR70 hv70=>?_) (fun cs70 hR70=>⟨_,by cases hR70;rfl⟩)))))))))))));cases hR70;cases hv70;refine zL rfl (zN (fC rfl (fun c3_71=>?_) (fun c3_71=>?_)))
   ·obtain ⟨hE,hg0,hAdd⟩:=hSn (by assumption);refine zS (zM rfl (lK rfl rfl (dT zO zO) rfl (zG rfl (zN (zS (zG rfl (zN (cO (zS (zM rfl (eD (ts:=#[]) rfl eC rfl (zM rfl (zN (dK (eU [16,169,4,6,7,8,9,10,12,168] rfl (gO (base:=[(4,_),(6,_),(7,_),(8,_),(9,_),(10,_),(12,_),(168,_)]) (fun ζ : Nat × (List Int) × (Int) × (Nat × SObj) × (Nat × SObj)=>[(16,.int .i64 ζ.2.2.1),(169,.int .i64 (ζ.1 : Nat))]) (fun ζ Hl own=>ζ.1 ≤ (dg (q * 2 ^ s)).length ∧ ζ.2.2.2.2 :: ζ.2.2.2.1 :: rest = own ∧ Acc (gV .i64) 3 Hl ζ.2.2.2.1 (some ⟨p40.1,0,none⟩) c35 (ζ.2.1) ∧ Acc (gV .i64) 3 Hl ζ.2.2.2.2 (some ⟨p48.1,0,none⟩) ((dg p).length - (dg (q * 2 ^ s)).length + 1) (qq) ∧ (AdI (us.set (i + (dg (q * 2 ^ s)).length) (w0 + o)) (dg (q * 2 ^ s)) i (ζ.1) ζ.2.1 ζ.2.2.1)) (fun ζ=>(dg (q * 2 ^ s)).length - ζ.1) (0,(us.set (i + (dg (q * 2 ^ s)).length) (w0 + o)),0,ps67,ps2) (zC) zB ⟨eS _,rfl,haccs67,haccs2,AdI.start hE⟩ ?_))))))))))))))));rintro ⟨f,ua,o2,pa1,pa2⟩ Hl3 _ nZ ⟨hkf,rfl,hacca1,hacca2,hAd⟩;replace hs:=hs.mono nZ;replace ht:=ht.mono nZ;replace rY:=rY.mono nZ;replace hV:=hV.mono nZ;replace hU:=hU.mono nZ;replace tD:=tD.mono nZ;replace qB:=qB.mono nZ;replace haccu:=haccu.mono nZ;replace haccq:=haccq.mono nZ;replace aCp:=aCp.mono nZ;replace haccs2:=haccs2.mono nZ;replace haccs67:=haccs67.mono nZ;replace gB:=gB.trans nZ;try dsimp only at hkf hacca1 hacca2 hAd ⊢
    refine zS (zL rfl (zN (cO (fC rfl (fun c4_72=>?_) (fun c4_72=>?_)))))
    ·refine eF (bO (cO (dK (zS (zM rfl (zG rfl (zN (cO (eU [4,6,7,8,9,10,12,16,17,168,169] rfl ?_)))))))));have hul : ua.length = us.length:=by rw [hAd.len,gQ]
     obtain ⟨z,hz⟩ : ∃ z,ua[i + f]? = some z:=⟨_,aJ (by have:=hS.len;omega)⟩
     obtain ⟨bEY,oEY,rfl⟩:=hV.addr zO;obtain ⟨_,xY,hxY,rfl,hpY⟩:=hV.elem (f) zO;have hzz:=hAd.ok _ _ zO hz;have hyy:=mR (mH _) hxY;have hoo:=hAd.oo;apply pI 12 [gC _,gC _,gC _,gC _,gC _,gC _,gC _,gC _,gC _,gC _,gC _,gC _] follows zK zK ⟨aH _,aH _,aH _,aH _,aH _,aH _,aH _,aH _,aH _,aH _,aH _,aH _,trivial⟩ ?steps73 ?tail73
     case steps73 =>
      refine dF rfl ?_ ?_
      ·intro X;exact aF rfl (zM rfl zQ)
      refine dF rfl ?_ ?_
      ·intro X;exact aF rfl (zM rfl zQ)
      refine dF rfl ?_ ?_
      ·intro X;exact aF rfl (zM rfl zQ)
      refine dF rfl ?_ ?_
      ·intro X;exact gL rfl (gL rfl (aF rfl (fR (c:=((i + f : Nat) : Int)) rfl rfl ((dT zO zO).trans zO) rfl zQ)))
      refine dF rfl ?_ ?_
      ·intro X;exact gL rfl (gL rfl (aF rfl (fK rfl rfl eC gK zO zO rfl zQ)))
      refine dF rfl ?_ ?_
      ·intro X;refine gL rfl (aF rfl (lY 1 rfl rfl hacca1 (hz) gK rfl (fun csZ vZ hRZ hvZ=>?_) (fun csZ hRZ=>⟨_,by cases hRZ;rfl⟩)));cases hRZ;cases hvZ;exact zQ
      refine dF rfl ?_ ?_
      ·intro X;exact aF rfl (zM rfl zQ)
      refine dF rfl ?_ ?_
      ·intro X;exact aF rfl (zM rfl zQ)
      refine dF rfl ?_ ?_
      ·intro X;exact gL rfl (gL rfl (aF rfl (fK rfl rfl eC gK zO zO rfl zQ)))
      refine dF rfl ?_ ?_
      ·intro X;exact gL rfl (aF rfl (eH rfl (by assumption) gK rfl rfl rfl zQ))
      refine dF rfl ?_ ?_
      ·intro X;exact gL rfl (gL rfl (aF rfl (fR rfl rfl (dT zO zO) rfl zQ)))
      refine dF rfl ?_ ?_
      ·intro X;exact aF rfl (zM rfl zQ)
      exact jH rfl
     case tail73 =>
      refine gL rfl (gL rfl (gL rfl (gL rfl (gL rfl (gL rfl (gL rfl (gL rfl (gL rfl (gL rfl (gL rfl (gL rfl (aF rfl (fR rfl rfl (dT zO zO) rfl (zG rfl (zN (dL (zM rfl (zM rfl (zM rfl (fR (c:=((i + f : Nat) : Int)) rfl rfl ((dT zO zO).trans zO) rfl (zM rfl (aDw rfl rfl rfl ?_))))))))))))))))))))));rw [aEd];refine zM rfl (aB6 rfl rfl zD rfl ?_);rw [aI6];refine fK rfl rfl eC gK zO zO rfl (lH 1 rfl rfl rfl hacca1 (by have h1:=hS.len;have h2 : ua.length = us.length:=(by rw [hAd.len,gQ]);omega) rfl rfl gK rfl (fun ps82 haccs82=>zG rfl (bF (fY (bO (dL (fR rfl rfl (dT zO zO) rfl (zM rfl (bF (eW ((f + 1,_,_,ps82,pa2)) (by show (dg (q * 2 ^ s)).length - (f + 1) < (dg (q * 2 ^ s)).length - f;omega) (zC) (⟨by show f + 1 ≤ (dg (q * 2 ^ s)).length;omega,rfl,by first | (exact haccs82) | (rw [rfl];exact haccs82),by first | (exact hacca2) | (rw [rfl];exact hacca2),(hAd.step (mH _) hxY hz).1⟩) zB (nZ)))))))))))
    obtain rfl : f = (dg (q * 2 ^ s)).length:=zO
    obtain ⟨hzA,hNx⟩:=hAdd _ _ hAd;have hoo:=hAd.oo;refine gI (fE (eY (fU rfl (bO (dL (zM rfl (zM rfl (zM rfl (fR (c:=((i + (dg (q * 2 ^ s)).length : Nat) : Int)) rfl rfl ((dT zO zO).trans zO) rfl (fK rfl rfl eC gK zO zO rfl (lY 1 rfl rfl hacca1 (hzA) gK rfl (fun cs85 v85 hR85 hv85=>?_) (fun cs85 hR85=>⟨_,by cases hR85;rfl⟩))))))))))));cases hR85;cases hv85;refine zM rfl (fR rfl rfl (dT zO zO) rfl (fK rfl rfl eC gK zO zO rfl (lH 1 rfl rfl rfl hacca1 (by have h1:=hS.len;have h2 : ua.length = us.length:=(by rw [hAd.len,gQ]);omega) rfl rfl gK rfl (fun ps87 haccs87=>zN (dL (zM rfl (zM rfl (zM rfl (fK rfl rfl eC gK zO zO rfl (lH 0 rfl rfl rfl hacca2 zO rfl rfl gK rfl (fun ps89 haccs89=>bF (fY (bO (dL (zM rfl (lK rfl rfl (dT zO zO) rfl (zG rfl (bF (eW ((j + 1,_,_,ps87,ps89)) (by show ((dg p).length - (dg (q * 2 ^ s)).length + 1) - (j + 1) < ((dg p).length - (dg (q * 2 ^ s)).length + 1) - j;omega) (iL (pK rfl zO) (zC)) (⟨by show j + 1 ≤ ((dg p).length - (dg (q * 2 ^ s)).length + 1);omega,rfl,by first | (exact haccs87) | (rw [rfl];exact haccs87),by first | (exact haccs89) | (rw [rfl];exact haccs89),by rw [show (dg p).length - (dg (q * 2 ^ s)).length + 1 - (j + 1) = i by omega];first | exact hNx⟩) zB (gB))))))))))))))))))))
   have hNx:=hSy zO;refine eF (bO (dL (zM rfl (zM rfl (zM rfl (fK rfl rfl eC gK zO zO rfl (lH 0 rfl rfl rfl haccs2 zO rfl rfl gK rfl (fun ps91 haccs91=>bF (fY (bO (dL (zM rfl (lK rfl rfl (dT zO zO) rfl (zG rfl (bF (eW ((j + 1,_,_,ps67,ps91)) (by show ((dg p).length - (dg (q * 2 ^ s)).length + 1) - (j + 1) < ((dg p).length - (dg (q * 2 ^ s)).length + 1) - j;omega) (iL (pK rfl zO) (zC)) (⟨by show j + 1 ≤ ((dg p).length - (dg (q * 2 ^ s)).length + 1);omega,rfl,by first | (exact haccs67) | (rw [rfl];exact haccs67),by first | (exact haccs91) | (rw [rfl];exact haccs91),by rw [show (dg p).length - (dg (q * 2 ^ s)).length + 1 - (j + 1) = i by omega];first | exact hNx⟩) zB (gB)))))))))))))))))
 obtain rfl : j = (dg p).length - (dg (q * 2 ^ s)).length + 1:=zO
 rw [Nat.sub_self] at hI;have hpw : 0 < 2 ^ s ∧ 2 ^ s ≤ 1073741824:=⟨Nat.pow_pos zD,eK (Nat.pow_le_pow_right zD hs29) zD⟩
 obtain ⟨hQ,hU1,hU2⟩:=hI.done (b:=(q : Int)) (by rw [nN,Int.natCast_mul]) zO;have hWn : (gZ uu).toNat / 2 ^ s = p % q:=natDiv (lI hI.ou) (by rw [hU1,Int.natCast_emod]);have hQn : (gZ qq).toNat = p / q:=by rw [hQ,← Int.natCast_ediv,eN]
 refine gI (fE (eY (fU rfl (bO (cO (uU 1 rfl haccu rfl (fun HP1 hleP1 hsU=>?_)))))));replace haccq:=haccq.mono hleP1;refine uU 0 rfl haccq rfl (fun HP2 hleP2 hsQ=>?_);replace hsU:=hsU.mono hleP2;refine eU [4,6,8] rfl ?_;apply nX (fun _=>True) trivial 9 [gC _,fun v H=>DgU (gZ uu).toNat c35 H v,gC _,gC _,fun v H=>ShU (gZ uu).toNat (2 ^ s) H v,fun v H=>ShU (gZ uu).toNat (2 ^ s) H v,fun v H=>DgU ((gZ uu).toNat / 2 ^ s) (dg (gZ uu).toNat).length H v,gC _,fun v H=>DgU ((gZ uu).toNat / 2 ^ s) (dg (gZ uu).toNat).length H v] follows zK zK ⟨aH _,aDa _ _,aH _,aH _,aQ0 _ _,aQ0 _ _,aDa _ _,aH _,aDa _ _,trivial⟩ ?steps92 ?tail92
 case steps92 =>
  refine dH rfl ?_ ?_
  ·intro X HD bI _;exact aF rfl (zM rfl (bF (eO trivial rfl)))
  refine dH rfl ?_ ?_
  ·intro X HD bI _;replace hsU:=hsU.mono bI;refine gL rfl (aF rfl (eZ rfl (aG8 _ _ _ uu _ hsU (by have:=hI.lu;omega) hI.ou (by have:=hI.lu;omega)) rfl ?_));rintro _ HN kI hNT;exact bF (eO trivial (hNT))
  refine dH rfl ?_ ?_
  ·intro X HD bI _;exact aF rfl (zM rfl (bF (eO trivial rfl)))
  refine dH rfl ?_ ?_
  ·intro X HD bI _;refine gL rfl (aF rfl (aHf rfl rfl zO rfl ?_));rw [shl_1 hs29];exact bF (eO trivial rfl)
  refine dH rfl ?_ ?_
  ·intro X HD bI _;refine eJ rfl rfl ?_;rintro _ ⟨aT,rfl,hdT⟩;refine gL rfl (aF rfl (eZ rfl (aPt _ (2 ^ s) _ _ _ hdT (by have h1:=dg_val_le hI.ou;have h2:=hI.lu;omega) hpw) rfl ?_));rintro _ HN kI ⟨aS,rfl,hdS⟩;exact bF (eO trivial (⟨aS,rfl,hdS⟩))
  refine dH rfl ?_ ?_
  ·intro X HD bI _;refine eJ rfl rfl ?_;rintro _ ⟨aS,rfl,hdS⟩;exact aF rfl (zM rfl (bF (eO trivial (⟨aS,rfl,hdS⟩))))
  refine dH rfl ?_ ?_
  ·intro X HD bI _;refine eJ rfl rfl ?_;rintro _ ⟨aS,rfl,hdS⟩;exact aF rfl (zX rfl (bF (eO trivial (⟨aS,rfl,hdS⟩))))
  refine dH rfl ?_ ?_
  ·intro X HD bI _;refine eJ rfl rfl ?_;rintro _ ⟨aS,rfl,hdS⟩;exact aF rfl (zX rfl (bF (eO trivial rfl)))
  refine dH rfl ?_ ?_
  ·intro X HD bI _;refine eJ rfl rfl ?_;rintro _ ⟨aQ,rfl,hdQ⟩;exact aF rfl (zG rfl (bF (eO trivial (⟨aQ,rfl,hdQ⟩))))
  exact jH rfl
 case tail92 =>
  intro HD bI _;replace hsQ:=hsQ.mono bI;refine gL rfl (eJ rfl rfl ?_);rintro _ ⟨aT,rfl,hdT⟩;refine gL rfl (gL rfl (eJ rfl rfl ?_));rintro _ ⟨aS,rfl,hdS⟩;refine eJ rfl rfl ?_;rintro _ ⟨aS,rfl,hdS⟩;refine eJ rfl rfl ?_;rintro _ ⟨aQ,rfl,hdQ⟩;refine gL rfl (eJ rfl rfl ?_);rintro _ ⟨aR,rfl,hdR⟩;refine aF rfl (zN (zS (zM rfl (eZ rfl (aG8 _ _ _ qq _ hsQ (by have:=hI.lq;omega) hI.oq (by have:=hI.lq;omega)) rfl ?_))));rintro _ HZ hleZ ⟨aZ,rfl,hdZ⟩;replace hdR:=hdR.mono hleZ;refine zM rfl (zG rfl (zG rfl (zN (eP ?_))));refine ⟨rfl,_,[],rfl,zA,eQ.mk ?_⟩;rw [hQn] at hdZ ⊢;rw [hWn] at hdR ⊢;exact ⟨_,_,_,_,rfl,hdZ,hdR⟩
end Go.Proofs

namespace Go.Proofs
open Go.XL
theorem aTa {p q : Nat} : aCz p q < 0 ↔ p < q:=by
 unfold aCz;split
 ·exact ⟨fun _=>zO,fun _=>zD⟩
 split <;> exact ⟨fun h=>zO,fun h=>zO⟩
theorem aTz {q : Nat} {x : Int} (h : (dg q).length = 1) (hx : (dg q)[0]? = some x) : x = (q : Int):=by
 have h1:=nN q
 match hd : dg q,h with
 | [y],_ =>
  rw [hd] at hx h1;simp [gZ] at hx h1;omega
theorem aQ2 {q : Nat} (h : (dg q).length ≤ 1) : q < 1073741824:=by
 have:=lG.1 h;simpa using this
theorem valI_one (x : Int) : gZ [x] = x:=by simp [gZ]
theorem okD_one {x : Int} (h : 0 ≤ x ∧ x < 1073741824) : tX [x]:=fun y hy=>by simp at hy;subst hy;exact h
def QrU (p q : Nat) (H : Hp) (v : Value) : Prop:=∃ a1 c1 a2 c2,v = .tuple #[.slice a1 (dg (p / q)).length c1,.slice a2 (dg (p % q)).length c2] ∧ SlR (gV .i64) H a1 c1 (dg (p / q)) ∧ SlR (gV .i64) H a2 c2 (dg (p % q))
theorem QrU.less {p q : Nat} {H : Hp} {a : Option Addr} {c : Nat} (h : p < q) (hs : SlR (gV .i64) H a c (dg p)) : QrU p q H (.tuple #[.slice none 0 0,.slice a (dg p).length c]):=by
 refine ⟨none,0,a,c,by rw [Nat.div_eq_of_lt h,Nat.mod_eq_of_lt h,dg0];rfl,?_,?_⟩
 ·rw [Nat.div_eq_of_lt h,dg0];exact SlR.nil0 _ _
 rw [Nat.mod_eq_of_lt h];exact hs
def vJ (z : Int) (H : Hp) (v : Value) : Prop:=∃ a c,v = .agg ⟨[.bool (decide (z < 0)),.slice a (dg z.natAbs).length c]⟩ ∧ SlR (gV .i64) H a c (dg z.natAbs)
theorem vJ.mono {z : Int} {v : Value} {H H' : Hp} (hle : Le H H') (h : vJ z H v) : vJ z H' v:=by
 obtain ⟨a,c,h1,h2⟩:=h;exact ⟨a,c,h1,h2.mono hle⟩
theorem aAu (z : Int) : ∀ v H H',Le H H' → vJ z H v → vJ z H' v:=fun _ _ _ hle h=>h.mono hle
def sgn (s : Bool) (n : Nat) : Int:=if s then -(n : Int) else n
theorem vJ.sgn {s b : Bool} {n : Nat} {H : Hp} {a : Option Addr} {c : Nat} (hs : SlR (gV .i64) H a c (dg n)) (hb : b = (s && decide (0 < (dg n).length))) : vJ (sgn s n) H (.agg ⟨[.bool b,.slice a (dg n).length c]⟩):=by
  have e : (Go.Proofs.sgn s n).natAbs = n:=by unfold Go.Proofs.sgn;split <;> omega
  have e2 : b = decide (Go.Proofs.sgn s n < 0):=by
    rw [hb];unfold Go.Proofs.sgn;have:=pG (n:=n);cases s
    · simp
    simp only [if_true,Bool.true_and]
    exact decide_eq_decide.2 ⟨fun h=>by have : n ≠ 0:=fun h0=>by have:=pG.2 h0;omega
                                        omega,fun h=>by rcases Nat.eq_zero_or_pos (dg n).length with h1 | h1
                                                        · have:=pG.1 h1;omega
                                                        exact h1⟩
  exact ⟨a,c,by rw [e,e2],by rw [e];exact hs⟩
end Go.Proofs

namespace Go.Proofs
open Go.XL
theorem aKe : vS Tryz.prog 54 = some [(0,1),(1,1)]:=zK
theorem aJg : vV Tryz.prog 54 = true:=zK
theorem iE : tP Tryz.prog 54 2 true = true:=zK
theorem nV : nB Tryz.prog 54 = some [.bool false,.slice none 0 0]:=zK
theorem aSg (p q : Nat) (a b : Option Addr) (c d : Nat) (H : Hp) (hs : SlR (gV .i64) H a c (dg p)) (ht : SlR (gV .i64) H b d (dg q)) (hx : (dg p).length ≤ 100000) (hy : (dg q).length ≤ 100000) (hq0 : q ≠ 0) : iP Tryz.prog 127 #[.slice a (dg p).length c,.slice b (dg q).length d] H [] (eQ (fun v H2 _=>QrU p q H2 v)):=by
 refine iP.intro (args:=[.slice a (dg p).length c,.slice b (dg q).length d]) Tryz.func127 rfl rfl Tryz.ntmps127 rfl rfl rfl fun G rest=>?_;refine zS ?_;refine zG rfl ?_;refine zG rfl ?_;refine zN ?_;refine cO ?_;refine dK ?_;refine zS ?_;refine zM rfl ?_;refine zM rfl ?_;refine fH rfl (xJ p q _ _ _ _ _ hs ht zO zO) rfl ?_;refine zL rfl ?_;refine zG rfl ?_;refine zN ?_;refine fC rfl (fun qK=>?_) (fun qK=>?_)
 ·have hlt : p < q:=aTa.1 (by assumption);refine zS (zM rfl (zG rfl (zG rfl (zN (eP (iS (fD ?_)))))));refine ⟨rfl,_,[],rfl,zA,eQ.mk ?_⟩;exact QrU.less hlt hs
 have hge : ¬ p < q:=fun h=>by have:=aTa.2 h;omega
 refine zS (zM rfl (eD (ts:=#[]) rfl eC rfl (zZ rfl (zG rfl (zN (fC rfl (fun c1_3=>?_) (fun c1_3=>?_)))))))
 ·refine zS (zM rfl (zM rfl (eV (i:=0) rfl ht rfl eC gK zO rfl ?_)));rintro eb21 eo21 _ x21 hx21 rfl hp21;refine eH rfl (by assumption) gK rfl rfl rfl ?_;obtain rfl:=aTz zO hx21;have hqs:=aQ2 (q:=q) zO;refine eZ rfl (aPt p q _ _ _ hs zO (by have:=aQ2 (q:=q) zO;omega)) rfl ?_;rintro _ HN kI ⟨aS,rfl,hdS⟩;replace hs:=hs.mono kI;replace ht:=ht.mono kI;replace hp21:=hp21.mono kI;refine zM rfl (zX rfl (zX rfl (zG rfl (zG rfl (zN (zS (zM rfl (zM rfl (fS rfl eC gK rV rfl rfl rfl (fun b28=>fT 0 rfl rfl rfl (fun HP28 oP28 hleP28 hbP28 hoP28=>?_)))))))))));have hsl28:=SlR.lit (ρ:=(gV .i64)) (l:=[_]) hbP28 hoP28 (iH.one1 rfl);replace hs:=hs.mono hleP28;replace ht:=ht.mono hleP28;replace hp21:=hp21.mono hleP28;replace hdS:=hdS.mono hleP28;refine eZ rfl (aNs _ _ [((p % q : Nat) : Int)] _ (by assumption) (by show 1 < _;decide) (okD_one (by have:=Nat.mod_lt p (Nat.pos_of_ne_zero hq0);omega))) rfl ?_;rintro _ HT tG ⟨aT,rfl,hdT⟩;replace hdS:=hdS.mono tG;refine zG rfl (zG rfl (zN (eP (iS (fD ?_)))));refine ⟨rfl,_,[],rfl,zA,eQ.mk ?_⟩;rw [valI_one,eN] at hdT ⊢;exact ⟨_,_,_,_,rfl,hdS,hdT⟩
 refine eF (fY (bO (zS (zM rfl (zM rfl (eZ rfl (dlong_fn p q _ _ _ _ _ hs ht hx hy (by have:=(not_congr (pG (n:=q))).2 hq0;omega) zO) rfl ?_))))));rintro _ HL jQ ⟨aA,cA,aB,cB,rfl,hdA,hdB⟩;refine zX rfl (zX rfl (zG rfl (zG rfl (zN (eP ?_)))));refine ⟨rfl,_,[],rfl,zA,eQ.mk ?_⟩;exact ⟨_,_,_,_,rfl,hdA,hdB⟩
theorem aBc (s : Bool) (n : Nat) (a : Option Addr) (c : Nat) (H : Hp) (hs : SlR (gV .i64) H a c (dg n)) (hx : (dg n).length ≤ 2048) : iP Tryz.prog 115 #[.bool s,.slice a (dg n).length c] H [] (eQ (fun v H2 _=>vJ (sgn s n) H2 v)):=by
 refine iP.introC (args:=[.bool s,.slice a (dg n).length c]) Tryz.func115 rfl rfl Tryz.ntmps115 rfl rfl rfl fun G rest=>?_;refine zS ?_;refine fI nV rfl (fun b4=>?_);refine zN ?_;refine zS ?_;refine zM rfl ?_;have hcall:=aNs _ _ (dg n) _ hs zO (mH n);rw [nN,eN] at hcall;refine eZ rfl hcall rfl ?_;rintro _ HT tG ⟨aT,rfl,hdT⟩;refine zG rfl ?_;refine zN ?_;refine cO ?_;refine zS ?_;refine zM rfl ?_;refine eD (ts:=#[]) rfl eC rfl ?_;refine zY rfl ?_;refine zN ?_;refine gD rfl (aI zO) ?_;refine eF ?_;refine bO ?_;refine zS ?_;refine zM rfl ?_;refine zM rfl ?_;refine iM rfl rfl rfl rfl (fun g2=>?_) (fun g2=>?_)
 ·have g2p:=g2;refine zM rfl (zT rfl g2 (eD (ts:=#[]) rfl eC rfl (zT rfl g2 (zY rfl (zV g2 rfl (zM rfl (mC aJg aKe nV rfl rfl rfl (eG 0 rfl rfl rfl rfl iE rfl rfl rfl rfl rfl (zN (eP ?_))))))))));refine ⟨rfl,_,[],(fN 0 rfl rfl iE rfl rfl iD),zA,eQ.mk ?_⟩;exact vJ.sgn hdT (by simp_all)
 have g2p:=g2;refine zU rfl g2 (zU rfl g2 (zW g2 rfl (zM rfl (mC aJg aKe nV rfl rfl rfl (eG 0 rfl rfl rfl rfl iE rfl rfl rfl rfl rfl (zN (eP ?_)))))));refine ⟨rfl,_,[],(fN 0 rfl rfl iE rfl rfl iD),zA,eQ.mk ?_⟩;exact vJ.sgn hdT (by simp_all)
end Go.Proofs

namespace Go.Proofs
open Go.XL
def aOf (y : Int) : Prop:=¬ (0 ≤ y ∧ y < 1073741824)
theorem oN {x : Raw} (h : 2048 < x.2.length) : ¬ okB x:=fun h1=>by have:=h1.1;omega
theorem oO {x : Raw} (h0 : x.2.length = 0) (hn : x.1 = true) : ¬ okB x:=fun h=>by
 have:=h.2.1 (List.length_eq_zero_iff.1 h0);rw [hn] at this;cases this
theorem nJ {x : Raw} {y : Int} (hx : x.2[x.2.length - 1]? = some y) (h : y = 0) : ¬ okB x:=fun h1=>h1.2.2.1 y hx h
theorem kT {x : Raw} (h : ∃ y ∈ x.2,aOf y) : ¬ okB x:=fun h1=>by
 obtain ⟨y,hy,hb⟩:=h;exact hb (h1.2.2.2 y hy)
theorem sQ {x : Raw} (h1 : x.2.length ≤ 2048) (h2 : x.2.length = 0 → x.1 = false) (h3 : ∀ y,x.2[x.2.length - 1]? = some y → y ≠ 0) (h4 : ¬ ∃ y ∈ x.2,aOf y) : okB x :=
 ⟨h1,fun h=>h2 (by rw [h];rfl),h3,fun y hy=>Decidable.byContradiction fun hn=>h4 ⟨y,hy,hn⟩⟩
theorem aCg {l : List Int} (h : l.length = 0) (y : Int) : ¬ l[l.length - 1]? = some y:=by
 rw [List.length_eq_zero_iff.1 h];simp
theorem mul_len (z w : Int) : (dg (z.natAbs * w.natAbs)).length ≤ (dg z.natAbs).length + (dg w.natAbs).length:=by
 rw [lG,Nat.pow_add];exact Nat.mul_lt_mul'' (aEy _) (aEy _)
theorem mul_sgn {z w : Int} : sgn (decide (z < 0) != decide (w < 0)) (z.natAbs * w.natAbs) = z * w:=by
 unfold sgn;rcases Int.lt_or_le z 0 with h1 | h1 <;> rcases Int.lt_or_le w 0 with h2 | h2
 ·obtain ⟨n,hn⟩:=Int.eq_ofNat_of_zero_le (show 0 ≤ -z by omega);obtain ⟨m,hm⟩:=Int.eq_ofNat_of_zero_le (show 0 ≤ -w by omega);obtain rfl : z = -n:=zO
  obtain rfl : w = -m:=zO
  simp [h1,h2,pF,Int.neg_mul_neg];intro h;exact absurd ⟨fun _=>zO,fun _=>zO⟩ h
 ·obtain ⟨n,hn⟩:=Int.eq_ofNat_of_zero_le (show 0 ≤ -z by omega);obtain ⟨m,rfl⟩:=Int.eq_ofNat_of_zero_le h2;obtain rfl : z = -n:=zO
  have : ¬ ((m : Int) < 0):=zO
  simp [h1,this,pF,Int.neg_mul];intro h;exfalso;omega
 ·obtain ⟨n,rfl⟩:=Int.eq_ofNat_of_zero_le h1;obtain ⟨m,hm⟩:=Int.eq_ofNat_of_zero_le (show 0 ≤ -w by omega);obtain rfl : w = -m:=zO
  have : ¬ ((n : Int) < 0):=zO
  simp [h2,this,pF,Int.mul_neg];intro h;exfalso;omega
 obtain ⟨n,rfl⟩:=Int.eq_ofNat_of_zero_le h1;obtain ⟨m,rfl⟩:=Int.eq_ofNat_of_zero_le h2;have a1 : ¬ ((n : Int) < 0):=zO
 have a2 : ¬ ((m : Int) < 0):=zO
 simp [a1,a2]
theorem aU3 {z w : Int} (hz : (dg z.natAbs).length ≤ 1000) (hw : (dg w.natAbs).length ≤ 1000) : ∀ x ∈ [iY z,iY w],okB x:=fun x hx=>by
 simp only [List.mem_cons,List.not_mem_nil,or_false] at hx;rcases hx with rfl | rfl
 ·exact aDx zO
 exact aDx zO
theorem mul_sgn2 {z w : Int} : sgn (!(decide (z < 0) == decide (w < 0))) (z.natAbs * w.natAbs) = z * w:=mul_sgn
end Go.Proofs

namespace Go.Proofs
open Go.XL
theorem mG : qF Tryz.prog 54 0 = some 0:=zK
theorem kY : qF Tryz.prog 54 1 = some 1:=zK
theorem aI0 (x : Int) (H : Hp) : iP Tryz.prog 125 #[.int .i64 x] H [] (eQ (fun v _ _=>∃ b : Bool,v = .bool b ∧ (b = true ↔ aOf x))):=by
 refine iP.intro (args:=[.int .i64 x]) Tryz.func125 rfl rfl Tryz.ntmps125 rfl rfl rfl fun G rest=>?_;refine zS ?_;refine zG rfl ?_;refine zN ?_;refine zS ?_;refine zM rfl ?_;refine zL rfl ?_;refine zM rfl ?_;refine iM rfl rfl rfl rfl (fun g1=>?_) (fun g1=>?_)
 ·have g1p:=fM g1;refine zM rfl (zT rfl g1 (zY rfl (zW g1 rfl (zG rfl (zN (eP ?_))))));refine ⟨rfl,_,[],rfl,zA,eQ.mk ?_⟩;exact ⟨_,rfl,by unfold aOf;first | (simp only [true_iff];omega) | (rw [decide_eq_true_iff];omega)⟩
 have g1p:=eT g1;refine zU rfl g1 (zV g1 rfl (zG rfl (zN (eP ?_))));refine ⟨rfl,_,[],rfl,zA,eQ.mk ?_⟩;exact ⟨_,rfl,by unfold aOf;first | (simp only [true_iff];omega) | (rw [decide_eq_true_iff];omega)⟩
theorem indexI_fn (a : Option Addr) (c : Nat) (l : List Int) (g : Value) (q : Int → Prop) (H : Hp) (hs : SlR (gV .i64) H a c l) (hl : l.length < 9223372036854775808) (hg : ∀ x ∈ l,wH Tryz.prog g [.int .i64 x] H [] (eQ fun u _ _=>∃ b : Bool,u = .bool b ∧ (b = true ↔ q x))) : iP Tryz.prog 135 #[.slice a l.length c,g] H [] (eQ (fun v _ _=>∃ i : Int,v = .int .i64 i ∧ (0 ≤ i ↔ ∃ x ∈ l,q x))):=by
 refine iP.intro (args:=[.slice a l.length c,g]) Tryz.func135 rfl rfl Tryz.ntmps135 rfl rfl rfl fun G rest=>?_;refine zS ?_;refine zG rfl ?_;refine zN ?_;refine cO ?_;refine zS ?_;refine zM rfl ?_;refine eD (ts:=#[]) rfl bK rfl ?_;refine zM rfl ?_;refine zN ?_;refine dK ?_;refine eU [8,0,1,7] rfl ?_;refine gO (base:=[(0,_),(1,_),(7,_)]) (fun ζ : Nat=>[(8,.int .i64 (ζ : Nat))]) (fun ζ Hl own=>ζ ≤ l.length ∧ rest = own ∧ (∀ x ∈ l.take ζ,¬ q x) ∧ (H = Hl)) (fun ζ=>l.length - ζ) 0 (zC) zB ⟨eS _,rfl,by simp,rfl⟩ ?_;rintro k Hl0 _ gB ⟨hkk,rfl,hno,hHl⟩;replace hs:=hs.mono gB;try dsimp only at ⊢
 subst hHl;refine zS (zL rfl (zN (cO (fC rfl (fun nY=>?_) (fun nY=>?_)))))
 ·refine eF (bO (cO (dK (zS (zM rfl (zG rfl (zN (zS (zM rfl (zM rfl (zM rfl (eV rfl hs rfl bK gK zO rfl ?_))))))))))));rintro eb14 eo14 _ x14 hx14 rfl nG;refine eH rfl (by assumption) gK rfl rfl rfl (sZ rfl trivial rfl (hg x14 (cF hx14)) rfl ?_);rintro _ ⟨bq,rfl,hqq⟩;refine zN (mN rfl (fun aCc=>?_) (fun aCc=>?_))
  ·refine zS (zM rfl (zG rfl (zN (eP (iS (fD (jR (iS (fD ?_)))))))));refine ⟨rfl,_,[],rfl,zA,eQ.mk ?_⟩;exact ⟨_,rfl,⟨fun _=>⟨x14,cF hx14,hqq.1 (by assumption)⟩,fun _=>zO⟩⟩
  refine eF (fY (bO (dL (fR rfl rfl (dT zO zO) rfl (zM rfl (bF (eW (k + 1) (by show l.length - (k + 1) < l.length - k;omega) (zC) (⟨by show k + 1 ≤ l.length;omega,rfl,aGo hno hx14 (fun h=>by simp_all),rfl⟩) zB (gB))))))))
 obtain rfl : k = l.length:=zO
 rw [gF] at hno;refine gI (fE (eY (fU rfl (bO (zS (zG rfl (zN (eP ?_))))))));refine ⟨rfl,_,[],rfl,zA,eQ.mk ?_⟩;exact ⟨-1,rfl,⟨fun h=>absurd h zD,fun ⟨x,hx,hq⟩=>absurd hq (hno x hx)⟩⟩
theorem vW (a : Option Addr) (c : Nat) (l : List Int) (g : Value) (q : Int → Prop) (H : Hp) (hs : SlR (gV .i64) H a c l) (hl : l.length < 9223372036854775808) (hg : ∀ x ∈ l,wH Tryz.prog g [.int .i64 x] H [] (eQ fun u _ _=>∃ b : Bool,u = .bool b ∧ (b = true ↔ q x))) : iP Tryz.prog 126 #[.slice a l.length c,g] H [] (eQ (fun v _ _=>∃ b : Bool,v = .bool b ∧ (b = true ↔ ∃ x ∈ l,q x))):=by
 refine iP.intro (args:=[.slice a l.length c,g]) Tryz.func126 rfl rfl Tryz.ntmps126 rfl rfl rfl fun G rest=>?_;refine zS ?_;refine zG rfl ?_;refine zN ?_;refine zS ?_;refine zM rfl ?_;refine zM rfl ?_;refine kO rfl (indexI_fn _ _ _ _ _ _ hs hl hg) rfl ?_;rintro _ ⟨iX,rfl,hX⟩;refine yB rfl ?_;refine zG rfl ?_;refine zN ?_;refine eP ?_;refine ⟨rfl,_,[],rfl,zA,eQ.mk ?_⟩;exact ⟨_,rfl,by rw [decide_eq_true_iff,← hX]⟩
theorem aAr (x : Raw) (a : Option Addr) (c : Nat) (H : Hp) (hs : SlR (gV .i64) H a c x.2) (hl : x.2.length < 9223372036854775808) : iP Tryz.prog 110 #[.agg ⟨[.bool x.1,.slice a x.2.length c]⟩] H [] (eQ (fun v _ _=>∃ e : Int,v = .int .i64 e ∧ (e = 0 ↔ okB x))):=by
 refine iP.intro (args:=[.agg ⟨[.bool x.1,.slice a x.2.length c]⟩]) Tryz.func110 rfl rfl Tryz.ntmps110 rfl rfl rfl fun G rest=>?_;refine zS ?_;refine iW rfl rfl rfl (fun b1=>?_);refine zG rfl ?_;refine zN ?_;refine zS ?_;refine bJ rfl kY rfl ?_;refine bT 0 rfl rfl gE rfl rfl rfl ?_;refine eD (ts:=#[]) rfl bK rfl ?_;refine zG rfl ?_;refine zN ?_;refine zS ?_;refine zG rfl ?_;refine zN ?_;refine cO ?_;refine zS ?_;refine zM rfl ?_;refine zY rfl ?_;refine zM rfl ?_;refine iM rfl rfl rfl rfl (fun g1=>?_) (fun g1=>?_)
 ·have g1p:=fM g1;refine zM rfl (zT rfl g1 (zZ rfl (zT rfl g1 (zM rfl (iM rfl rfl rfl rfl (fun g2=>?_) (fun g2=>?_))))))
  ·have g2p:=eT g2;refine bJ rfl mG rfl (zT rfl g2 (bT 0 rfl rfl oA rfl rfl rfl (zT rfl g1 (zV g2 rfl (zW g1 rfl (zM rfl (iM rfl rfl rfl rfl (fun g3=>?_) (fun g3=>?_))))))))
   ·have g3p:=g3;refine zM rfl (zT rfl g3 (zY rfl (zT rfl g3 (zM rfl (iM rfl rfl rfl rfl (fun g4=>?_) (fun g4=>?_))))))
    ·have g4p:=eT g4;refine bJ rfl kY rfl (zT rfl g4 (bT 0 rfl rfl gE rfl rfl rfl (zT rfl g4 (zM rfl (zT rfl g4 (lK (c:=((x.2.length - 1 : Nat) : Int)) rfl rfl ((dT zO zO).trans zO) rfl (zT rfl g4 (eV (i:=(x.2.length - 1)) rfl hs rfl bK gK zO rfl ?_))))))));rintro eb26 eo26 _ x26 tW rfl hp26;refine zT rfl g4 (eH rfl (by assumption) gK rfl rfl rfl (zT rfl g4 (zZ rfl (zT rfl g3 (zV g4 rfl (zW g3 rfl (zM rfl (iM rfl rfl rfl rfl (fun g7=>?_) (fun g7=>?_)))))))))
     ·have g7p:=g7;refine bJ rfl kY rfl (zT rfl g7 (bT 0 rfl rfl gE rfl rfl rfl (zT rfl g7 (zM rfl (zT rfl g7 (kO rfl (vW _ _ x.2 _ aOf _ hs hl (fun y _=>wH.of_fn (cap:=[]) (args:=[_]) (aI0 y _))) rfl ?_))))));rintro _ ⟨bC,rfl,hC⟩;refine zW g7 rfl (zN (mN rfl (fun c0_9=>?_) (fun c0_9=>?_)))
      ·refine zS ?_;refine zG rfl ?_;refine zN ?_;refine eP ?_;refine fD ?_;refine ⟨rfl,_,[],rfl,zA,eQ.mk ?_⟩;first | exact ⟨90,rfl,⟨fun h=>absurd h zD,fun h=>absurd h (by first | exact oN zO | exact oO zO (by assumption) | exact kT (hC.1 (by assumption)) | exact kT (hC.1 rfl) | exact nJ tW (by first | assumption | omega | (simp_all;done)))⟩⟩ | exact ⟨0,rfl,⟨fun _=>sQ zO (by first | (intro _;omega) | (intro _;simp_all)) (by first | (intro y hy;exact absurd hy (aCg zO y)) | (intro y hy;rw [tW] at hy;cases hy;first | assumption | (simp_all;done))) (fun h=>by simp_all),fun _=>rfl⟩⟩
      refine eF ?_;refine bO ?_;refine zS ?_;refine zG rfl ?_;refine zN ?_;refine eP ?_;refine ⟨rfl,_,[],rfl,zA,eQ.mk ?_⟩;first | exact ⟨90,rfl,⟨fun h=>absurd h zD,fun h=>absurd h (by first | exact oN zO | exact oO zO (by assumption) | exact kT (hC.1 (by assumption)) | exact kT (hC.1 rfl) | exact nJ tW (by first | assumption | omega | (simp_all;done)))⟩⟩ | exact ⟨0,rfl,⟨fun _=>sQ zO (by first | (intro _;omega) | (intro _;simp_all)) (by first | (intro y hy;exact absurd hy (aCg zO y)) | (intro y hy;rw [tW] at hy;cases hy;first | assumption | (simp_all;done))) (fun h=>by simp_all),fun _=>rfl⟩⟩
     have g7p:=g7;refine zU rfl g7 ?_;refine zU rfl g7 ?_;refine zU rfl g7 ?_;refine zV g7 rfl ?_;refine zN ?_;refine jB rfl rfl ?_;refine zS ?_;refine zG rfl ?_;refine zN ?_;refine eP ?_;refine fD ?_;refine ⟨rfl,_,[],rfl,zA,eQ.mk ?_⟩;first | exact ⟨90,rfl,⟨fun h=>absurd h zD,fun h=>absurd h (by first | exact oN zO | exact oO zO (by assumption) | exact kT (hC.1 (by assumption)) | exact kT (hC.1 rfl) | exact nJ tW (by first | assumption | omega | (simp_all;done)))⟩⟩ | exact ⟨0,rfl,⟨fun _=>sQ zO (by first | (intro _;omega) | (intro _;simp_all)) (by first | (intro y hy;exact absurd hy (aCg zO y)) | (intro y hy;rw [tW] at hy;cases hy;first | assumption | (simp_all;done))) (fun h=>by simp_all),fun _=>rfl⟩⟩
    have g4p:=fM g4;refine zU rfl g4 (zU rfl g4 (zU rfl g4 (zU rfl g4 (zU rfl g4 (zU rfl g4 (zT rfl g3 (zW g4 rfl (zW g3 rfl (zM rfl (zT rfl rfl (bJ rfl kY rfl (zT rfl rfl (bT 0 rfl rfl gE rfl rfl rfl (zT rfl rfl (zM rfl (zT rfl rfl (kO rfl (vW _ _ x.2 _ aOf _ hs hl (fun y _=>wH.of_fn (cap:=[]) (args:=[_]) (aI0 y _))) rfl ?_)))))))))))))))));rintro _ ⟨bC,rfl,hC⟩;refine zW rfl rfl (zN (mN rfl (fun c0_11=>?_) (fun c0_11=>?_)))
    ·refine zS ?_;refine zG rfl ?_;refine zN ?_;refine eP ?_;refine fD ?_;refine ⟨rfl,_,[],rfl,zA,eQ.mk ?_⟩;first | exact ⟨90,rfl,⟨fun h=>absurd h zD,fun h=>absurd h (by first | exact oN zO | exact oO zO (by assumption) | exact kT (hC.1 (by assumption)) | exact kT (hC.1 rfl) | exact nJ tW (by first | assumption | omega | (simp_all;done)))⟩⟩ | exact ⟨0,rfl,⟨fun _=>sQ zO (by first | (intro _;omega) | (intro _;simp_all)) (by first | (intro y hy;exact absurd hy (aCg zO y)) | (intro y hy;rw [tW] at hy;cases hy;first | assumption | (simp_all;done))) (fun h=>by simp_all),fun _=>rfl⟩⟩
    refine eF ?_;refine bO ?_;refine zS ?_;refine zG rfl ?_;refine zN ?_;refine eP ?_;refine ⟨rfl,_,[],rfl,zA,eQ.mk ?_⟩;first | exact ⟨90,rfl,⟨fun h=>absurd h zD,fun h=>absurd h (by first | exact oN zO | exact oO zO (by assumption) | exact kT (hC.1 (by assumption)) | exact kT (hC.1 rfl) | exact nJ tW (by first | assumption | omega | (simp_all;done)))⟩⟩ | exact ⟨0,rfl,⟨fun _=>sQ zO (by first | (intro _;omega) | (intro _;simp_all)) (by first | (intro y hy;exact absurd hy (aCg zO y)) | (intro y hy;rw [tW] at hy;cases hy;first | assumption | (simp_all;done))) (fun h=>by simp_all),fun _=>rfl⟩⟩
   have g3p:=g3;refine zU rfl g3 ?_;refine zU rfl g3 ?_;refine jY rfl rfl rfl rfl ?_;refine jY rfl rfl rfl rfl ?_;refine jY rfl rfl rfl rfl ?_;refine jY rfl rfl rfl rfl ?_;refine jY rfl rfl rfl rfl ?_;refine jY rfl rfl rfl rfl ?_;refine jY rfl rfl rfl rfl ?_;refine zU rfl g3 ?_;refine zV g3 rfl ?_;refine zM rfl ?_;refine zU rfl rfl ?_;refine zU rfl rfl ?_;refine zU rfl rfl ?_;refine zU rfl rfl ?_;refine zV rfl rfl ?_;refine zN ?_;refine jB rfl rfl ?_;refine zS ?_;refine zG rfl ?_;refine zN ?_;refine eP ?_;refine fD ?_;refine ⟨rfl,_,[],rfl,zA,eQ.mk ?_⟩;first | exact ⟨90,rfl,⟨fun h=>absurd h zD,fun h=>absurd h (by first | exact oN zO | exact oO zO (by assumption) | exact kT (hC.1 (by assumption)) | exact kT (hC.1 rfl) | exact nJ tW (by first | assumption | omega | (simp_all;done)))⟩⟩ | exact ⟨0,rfl,⟨fun _=>sQ zO (by first | (intro _;omega) | (intro _;simp_all)) (by first | (intro y hy;exact absurd hy (aCg zO y)) | (intro y hy;rw [tW] at hy;cases hy;first | assumption | (simp_all;done))) (fun h=>by simp_all),fun _=>rfl⟩⟩
  have g2p:=fM g2;refine zU rfl g2 (zT rfl g1 (zW g2 rfl (zW g1 rfl (zM rfl (zT rfl rfl (zM rfl (zT rfl rfl (zY rfl (zT rfl rfl (zM rfl (iM rfl rfl rfl rfl (fun g12=>?_) (fun g12=>?_))))))))))))
  ·have g12p:=eT g12;refine bJ rfl kY rfl (zT rfl g12 (bT 0 rfl rfl gE rfl rfl rfl (zT rfl g12 (zM rfl (zT rfl g12 (lK (c:=((x.2.length - 1 : Nat) : Int)) rfl rfl ((dT zO zO).trans zO) rfl (zT rfl g12 (eV (i:=(x.2.length - 1)) rfl hs rfl bK gK zO rfl ?_))))))));rintro eb26 eo26 _ x26 tW rfl hp26;refine zT rfl g12 (eH rfl (by assumption) gK rfl rfl rfl (zT rfl g12 (zZ rfl (zT rfl rfl (zV g12 rfl (zW rfl rfl (zM rfl (iM rfl rfl rfl rfl (fun g15=>?_) (fun g15=>?_)))))))))
   ·have g15p:=g15;refine bJ rfl kY rfl (zT rfl g15 (bT 0 rfl rfl gE rfl rfl rfl (zT rfl g15 (zM rfl (zT rfl g15 (kO rfl (vW _ _ x.2 _ aOf _ hs hl (fun y _=>wH.of_fn (cap:=[]) (args:=[_]) (aI0 y _))) rfl ?_))))));rintro _ ⟨bC,rfl,hC⟩;refine zW g15 rfl (zN (mN rfl (fun c0_17=>?_) (fun c0_17=>?_)))
    ·refine zS ?_;refine zG rfl ?_;refine zN ?_;refine eP ?_;refine fD ?_;refine ⟨rfl,_,[],rfl,zA,eQ.mk ?_⟩;first | exact ⟨90,rfl,⟨fun h=>absurd h zD,fun h=>absurd h (by first | exact oN zO | exact oO zO (by assumption) | exact kT (hC.1 (by assumption)) | exact kT (hC.1 rfl) | exact nJ tW (by first | assumption | omega | (simp_all;done)))⟩⟩ | exact ⟨0,rfl,⟨fun _=>sQ zO (by first | (intro _;omega) | (intro _;simp_all)) (by first | (intro y hy;exact absurd hy (aCg zO y)) | (intro y hy;rw [tW] at hy;cases hy;first | assumption | (simp_all;done))) (fun h=>by simp_all),fun _=>rfl⟩⟩
    refine eF ?_;refine bO ?_;refine zS ?_;refine zG rfl ?_;refine zN ?_;refine eP ?_;refine ⟨rfl,_,[],rfl,zA,eQ.mk ?_⟩;first | exact ⟨90,rfl,⟨fun h=>absurd h zD,fun h=>absurd h (by first | exact oN zO | exact oO zO (by assumption) | exact kT (hC.1 (by assumption)) | exact kT (hC.1 rfl) | exact nJ tW (by first | assumption | omega | (simp_all;done)))⟩⟩ | exact ⟨0,rfl,⟨fun _=>sQ zO (by first | (intro _;omega) | (intro _;simp_all)) (by first | (intro y hy;exact absurd hy (aCg zO y)) | (intro y hy;rw [tW] at hy;cases hy;first | assumption | (simp_all;done))) (fun h=>by simp_all),fun _=>rfl⟩⟩
   have g15p:=g15;refine zU rfl g15 ?_;refine zU rfl g15 ?_;refine zU rfl g15 ?_;refine zV g15 rfl ?_;refine zN ?_;refine jB rfl rfl ?_;refine zS ?_;refine zG rfl ?_;refine zN ?_;refine eP ?_;refine fD ?_;refine ⟨rfl,_,[],rfl,zA,eQ.mk ?_⟩;first | exact ⟨90,rfl,⟨fun h=>absurd h zD,fun h=>absurd h (by first | exact oN zO | exact oO zO (by assumption) | exact kT (hC.1 (by assumption)) | exact kT (hC.1 rfl) | exact nJ tW (by first | assumption | omega | (simp_all;done)))⟩⟩ | exact ⟨0,rfl,⟨fun _=>sQ zO (by first | (intro _;omega) | (intro _;simp_all)) (by first | (intro y hy;exact absurd hy (aCg zO y)) | (intro y hy;rw [tW] at hy;cases hy;first | assumption | (simp_all;done))) (fun h=>by simp_all),fun _=>rfl⟩⟩
  have g12p:=fM g12;refine zU rfl g12 (zU rfl g12 (zU rfl g12 (zU rfl g12 (zU rfl g12 (zU rfl g12 (zT rfl rfl (zW g12 rfl (zW rfl rfl (zM rfl (zT rfl rfl (bJ rfl kY rfl (zT rfl rfl (bT 0 rfl rfl gE rfl rfl rfl (zT rfl rfl (zM rfl (zT rfl rfl (kO rfl (vW _ _ x.2 _ aOf _ hs hl (fun y _=>wH.of_fn (cap:=[]) (args:=[_]) (aI0 y _))) rfl ?_)))))))))))))))));rintro _ ⟨bC,rfl,hC⟩;refine zW rfl rfl (zN (mN rfl (fun c0_19=>?_) (fun c0_19=>?_)))
  ·refine zS ?_;refine zG rfl ?_;refine zN ?_;refine eP ?_;refine fD ?_;refine ⟨rfl,_,[],rfl,zA,eQ.mk ?_⟩;first | exact ⟨90,rfl,⟨fun h=>absurd h zD,fun h=>absurd h (by first | exact oN zO | exact oO zO (by assumption) | exact kT (hC.1 (by assumption)) | exact kT (hC.1 rfl) | exact nJ tW (by first | assumption | omega | (simp_all;done)))⟩⟩ | exact ⟨0,rfl,⟨fun _=>sQ zO (by first | (intro _;omega) | (intro _;simp_all)) (by first | (intro y hy;exact absurd hy (aCg zO y)) | (intro y hy;rw [tW] at hy;cases hy;first | assumption | (simp_all;done))) (fun h=>by simp_all),fun _=>rfl⟩⟩
  refine eF ?_;refine bO ?_;refine zS ?_;refine zG rfl ?_;refine zN ?_;refine eP ?_;refine ⟨rfl,_,[],rfl,zA,eQ.mk ?_⟩;first | exact ⟨90,rfl,⟨fun h=>absurd h zD,fun h=>absurd h (by first | exact oN zO | exact oO zO (by assumption) | exact kT (hC.1 (by assumption)) | exact kT (hC.1 rfl) | exact nJ tW (by first | assumption | omega | (simp_all;done)))⟩⟩ | exact ⟨0,rfl,⟨fun _=>sQ zO (by first | (intro _;omega) | (intro _;simp_all)) (by first | (intro y hy;exact absurd hy (aCg zO y)) | (intro y hy;rw [tW] at hy;cases hy;first | assumption | (simp_all;done))) (fun h=>by simp_all),fun _=>rfl⟩⟩
 have g1p:=eT g1;refine zU rfl g1 ?_;refine zU rfl g1 ?_;refine jY rfl rfl rfl rfl ?_;refine jY rfl rfl rfl rfl ?_;refine zU rfl g1 ?_;refine zV g1 rfl ?_;refine zM rfl ?_;refine zU rfl rfl ?_;refine zU rfl rfl ?_;refine zU rfl rfl ?_;refine jY rfl rfl rfl rfl ?_;refine jY rfl rfl rfl rfl ?_;refine jY rfl rfl rfl rfl ?_;refine jY rfl rfl rfl rfl ?_;refine jY rfl rfl rfl rfl ?_;refine jY rfl rfl rfl rfl ?_;refine jY rfl rfl rfl rfl ?_;refine zU rfl rfl ?_;refine zV rfl rfl ?_;refine zM rfl ?_;refine zU rfl rfl ?_;refine zU rfl rfl ?_;refine zU rfl rfl ?_;refine zU rfl rfl ?_;refine zV rfl rfl ?_;refine zN ?_;refine jB rfl rfl ?_;refine zS ?_;refine zG rfl ?_;refine zN ?_;refine eP ?_;refine fD ?_;refine ⟨rfl,_,[],rfl,zA,eQ.mk ?_⟩;first | exact ⟨90,rfl,⟨fun h=>absurd h zD,fun h=>absurd h (by first | exact oN zO | exact oO zO (by assumption) | exact kT (hC.1 (by assumption)) | exact kT (hC.1 rfl) | exact nJ tW (by first | assumption | omega | (simp_all;done)))⟩⟩ | exact ⟨0,rfl,⟨fun _=>sQ zO (by first | (intro _;omega) | (intro _;simp_all)) (by first | (intro y hy;exact absurd hy (aCg zO y)) | (intro y hy;rw [tW] at hy;cases hy;first | assumption | (simp_all;done))) (fun h=>by simp_all),fun _=>rfl⟩⟩
end Go.Proofs

namespace Go.Proofs
open Go.XL
theorem wN (a : Option Addr) (c : Nat) (l : List Raw) (H : Hp) (hs : SlR rawR H a c l) (hl : l.length < 9223372036854775808) (hok : ∀ x ∈ l,okB x) : iP Tryz.prog 100 #[.slice a l.length c] H [] (eQ (fun v _ _=>v = .tuple #[])):=by
 refine iP.intro (args:=[.slice a l.length c]) Tryz.func100 rfl rfl Tryz.ntmps100 rfl rfl rfl fun G rest=>?_;refine zS ?_;refine zM rfl ?_;refine eD (ts:=#[]) rfl iF rfl ?_;refine zM rfl ?_;refine zN ?_;refine dK ?_;refine eU [7,5,6] rfl ?_;refine gO (base:=[(5,_),(6,_)]) (fun ζ : Nat=>[(7,.int .i64 (ζ : Nat))]) (fun ζ Hl own=>ζ ≤ l.length ∧ rest = own) (fun ζ=>l.length - ζ) 0 (zC) zB ⟨eS _,rfl⟩ ?_;rintro k Hl0 _ gB ⟨hkk,rfl⟩;replace hs:=hs.mono gB;try dsimp only at ⊢
 refine zS (zL rfl (zN (cO (fC rfl (fun nY=>?_) (fun nY=>?_)))))
 ·refine eF (bO (cO (dK (zS (eV rfl hs rfl iF iE zO rfl ?_)))));rintro eb9 eo9 _ x9 hx9 ⟨ax9,cx9,rfl,hd9⟩ hp9;refine eH rfl (by assumption) iE rfl rfl rfl (fI nV rfl (fun b3=>eG 0 rfl rfl rfl rfl iE rfl rfl rfl rfl rfl (zN (zS (bT 0 rfl rfl iE rfl rfl rfl ?_)))));have hox:=hok x9 (cF hx9);have hoxl:=hox.1;refine kO rfl (aAr x9 _ _ _ hd9 zO) rfl ?_;rintro _ ⟨e,rfl,he⟩;obtain rfl : e = 0:=he.2 hox;refine zG rfl (zN (zS (zM rfl (zJ rfl (zN (gD rfl (aI (fun h=>h rfl)) (eF (fY (bO (dL (fR rfl rfl (dT zO zO) rfl (zM rfl (bF (eW (k + 1) (by show l.length - (k + 1) < l.length - k;omega) (zC) (⟨by show k + 1 ≤ l.length;omega,rfl⟩) zB (gB)))))))))))))))
 refine gI (fE (eY (fU rfl ?_)));refine ⟨rfl,_,[],rfl,zA,eQ.mk ?_⟩;rfl
theorem nH (be : Nat) (x : Int) (H : Hp) : FnD Tryz.prog 99 #[.pointer (some ⟨be,0,none⟩)] (.returning) H [(be,.cells 27 [.int .i64 x])] (fun u _ own=>u = .returning ∧ own = [(be,.cells 27 [.int .i64 x])]):=by
 refine FnD.intro (args:=[.pointer (some ⟨be,0,none⟩)]) Tryz.func99 rfl rfl Tryz.ntmps99 rfl rfl rfl fun G rest=>?_;refine XS.seq ?_;refine XS.recover rfl rfl ?_;refine zG rfl ?_;refine bF ?_;refine XS.of rfl ?_;refine zS ?_;refine zM rfl ?_;refine aBu rfl (Or.inl ⟨rfl,rfl⟩) nD rfl ?_;refine zN ?_;refine gD rfl rfl ?_;refine eF ?_;refine ⟨rfl,_,[(be,.cells 27 [.int .i64 x])],rfl,zA,?_⟩;exact ⟨rfl,rfl⟩
theorem nmul_fn (z w : Int) (a b : Option Addr) (c d : Nat) (H : Hp) (hs : SlR (gV .i64) H a c (dg z.natAbs)) (ht : SlR (gV .i64) H b d (dg w.natAbs)) (hz : (dg z.natAbs).length ≤ 1000) (hw : (dg w.natAbs).length ≤ 1000) : iP Tryz.prog 98 #[.agg ⟨[.bool (decide (z < 0)),.slice a (dg z.natAbs).length c]⟩,.agg ⟨[.bool (decide (w < 0)),.slice b (dg w.natAbs).length d]⟩] H [] (eQ (fun v H2 own=>own = [] ∧ ∃ u,v = .tuple #[u,.int .i64 0] ∧ vJ (z * w) H2 u)):=by
 refine iP.introD (args:=[.agg ⟨[.bool (decide (z < 0)),.slice a (dg z.natAbs).length c]⟩,.agg ⟨[.bool (decide (w < 0)),.slice b (dg w.natAbs).length d]⟩]) Tryz.func98 rfl rfl Tryz.ntmps98 rfl rfl rfl fun G rest=>?_;refine zS ?_;refine iW rfl rfl rfl (fun b2=>?_);refine iW rfl rfl rfl (fun b3=>?_);refine fI nV rfl (fun b4=>?_);refine fI sJ rfl (fun b5=>?_);refine zN ?_;refine zS ?_;refine mL (L:=[_,_,_,_]) rfl rfl rfl rfl rfl (fun msD rest hrest=>?_);simp only [fP,gN];refine zN ?_;refine zS ?_;refine bT 3 rfl rfl iE rfl rfl rfl ?_;refine bT 2 rfl rfl iE rfl rfl rfl ?_;refine fS rfl iF iE nV rfl rfl rfl (fun b8=>?_);refine fT 0 rfl rfl rfl (fun HP8 oP8 hleP8 hbP8 hoP8=>?_);replace hs:=hs.mono hleP8;replace ht:=ht.mono hleP8;have uM:=SlR.lit (ρ:=rawR) (l:=[iY z,iY w]) hbP8 hoP8 (iH.cons1 (cs:=[_,_]) ⟨_,_,rfl,hs⟩ (iH.one1 ⟨_,_,rfl,ht⟩));refine fH rfl (wN _ _ [iY z,iY w] _ (by assumption) zP (aU3 hz hw)) rfl ?_;refine zN ?_;refine cO ?_;refine eU [2,3,4,5] rfl ?_;apply nX (fun _=>True) trivial 10 [gC _,gC _,gC _,gC _,gC _,gC _,gC _,gC _,gC _,fun v H=>DgU (z.natAbs * w.natAbs) ((dg z.natAbs).length + (dg w.natAbs).length) H v] follows zK zK ⟨aH _,aH _,aH _,aH _,aH _,aH _,aH _,aH _,aH _,aDa _ _,trivial⟩ ?steps2 ?tail2
 case steps2 =>
  refine dH rfl ?_ ?_
  ·intro X HD bI _;exact aF rfl (bJ rfl mG rfl (bF (eO trivial rfl)))
  refine dH rfl ?_ ?_
  ·intro X HD bI _;exact gL rfl (aF rfl (bT 3 rfl rfl oA rfl rfl rfl (bF (eO trivial rfl))))
  refine dH rfl ?_ ?_
  ·intro X HD bI _;exact aF rfl (bJ rfl mG rfl (bF (eO trivial rfl)))
  refine dH rfl ?_ ?_
  ·intro X HD bI _;exact gL rfl (aF rfl (bT 2 rfl rfl oA rfl rfl rfl (bF (eO trivial rfl))))
  refine dH rfl ?_ ?_
  ·intro X HD bI _;exact gL rfl (gL rfl (aF rfl (aI4 rfl rfl nR rfl (bF (eO trivial rfl)))))
  refine dH rfl ?_ ?_
  ·intro X HD bI _;exact aF rfl (bJ rfl kY rfl (bF (eO trivial rfl)))
  refine dH rfl ?_ ?_
  ·intro X HD bI _;exact gL rfl (aF rfl (bT 3 rfl rfl gE rfl rfl rfl (bF (eO trivial rfl))))
  refine dH rfl ?_ ?_
  ·intro X HD bI _;exact aF rfl (bJ rfl kY rfl (bF (eO trivial rfl)))
  refine dH rfl ?_ ?_
  ·intro X HD bI _;exact gL rfl (aF rfl (bT 2 rfl rfl gE rfl rfl rfl (bF (eO trivial rfl))))
  refine dH rfl ?_ ?_
  ·intro X HD bI _;replace hs:=hs.mono bI;replace ht:=ht.mono bI;refine gL rfl (gL rfl (aF rfl (eZ rfl (dmul_fn _ _ _ _ _ _ _ hs ht zO zO) rfl ?_)));rintro _ HN kI hN19;exact bF (eO trivial (hN19))
  exact jH rfl
 case tail2 =>
  intro HD bI _;replace hs:=hs.mono bI;replace ht:=ht.mono bI;replace uM:=uM.mono bI;refine gL rfl (gL rfl (gL rfl (gL rfl (gL rfl (gL rfl (gL rfl (gL rfl (gL rfl (eJ rfl rfl ?_)))))))));rintro _ ⟨a19,rfl,hd19⟩;refine aF rfl (eZ rfl (aBc _ _ _ _ _ hd19 (by have:=mul_len z w;omega)) rfl ?_);rintro _ HN kI hN20;rw [mul_sgn2] at hN20;obtain ⟨a20,c20,rfl,hd20⟩:=hN20;replace hs:=hs.mono kI;replace ht:=ht.mono kI;replace uM:=uM.mono kI;refine eG 1 rfl rfl rfl rfl iE rfl rfl rfl rfl rfl (eG 0 rfl rfl rfl rfl jZ rfl rfl rfl rfl rfl (zN (eP (jO 0 (L:=[_,_,_,_]) rfl hrest rfl ((nH _ _ _).mono (fun u2 HE own2 lF hD=>?_))))));obtain ⟨h1,h2⟩:=hD;subst h2;replace hs:=hs.mono lF;replace ht:=ht.mono lF;replace uM:=uM.mono lF;replace hd20:=hd20.mono lF;refine ⟨by subst h1;rfl,_,_,rfl,(fN 1 rfl rfl iE rfl rfl (fN 0 rfl rfl jZ rfl rfl iD)),eQ.mk ?_⟩;exact ⟨rfl,_,rfl,_,_,rfl,by assumption⟩
end Go.Proofs

namespace Go.Proofs
open Go.XL
theorem aSc (p q : Nat) : (dg (p + q)).length ≤ max (dg p).length (dg q).length + 1:=by
 rw [lG,Nat.pow_succ];have h1:=aEy p;have h2:=aEy q;have h3:=Nat.pow_le_pow_right (n:=1073741824) zD (Nat.le_max_left (dg p).length (dg q).length);have h4:=Nat.pow_le_pow_right (n:=1073741824) zD (Nat.le_max_right (dg p).length (dg q).length);omega
theorem aTj (p q : Nat) : (dg (p - q)).length ≤ (dg p).length:=lP (Nat.sub_le _ _)
theorem aPw {s t : Bool} {p q : Nat} (h : s = t) : sgn s (p + q) = sgn s p + sgn t q:=by
 subst h;unfold sgn;split <;> omega
theorem aU5 {s t : Bool} {p q : Nat} (h : ¬ s = t) (hq : q ≤ p) : sgn s (p - q) = sgn s p + sgn t q:=by
 cases s <;> cases t <;> simp [sgn] at h ⊢ <;> omega
theorem aVy {s t : Bool} {p q : Nat} (h : ¬ s = t) (hq : p ≤ q) : sgn t (q - p) = sgn s p + sgn t q:=by
 cases s <;> cases t <;> simp [sgn] at h ⊢ <;> omega
theorem aSj (z : Int) : sgn (decide (z < 0)) z.natAbs = z:=by
 unfold sgn;rcases Int.lt_or_le z 0 with h | h
 ·rw [bG h];simp;omega
 rw [aI zO];simp;omega
theorem aJ2 {p q : Nat} : 0 ≤ aCz p q ↔ q ≤ p:=by
 unfold aCz;split
 ·exact ⟨fun h=>zO,fun h=>zO⟩
 split <;> exact ⟨fun _=>zO,fun _=>zD⟩
def vT (z w : Int) : Int:=if z < w then -1 else if z = w then 0 else 1
theorem xN {z w : Int} (h1 : z < 0) (h2 : w < 0) : aCz w.natAbs z.natAbs = vT z w:=by
 unfold aCz vT;by_cases h : z < w
 ·rw [eX h,eX zO]
 by_cases h3 : z = w
 ·subst h3;simp
 rw [dG h,dG h3,dG zO,dG zO]
theorem aBw {z w : Int} (h1 : ¬ z < 0) (h2 : ¬ w < 0) : aCz z.natAbs w.natAbs = vT z w:=by
 unfold aCz vT;by_cases h : z < w
 ·rw [eX h,eX zO]
 by_cases h3 : z = w
 ·subst h3;simp
 rw [dG h,dG h3,dG zO,dG zO]
end Go.Proofs
