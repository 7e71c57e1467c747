/- Fit. -/
import Derived.Test.YthpfckdllencmaaGreatB1
import Derived.Test.YthpfckdllencmaaGreatB7
import Derived.Test.YthpfckdllencmaaGreatB4
import Derived.Test.YthpfckdllencmaaGreatB3
set_option maxRecDepth 100000
set_option autoImplicit false
set_option linter.unusedVariables false
set_option linter.unusedSimpArgs false
namespace Go.Proofs
open Go.XL
theorem bf_124 : vS Tryz.prog 124 = some [(0,2),(2,1),(3,1)]:=zK
theorem bk_124 : vV Tryz.prog 124 = true:=zK
theorem aVo : Nat.ble (Tryz.prog.bytesOf 30) 4096 = true:=zK
theorem aUk : Nat.ble (Tryz.prog.bytesOf 34) 4096 = true:=zK
theorem aV3 : Nat.ble (Tryz.prog.bytesOf 4) 4096 = true:=zK
theorem ty_124 : tP Tryz.prog 124 4 true = true:=zK
theorem aVn : nB Tryz.prog 124 = some [.slice none 0 0,.slice none 0 0,.slice none 0 0,.slice none 0 0]:=zK
theorem aCi : nB Tryz.prog 26 = some [.slice none 0 0,.slice none 0 0]:=zK
theorem aMn : nB Tryz.prog 34 = some [.slice none 0 0]:=zK
set_option maxRecDepth 100000 in
set_option maxHeartbeats 1600000 in
theorem Fit_at (ba oa : Nat) (c : Nat) (m : Mk) (H : Hp) (hm : SlR mkR H (some ⟨ba,oa,none⟩) c m) (hok : oF m) (hm0 : 0 < m.length) (hw0 : 0 < fO m) (htr : trP (rL m)) (hax : aOo (aQ m) (fO m)) (hbx : ∀ q ∈ bQ m,smQ q) (hst : StR (aAc (aQ m) (bQ m)) (fO m + 1) (fO m) 0) (hza : szA (aAc (aQ m) (bQ m)) 2) (hqz : QuaSz m (jV m)) : iP Tryz.prog 28 #[.slice (some ⟨ba,oa,none⟩) m.length c] H [] (eQ (fun v H2 own=>own = [] ∧ ∃ a1 c1 a2 c2,v = .tuple #[.agg ⟨[.slice a1 (rA m (jV m)).length c1,.slice a2 (jV m).length c2]⟩,.int .i64 0] ∧ SlR jX H2 a1 c1 (rA m (jV m)) ∧ SlR jX H2 a2 c2 (jV m))):=by
 refine iP.introD (args:=[.slice (some ⟨ba,oa,none⟩) m.length c]) Tryz.func28 rfl rfl Tryz.ntmps28 rfl rfl rfl fun G rest=>?_;have hl:=hok.1;have hwd:=hok.2.1;have hn4 : fO m ≤ 4:=hok.2.1;refine zS ?_;refine iW rfl rfl rfl (fun b1=>?_);refine fI aCi rfl (fun b2=>?_);refine fI sJ rfl (fun b3=>?_);refine zN ?_;refine zS ?_;refine mL (L:=[_,_,_]) rfl rfl rfl rfl rfl (fun msD rest hrest=>?_);simp only [fP,gN];refine zN ?_;refine zS ?_;refine bT 2 rfl rfl pO rfl rfl rfl ?_;refine fH rfl (aJj _ _ m _ hm hok) rfl ?_;refine zN ?_;refine zS ?_;refine bT 2 rfl rfl pO rfl rfl rfl ?_;refine eD (ts:=#[]) rfl cH rfl ?_;refine zY rfl ?_;refine zM rfl ?_;refine zT rfl (bG zO) ?_;refine bT 2 rfl rfl pO rfl rfl rfl ?_;refine zT rfl (bG zO) ?_;refine eV (i:=0) rfl hm rfl cH gE zO rfl ?_;rintro eb39 eo39 _ x39 hx39 ⟨ax39,cx39,rfl,mV⟩ mW;refine zT rfl (bG zO) ?_;refine eH rfl (by assumption) gE rfl rfl rfl ?_;refine zT rfl (bG zO) ?_;refine eD (ts:=#[]) rfl bK rfl ?_;refine zT rfl (bG zO) ?_;refine zY rfl ?_;refine zV (bG zO) rfl ?_;refine fH rfl (rO _ _ (bG (by have h1:=(hok.at hx39).1;omega)) _) rfl ?_;refine zN ?_;refine zS ?_;refine zG rfl ?_;refine zN ?_;refine cO ?_;refine zS ?_;refine bT 2 rfl rfl pO rfl rfl rfl ?_;refine eD (ts:=#[]) rfl cH rfl ?_;refine zM rfl ?_;refine zN ?_;refine dK ?_;refine eU [4,47,1,2,3,45,46] rfl ?_;refine lR 0 ?_;refine gO (base:=[(1,_),(2,_),(3,_),(45,_),(46,_)]) (fun ζ : Nat × ((Nat × SObj) × Option Addr × Nat)=>[(4,.slice ζ.2.2.1 ((rL m).take (ζ.1)).length ζ.2.2.2),(47,.int .i64 (ζ.1 : Nat))]) (fun ζ Hl own=>ζ.1 ≤ m.length ∧ ζ.2.1 :: (b3,.cells 27 [.int .i64 0]) :: (b2,.cells 26 [.slice none 0 0,.slice none 0 0]) :: (b1,.cells 22 [.slice (some ⟨ba,oa,none⟩) m.length c]) :: rest = own ∧ Acc tbR 34 Hl ζ.2.1 ζ.2.2.1 ζ.2.2.2 ((rL m).take (ζ.1))) (fun ζ=>m.length - ζ.1) (0,((0,.nothing),none,0)) (zC) zB ⟨eS _,rfl,Acc.nil _ _ _ _⟩ ?_;rintro ⟨k,⟨pw,aw,cw⟩⟩ Hl0 _ gB ⟨hkk,rfl,haccw⟩;replace hm:=hm.mono gB;replace mW:=mW.mono gB;replace mV:=mV.mono gB;try dsimp only at hkk haccw ⊢
 refine zS (zL rfl (zN (cO (fC rfl (fun c0_4=>?_) (fun c0_4=>?_)))))
 ·refine eF (bO (cO (dK (zS (eV rfl hm rfl cH gE zO rfl ?_)))));rintro eb49 eo49 _ x49 hx49 ⟨ax49,cx49,rfl,hd49⟩ hp49;refine eH rfl (by assumption) gE rfl rfl rfl (zG rfl (zN (zS (zG rfl (zN (cO (zS ?_)))))));have hw49:=(hok.at hx49).1;have hg49:=vU x49;refine zM rfl (eD (ts:=#[]) rfl bK rfl (zM rfl (zN (dK (eU [7,53,1,2,3,4,45,46,47,51,52] rfl (lR 0 (gO (base:=[(1,_),(2,_),(3,_),(4,_),(45,_),(46,_),(47,_),(51,_),(52,_)]) (fun ζ : Nat × ((Nat × SObj) × Option Addr × Nat)=>[(7,.slice ζ.2.2.1 ((grR x49).take (ζ.1)).length ζ.2.2.2),(53,.int .i64 (ζ.1 : Nat))]) (fun ζ Hl own=>ζ.1 ≤ x49.length ∧ ζ.2.1 :: pw :: (b3,.cells 27 [.int .i64 0]) :: (b2,.cells 26 [.slice none 0 0,.slice none 0 0]) :: (b1,.cells 22 [.slice (some ⟨ba,oa,none⟩) m.length c]) :: rest = own ∧ Acc aE2 4 Hl ζ.2.1 ζ.2.2.1 ζ.2.2.2 ((grR x49).take (ζ.1))) (fun ζ=>x49.length - ζ.1) (0,((0,.nothing),none,0)) (zC) zB ⟨eS _,rfl,Acc.nil _ _ _ _⟩ ?_)))))));rintro ⟨j,⟨pg,ag,cg⟩⟩ Hl1 _ iT ⟨hkj,rfl,haccg⟩;replace hm:=hm.mono iT;replace mW:=mW.mono iT;replace mV:=mV.mono iT;replace haccw:=haccw.mono iT;replace hp49:=hp49.mono iT;replace hd49:=hd49.mono iT;replace gB:=gB.trans iT;try dsimp only at hkj haccg ⊢
  refine zS (zL rfl (zN (cO (fC rfl (fun c1_6=>?_) (fun c1_6=>?_)))))
  ·refine eF (bO (cO (dK (zS (eV rfl (by assumption) rfl bK gK zO rfl ?_)))));rintro eb55 eo55 _ x55 hx55 rfl hp55;refine eH rfl (by assumption) gK rfl rfl rfl (zG rfl (zN (dL (zM rfl (zM rfl (fH rfl (aGu x55 _) rfl (fS rfl iZ oA aQd rfl rfl rfl (fun b60=>fT 0 rfl rfl rfl (fun HP60 oP60 hleP60 hbP60 hoP60=>?_)))))))));have lT:=SlR.lit (ρ:=aE2) (l:=[_]) hbP60 hoP60 (iH.one1 rfl);replace haccg:=haccg.mono hleP60;replace iT:=iT.trans hleP60;refine iV 0 rfl rfl haccg rfl rfl lT rfl iZ oA aQd rfl aV3 zI rfl (fun p61 a61 c61 hacc61=>zG rfl (bF (fY (bO (dL (fR rfl rfl (dT zO zO) rfl (zM rfl (bF (eW ((j + 1,(p61,a61,c61))) (by show x49.length - (j + 1) < x49.length - j;omega) (iL (by first | rfl | (rw [jK (aC3 hx55)];rfl)) (zC)) (⟨by show j + 1 ≤ x49.length;omega,rfl,by first | (exact hacc61) | (rw [jK (aC3 hx55)];exact hacc61)⟩) zB (iT))))))))))
  obtain rfl : j = x49.length:=zO
  rw [show (grR x49).take x49.length = grR x49 from fJ (by rw [vU];omega)] at haccg ⊢;refine gI (fE (eY (fU rfl (bO (dL (zM rfl (iO 0 rfl haccg rfl (fun HQ10 hleQ10 hsQ10=>?_))))))));replace haccw:=haccw.mono hleQ10;replace gB:=gB.trans hleQ10;refine zM rfl (fS rfl gP qL aMn rfl rfl rfl (fun b65=>fT 0 rfl rfl rfl (fun HP65 oP65 hleP65 hbP65 hoP65=>?_)));replace haccw:=haccw.mono hleP65;replace hsQ10:=hsQ10.mono hleP65;replace gB:=gB.trans hleP65;have hsl65:=SlR.lit (ρ:=tbR) (l:=[grR x49]) hbP65 hoP65 (iH.one1 ⟨_,_,rfl,hsQ10⟩);refine iV 0 rfl rfl haccw rfl rfl hsl65 rfl gP qL aMn rfl aUk zI rfl (fun p66 a66 c66 hacc66=>zG rfl (bF (fY (bO (dL (fR rfl rfl (dT zO zO) rfl (zM rfl (bF (eW ((k + 1,(p66,a66,c66))) (by show m.length - (k + 1) < m.length - k;omega) (iL (by first | rfl | (rw [jK (aC8 hx49)];rfl)) (zC)) (⟨by show k + 1 ≤ m.length;omega,rfl,by first | (exact hacc66) | (rw [jK (aC8 hx49)];exact hacc66)⟩) zB (gB))))))))))
 obtain rfl : k = m.length:=zO
 rw [show (rL m).take m.length = rL m from fJ (by rw [mY];omega)] at haccw ⊢;refine gI (fE (eY (fU rfl (bO (zS (iO 0 rfl haccw rfl (fun HQ12 hleQ12 lU=>?_)))))));replace hm:=hm.mono hleQ12;replace mW:=mW.mono hleQ12;replace mV:=mV.mono hleQ12;refine zM rfl (eZ rfl (aJl _ _ (rL m) _ lU (by rw [mY];omega)) rfl ?_);rintro _ HT tG ⟨aT,cT,hT,rfl⟩;replace hm:=hm.mono tG;replace mW:=mW.mono tG;replace mV:=mV.mono tG;replace lU:=lU.mono tG;refine zM rfl (zX rfl (zX rfl (zX rfl (zG rfl (zG rfl (zG rfl (zN (zS (zM rfl (fH rfl (rO _ _ (bG htr) _) rfl (zN (zS (bT 2 rfl rfl pO rfl rfl rfl (eV (i:=0) rfl hm rfl cH gE zO rfl ?_))))))))))))));rintro eb77 eo77 _ x77 hx77 ⟨ax77,cx77,rfl,oD⟩ oE;refine eH rfl (by assumption) gE rfl rfl rfl ?_;have hl0 : x77.length = fO m:=(hok.at hx77).1;rw [hl0];refine eD (ts:=#[]) rfl bK rfl (zG rfl (zN (cO (eU [1,2,3,13] rfl ?_))));apply aF4 (q:=[]) (own:=(b3,.cells 27 [.int .i64 0]) :: (b2,.cells 26 [.slice none 0 0,.slice none 0 0]) :: (b1,.cells 22 [.slice (some ⟨ba,oa,none⟩) m.length c]) :: rest) (fun _=>True) trivial [2,5,6,7] (fun s e H=>aCm m.length s e H) (aCm.mono) 8 [gC _,gC _,fun v H=>∃ g c,v = .slice (some ⟨g,0,none⟩) m.length c,gC _,gC _,fun v H=>∃ g c,v = .slice (some ⟨g,0,none⟩) m.length c,fun v H=>∃ v2 v5,v = aTs v2 v5,fun v H=>∃ b,v = .pointer (some ⟨b,0,none⟩)] follows zK ⟨aH _,aH _,fun _ _ _ _ h=>h,aH _,aH _,fun _ _ _ _ h=>h,fun _ _ _ _ h=>h,fun _ _ _ _ h=>h,trivial⟩ zD (aCm.nil) ?steps16 ?tail16
 case steps16 =>
  refine iJ rfl ?_ ?_
  ·intro X e HD bI _;refine aO rfl ?_;intro s hfo hsn hw hb hkn;exact jM List.perm_append_comm (bT 2 rfl rfl pO rfl rfl rfl (jM List.perm_append_comm (bF (iA (e:=e) trivial rfl rfl (nA rfl)))))
  refine iJ rfl ?_ ?_
  ·intro X e HD bI _;refine fX rfl (aO rfl ?_);intro s hfo hsn hw hb hkn;exact eD (ts:=#[]) rfl cH rfl (bF (iA (e:=e) trivial rfl rfl (nA rfl)))
  refine iJ rfl ?_ ?_
  ·intro X e HD bI _;refine fX rfl (fX rfl (aO rfl ?_));intro s hfo hsn hw hb hkn;exact sT (ρ:=gV .i64) (n:=m.length) 0 rfl rfl bK gK rV rfl aCl zO rfl rfl (fun p82 c82 hacc82=>bF (iA (e:=p82 :: e) trivial (⟨_,_,rfl⟩) rfl (rU rfl (by exact aCm.make zD hsn (fun _=>hw 6 rfl zK) (aB7.two.2 ⟨_,rfl,hacc82⟩) hfo))))
  refine iJ rfl ?_ ?_
  ·intro X e HD bI _;refine aO rfl ?_;intro s hfo hsn hw hb hkn;exact jM List.perm_append_comm (bT 2 rfl rfl pO rfl rfl rfl (jM List.perm_append_comm (bF (iA (e:=e) trivial rfl rfl (nA rfl)))))
  refine iJ rfl ?_ ?_
  ·intro X e HD bI _;refine fX rfl (aO rfl ?_);intro s hfo hsn hw hb hkn;exact eD (ts:=#[]) rfl cH rfl (bF (iA (e:=e) trivial rfl rfl (nA rfl)))
  refine iJ rfl ?_ ?_
  ·intro X e HD bI _;refine fX rfl (fX rfl (aO rfl ?_));intro s hfo hsn hw hb hkn;exact sT (ρ:=gV .i64) (n:=m.length) 0 rfl rfl bK gK rV rfl aCl zO rfl rfl (fun p85 c85 hacc85=>bF (iA (e:=p85 :: e) trivial (⟨_,_,rfl⟩) rfl (rU rfl (by exact aCm.make zD hsn (fun _=>hw 6 rfl zK) (aB7.five.2 ⟨_,rfl,hacc85⟩) hfo))))
  refine iJ rfl ?_ ?_
  ·intro X e HD bI _;refine eR rfl rfl ?_;rintro _ ⟨g82,c82,rfl⟩;refine eR rfl rfl ?_;rintro _ ⟨g85,c85,rfl⟩;refine aO rfl ?_;intro s hfo hsn hw hb hkn;exact mC bk_124 bf_124 aVn rfl rfl rfl (bF (iA (e:=e) trivial (⟨_,_,rfl⟩) rfl (rU rfl (by exact aCm.note (hkn 2 82 _ rfl rfl rfl) (hkn 5 85 _ rfl rfl rfl) hfo))))
  refine iJ rfl ?_ ?_
  ·intro X e HD bI _;refine aO rfl ?_;intro s hfo hsn hw hb hkn;exact fI aVn rfl (fun b14=>bF (iA (e:=(b14,.cells 124 [.slice none 0 0,.slice none 0 0,.slice none 0 0,.slice none 0 0]) :: e) trivial (⟨_,rfl⟩) rfl (rU rfl (by exact aCm.make zD hsn (fun h=>absurd rfl h) (aB7.seven.2 ⟨rfl,rfl⟩) hfo))))
  exact aBf rfl
 case tail16 =>
  intro HD bI _;replace hm:=hm.mono bI;replace mW:=mW.mono bI;replace mV:=mV.mono bI;replace lU:=lU.mono bI;replace hT:=hT.mono bI;replace oE:=oE.mono bI;replace oD:=oD.mono bI;refine fX rfl (fX rfl (eR rfl rfl ?_));rintro _ ⟨g82,c82,rfl⟩;refine fX rfl (fX rfl (eR rfl rfl ?_));rintro _ ⟨g85,c85,rfl⟩;refine eR rfl rfl ?_;rintro _ ⟨w2,w5,rfl⟩;refine eR rfl rfl ?_;rintro _ ⟨b14,rfl⟩;refine aO rfl ?_;intro e s hfo hall hkn;obtain ⟨hfo,hf6⟩:=hfo;obtain ⟨⟨g2,z2⟩,v2,e2,hs2,hP2,hq2,hfo⟩:=lX.cons_some (hall 2 rfl) hfo;obtain ⟨⟨g5,z5⟩,v5,e3,hs5,hP5,hq5,hfo⟩:=lX.cons_some (hall 5 rfl) hfo;obtain ⟨⟨b14',z7⟩,v7,e4,hs7,hP7,hq7,hfo⟩:=lX.cons_some (hall 7 rfl) hfo;obtain rfl : e4 = []:=hfo;have k2:=hkn 2 82 _ rfl rfl rfl;have k5:=hkn 5 85 _ rfl rfl rfl;have k6:=hkn 6 86 _ rfl rfl rfl;have k7:=hkn 7 14 _ rfl rfl rfl;obtain ⟨cm,hv2,hAm⟩:=aB7.two.1 hP2;obtain ⟨cs,hv5,hAs⟩:=aB7.five.1 hP5;obtain ⟨hv7,hz7⟩:=aB7.seven.1 hP7;obtain ⟨u2,u5,hu2,hu5,hu⟩:=hf6 _ k6;rw [hs2] at k2 hu2;rw [hs5] at k5 hu5;rw [hs7] at k7;obtain rfl:=eE k2;obtain rfl:=eE k5;obtain rfl:=eE k7;obtain rfl:=eE hu2;obtain rfl:=eE hu5;obtain ⟨rfl,rfl⟩ : g82 = g2 ∧ c82 = cm:=by cases hv2;exact ⟨rfl,rfl⟩
  obtain ⟨rfl,rfl⟩ : g85 = g5 ∧ c85 = cs:=by cases hv5;exact ⟨rfl,rfl⟩
  obtain rfl : b14 = b14':=by cases hv7;rfl
  simp only at hz7 hAm hAs;subst hz7;obtain ⟨rfl,rfl⟩:=agg4_inj hu;refine jM (permFit hq2 hq5 hq7) ?_;obtain ⟨pm,hpm⟩ : ∃ p,p = ((g82,z2) : Nat × SObj):=⟨_,rfl⟩
  obtain ⟨ps,hps⟩ : ∃ p,p = ((g85,z5) : Nat × SObj):=⟨_,rfl⟩
  rw [← hpm] at hAm ⊢;rw [← hps] at hAs ⊢;clear k2 k5 hu2 hu5 hv2 hv5 hP2 hP5 hP7 hkn hall hs2 hs5 hs7 k6 hf6 hv7 hu hfo hq2 hq5 hq7;refine eG 0 rfl rfl rfl rfl ty_124 rfl rfl rfl rfl rfl (zN (zS (zM rfl (fR rfl rfl (dT zO zO) rfl (sT (ρ:=(gV .i64)) (n:=(fO m + 1)) 0 rfl rfl bK gK rV rfl aCl zF rfl rfl (fun p89 c89 kL=>bJ rfl tL rfl (bJ rfl aLe rfl (eG 1 rfl rfl rfl rfl gE rfl rfl rfl rfl rfl (zN (cO (zS (zM rfl (fR rfl rfl (dT zO zO) rfl (zM rfl (zN (dK (eU [94,1,2,3,13,14,93] rfl (lR 0 (oT (List.Perm.trans (List.Perm.cons _ (gW _ _ _)) (gW _ _ _)) ?_)))))))))))))))))));have hm4 : m.length ≤ 6:=hl;refine gO (base:=[(1,_),(2,_),(3,_),(13,_),(14,_),(93,_)]) (fun ζ : Nat × (List (RowO Int)) × (Nat × SObj) × (Option Addr) × (Nat)=>[(94,.int .i64 (ζ.1 : Nat))]) (fun ζ Hl own=>ζ.1 ≤ (fO m + 1) ∧ (b14,.cells 124 [.slice ζ.2.2.2.1 ζ.2.1.length ζ.2.2.2.2,.slice (some ⟨p89.1,0,none⟩) (fO m + 1) c89,.slice (some ⟨g82,0,none⟩) m.length c82,.slice (some ⟨g85,0,none⟩) m.length c85]) :: ζ.2.2.1 :: (ζ.2.1.map RowO.p ++ (p89 :: pm :: ps :: (b3,.cells 27 [.int .i64 0]) :: (b2,.cells 26 [.slice none 0 0,.slice none 0 0]) :: (b1,.cells 22 [.slice (some ⟨ba,oa,none⟩) m.length c]) :: rest)) = own ∧ (XL.Acc XL.rawR 30 Hl ζ.2.2.1 ζ.2.2.2.1 ζ.2.2.2.2 (ζ.2.1.map RowO.raw)) ∧ (RowsO (gV .i64) 3 Hl ζ.2.1) ∧ (ζ.2.1.map RowO.l = List.replicate (ζ.1) (List.replicate (fO m) (0 : Int)))) (fun ζ=>(fO m + 1) - ζ.1) (0,[],(0,.nothing),none,0) (zC) zB ⟨eS _,rfl,Acc.nil _ _ _ _,RowsO.nil,by simp⟩ ?_;rintro ⟨k,rs,pt,a1,c1⟩ Hl2 _ jJ ⟨hkk,rfl,hpt,hro,hrl⟩;replace hm:=hm.mono jJ;replace mW:=mW.mono jJ;replace mV:=mV.mono jJ;replace lU:=lU.mono jJ;replace hT:=hT.mono jJ;replace oE:=oE.mono jJ;replace oD:=oD.mono jJ;replace hAm:=hAm.mono jJ;replace hAs:=hAs.mono jJ;replace kL:=kL.mono jJ;try dsimp only at hkk hpt hro hrl ⊢
  refine zS (zL rfl (zN (cO (fC rfl (fun c2_17=>?_) (fun c2_17=>?_)))))
  ·refine eF (bO (cO (dK ?_)));have hlr : rs.length = k:=by have:=congrArg List.length hrl;simp at this;omega
   refine eU [1,2,3,13,14,93,94] rfl ?_;apply XC.drawO (q:=[(b14,.cells 124 [.slice a1 rs.length c1,.slice (some ⟨p89.1,0,none⟩) (fO m + 1) c89,.slice (some ⟨g82,0,none⟩) m.length c82,.slice (some ⟨g85,0,none⟩) m.length c85]),pt] ++ rs.map RowO.p) (own:=(p89 :: pm :: ps :: (b3,.cells 27 [.int .i64 0]) :: (b2,.cells 26 [.slice none 0 0,.slice none 0 0]) :: (b1,.cells 22 [.slice (some ⟨ba,oa,none⟩) m.length c]) :: rest)) (fun _=>True) trivial [4,5,6] (xX (gV .i64) 3 30 (b14,.cells 124 [.slice a1 rs.length c1,.slice (some ⟨p89.1,0,none⟩) (fO m + 1) c89,.slice (some ⟨g82,0,none⟩) m.length c82,.slice (some ⟨g85,0,none⟩) m.length c85]) a1 c1 rs pt (List.replicate (fO m) (0 : Int))) (xX.mono) 7 [gC _,gC _,gC _,gC _,vA,vA,vA] follows zK ⟨aH _,aH _,aH _,aH _,lN,lN,lN,trivial⟩ zK (⟨rfl,hpt,hro⟩) ?steps18 ?tail18
   case steps18 =>
    refine lM rfl ?_ ?_
    ·intro X e HD bI _;refine aO rfl ?_;intro hfa;exact bJ rfl tL rfl (bF (iA (e:=e) trivial rfl rfl (uB rfl)))
    refine lM rfl ?_ ?_
    ·intro X e HD bI _;refine fX rfl (aO rfl ?_);intro hfa;exact bJ rfl aAp rfl (bF (iA (e:=e) trivial rfl rfl (uB rfl)))
    refine lM rfl ?_ ?_
    ·intro X e HD bI _;refine fX rfl (aO rfl ?_);intro hfa;obtain ⟨jq,vq,hj2,hfo⟩:=aPy 2 rfl rfl zK hfa;obtain ⟨tl,rfl⟩:=hfo.cell hj2;exact bT 0 rfl rfl pO rfl rfl rfl (bF (iA (e:=(b14,.cells 124 [.slice a1 rs.length c1,.slice (some ⟨p89.1,0,none⟩) (fO m + 1) c89,.slice (some ⟨g82,0,none⟩) m.length c82,.slice (some ⟨g85,0,none⟩) m.length c85]) :: tl) trivial rfl rfl (uB rfl)))
    refine lM rfl ?_ ?_
    ·intro X e HD bI _;refine aO rfl ?_;intro hfa;exact zM rfl (bF (iA (e:=e) trivial rfl rfl (uB rfl)))
    refine lM rfl ?_ ?_
    ·intro X e HD bI _;refine fX rfl (fX rfl (aO rfl ?_));intro hfa;obtain ⟨rfl,hgt,hgr⟩:=xX.zero (v:=undef) (aS6 rfl hfa);exact sT (ρ:=gV .i64) (n:=fO m) 0 rfl rfl bK gK rV rfl aCl zO rfl rfl (fun p100 c100 hacc100=>jM (gW _ _ _) (bF (iA (e:=[(b14,.cells 124 [.slice a1 rs.length c1,.slice (some ⟨p89.1,0,none⟩) (fO m + 1) c89,.slice (some ⟨g82,0,none⟩) m.length c82,.slice (some ⟨g85,0,none⟩) m.length c85]),p100,pt] ++ rs.map RowO.p) trivial (trivial) rfl (aD5 rfl (by exact ⟨p100,_,c100,by rw [gR],rfl,hacc100,hgt,hgr⟩)))))
    refine lM rfl ?_ ?_
    ·intro X e HD bI _;refine eR rfl rfl ?_;rintro _ _;refine aO rfl ?_;intro hfa;obtain ⟨pf,af,cf,hv1,rfl,hgf,hgt,hgr⟩:=xX.one (aI8 (j:=0) rfl hfa rfl rfl);subst hv1;refine fS rfl cH gE aGe rfl rfl rfl (fun b101=>fT 0 rfl rfl rfl (fun HP101 oP101 hleP101 hbP101 hoP101=>?_));have hsl101:=SlR.lit (ρ:=XL.rawR) (l:=[(af,(List.replicate (fO m) (0 : Int)).length,cf)]) hbP101 hoP101 (iH.one1 rfl);replace hgf:=hgf.mono hleP101;replace hgt:=hgt.mono hleP101;replace hgr:=hgr.mono hleP101;exact bF (iA (e:=[(b14,.cells 124 [.slice a1 rs.length c1,.slice (some ⟨p89.1,0,none⟩) (fO m + 1) c89,.slice (some ⟨g82,0,none⟩) m.length c82,.slice (some ⟨g85,0,none⟩) m.length c85]),pf,pt] ++ rs.map RowO.p) trivial (trivial) rfl (aD5 rfl (by exact ⟨pf,af,cf,_,rfl,hsl101,rfl,hgf,hgt,hgr⟩)))
    refine lM rfl ?_ ?_
    ·intro X e HD bI _;refine fX rfl (eR rfl rfl ?_);rintro _ _;refine aO rfl ?_;intro hfa;obtain ⟨pf,af,cf,bl,hv1,hsl,rfl,hgf,hgt,hgr⟩:=xX.two (aI8 (j:=1) rfl hfa rfl rfl);subst hv1;exact iV 2 rfl rfl hgt (fB ..).symm rfl hsl rfl cH gE aGe rfl aVo (by rw [fB];simp only [jL,List.length_nil];omega) rfl (fun p102 a102 c102 hacc102=>jM (List.Perm.cons _ (aJw (r:=(⟨pf,af,cf,(List.replicate (fO m) (0 : Int))⟩ : RowO Int)))) (bF (iA (e:=[(b14,.cells 124 [.slice a1 rs.length c1,.slice (some ⟨p89.1,0,none⟩) (fO m + 1) c89,.slice (some ⟨g82,0,none⟩) m.length c82,.slice (some ⟨g85,0,none⟩) m.length c85]),p102] ++ (rs ++ [(⟨pf,af,cf,(List.replicate (fO m) (0 : Int))⟩ : RowO Int)]).map RowO.p) trivial (trivial) rfl (aD5 rfl (by exact xX.new hgf hgr hacc102)))))
    exact aLi rfl
   case tail18 =>
    intro HD bI _;replace jJ:=jJ.trans bI;refine fX rfl (fX rfl (fX rfl (fX rfl (eR rfl rfl ?_))));rintro _ _;refine eR rfl rfl ?_;rintro _ _;refine eR rfl rfl ?_;rintro _ _;refine aO rfl ?_;intro e he;obtain ⟨rN,ptN,aN,cN,hvN,rfl,hrN,hTN,hRN⟩:=xX.three (aSo (n:=2) rfl he rfl rfl);subst hvN;refine bJ rfl tL rfl (bJ rfl aAp rfl (eG 0 rfl rfl rfl rfl pO rfl rfl rfl rfl rfl (bF (fY (bO (dL (fR rfl rfl (dT zO zO) rfl (zM rfl (bF (eW ((k + 1,rs ++ [rN],ptN,aN,cN)) (by show (fO m + 1) - (k + 1) < (fO m + 1) - k;omega) (zC) (⟨by show k + 1 ≤ (fO m + 1);omega,rfl,hTN,hRN,by rw [List.map_append,hrl,List.replicate_succ',← hrN];rfl⟩) zB (jJ)))))))))))
  obtain rfl : k = fO m + 1:=zO
  refine gI (fE (eY (fU rfl (bO (cO (zS (fT 0 rfl rfl rfl (fun HC oC qA hbC hoC=>?_))))))));have nG:=rC.of_is hbC hoC;replace hm:=hm.mono qA;replace mW:=mW.mono qA;replace mV:=mV.mono qA;replace lU:=lU.mono qA;replace hT:=hT.mono qA;replace oE:=oE.mono qA;replace oD:=oD.mono qA;replace hAm:=hAm.mono qA;replace hAs:=hAs.mono qA;replace kL:=kL.mono qA;replace hpt:=hpt.mono qA;replace hro:=hro.mono qA;refine iO 0 rfl hpt rfl (fun HD bI hsT=>?_);replace hm:=hm.mono bI;replace mW:=mW.mono bI;replace mV:=mV.mono bI;replace lU:=lU.mono bI;replace hT:=hT.mono bI;replace oE:=oE.mono bI;replace oD:=oD.mono bI;replace hAm:=hAm.mono bI;replace hAs:=hAs.mono bI;replace kL:=kL.mono bI;replace hro:=hro.mono bI;replace nG:=nG.mono bI;refine jM (List.perm_append_comm_assoc _ [_,_,_,_,_,_] _) ?_;change XO _ _ _ _ ⟨_,_,_,p89 :: pm :: ps :: (b3,.cells 27 [.int .i64 0]) :: (b2,.cells 26 [.slice none 0 0,.slice none 0 0]) :: (b1,.cells 22 [.slice (some ⟨ba,oa,none⟩) m.length c]) :: (rs.map RowO.p ++ rest)⟩;refine bT 5 rfl rfl pO rfl rfl rfl (eZ rfl (aGp _ _ _ 43 _) rfl ?_);rintro _ HK mE ⟨bK1,bK2,rfl,hK1,hK2⟩;replace hm:=hm.mono mE;replace mW:=mW.mono mE;replace mV:=mV.mono mE;replace lU:=lU.mono mE;replace hT:=hT.mono mE;replace oE:=oE.mono mE;replace oD:=oD.mono mE;replace hAm:=hAm.mono mE;replace hAs:=hAs.mono mE;replace kL:=kL.mono mE;replace hro:=hro.mono mE;replace nG:=nG.mono mE;replace hsT:=hsT.mono mE;refine zN (dK (eU [1,2,3,13,14,107] rfl (qS (enc:=aTv) rfl (aEg _ _ m _ _ _ _ hm zO hok.rows hK1 hK2 aIv rfl) (fun _=>rfl) rfl rfl (fun pre Hl own=>∃ pm ps : Nat × SObj,p89 :: pm :: ps :: (b3,.cells 27 [.int .i64 0]) :: (b2,.cells 26 [.slice none 0 0,.slice none 0 0]) :: (b1,.cells 22 [.slice (some ⟨ba,oa,none⟩) m.length c]) :: (rs.map RowO.p ++ rest) = own ∧ XL.Acc (gV .i64) 3 Hl pm (some ⟨g82,0,none⟩) c82 (aE6 m.length pre) ∧ XL.Acc (gV .i64) 3 Hl ps (some ⟨g85,0,none⟩) c85 (aE0 m.length pre)) (fun _ _ _=>False) (⟨_,_,rfl,by rw [manyL_nil];exact hAm,by rw [sumsL_nil];exact hAs⟩) (.inl rfl) ?_ ?_ ?_)))
  ·rintro G lp hd1 hd2 hrec pre x post hxs Hl ownL jQ ⟨pm,ps,rfl,hAm,hAs⟩;have hxm : x ∈ jW m:=by rw [hxs];simp
   obtain ⟨lx,hlx,hjx,hmx0⟩:=aAf hxm;have hi1:=(bY.1 hlx).1;have hi2:=(bY.1 hjx).1;have hlw:=(hok.at hlx).1;have hxb:=(hok.at hlx).2.2 _ (cF hjx);have hpl:=aOz hok hxs;have hkl:=wU hok;change XC _ _ _ ⟨wO [108,109] [.agg ⟨[.int .i64 (x.1.1 : Nat),.int .i64 (x.1.2 : Nat)]⟩,.int .i64 x.2] _,_,_,_⟩;have hcl:=aNx pre x.1.1;have hsb:=aGm hok (aR8 hxs) x.1.1;replace nG:=nG.mono jQ;refine zS (fI aIa rfl (fun b15=>eG 0 rfl rfl rfl rfl aF2 rfl rfl rfl rfl rfl (zN (dL (zG rfl (bF (tS (dK (zS (bJ rfl aK9 rfl (nF (off:=2) rfl nG gE rfl rfl rfl (lO rfl rfl lE gK zF zF rfl (bT 0 rfl rfl gK rfl rfl rfl (fK rfl rfl bK gK zO (by first | omega | (rw [pL];omega)) rfl (lY 2 rfl rfl hAm (by rw [eN];exact aA0 hi1) gK rfl (fun cs22 v22 hR22 hv22=>?_) (fun cs22 hR22=>⟨_,by cases hR22;rfl⟩))))))))))))))));cases hR22;cases hv22;refine fR rfl rfl (dT zO zO) rfl (fK rfl rfl bK gK zO (by first | omega | (rw [pL];omega)) rfl (lH 2 rfl rfl rfl hAm (k:=((x.1.1 : Nat) : Int).toNat) (u:=((qO pre x.1.1 : Nat) : Int) + 1) (by rw [eN,pL];omega) rfl rfl gK rfl (fun pm2 hAm2=>?_)));rw [eN,← manyL_snoc hi1] at hAm2;refine zN (dL (bJ rfl aK7 rfl (nF (off:=3) rfl nG gE rfl rfl rfl (lO rfl rfl lE gK zF zF rfl (bT 0 rfl rfl gK rfl rfl rfl (fK rfl rfl bK gK zO (by first | omega | (rw [qI];omega)) rfl (lY 3 rfl rfl hAs (by rw [eN];exact aAx hi1) gK rfl (fun cs26 v26 hR26 hv26=>?_) (fun cs26 hR26=>⟨_,by cases hR26;rfl⟩))))))));cases hR26;cases hv26;refine zM rfl (fR rfl rfl (dT zO zO) rfl (fK rfl rfl bK gK zO (by first | omega | (rw [qI];omega)) rfl (lH 3 rfl rfl rfl hAs (k:=((x.1.1 : Nat) : Int).toNat) (u:=rQ pre x.1.1 + x.2) (by rw [eN,qI];omega) rfl rfl gK rfl (fun ps2 hAs2=>?_))));rw [eN,← sumsL_snoc hi1] at hAs2;refine bF (fY ?_);refine ⟨rfl,(p89 :: pm2 :: ps2 :: (b3,.cells 27 [.int .i64 0]) :: (b2,.cells 26 [.slice none 0 0,.slice none 0 0]) :: (b1,.cells 22 [.slice (some ⟨ba,oa,none⟩) m.length c]) :: (rs.map RowO.p ++ rest)),zA,?_⟩;exact ⟨_,_,rfl,hAm2,hAs2⟩
  ·rintro Hl ownL jQ ⟨pm,ps,rfl,hAm,hAs⟩;replace hm:=hm.mono jQ;replace mW:=mW.mono jQ;replace mV:=mV.mono jQ;replace lU:=lU.mono jQ;replace hT:=hT.mono jQ;replace oE:=oE.mono jQ;replace oD:=oD.mono jQ;replace kL:=kL.mono jQ;replace hro:=hro.mono jQ;replace nG:=nG.mono jQ;replace hsT:=hsT.mono jQ;replace hK1:=hK1.mono jQ;replace hK2:=hK2.mono jQ;refine fY (bO (cO (zS (iO 1 rfl hAm rfl (fun HM sP hsM=>?_)))));replace hm:=hm.mono sP;replace mW:=mW.mono sP;replace mV:=mV.mono sP;replace lU:=lU.mono sP;replace hT:=hT.mono sP;replace oE:=oE.mono sP;replace oD:=oD.mono sP;replace kL:=kL.mono sP;replace hro:=hro.mono sP;replace nG:=nG.mono sP;replace hsT:=hsT.mono sP;replace hK1:=hK1.mono sP;replace hK2:=hK2.mono sP;replace hAs:=hAs.mono sP;refine iO 1 rfl hAs rfl (fun HN kI hsS=>?_);replace hm:=hm.mono kI;replace mW:=mW.mono kI;replace mV:=mV.mono kI;replace lU:=lU.mono kI;replace hT:=hT.mono kI;replace oE:=oE.mono kI;replace oD:=oD.mono kI;replace kL:=kL.mono kI;replace hro:=hro.mono kI;replace nG:=nG.mono kI;replace hsT:=hsT.mono kI;replace hK1:=hK1.mono kI;replace hK2:=hK2.mono kI;replace hsM:=hsM.mono kI;refine bT 3 rfl rfl pO rfl rfl rfl (eZ rfl (aGp _ _ _ 43 _) rfl ?_);rintro _ HK mE ⟨bK3,bK4,rfl,hK3,hK4⟩;replace hm:=hm.mono mE;replace mW:=mW.mono mE;replace mV:=mV.mono mE;replace lU:=lU.mono mE;replace hT:=hT.mono mE;replace oE:=oE.mono mE;replace oD:=oD.mono mE;replace kL:=kL.mono mE;replace hro:=hro.mono mE;replace nG:=nG.mono mE;replace hsT:=hsT.mono mE;replace hK1:=hK1.mono mE;replace hK2:=hK2.mono mE;replace hsM:=hsM.mono mE;replace hsS:=hsS.mono mE;refine zN (dK (eU [1,2,3,13,14,128] rfl (qS (enc:=aTv) rfl (aEg _ _ m _ _ _ _ hm zO hok.rows hK3 hK4 aIv rfl) (fun _=>rfl) rfl rfl (fun pre Hl own=>∃ (pb : Nat × SObj) (rs2 : List (RowO Int)),pb :: (b3,.cells 27 [.int .i64 0]) :: (b2,.cells 26 [.slice none 0 0,.slice none 0 0]) :: (b1,.cells 22 [.slice (some ⟨ba,oa,none⟩) m.length c]) :: (rs2.map RowO.p ++ rest) = own ∧ XL.Acc (gV .i64) 3 Hl pb (some ⟨p89.1,0,none⟩) c89 (aIr (jW m) pre (fO m)) ∧ RowsO (gV .i64) 3 Hl rs2 ∧ rs2.map RowO.l = aH4 m (jW m) pre (fO m) ∧ rs2.map RowO.raw = rs.map RowO.raw) (fun _ _ _=>False) (⟨_,rs,rfl,by rw [bTab_nil];exact kL,hro,by rw [hrl,aTab_nil],rfl⟩) (.inl rfl) ?_ ?_ ?_)))
   ·rintro G lp hd1 hd2 hrec pre x post hxs Hl ownL jQ ⟨pb,rs2,rfl,hB,aHc,hrl2,hraw2⟩;have hxm : x ∈ jW m:=by rw [hxs];simp
    obtain ⟨lx,hlx,hjx,hmx0⟩:=aAf hxm;have hi1:=(bY.1 hlx).1;have hi2:=(bY.1 hjx).1;have hlw:=(hok.at hlx).1;have hxb:=(hok.at hlx).2.2 _ (cF hjx);have hpl:=aOz hok hxs;have hkl:=wU hok;change XC _ _ _ ⟨wO [129,130] [.agg ⟨[.int .i64 (x.1.1 : Nat),.int .i64 (x.1.2 : Nat)]⟩,.int .i64 x.2] _,_,_,_⟩;replace hm:=hm.mono jQ;replace mW:=mW.mono jQ;replace mV:=mV.mono jQ;replace lU:=lU.mono jQ;replace hT:=hT.mono jQ;replace oE:=oE.mono jQ;replace oD:=oD.mono jQ;replace kL:=kL.mono jQ;replace hro:=hro.mono jQ;replace nG:=nG.mono jQ;replace hsT:=hsT.mono jQ;replace hK1:=hK1.mono jQ;replace hK2:=hK2.mono jQ;replace hsM:=hsM.mono jQ;replace hsS:=hsS.mono jQ;replace hK3:=hK3.mono jQ;replace hK4:=hK4.mono jQ;refine zS (fI aIa rfl (fun b17=>eG 0 rfl rfl rfl rfl aF2 rfl rfl rfl rfl rfl (zN (dL (zG rfl (bF (tS (dK (eU [1,14,17,18] rfl ?_)))))))));obtain ⟨_,xR,hxR,⟨axR,cxR,rfl,hdR⟩,hpR⟩:=hm.elem (x.1.1) zO;obtain rfl:=eE (hlx.symm.trans hxR);apply pI 10 [gC _,gC _,gC _,gC _,gC _,gC _,gC _,gC _,gC _,gC _] follows zK zK ⟨aH _,aH _,aH _,aH _,aH _,aH _,aH _,aH _,aH _,aH _,trivial⟩ ?steps29 ?tail29
    case steps29 =>
     refine dF rfl ?_ ?_
     ·intro X;exact aF rfl (lO rfl rfl lE gK zF zF rfl zQ)
     refine dF rfl ?_ ?_
     ·intro X;exact gL rfl (aF rfl (bT 0 rfl rfl gK rfl rfl rfl zQ))
     refine dF rfl ?_ ?_
     ·intro X;exact aF rfl (lO rfl rfl lE gK zF zF rfl zQ)
     refine dF rfl ?_ ?_
     ·intro X;exact gL rfl (aF rfl (bT 0 rfl rfl gK rfl rfl rfl zQ))
     refine dF rfl ?_ ?_
     ·intro X;exact aF rfl (zM rfl zQ)
     refine dF rfl ?_ ?_
     ·intro X;exact aF rfl (bT 4 rfl rfl pO rfl rfl rfl zQ)
     refine dF rfl ?_ ?_
     ·intro X;exact aF rfl (lO rfl rfl lE gK zF zF rfl zQ)
     refine dF rfl ?_ ?_
     ·intro X;exact gL rfl (aF rfl (bT 0 rfl rfl gK rfl rfl rfl zQ))
     refine dF rfl ?_ ?_
     ·intro X;exact gL rfl (gL rfl (aF rfl (fK rfl rfl cH gE zO zO rfl zQ)))
     refine dF rfl ?_ ?_
     ·intro X;exact gL rfl (aF rfl (eH rfl (by assumption) gE rfl rfl rfl zQ))
     exact jH rfl
    case tail29 =>
     refine gL rfl (gL rfl (gL rfl (gL rfl (gL rfl (gL rfl (gL rfl (gL rfl (gL rfl (gL rfl (aF rfl ?_))))))))));obtain ⟨⟨rp,ra,rc,rl⟩,hri,hRi⟩:=aOs hrl2 (show x.1.2 < (aH4 m (jW m) pre (fO m)).length by rw [uT];omega);rw [aDt zO] at hRi;obtain rfl : uL m (jW m) pre (fO m) x.1.2 = rl:=eE hRi;have hAr:=aHc _ (cF hri);simp only at hAr;have har:=hAr.addr (by rw [mT];omega);subst har;have hraw:=aOe hri;rw [hraw2] at hraw;simp only at hraw;obtain ⟨oth,hpE1,hpE2⟩:=aH2 hri rest;refine jM (aK6 (hs:=[_,_,_,_,_]) hpE1) (jM (List.perm_middle (l₁:=[_,_])) ?_);have hrsl : rs.length = fO m + 1:=by have:=congrArg List.length hrl;simpa using this
     have hkm:=aGm hok (K:=jW m) (fun _ h=>h) x.1.1;have hcp:=aQa hxm;have hcl:=aNx (jW m) x.1.1;have hbb:=aR2 hok (aR8 hxs) x.1.2
     have hcall:=put_fn b14 a1 (some ⟨g82,0,none⟩) (some ⟨g85,0,none⟩) _ c1 c89 c82 c85 _ p89.1 rp.1 rc x.1.1 x.1.2 x.2 ((qO (jW m) x.1.1 : Nat) : Int) (rQ (jW m) x.1.1) (bE (jW m) pre x.1.2) (aE m (jW m) pre x.1.2 x.1.2) lx (uL m (jW m) pre (fO m) x.1.2) (aIr (jW m) pre (fO m)) (aE6 m.length (jW m)) (aE0 m.length (jW m)) (rs.map RowO.raw) pb rp _
      (by rw [fB,tK,pL,qI,hrsl];rw [hrsl] at nG;exact nG) hsT hraw (by have:=hsM;exact this) (by have:=hsS;exact this) hdR (aA0 hi1) (aAx hi1) (aEe zO) (aBe zO) hB hAr (by rw [mT];omega)
      ⟨by rw [fB];omega,by rw [mT];omega,by rw [tK];omega,by rw [pL];omega,by rw [qI];omega⟩ ⟨zO,zO⟩ ⟨hkm.1,zO⟩ zO zO
      (fun v hv=>by
       obtain ⟨jv,hjv⟩:=List.getElem?_of_mem hv;have hjl:=(bY.1 hjv).1;rw [mT] at hjl;rw [aBe hjl] at hjv;have:=aVa m (jW m) pre x.1.2 jv;rw [eE hjv] at this
       omega)
     refine kK [] (nQ:=[_,_]) (rst:=_) rfl hcall rfl rfl ?_;rintro _ HN own2 kI ⟨pb2,pr2,rfl,rfl,hB2,hR2⟩;replace aHc:=aHc.mono kI;have hB3 : XL.Acc (gV .i64) 3 HN pb2 (some ⟨p89.1,0,none⟩) c89 (aIr (jW m) (pre ++ [x]) (fO m)):=by rw [bTab_snoc zO];exact hB2
     have hRr : aH3 ((uL m (jW m) pre (fO m) x.1.2).set x.1.2 (aE m (jW m) pre x.1.2 x.1.2 + 720720)) lx (720720 / ((qO (jW m) x.1.1 : Nat) : Int)) = uL m (jW m) (pre ++ [x]) (fO m) x.1.2:=aRow_put zO hlx zO;rw [hRr] at hR2;obtain ⟨rs3,aEx⟩ : ∃ r,r = rs2.set x.1.2 (⟨pr2,some ⟨rp.1,0,none⟩,rc,uL m (jW m) (pre ++ [x]) (fO m) x.1.2⟩ : RowO Int):=⟨_,rfl⟩
     have hro3:=RowsO.set aHc x.1.2 (r:=(⟨pr2,some ⟨rp.1,0,none⟩,rc,uL m (jW m) (pre ++ [x]) (fO m) x.1.2⟩ : RowO Int)) hR2;rw [← aEx] at hro3;have hrl3 : rs3.map RowO.l = aH4 m (jW m) (pre ++ [x]) (fO m):=by rw [aEx,List.map_set,hrl2,aTab_snoc zO]
     have hraw3 : rs3.map RowO.raw = rs.map RowO.raw:=by rw [aEx,aDu (r:=⟨rp,some ⟨rp.1,0,none⟩,rc,uL m (jW m) pre (fO m) x.1.2⟩) (by simp [RowO.raw,mT]) hri,hraw2]
     refine jM (List.perm_middle (l₁:=[_,_])).symm (jM (aHz (hs:=[_,_,_,_,_]) (hpE2 (⟨pr2,some ⟨rp.1,0,none⟩,rc,uL m (jW m) (pre ++ [x]) (fO m) x.1.2⟩ : RowO Int))) ?_);rw [← aEx];refine bF (fY ?_);refine ⟨rfl,(pb2 :: (b3,.cells 27 [.int .i64 0]) :: (b2,.cells 26 [.slice none 0 0,.slice none 0 0]) :: (b1,.cells 22 [.slice (some ⟨ba,oa,none⟩) m.length c]) :: (rs3.map RowO.p ++ rest)),zA,?_⟩;exact ⟨_,_,rfl,hB3,hro3,hrl3,hraw3⟩
   ·rintro Hl ownL jQ ⟨pb,rs2,rfl,hB,aHc,hrl2,hraw2⟩;replace hm:=hm.mono jQ;replace mW:=mW.mono jQ;replace mV:=mV.mono jQ;replace lU:=lU.mono jQ;replace hT:=hT.mono jQ;replace oE:=oE.mono jQ;replace oD:=oD.mono jQ;replace kL:=kL.mono jQ;replace hro:=hro.mono jQ;replace nG:=nG.mono jQ;replace hsT:=hsT.mono jQ;replace hK1:=hK1.mono jQ;replace hK2:=hK2.mono jQ;replace hsM:=hsM.mono jQ;replace hsS:=hsS.mono jQ;replace hK3:=hK3.mono jQ;replace hK4:=hK4.mono jQ;refine fY (bO (cO (zS (zM rfl (zM rfl (zN (dK (eU [143,1,2,3,13,14,142] rfl ?_))))))));obtain ⟨⟨rp,ra,rc,rl⟩,hri,hRi⟩:=aOs hrl2 (show fO m < (aH4 m (jW m) (jW m) (fO m)).length by rw [uT];omega);rw [aDt zO] at hRi;obtain rfl : uL m (jW m) (jW m) (fO m) (fO m) = rl:=eE hRi;have hAr:=aHc _ (cF hri);simp only at hAr;have har:=hAr.addr (by rw [mT];omega);subst har;have hraw:=aOe hri;rw [hraw2] at hraw;simp only at hraw;obtain ⟨oth,hpE1,hpE2⟩:=aH2 hri rest;have hrsl : rs.length = fO m + 1:=by have:=congrArg List.length hrl;simpa using this
    refine oT (aK6 (hs:=[_,_,_,_]) hpE1) ?_;have hFl : (List.replicate (fO m) (720720 : Int)).length = (uL m (jW m) (jW m) (fO m) (fO m)).length:=by rw [gR,mT]
    have harl:=mT m (jW m) (jW m) (fO m) (fO m);refine gO (base:=[(1,_),(2,_),(3,_),(13,_),(14,_),(142,_)]) (fun ζ : Nat × (Nat × SObj)=>[(143,.int .i64 (ζ.1 : Nat))]) (fun ζ Hl own=>ζ.1 ≤ fO m ∧ ζ.2 :: pb :: (b3,.cells 27 [.int .i64 0]) :: (b2,.cells 26 [.slice none 0 0,.slice none 0 0]) :: (b1,.cells 22 [.slice (some ⟨ba,oa,none⟩) m.length c]) :: (oth ++ rest) = own ∧ (XL.Acc (gV .i64) 3 Hl ζ.2 (some ⟨rp.1,0,none⟩) rc ((List.replicate (fO m) (720720 : Int)).take (ζ.1) ++ (uL m (jW m) (jW m) (fO m) (fO m)).drop (ζ.1)))) (fun ζ=>fO m - ζ.1) (0,rp) (zC) zB ⟨eS _,rfl,by rw [List.take_zero,List.drop_zero,gN];exact hAr⟩ ?_;rintro ⟨j,pr⟩ Hl5 _ aAi ⟨hkj,rfl,hR5⟩;replace hm:=hm.mono aAi;replace mW:=mW.mono aAi;replace mV:=mV.mono aAi;replace lU:=lU.mono aAi;replace hT:=hT.mono aAi;replace oE:=oE.mono aAi;replace oD:=oD.mono aAi;replace kL:=kL.mono aAi;replace hro:=hro.mono aAi;replace nG:=nG.mono aAi;replace hsT:=hsT.mono aAi;replace hK1:=hK1.mono aAi;replace hK2:=hK2.mono aAi;replace hsM:=hsM.mono aAi;replace hsS:=hsS.mono aAi;replace hK3:=hK3.mono aAi;replace hK4:=hK4.mono aAi;replace hB:=hB.mono aAi;replace aHc:=aHc.mono aAi;replace hAr:=hAr.mono aAi;try dsimp only at hkj hR5 ⊢
    refine zS (zL rfl (zN (cO (fC rfl (fun c3_31=>?_) (fun c3_31=>?_)))))
    ·refine eF (bO (cO (dK (zS (zM rfl (zG rfl (zN (dL ?_))))))));have hmx:=(wC (F:=(List.replicate (fO m) (720720 : Int))) (l:=(uL m (jW m) (jW m) (fO m) (fO m))) (k:=j) hFl zO).trans harl;have hj1 : j < fO m:=zO
     refine bJ rfl tL rfl (bJ rfl aAp rfl (nF (off:=0) rfl nG pO rfl rfl rfl (zM rfl (eV (by rw [fB];rfl) hsT rfl cH gE (by rw [fB];omega) rfl ?_))));rintro eb150 eo150 _ x150 hx150 rfl hp150;obtain rfl:=eE (hraw.symm.trans hx150);refine eH rfl (by assumption) gE rfl rfl rfl (zM rfl (fK rfl rfl bK gK zO (by first | omega | (dsimp only;omega)) rfl (lH 0 rfl rfl rfl hR5 (k:=((j : Nat) : Int).toNat) (u:=720720) (by rw [eN,hmx];omega) rfl rfl gK rfl (fun prN hRN=>?_))));rw [eN,← yT (F:=(List.replicate (fO m) (720720 : Int))) (y:=720720) (by rw [List.getElem?_replicate,eX hj1]) hFl] at hRN;refine bF (fY (bO (dL (fR rfl rfl (dT zO zO) rfl (zM rfl (bF (eW ((j + 1,prN)) (by show fO m - (j + 1) < fO m - j;omega) (zC) (⟨by show j + 1 ≤ fO m;omega,rfl,hRN⟩) zB (aAi))))))))
    obtain rfl : j = fO m:=zO
    have hmxa:=aG1 hFl;rw [harl] at hmxa;rw [hmxa] at hR5;refine gI (fE (eY (fU rfl (bO (zS ?_)))));have hro4:=RowsO.set aHc (fO m) (r:=(⟨pr,some ⟨rp.1,0,none⟩,rc,(List.replicate (fO m) (720720 : Int))⟩ : RowO Int)) hR5;obtain ⟨rs4,hrs4⟩ : ∃ r,r = rs2.set (fO m) (⟨pr,some ⟨rp.1,0,none⟩,rc,(List.replicate (fO m) (720720 : Int))⟩ : RowO Int):=⟨_,rfl⟩
    rw [← hrs4] at hro4;have hrl4 : rs4.map RowO.l = aH0 m:=by rw [hrs4,List.map_set,hrl2];rfl
    have hraw4 : rs4.map RowO.raw = rs.map RowO.raw:=by rw [hrs4,aDu (r:=⟨rp,some ⟨rp.1,0,none⟩,rc,(uL m (jW m) (jW m) (fO m) (fO m))⟩) (by simp [RowO.raw,mT]) hri,hraw2]
    refine jM (aHz (hs:=[_,_,_,_]) (hpE2 (⟨pr,some ⟨rp.1,0,none⟩,rc,(List.replicate (fO m) (720720 : Int))⟩ : RowO Int))) ?_;rw [← hrs4];refine jM (List.perm_append_comm_assoc [_,_,_,_] _ _) (XO.publishR hro4 (fun HR mQ hsR=>?_));change XO _ _ _ _ ⟨_,_,_,pb :: (b3,.cells 27 [.int .i64 0]) :: (b2,.cells 26 [.slice none 0 0,.slice none 0 0]) :: (b1,.cells 22 [.slice (some ⟨ba,oa,none⟩) m.length c]) :: rest⟩;replace hm:=hm.mono mQ;replace mW:=mW.mono mQ;replace mV:=mV.mono mQ;replace lU:=lU.mono mQ;replace hT:=hT.mono mQ;replace oE:=oE.mono mQ;replace oD:=oD.mono mQ;replace kL:=kL.mono mQ;replace hro:=hro.mono mQ;replace nG:=nG.mono mQ;replace hsT:=hsT.mono mQ;replace hK1:=hK1.mono mQ;replace hK2:=hK2.mono mQ;replace hsM:=hsM.mono mQ;replace hsS:=hsS.mono mQ;replace hK3:=hK3.mono mQ;replace hK4:=hK4.mono mQ;replace hB:=hB.mono mQ;refine iO 0 rfl hB rfl (fun HB pZ hsB=>?_);replace hm:=hm.mono pZ;replace mW:=mW.mono pZ;replace mV:=mV.mono pZ;replace lU:=lU.mono pZ;replace hT:=hT.mono pZ;replace oE:=oE.mono pZ;replace oD:=oD.mono pZ;replace kL:=kL.mono pZ;replace hro:=hro.mono pZ;replace nG:=nG.mono pZ;replace hsT:=hsT.mono pZ;replace hK1:=hK1.mono pZ;replace hK2:=hK2.mono pZ;replace hsM:=hsM.mono pZ;replace hsS:=hsS.mono pZ;replace hK3:=hK3.mono pZ;replace hK4:=hK4.mono pZ;have uO : SlR (slR (gV .i64)) HB a1 c1 (aH0 m):=by rw [← hrl4];exact SlR.ofRaw (by rw [hraw4];exact hsT) (fun r hr=>(hsR r hr).mono pZ)
    have rS : rC HB b14 0 [.slice a1 (aH0 m).length c1,.slice (some ⟨p89.1,0,none⟩) (aIr (jW m) (jW m) (fO m)).length c89,.slice (some ⟨g82,0,none⟩) (aE6 m.length (jW m)).length c82,.slice (some ⟨g85,0,none⟩) (aE0 m.length (jW m)).length c85]:=by rw [aKl,tK,pL,qI];rw [hrsl] at nG;exact nG
    have hafl:=aKl m;have hbtl:=tK (jW m) (jW m) (fO m);refine zG rfl (zN (zS (zG rfl (zN (cO (zS (zM rfl (fR rfl rfl (dT zO zO) rfl (zM rfl (zN (dK (eU [20,21,157,1,2,3,14,156] rfl (lR 0 (lR 0 (gO (base:=[(1,_),(2,_),(3,_),(14,_),(156,_)]) (fun ζ : Nat × ((Nat × SObj) × Option Addr × Nat) × ((Nat × SObj) × Option Addr × Nat)=>[(20,.slice ζ.2.1.2.1 ((aQ m).take (ζ.1)).length ζ.2.1.2.2),(21,.slice ζ.2.2.2.1 ((bQ m).take (ζ.1)).length ζ.2.2.2.2),(157,.int .i64 (ζ.1 : Nat))]) (fun ζ Hl own=>ζ.1 ≤ (fO m + 1) ∧ ζ.2.2.1 :: ζ.2.1.1 :: (b3,.cells 27 [.int .i64 0]) :: (b2,.cells 26 [.slice none 0 0,.slice none 0 0]) :: (b1,.cells 22 [.slice (some ⟨ba,oa,none⟩) m.length c]) :: rest = own ∧ Acc mxR 24 Hl ζ.2.1.1 ζ.2.1.2.1 ζ.2.1.2.2 ((aQ m).take (ζ.1)) ∧ Acc jX 56 Hl ζ.2.2.1 ζ.2.2.2.1 ζ.2.2.2.2 ((bQ m).take (ζ.1))) (fun ζ=>(fO m + 1) - ζ.1) (0,((0,.nothing),none,0),((0,.nothing),none,0)) (zC) zB ⟨eS _,rfl,Acc.nil _ _ _ _,Acc.nil _ _ _ _⟩ ?_)))))))))))))));rintro ⟨k,⟨pw,aw,cw⟩,⟨pv,av,cv⟩⟩ Hl6 _ uP ⟨hkk,rfl,haccw,haccv⟩;replace hm:=hm.mono uP;replace mW:=mW.mono uP;replace mV:=mV.mono uP;replace lU:=lU.mono uP;replace hT:=hT.mono uP;replace oE:=oE.mono uP;replace oD:=oD.mono uP;replace kL:=kL.mono uP;replace hro:=hro.mono uP;replace nG:=nG.mono uP;replace hsT:=hsT.mono uP;replace hK1:=hK1.mono uP;replace hK2:=hK2.mono uP;replace hsM:=hsM.mono uP;replace hsS:=hsS.mono uP;replace hK3:=hK3.mono uP;replace hK4:=hK4.mono uP;replace hsB:=hsB.mono uP;replace uO:=uO.mono uP;replace rS:=rS.mono uP;try dsimp only at hkk haccw haccv ⊢
    refine zS (zL rfl (zN (cO (fC rfl (fun c4_34=>?_) (fun c4_34=>?_)))))
    ·refine eF (bO (cO (dK (zS (zM rfl (zG rfl (zN (zS (zG rfl (zN (cO (zS (bJ rfl tL rfl (bJ rfl aAp rfl (nF (off:=0) rfl rS pO rfl rfl rfl (zM rfl (eV rfl uO rfl cH gE zO rfl ?_)))))))))))))))));rintro eb164 eo164 _ x164 hx164 ⟨ax164,cx164,rfl,hd164⟩ hp164;have hrow:=aTf hok (cF hx164);have hrq:=qX x164;refine eH rfl (by assumption) gE rfl rfl rfl (eD (ts:=#[]) rfl bK rfl (zM rfl (zN (dK (eU [23,167,1,2,3,14,20,21,22,156,157,165,166] rfl (lR 0 (gO (base:=[(1,_),(2,_),(3,_),(14,_),(20,_),(21,_),(22,_),(156,_),(157,_),(165,_),(166,_)]) (fun ζ : Nat × ((Nat × SObj) × Option Addr × Nat)=>[(23,.slice ζ.2.2.1 ((aCr x164).take (ζ.1)).length ζ.2.2.2),(167,.int .i64 (ζ.1 : Nat))]) (fun ζ Hl own=>ζ.1 ≤ x164.length ∧ ζ.2.1 :: pv :: pw :: (b3,.cells 27 [.int .i64 0]) :: (b2,.cells 26 [.slice none 0 0,.slice none 0 0]) :: (b1,.cells 22 [.slice (some ⟨ba,oa,none⟩) m.length c]) :: rest = own ∧ Acc jX 56 Hl ζ.2.1 ζ.2.2.1 ζ.2.2.2 ((aCr x164).take (ζ.1))) (fun ζ=>x164.length - ζ.1) (0,((0,.nothing),none,0)) (zC) zB ⟨eS _,rfl,Acc.nil _ _ _ _⟩ ?_)))))));rintro ⟨j,⟨pr,ar,cr⟩⟩ Hl7 _ tH ⟨hkj,rfl,haccr⟩;replace hm:=hm.mono tH;replace mW:=mW.mono tH;replace mV:=mV.mono tH;replace lU:=lU.mono tH;replace hT:=hT.mono tH;replace oE:=oE.mono tH;replace oD:=oD.mono tH;replace kL:=kL.mono tH;replace hro:=hro.mono tH;replace nG:=nG.mono tH;replace hsT:=hsT.mono tH;replace hK1:=hK1.mono tH;replace hK2:=hK2.mono tH;replace hsM:=hsM.mono tH;replace hsS:=hsS.mono tH;replace hK3:=hK3.mono tH;replace hK4:=hK4.mono tH;replace hsB:=hsB.mono tH;replace uO:=uO.mono tH;replace rS:=rS.mono tH;replace haccw:=haccw.mono tH;replace haccv:=haccv.mono tH;replace hp164:=hp164.mono tH;replace hd164:=hd164.mono tH;replace uP:=uP.trans tH;try dsimp only at hkj haccr ⊢
     refine zS (zL rfl (zN (cO (fC rfl (fun c5_37=>?_) (fun c5_37=>?_)))))
     ·refine eF (bO (cO (dK (zS (eV rfl (by assumption) rfl bK gK zO rfl ?_)))));rintro eb169 eo169 _ x169 hx169 rfl hp169;refine eH rfl (by assumption) gK rfl rfl rfl (zG rfl (zN (dL ?_)));have hb169:=hrow.2 x169 (cF hx169);refine zM rfl (zM rfl (eZ rfl (wF x169 720720 zO zD zD _) rfl ?_));rintro _ HNN hleNN ⟨aN,cN,bN,dN,rfl,hN,kN⟩;replace haccr:=haccr.mono hleNN;replace tH:=tH.trans hleNN;refine fS rfl cJ fG jD rfl rfl rfl (fun b174=>fT 0 rfl rfl rfl (fun HP174 oP174 hleP174 hbP174 hoP174=>?_));replace haccr:=haccr.mono hleP174;replace hN:=hN.mono hleP174;replace kN:=kN.mono hleP174;replace tH:=tH.trans hleP174;have hsl174:=SlR.lit (ρ:=jX) (l:=[uZ x169]) hbP174 hoP174 (iH.one1 ⟨_,_,_,_,rfl,hN,kN⟩);refine iV 0 rfl rfl haccr rfl rfl hsl174 rfl cJ fG jD rfl tY zI rfl (fun p175 a175 c175 hacc175=>zG rfl (bF (fY (bO (dL (fR rfl rfl (dT zO zO) rfl (zM rfl (bF (eW ((j + 1,(p175,a175,c175))) (by show x164.length - (j + 1) < x164.length - j;omega) (iL (by first | rfl | (rw [jK (aBb hx169)];rfl)) (zC)) (⟨by show j + 1 ≤ x164.length;omega,rfl,by first | (exact hacc175) | (rw [jK (aBb hx169)];exact hacc175)⟩) zB (tH))))))))))
     obtain rfl : j = x164.length:=zO
     rw [show (aCr x164).take x164.length = aCr x164 from fJ (by rw [qX];omega)] at haccr ⊢;refine gI (fE (eY (fU rfl (bO (uU 0 rfl haccr rfl (fun HQ41 oP hsQ41=>?_))))));replace hm:=hm.mono oP;replace mW:=mW.mono oP;replace mV:=mV.mono oP;replace lU:=lU.mono oP;replace hT:=hT.mono oP;replace oE:=oE.mono oP;replace oD:=oD.mono oP;replace kL:=kL.mono oP;replace hro:=hro.mono oP;replace nG:=nG.mono oP;replace hsT:=hsT.mono oP;replace hK1:=hK1.mono oP;replace hK2:=hK2.mono oP;replace hsM:=hsM.mono oP;replace hsS:=hsS.mono oP;replace hK3:=hK3.mono oP;replace hK4:=hK4.mono oP;replace hsB:=hsB.mono oP;replace uO:=uO.mono oP;replace rS:=rS.mono oP;replace haccw:=haccw.mono oP;replace haccv:=haccv.mono oP;replace hp164:=hp164.mono oP;replace hd164:=hd164.mono oP;replace uP:=uP.trans oP;obtain ⟨bBB,oBB,hBB⟩:=hsB.addr zO;obtain ⟨_,xB,hxB,rfl,hpB⟩:=hsB.elem k zO;have hbb0:=aR2 hok (fun _ h=>h) k;have hxbe : bE (jW m) (jW m) k = xB:=eE ((aEe zO).symm.trans hxB);have hkl:=wU hok;refine oT (gW _ _ _) (eU [1,2,3,14,20,21,22,23,156,157] rfl ?_);apply aF4 (q:=[pw,pv]) (own:=(b3,.cells 27 [.int .i64 0]) :: (b2,.cells 26 [.slice none 0 0,.slice none 0 0]) :: (b1,.cells 22 [.slice (some ⟨ba,oa,none⟩) m.length c]) :: rest) (fun _=>True) trivial [3,13] (fun s e H=>aGk ((aQ m).take k) (aCr x164) ((bQ m).take k) (uZ xB) aw cw av cv s e H) (aGk.mono) 14 [gC _,gC _,slF mxR [aCr x164],fun v H=>∃ a c,v = .slice a ((aQ m).take k ++ [aCr x164]).length c,gC _,gC _,gC _,gC _,gC _,gC _,gC _,fun v H=>lJ (uZ xB) H v,slF jX [uZ xB],fun v H=>∃ a c,v = .slice a ((bQ m).take k ++ [uZ xB]).length c] follows zK ⟨aH _,aH _,oQ _ _,fun _ _ _ _ h=>h,aH _,aH _,aH _,aH _,aH _,aH _,aH _,kG _,oQ _ _,fun _ _ _ _ h=>h,trivial⟩ zD (aGk.nil haccw haccv) ?steps42 ?tail42
     case steps42 =>
      refine iJ rfl ?_ ?_
      ·intro X e HD bI _;refine aO rfl ?_;intro s hfo hsn hw hb hkn;exact zM rfl (bF (iA (e:=e) trivial rfl rfl (nA rfl)))
      refine iJ rfl ?_ ?_
      ·intro X e HD bI _;refine aO rfl ?_;intro s hfo hsn hw hb hkn;exact zM rfl (bF (iA (e:=e) trivial rfl rfl (nA rfl)))
      refine iJ rfl ?_ ?_
      ·intro X e HD bI _;replace hsQ41:=hsQ41.mono bI;refine fX rfl (aO rfl ?_);intro s hfo hsn hw hb hkn;refine fS rfl eI iG tA rfl rfl rfl (fun b179=>fT 0 rfl rfl rfl (fun HP179 oP179 hleP179 hbP179 hoP179=>?_));replace hsQ41:=hsQ41.mono hleP179;have hsl179:=SlR.lit (ρ:=mxR) (l:=[aCr x164]) hbP179 hoP179 (iH.one1 ⟨_,_,rfl,hsQ41⟩);exact bF (iA (e:=e) trivial (⟨_,rfl,hsl179⟩) rfl (nA rfl))
      refine iJ rfl ?_ ?_
      ·intro X e HD bI _;refine fX rfl (eR rfl rfl ?_);rintro _ ⟨bs179,rfl,hsl179⟩;refine aO rfl ?_;intro s hfo hsn hw hb hkn;obtain ⟨pA,pB,rfl,h1,h2,h3,h4⟩:=hfo;have hA:=h1 hsn;exact iV 0 rfl rfl hA rfl rfl hsl179 rfl eI iG tA rfl aE1 zI rfl (fun p180 a180 c180 hacc180=>bF (iA (e:=[p180,pB]) trivial (⟨_,_,rfl⟩) rfl (rU rfl (by exact aGk.fst h4 h3 hacc180))))
      refine iJ rfl ?_ ?_
      ·intro X e HD bI _;refine aO rfl ?_;intro s hfo hsn hw hb hkn;exact zM rfl (bF (iA (e:=e) trivial rfl rfl (nA rfl)))
      refine iJ rfl ?_ ?_
      ·intro X e HD bI _;refine aO rfl ?_;intro s hfo hsn hw hb hkn;exact bJ rfl tL rfl (bF (iA (e:=e) trivial rfl rfl (nA rfl)))
      refine iJ rfl ?_ ?_
      ·intro X e HD bI _;refine fX rfl (aO rfl ?_);intro s hfo hsn hw hb hkn;exact bJ rfl aLe rfl (bF (iA (e:=e) trivial rfl rfl (nA rfl)))
      refine iJ rfl ?_ ?_
      ·intro X e HD bI _;replace rS:=rS.mono bI;refine fX rfl (aO rfl ?_);intro s hfo hsn hw hb hkn;exact nF (off:=1) rfl rS gE rfl rfl rfl (bF (iA (e:=e) trivial rfl rfl (nA rfl)))
      refine iJ rfl ?_ ?_
      ·intro X e HD bI _;refine aO rfl ?_;intro s hfo hsn hw hb hkn;exact zM rfl (bF (iA (e:=e) trivial rfl rfl (nA rfl)))
      refine iJ rfl ?_ ?_
      ·intro X e HD bI _;refine fX rfl (fX rfl (aO rfl ?_));intro s hfo hsn hw hb hkn;exact fK rfl rfl bK gK zO (by first | omega | (rw [hbtl];omega)) rfl (bF (iA (e:=e) trivial rfl rfl (nA rfl)))
      refine iJ rfl ?_ ?_
      ·intro X e HD bI _;replace hm:=hm.mono bI;replace mW:=mW.mono bI;replace mV:=mV.mono bI;replace lU:=lU.mono bI;replace hT:=hT.mono bI;replace oE:=oE.mono bI;replace oD:=oD.mono bI;replace kL:=kL.mono bI;replace hro:=hro.mono bI;replace nG:=nG.mono bI;replace hsT:=hsT.mono bI;replace hK1:=hK1.mono bI;replace hK2:=hK2.mono bI;replace hsM:=hsM.mono bI;replace hsS:=hsS.mono bI;replace hK3:=hK3.mono bI;replace hK4:=hK4.mono bI;replace hsB:=hsB.mono bI;replace uO:=uO.mono bI;replace rS:=rS.mono bI;replace hp164:=hp164.mono bI;replace hd164:=hd164.mono bI;replace hsQ41:=hsQ41.mono bI;replace hpB:=hpB.mono bI;refine fX rfl (aO rfl ?_);intro s hfo hsn hw hb hkn;exact eH rfl (by assumption) gK rfl rfl rfl (bF (iA (e:=e) trivial rfl rfl (nA rfl)))
      refine iJ rfl ?_ ?_
      ·intro X e HD bI _;refine fX rfl (aO rfl ?_);intro s hfo hsn hw hb hkn;refine eZ rfl (wF xB 720720 zO zD zD _) rfl ?_;rintro _ HN kI ⟨aM,cM,bM,dM,rfl,hM,kM⟩;exact bF (iA (e:=e) trivial (⟨_,_,_,_,rfl,hM,kM⟩) rfl (nA rfl))
      refine iJ rfl ?_ ?_
      ·intro X e HD bI _;refine eR rfl rfl ?_;rintro _ ⟨aM,cM,bM,dM,rfl,hM,kM⟩;refine aO rfl ?_;intro s hfo hsn hw hb hkn;refine fS rfl cJ fG jD rfl rfl rfl (fun b189=>fT 0 rfl rfl rfl (fun HP189 oP189 hleP189 hbP189 hoP189=>?_));have hsl189:=SlR.lit (ρ:=jX) (l:=[uZ xB]) hbP189 hoP189 (iH.one1 ⟨_,_,_,_,rfl,hM.mono hleP189,kM.mono hleP189⟩);exact bF (iA (e:=e) trivial (⟨_,rfl,hsl189⟩) rfl (nA rfl))
      refine iJ rfl ?_ ?_
      ·intro X e HD bI _;refine fX rfl (eR rfl rfl ?_);rintro _ ⟨bs189,rfl,hsl189⟩;refine aO rfl ?_;intro s hfo hsn hw hb hkn;obtain ⟨pA,pB,rfl,h1,h2,h3,h4⟩:=hfo;have hB13:=h3 hsn;exact iV 1 rfl rfl hB13 rfl rfl hsl189 rfl cJ fG jD rfl tY zI rfl (fun p190 a190 c190 hacc190=>bF (iA (e:=[pA,p190]) trivial (⟨_,_,rfl⟩) rfl (rU rfl (by exact aGk.snd h2 h1 hacc190))))
      exact aBf rfl
     case tail42 =>
      intro HD bI _;replace uP:=uP.trans bI;refine fX rfl (fX rfl (eR rfl rfl ?_));rintro _ ⟨bs179,rfl,hsl179⟩;refine eR rfl rfl ?_;rintro _ ⟨a180,c180,rfl⟩;refine fX rfl (fX rfl (fX rfl (fX rfl (fX rfl (fX rfl (fX rfl (eR rfl rfl ?_)))))));rintro _ ⟨aM,cM,bM,dM,rfl,hM,kM⟩;refine eR rfl rfl ?_;rintro _ ⟨bs189,rfl,hsl189⟩;refine eR rfl rfl ?_;rintro _ ⟨a190,c190,rfl⟩;refine aO rfl ?_;intro e s hfo hall hkn;obtain ⟨pA,pB,rfl,_,h2,_,h4⟩:=hfo;obtain ⟨aA,cA,hvA,hA⟩:=h2 _ (hkn 3 180 _ rfl rfl rfl);obtain ⟨aB,cB,hvB,hB2⟩:=h4 _ (hkn 13 190 _ rfl rfl rfl);obtain ⟨rfl,rfl⟩ : aA = a180 ∧ cA = c180:=by cases hvA;exact ⟨rfl,rfl⟩
      obtain ⟨rfl,rfl⟩ : aB = a190 ∧ cB = c190:=by cases hvB;exact ⟨rfl,rfl⟩
      refine jM (gW _ _ _) (zG rfl (zG rfl (bF (fY (bO (dL (fR rfl rfl (dT zO zO) rfl (zM rfl (bF (eW ((k + 1,(pA,aA,cA),(pB,aB,cB))) (by show (fO m + 1) - (k + 1) < (fO m + 1) - k;omega) (iL (by first | rfl | (rw [jK (aRs hx164)];rfl)) (iL (by first | rfl | (rw [jK (show (bQ m)[k]? = some (uZ xB) from aBb hxB)];rfl)) (zC))) (⟨by show k + 1 ≤ (fO m + 1);omega,rfl,by first | (exact hA) | (rw [jK (aRs hx164)];exact hA),by first | (exact hB2) | (rw [jK (show (bQ m)[k]? = some (uZ xB) from aBb hxB)];exact hB2)⟩) zB (uP)))))))))))
    obtain rfl : k = fO m + 1:=zO
    rw [show (aQ m).take (fO m + 1) = aQ m from fJ (by rw [aHk];omega)] at haccw ⊢;rw [show (bQ m).take (fO m + 1) = bQ m from fJ (by rw [aOt];omega)] at haccv ⊢;refine gI (fE (eY (fU rfl (bO (zS (iO 1 rfl haccw rfl (fun HQ46 qC xW=>?_)))))));replace hm:=hm.mono qC;replace mW:=mW.mono qC;replace mV:=mV.mono qC;replace lU:=lU.mono qC;replace hT:=hT.mono qC;replace oE:=oE.mono qC;replace oD:=oD.mono qC;replace kL:=kL.mono qC;replace hro:=hro.mono qC;replace nG:=nG.mono qC;replace hsT:=hsT.mono qC;replace hK1:=hK1.mono qC;replace hK2:=hK2.mono qC;replace hsM:=hsM.mono qC;replace hsS:=hsS.mono qC;replace hK3:=hK3.mono qC;replace hK4:=hK4.mono qC;replace hsB:=hsB.mono qC;replace uO:=uO.mono qC;replace rS:=rS.mono qC;replace haccv:=haccv.mono qC;refine iO 0 rfl haccv rfl (fun HQ47 qD hsQ47=>?_);replace hm:=hm.mono qD;replace mW:=mW.mono qD;replace mV:=mV.mono qD;replace lU:=lU.mono qD;replace hT:=hT.mono qD;replace oE:=oE.mono qD;replace oD:=oD.mono qD;replace kL:=kL.mono qD;replace hro:=hro.mono qD;replace nG:=nG.mono qD;replace hsT:=hsT.mono qD;replace hK1:=hK1.mono qD;replace hK2:=hK2.mono qD;replace hsM:=hsM.mono qD;replace hsS:=hsS.mono qD;replace hK3:=hK3.mono qD;replace hK4:=hK4.mono qD;replace hsB:=hsB.mono qD;replace uO:=uO.mono qD;replace rS:=rS.mono qD;replace xW:=xW.mono qD;refine zM rfl (zM rfl (eZ rfl (Solve_fn (aQ m) (bQ m) (fO m) _ _ _ _ _ xW hsQ47 hax (aHk m) ⟨by rw [aOt,aHk],hbx⟩ hst hza hn4 hw0) rfl ?_));rintro _ HV vF ⟨aX,cX,rfl,hX⟩;rw [show aH1 (aAc (aQ m) (bQ m)) (fO m) = jV m from rfl] at hX ⊢;have hsvl:=tM m;replace hm:=hm.mono vF;replace mW:=mW.mono vF;replace mV:=mV.mono vF;replace lU:=lU.mono vF;replace hT:=hT.mono vF;replace oE:=oE.mono vF;replace oD:=oD.mono vF;replace kL:=kL.mono vF;replace hro:=hro.mono vF;replace nG:=nG.mono vF;replace hsT:=hsT.mono vF;replace hK1:=hK1.mono vF;replace hK2:=hK2.mono vF;replace hsM:=hsM.mono vF;replace hsS:=hsS.mono vF;replace hK3:=hK3.mono vF;replace hK4:=hK4.mono vF;replace hsB:=hsB.mono vF;replace uO:=uO.mono vF;replace rS:=rS.mono vF;replace xW:=xW.mono vF;replace hsQ47:=hsQ47.mono vF;refine zM rfl (zX rfl (zX rfl (zX rfl (zG rfl (zG rfl (eG 0 rfl rfl rfl rfl jZ rfl rfl rfl rfl rfl (zN (zS (bT 0 rfl rfl jZ rfl rfl rfl (zZ rfl (zM rfl (zT rfl (bG rfl) (zM rfl (zV (bG rfl) rfl (bT 0 rfl rfl jZ rfl rfl rfl (aKs rfl rfl rfl (fH rfl (rO _ _ rfl _) rfl (zN (zS (zM rfl (bJ rfl nU rfl (eG 1 rfl rfl rfl rfl iG rfl rfl rfl rfl rfl (zN (cO (zS (bT 2 rfl rfl pO rfl rfl rfl (eD (ts:=#[]) rfl cH rfl (zM rfl (zN (dK ?_))))))))))))))))))))))))))))));refine eU [211,2,3,14,26,209,210] rfl (lR 0 (gO (base:=[(2,_),(3,_),(14,_),(26,_),(209,_),(210,_)]) (fun ζ : Nat × (Nat × SObj) × (Option Addr) × (Nat)=>[(211,.int .i64 (ζ.1 : Nat))]) (fun ζ Hl own=>ζ.1 ≤ m.length ∧ ζ.2.1 :: (b3,.cells 27 [.int .i64 0]) :: (b2,.cells 26 [.slice ζ.2.2.1 ((rA m (jV m)).take (ζ.1)).length ζ.2.2.2,.slice aX (jV m).length cX]) :: rest = own ∧ (XL.Acc jX 56 Hl ζ.2.1 ζ.2.2.1 ζ.2.2.2 ((rA m (jV m)).take (ζ.1)))) (fun ζ=>m.length - ζ.1) (0,(0,.nothing),none,0) (zC) zB ⟨eS _,rfl,Acc.nil _ _ _ _⟩ ?_));rintro ⟨k,pq,aq,cq⟩ Hl8 _ tI ⟨hkk,rfl,hq⟩;replace hm:=hm.mono tI;replace mW:=mW.mono tI;replace mV:=mV.mono tI;replace lU:=lU.mono tI;replace hT:=hT.mono tI;replace oE:=oE.mono tI;replace oD:=oD.mono tI;replace kL:=kL.mono tI;replace hro:=hro.mono tI;replace nG:=nG.mono tI;replace hsT:=hsT.mono tI;replace hK1:=hK1.mono tI;replace hK2:=hK2.mono tI;replace hsM:=hsM.mono tI;replace hsS:=hsS.mono tI;replace hK3:=hK3.mono tI;replace hK4:=hK4.mono tI;replace hsB:=hsB.mono tI;replace uO:=uO.mono tI;replace rS:=rS.mono tI;replace xW:=xW.mono tI;replace hsQ47:=hsQ47.mono tI;replace hX:=hX.mono tI;try dsimp only at hkk hq ⊢
    refine zS (zL rfl (zN (cO (fC rfl (fun c6_50=>?_) (fun c6_50=>?_)))))
    ·refine eF (bO (cO (dK (zS (zM rfl (eV rfl hm rfl cH gE zO rfl ?_))))));rintro eb214 eo214 _ x214 hx214 ⟨ax214,cx214,rfl,hd214⟩ hp214;refine eH rfl (by assumption) gE rfl rfl rfl (zG rfl ?_);have hw214:=(hok.at hx214).1;refine zG rfl (zN (zS ?_));have hsll:=qI m.length (jW m);have hmll:=pL m.length (jW m);refine bJ rfl aK7 rfl (nF (off:=3) rfl rS gE rfl rfl rfl (zM rfl (eV rfl hsS rfl bK gK zO rfl ?_)));rintro eb219 eo219 _ x219 hx219 rfl hp219;obtain rfl : rQ (jW m) k = x219:=eE ((aAx zO).symm.trans hx219);have hsb:=aGm hok (fun _ h=>h) k;have hkl:=wU hok;refine eH rfl (by assumption) gK rfl rfl rfl (eZ rfl (wF (rQ (jW m) k) 1 zO zD zD _) rfl ?_);rintro _ HN kI hNC;rw [aIg] at hNC;obtain ⟨aS,cS,bS,dS,rfl,hS,kS⟩:=hNC;replace hm:=hm.mono kI;replace mW:=mW.mono kI;replace mV:=mV.mono kI;replace lU:=lU.mono kI;replace hT:=hT.mono kI;replace oE:=oE.mono kI;replace oD:=oD.mono kI;replace kL:=kL.mono kI;replace hro:=hro.mono kI;replace nG:=nG.mono kI;replace hsT:=hsT.mono kI;replace hK1:=hK1.mono kI;replace hK2:=hK2.mono kI;replace hsM:=hsM.mono kI;replace hsS:=hsS.mono kI;replace hK3:=hK3.mono kI;replace hK4:=hK4.mono kI;replace hsB:=hsB.mono kI;replace uO:=uO.mono kI;replace rS:=rS.mono kI;replace xW:=xW.mono kI;replace hsQ47:=hsQ47.mono kI;replace hX:=hX.mono kI;replace hq:=hq.mono kI;replace hp214:=hp214.mono kI;replace hd214:=hd214.mono kI;replace hp219:=hp219.mono kI;replace tI:=tI.trans kI;refine fI jD rfl (fun b29=>eG 0 rfl rfl rfl rfl fG rfl rfl rfl rfl rfl (zN (cO (zS (zM rfl (eD (ts:=#[]) rfl bK rfl (zM rfl (zN (dK (eU [224,2,3,14,26,27,29,209,210,211,222,223] rfl (gO (base:=[(2,_),(3,_),(14,_),(26,_),(27,_),(29,_),(209,_),(210,_),(211,_),(222,_),(223,_)]) (fun ζ : Nat × (List Value)=>[(224,.int .i64 (ζ.1 : Nat))]) (fun ζ Hl own=>ζ.1 ≤ x214.length ∧ (b29,.cells 56 ζ.2) :: pq :: (b3,.cells 27 [.int .i64 0]) :: (b2,.cells 26 [.slice aq ((rA m (jV m)).take (k)).length cq,.slice aX (jV m).length cX]) :: rest = own ∧ (jX.R Hl ζ.2 (tT (jV m) x214 ((rQ (jW m) k : Int) : Rat) (ζ.1)))) (fun ζ=>x214.length - ζ.1) (0,_) (zC) zB ⟨eS _,rfl,⟨_,_,_,_,rfl,hS,kS⟩⟩ ?_)))))))))));rintro ⟨j,cs⟩ Hl9 _ rZ ⟨hkj,rfl,hq9⟩;replace hm:=hm.mono rZ;replace mW:=mW.mono rZ;replace mV:=mV.mono rZ;replace lU:=lU.mono rZ;replace hT:=hT.mono rZ;replace oE:=oE.mono rZ;replace oD:=oD.mono rZ;replace kL:=kL.mono rZ;replace hro:=hro.mono rZ;replace nG:=nG.mono rZ;replace hsT:=hsT.mono rZ;replace hK1:=hK1.mono rZ;replace hK2:=hK2.mono rZ;replace hsM:=hsM.mono rZ;replace hsS:=hsS.mono rZ;replace hK3:=hK3.mono rZ;replace hK4:=hK4.mono rZ;replace hsB:=hsB.mono rZ;replace uO:=uO.mono rZ;replace rS:=rS.mono rZ;replace xW:=xW.mono rZ;replace hsQ47:=hsQ47.mono rZ;replace hX:=hX.mono rZ;replace hq:=hq.mono rZ;replace hp214:=hp214.mono rZ;replace hd214:=hd214.mono rZ;replace hp219:=hp219.mono rZ;replace hS:=hS.mono rZ;replace kS:=kS.mono rZ;replace tI:=tI.trans rZ;try dsimp only at hkj hq9 ⊢
     obtain ⟨a9,c9,b9,d9,rfl,h9,k9⟩:=hq9;refine zS (zL rfl (zN (cO (fC rfl (fun c7_54=>?_) (fun c7_54=>?_)))))
     ·refine eF (bO (cO (dK (zS (zM rfl (eV rfl (by assumption) rfl bK gK zO rfl ?_))))));rintro eb227 eo227 _ x227 hx227 rfl hp227;refine eH rfl (by assumption) gK rfl rfl rfl (zG rfl (zG rfl (zN (zS (zM rfl (fH rfl (aGu x227 _) rfl (zN (fC rfl (fun c8_57=>?_) (fun c8_57=>?_)))))))))
      ·have hth : x227 ≠ -1:=by assumption
       refine eU [2,3,14,26,27,29,30,209,210,211,222,223,224] rfl ?_;obtain ⟨bEE,oEE,rfl⟩:=hX.addr zO;obtain ⟨_,xE,hxE,⟨axE,cxE,bxE,dxE,rfl,hdE,heE⟩,hpE⟩:=hX.elem (j) zO;apply nX (fun _=>True) trivial 9 [gC _,gC _,gC _,gC _,gC _,fun v H=>∃ u,v = .tuple #[u,.int .i64 0] ∧ lJ ((tT (jV m) x214 ((rQ (jW m) k : Int) : Rat) j) - xE) H u,fun v H=>lJ ((tT (jV m) x214 ((rQ (jW m) k : Int) : Rat) j) - xE) H v,gC _,fun v H=>lJ ((tT (jV m) x214 ((rQ (jW m) k : Int) : Rat) j) - xE) H v] follows zK zK ⟨aH _,aH _,aH _,aH _,aH _,fun _ _ _ hle ⟨u,h,k⟩=>⟨u,h,k.mono hle⟩,kG _,aH _,kG _,trivial⟩ ?steps58 ?tail58
       case steps58 =>
        refine dH rfl ?_ ?_
        ·intro X HD bI _;exact aF rfl (bT 0 rfl rfl fG rfl rfl rfl (bF (eO trivial rfl)))
        refine dH rfl ?_ ?_
        ·intro X HD bI _;exact aF rfl (zM rfl (bF (eO trivial rfl)))
        refine dH rfl ?_ ?_
        ·intro X HD bI _;exact aF rfl (zM rfl (bF (eO trivial rfl)))
        refine dH rfl ?_ ?_
        ·intro X HD bI _;exact gL rfl (gL rfl (aF rfl (fK rfl rfl cJ fG zO zO rfl (bF (eO trivial rfl)))))
        refine dH rfl ?_ ?_
        ·intro X HD bI _;replace hm:=hm.mono bI;replace mW:=mW.mono bI;replace mV:=mV.mono bI;replace lU:=lU.mono bI;replace hT:=hT.mono bI;replace oE:=oE.mono bI;replace oD:=oD.mono bI;replace kL:=kL.mono bI;replace hro:=hro.mono bI;replace nG:=nG.mono bI;replace hsT:=hsT.mono bI;replace hK1:=hK1.mono bI;replace hK2:=hK2.mono bI;replace hsM:=hsM.mono bI;replace hsS:=hsS.mono bI;replace hK3:=hK3.mono bI;replace hK4:=hK4.mono bI;replace hsB:=hsB.mono bI;replace uO:=uO.mono bI;replace rS:=rS.mono bI;replace xW:=xW.mono bI;replace hsQ47:=hsQ47.mono bI;replace hX:=hX.mono bI;replace hq:=hq.mono bI;replace hp214:=hp214.mono bI;replace hd214:=hd214.mono bI;replace hp219:=hp219.mono bI;replace hS:=hS.mono bI;replace kS:=kS.mono bI;replace h9:=h9.mono bI;replace k9:=k9.mono bI;replace hp227:=hp227.mono bI;replace hpE:=hpE.mono bI;replace hdE:=hdE.mono bI;replace heE:=heE.mono bI;exact gL rfl (aF rfl (eH rfl (by assumption) fG rfl rfl rfl (bF (eO trivial rfl))))
        refine dH rfl ?_ ?_
        ·intro X HD bI _;replace h9:=h9.mono bI;replace k9:=k9.mono bI;replace hdE:=hdE.mono bI;replace heE:=heE.mono bI;refine gL rfl (gL rfl (aF rfl (eZ rfl (aJy ⟨_,_,_,_,rfl,h9,k9⟩ ⟨_,_,_,_,rfl,hdE,heE⟩ (hqz.sub k x214 hx214 j) (hqz.x xE (cF hxE))) rfl ?_)));rintro _ HN kI ⟨_,rfl,⟨aZ,cZ,bZ,dZ,rfl,hZ,kZ⟩⟩;exact bF (eO trivial (⟨_,rfl,⟨_,_,_,_,rfl,hZ,kZ⟩⟩))
        refine dH rfl ?_ ?_
        ·intro X HD bI _;refine eJ rfl rfl ?_;rintro _ ⟨_,rfl,aZ,cZ,bZ,dZ,rfl,hZ,kZ⟩;exact aF rfl (zX rfl (bF (eO trivial (⟨_,_,_,_,rfl,hZ,kZ⟩))))
        refine dH rfl ?_ ?_
        ·intro X HD bI _;refine eJ rfl rfl ?_;rintro _ ⟨_,rfl,aZ,cZ,bZ,dZ,rfl,hZ,kZ⟩;exact aF rfl (zX rfl (bF (eO trivial rfl)))
        refine dH rfl ?_ ?_
        ·intro X HD bI _;refine eJ rfl rfl ?_;rintro _ ⟨aZ,cZ,bZ,dZ,rfl,hZ,kZ⟩;exact gL rfl (aF rfl (fH rfl (aFe ⟨_,_,_,_,rfl,hZ,kZ⟩) rfl (bF (eO trivial (⟨_,_,_,_,rfl,hZ,kZ⟩)))))
        exact jH rfl
       case tail58 =>
        intro HD bI _;replace rZ:=rZ.trans bI;refine gL rfl (gL rfl (gL rfl (gL rfl (gL rfl (eJ rfl rfl ?_)))));rintro _ ⟨_,rfl,aZ,cZ,bZ,dZ,rfl,hZ,kZ⟩;refine eJ rfl rfl ?_;rintro _ ⟨aZ,cZ,bZ,dZ,rfl,hZ,kZ⟩;refine gL rfl (eJ rfl rfl ?_);rintro _ ⟨aZ,cZ,bZ,dZ,rfl,hZ,kZ⟩;refine aF rfl (eG 0 rfl rfl rfl rfl fG rfl rfl rfl rfl rfl (bF (fY (bO (dL (fR rfl rfl (dT zO zO) rfl (zM rfl (bF (eW ((j + 1,_)) (by show x214.length - (j + 1) < x214.length - j;omega) (zC) (⟨by show j + 1 ≤ x214.length;omega,rfl,by rw [subK_yes hx227 hxE hth];exact ⟨_,_,_,_,rfl,hZ,kZ⟩⟩) zB (rZ))))))))))
      have hth : ¬ x227 ≠ -1:=by assumption
      refine eF (fY (bO (dL (fR rfl rfl (dT zO zO) rfl (zM rfl (bF (eW ((j + 1,_)) (by show x214.length - (j + 1) < x214.length - j;omega) (zC) (⟨by show j + 1 ≤ x214.length;omega,rfl,by rw [subK_no hx227 hth];exact ⟨_,_,_,_,rfl,h9,k9⟩⟩) zB (rZ))))))))
     obtain rfl : j = x214.length:=zO
     have hq1 : aPq m (jV m) k = ((tT (jV m) x214 ((rQ (jW m) k : Int) : Rat) x214.length) / ((qO (jW m) k : Nat) : Int)):=by unfold aPq;rw [jE hx214]
     have hqs:=jK (show (rA m (jV m))[k]? = some ((tT (jV m) x214 ((rQ (jW m) k : Int) : Rat) x214.length) / ((qO (jW m) k : Nat) : Int)) from (aD2 zO).trans (congrArg some hq1));refine gI (fE (eY (fU rfl (bO (eU [2,3,14,26,27,29,209,210,211] rfl ?_)))));obtain ⟨_,xC,hxC,rfl,hpC⟩:=hsM.elem (k) zO;obtain rfl : ((qO (jW m) k : Nat) : Int) = xC:=eE ((aA0 zO).symm.trans hxC);have hcl:=aNx (jW m) k;have hc0:=hqz.cnt k zO;apply nX (fun _=>True) trivial 14 [gC _,gC _,gC _,gC _,gC _,gC _,gC _,gC _,fun v H=>lJ ((((qO (jW m) k : Nat) : Int) : Rat)) H v,fun v H=>∃ u,v = .tuple #[u,.int .i64 0] ∧ lJ (((tT (jV m) x214 ((rQ (jW m) k : Int) : Rat) x214.length) / ((qO (jW m) k : Nat) : Int))) H u,fun v H=>lJ (((tT (jV m) x214 ((rQ (jW m) k : Int) : Rat) x214.length) / ((qO (jW m) k : Nat) : Int))) H v,gC _,fun v H=>lJ (((tT (jV m) x214 ((rQ (jW m) k : Int) : Rat) x214.length) / ((qO (jW m) k : Nat) : Int))) H v,slF jX [((tT (jV m) x214 ((rQ (jW m) k : Int) : Rat) x214.length) / ((qO (jW m) k : Nat) : Int))]] follows zK zK ⟨aH _,aH _,aH _,aH _,aH _,aH _,aH _,aH _,kG _,fun _ _ _ hle ⟨u,h,k⟩=>⟨u,h,k.mono hle⟩,kG _,aH _,kG _,oQ _ _,trivial⟩ ?steps61 ?tail61
     case steps61 =>
      refine dH rfl ?_ ?_
      ·intro X HD bI _;exact aF rfl (bJ rfl pT rfl (bF (eO trivial rfl)))
      refine dH rfl ?_ ?_
      ·intro X HD bI _;exact gL rfl (aF rfl (bT 3 rfl rfl iG rfl rfl rfl (bF (eO trivial rfl))))
      refine dH rfl ?_ ?_
      ·intro X HD bI _;exact aF rfl (bT 0 rfl rfl fG rfl rfl rfl (bF (eO trivial rfl)))
      refine dH rfl ?_ ?_
      ·intro X HD bI _;exact aF rfl (bJ rfl aK9 rfl (bF (eO trivial rfl)))
      refine dH rfl ?_ ?_
      ·intro X HD bI _;replace rS:=rS.mono bI;exact gL rfl (aF rfl (nF (off:=2) rfl rS gE rfl rfl rfl (bF (eO trivial rfl))))
      refine dH rfl ?_ ?_
      ·intro X HD bI _;exact aF rfl (zM rfl (bF (eO trivial rfl)))
      refine dH rfl ?_ ?_
      ·intro X HD bI _;exact gL rfl (gL rfl (aF rfl (fK rfl rfl bK gK zO (by first | omega | (rw [pL];omega)) rfl (bF (eO trivial rfl)))))
      refine dH rfl ?_ ?_
      ·intro X HD bI _;replace hm:=hm.mono bI;replace mW:=mW.mono bI;replace mV:=mV.mono bI;replace lU:=lU.mono bI;replace hT:=hT.mono bI;replace oE:=oE.mono bI;replace oD:=oD.mono bI;replace kL:=kL.mono bI;replace hro:=hro.mono bI;replace nG:=nG.mono bI;replace hsT:=hsT.mono bI;replace hK1:=hK1.mono bI;replace hK2:=hK2.mono bI;replace hsM:=hsM.mono bI;replace hsS:=hsS.mono bI;replace hK3:=hK3.mono bI;replace hK4:=hK4.mono bI;replace hsB:=hsB.mono bI;replace uO:=uO.mono bI;replace rS:=rS.mono bI;replace xW:=xW.mono bI;replace hsQ47:=hsQ47.mono bI;replace hX:=hX.mono bI;replace hq:=hq.mono bI;replace hp214:=hp214.mono bI;replace hd214:=hd214.mono bI;replace hp219:=hp219.mono bI;replace hS:=hS.mono bI;replace kS:=kS.mono bI;replace h9:=h9.mono bI;replace k9:=k9.mono bI;replace hpC:=hpC.mono bI;exact gL rfl (aF rfl (eH rfl (by assumption) gK rfl rfl rfl (bF (eO trivial rfl))))
      refine dH rfl ?_ ?_
      ·intro X HD bI _;refine gL rfl (aF rfl (eZ rfl (wF ((qO (jW m) k : Nat) : Int) 1 zO zD zD _) rfl ?_));rintro _ HN kI hNC;rw [aIg] at hNC;obtain ⟨aC,cC,bC,dC,rfl,hC,kC⟩:=hNC;exact bF (eO trivial (⟨_,_,_,_,rfl,hC,kC⟩))
      refine dH rfl ?_ ?_
      ·intro X HD bI _;replace h9:=h9.mono bI;replace k9:=k9.mono bI;refine gL rfl (eJ rfl rfl ?_);rintro _ ⟨aC,cC,bC,dC,rfl,hC,kC⟩;refine aF rfl (eZ rfl (aRd ⟨_,_,_,_,rfl,h9,k9⟩ ⟨_,_,_,_,rfl,hC,kC⟩ (hqz.sub k x214 hx214 x214.length) (aB4 (eK (sH zO) zD) zD) (aVb hc0)) rfl ?_);rintro _ HN kI ⟨_,rfl,⟨aD,cD,bD,dD,rfl,hD,kD⟩⟩;exact bF (eO trivial (⟨_,rfl,⟨_,_,_,_,rfl,hD,kD⟩⟩))
      refine dH rfl ?_ ?_
      ·intro X HD bI _;refine eJ rfl rfl ?_;rintro _ ⟨_,rfl,aD,cD,bD,dD,rfl,hD,kD⟩;exact aF rfl (zX rfl (bF (eO trivial (⟨_,_,_,_,rfl,hD,kD⟩))))
      refine dH rfl ?_ ?_
      ·intro X HD bI _;refine eJ rfl rfl ?_;rintro _ ⟨_,rfl,aD,cD,bD,dD,rfl,hD,kD⟩;exact aF rfl (zX rfl (bF (eO trivial rfl)))
      refine dH rfl ?_ ?_
      ·intro X HD bI _;refine eJ rfl rfl ?_;rintro _ ⟨aD,cD,bD,dD,rfl,hD,kD⟩;exact gL rfl (aF rfl (fH rfl (aFe ⟨_,_,_,_,rfl,hD,kD⟩) rfl (bF (eO trivial (⟨_,_,_,_,rfl,hD,kD⟩)))))
      refine dH rfl ?_ ?_
      ·intro X HD bI _;refine eJ rfl rfl ?_;rintro _ ⟨aD,cD,bD,dD,rfl,hD,kD⟩;refine aF rfl (fS rfl cJ fG jD rfl rfl rfl (fun b254=>fT 0 rfl rfl rfl (fun HP254 oP254 hleP254 hbP254 hoP254=>?_)));have hsl254:=SlR.lit (ρ:=jX) (l:=[((tT (jV m) x214 ((rQ (jW m) k : Int) : Rat) x214.length) / ((qO (jW m) k : Nat) : Int))]) hbP254 hoP254 (iH.one1 ⟨_,_,_,_,rfl,hD.mono hleP254,kD.mono hleP254⟩);exact bF (eO trivial (⟨_,rfl,hsl254⟩))
      exact jH rfl
     case tail61 =>
      intro HD bI _;replace hq:=hq.mono bI;replace tI:=tI.trans bI;refine gL rfl (gL rfl (gL rfl (gL rfl (gL rfl (gL rfl (gL rfl (gL rfl (eJ rfl rfl ?_))))))));rintro _ ⟨aC,cC,bC,dC,rfl,hC,kC⟩;refine eJ rfl rfl ?_;rintro _ ⟨_,rfl,aD,cD,bD,dD,rfl,hD,kD⟩;refine eJ rfl rfl ?_;rintro _ ⟨aD,cD,bD,dD,rfl,hD,kD⟩;refine gL rfl (eJ rfl rfl ?_);rintro _ ⟨aD,cD,bD,dD,rfl,hD,kD⟩;refine eJ rfl rfl ?_;rintro _ ⟨bs254,rfl,hsl254⟩;refine aF rfl (iV 1 rfl rfl hq rfl rfl hsl254 rfl cJ fG jD rfl tY zI rfl (fun p255 a255 c255 hacc255=>bJ rfl pT rfl (eG 3 rfl rfl rfl rfl iG rfl rfl rfl rfl rfl (bF (fY (bO (dL (fR rfl rfl (dT zO zO) rfl (zM rfl (bF ?_))))))))));rw [← hqs] at hacc255 ⊢;refine eW ((k + 1,p255,a255,c255)) (by show m.length - (k + 1) < m.length - k;omega) (zC) (⟨by show k + 1 ≤ m.length;omega,rfl,hacc255⟩) zB (tI)
    obtain rfl : k = m.length:=zO
    rw [show (rA m (jV m)).take m.length = rA m (jV m) from fJ (by rw [aAj];omega)] at hq ⊢;refine gI (fE (eY (fU rfl (bO (zS (iO 0 rfl hq rfl (fun HQZ hleQZ hsQ=>?_)))))));replace hX:=hX.mono hleQZ;refine bT 1 rfl rfl oR rfl rfl rfl (eG 1 rfl rfl rfl rfl oR rfl rfl rfl rfl rfl (eG 0 rfl rfl rfl rfl jZ rfl rfl rfl rfl rfl (zN (eP (jO 0 (L:=[_,_]) rfl hrest rfl ((aC5 _ _ _).mono (fun u2 HE own2 lF hD=>?_)))))));obtain ⟨h1,h2⟩:=hD;subst h2;replace hX:=hX.mono lF;replace hsQ:=hsQ.mono lF;refine ⟨by subst h1;rfl,_,_,rfl,(fN 1 rfl rfl oR rfl rfl (fN 0 rfl rfl jZ rfl rfl iD)),eQ.mk ?_⟩;exact ⟨rfl,_,_,_,_,rfl,hsQ,hX⟩
   rintro c Hl ownL jQ hK;exact hK.elim
  rintro c Hl ownL jQ hK;exact hK.elim
end Go.Proofs

namespace Go.Proofs
open Go.XL
theorem Fit_fn (a : Option Addr) (c : Nat) (m : Mk) (H : Hp) (hm : SlR mkR H a c m) (hok : oF m) (hm0 : 0 < m.length) (hw0 : 0 < fO m) (htr : trP (rL m)) (hax : aOo (aQ m) (fO m)) (hbx : ∀ q ∈ bQ m,smQ q) (hst : StR (aAc (aQ m) (bQ m)) (fO m + 1) (fO m) 0) (hza : szA (aAc (aQ m) (bQ m)) 2) (hqz : QuaSz m (jV m)) :
  iP Tryz.prog 28 #[.slice a m.length c] H [] (eQ fun v H2 own=>own = [] ∧ ∃ a1 c1 a2 c2,v = .tuple #[.agg ⟨[.slice a1 (rA m (jV m)).length c1,.slice a2 (jV m).length c2]⟩,.int .i64 0] ∧ SlR jX H2 a1 c1 (rA m (jV m)) ∧ SlR jX H2 a2 c2 (jV m)):=by
 obtain ⟨b,o,rfl⟩:=hm.addr hm0;exact Fit_at b o c m H hm hok hm0 hw0 htr hax hbx hst hza hqz
structure FitOk (m : Mk) : Prop where
 m0 : 0 < m.length
 w0 : 0 < fO m
 tr : trP (rL m)
 ax : aOo (aQ m) (fO m)
 bx : ∀ q ∈ bQ m,smQ q
 st : StR (aAc (aQ m) (bQ m)) (fO m + 1) (fO m) 0
 za : szA (aAc (aQ m) (bQ m)) 2
 qz : QuaSz m (jV m)
def dn (D B : Nat) (q : Rat) : Prop:=∃ z : Int,q * (D : Rat) = z ∧ z.natAbs ≤ B
section
variable {D B C : Nat} {q r : Rat}
theorem aV6 (h : 0 < D) : (D : Rat) ≠ 0:=fun e=>by
 have : ((D : Nat) : Int) = 0:=by exact_mod_cast e
 omega
theorem dn.div (h : dn D B q) (hD : 0 < D) : ∃ z : Int,q = Rat.divInt z D ∧ z.natAbs ≤ B:=by
 obtain ⟨z,h1,h2⟩:=h;refine ⟨z,?_,h2⟩;rw [Rat.divInt_eq_div,← h1];have h3:=aV6 hD;have : ((D : Int) : Rat) = (D : Rat):=rfl;rw [this,Rat.mul_div_cancel h3]
theorem dn.sz (h : dn D B q) (hD : 0 < D) {n : Nat} (hB : (dg B).length ≤ n) (hE : (dg D).length ≤ n) : mZ q n:=by
 obtain ⟨z,rfl,h2⟩:=h.div hD;exact aB5 zO (eK (lP h2) hB) (by rw [fW];exact hE)
theorem dn.le (h : dn D B q) (hB : B ≤ C) : dn D C q:=let ⟨z,h1,h2⟩:=h;⟨z,h1,zO⟩
theorem dn.add (h : dn D B q) (k : dn D C r) : dn D (B + C) (q + r):=by
 obtain ⟨z,h1,h2⟩:=h;obtain ⟨w,k1,k2⟩:=k;exact ⟨z + w,by rw [Rat.add_mul,h1,k1,Rat.intCast_add],zO⟩
theorem dn.neg (h : dn D B q) : dn D B (-q):=by
 obtain ⟨z,h1,h2⟩:=h;exact ⟨-z,by rw [Rat.neg_mul,h1,Rat.intCast_neg],zO⟩
theorem dn.sub (h : dn D B q) (k : dn D C r) : dn D (B + C) (q - r):=by rw [Rat.sub_eq_add_neg];exact h.add k.neg
theorem dn.int (z : Int) (h : z.natAbs * D ≤ B) : dn D B (z : Rat):=⟨z * D,by rw [Rat.intCast_mul];rfl,by rw [Int.natAbs_mul,fW];exact h⟩
theorem dn.zero : dn D B 0:=⟨0,by rw [Rat.zero_mul];rfl,by simp⟩
theorem dn.mul {E : Nat} (h : dn D B q) (k : dn E C r) : dn (D * E) (B * C) (q * r):=by
 obtain ⟨z,h1,h2⟩:=h;obtain ⟨w,k1,k2⟩:=k;refine ⟨z * w,?_,by rw [Int.natAbs_mul];exact Nat.mul_le_mul h2 k2⟩;rw [Rat.intCast_mul,← h1,← k1,Rat.natCast_mul];grind
theorem dn.up {E : Nat} (h : dn D B q) (hB : B * E ≤ C) : dn (D * E) C q:=by
 obtain ⟨z,h1,h2⟩:=h;refine ⟨z * E,?_,by rw [Int.natAbs_mul,fW];exact eK (Nat.mul_le_mul_right _ h2) hB⟩;rw [Rat.intCast_mul,← h1,Rat.natCast_mul,Rat.mul_assoc];rfl
theorem aB0 (l : List Rat) (x : Rat) : mP (l ++ [x]) = mP l + x:=by simp [mP,List.foldl_append]
theorem dn.sum : ∀ {l : List Rat},(∀ x ∈ l,dn D B x) → ∀ n,n ≤ l.length → dn D (n * B) (mP (l.take n))
 | l,h,0,_=>by rw [List.take_zero];exact dn.zero
 | l,h,n + 1,hn=>by
  obtain ⟨x,hx⟩ : ∃ x,l[n]? = some x:=⟨_,aJ zO⟩
  rw [jK hx,aB0,Nat.add_mul,Nat.one_mul];exact (dn.sum h n zO).add (h x (cF hx))
theorem dn.sums {l : List Rat} (h : ∀ x ∈ l,dn D B x) (hD : 0 < D) {n N : Nat} (hl : l.length ≤ N) (h0 : 1 ≤ N) (hB : (dg (N * B)).length ≤ n) (hE : (dg D).length ≤ n) : pW l n:=by
 refine ⟨fun k=>?_,fun x hx=>(h x hx).sz hD (eK (lP (Nat.le_mul_of_pos_left _ h0)) hB) hE⟩
 have hm : ∀ k,k ≤ l.length → mZ (mP (l.take k)) n:=fun k hk =>
  ((dn.sum h k hk).le (Nat.mul_le_mul_right B (eK hk hl))).sz hD hB hE
 by_cases hk : k ≤ l.length
 ·exact hm k hk
 rw [fJ zO];have:=hm l.length (gT _);rwa [gF] at this
end
def mtI (ms : Tb) : Mk:=ms.map fun l=>l.map fun b=>if b then 1 else -1
def hdL (ms : Tb) : List Kn:=jW (mtI ms)
def aXs (p : Kn) : List Value:=[.int .i64 (p.1.1 : Nat),.int .i64 (p.1.2 : Nat)]
theorem aSq (ms : Tb) : (mtI ms).length = ms.length:=by simp [mtI]
theorem aOl {ms : Tb} {i : Nat} {l : List Bool} (h : ms[i]? = some l) : (mtI ms)[i]? = some (l.map fun b=>if b then 1 else -1):=by simp [mtI,h]
theorem aKz {l : List Bool} {k : Nat} {b : Bool} (h : l[k]? = some b) : (l.map fun b=>if b then (1 : Int) else -1)[k]? = some (if b then 1 else -1):=by simp [h]
def aEs (m : Mk) (K : List Kn) : Mk:=K.foldl (fun x p=>x.set p.1.1 ((x.getD p.1.1 []).set p.1.2 (-1))) m
theorem hidW_nil (m : Mk) : aEs m [] = m:=rfl
theorem hidW_snoc (m : Mk) (K : List Kn) (p : Kn) : aEs m (K ++ [p]) = (aEs m K).set p.1.1 (((aEs m K).getD p.1.1 []).set p.1.2 (-1)):=by simp [aEs,List.foldl_append]
theorem aJq (m : Mk) : ∀ K : List Kn,(aEs m K).length = m.length:=fun K=>by
 unfold aEs
 induction K generalizing m with
 | nil=>rfl
 | cons p K ih=>rw [List.foldl_cons,ih,gQ]
def jA (m : Mk) (ms : Tb) : Mk:=aEs m (hdL ms)
def nK (m : Mk) (ms : Tb) : Prop:=ms.map List.length = m.map List.length
instance (m : Mk) (ms : Tb) : Decidable (nK m ms):=by unfold nK;infer_instance
theorem nK.len {m : Mk} {ms : Tb} (h : nK m ms) : ms.length = m.length:=by have:=congrArg List.length h;simpa using this
theorem nK.at {m : Mk} {ms : Tb} (h : nK m ms) {i : Nat} {l : List Int} {b : List Bool} (h1 : m[i]? = some l) (h2 : ms[i]? = some b) : b.length = l.length:=by
 have h3 : (ms.map List.length)[i]? = (m.map List.length)[i]?:=by rw [h]
 rw [iI,iI,h1,h2] at h3;exact eE h3
theorem nK.mk {m : Mk} {ms : Tb} (h : ms.length = m.length) (k : ∀ (i : Nat) (l : List Int) (b : List Bool),m[i]? = some l → ms[i]? = some b → b.length = l.length) : nK m ms:=by
 unfold nK;apply iC;intro i;rw [iI,iI];by_cases hi : i < m.length
 ·rw [aJ hi,aJ (show i < ms.length by omega)];exact congrArg some (k i _ _ (aJ hi) (aJ zO))
 rw [dJ zO,dJ zO];rfl
def zq (n : Nat) : List Rat:=List.replicate n 0
theorem aKm (n : Nat) : (zq n).length = n:=by simp [zq]
theorem aQ8 (n i : Nat) : (zq n).getD i 0 = 0:=by
 rw [dB];unfold zq;by_cases h : i < n
 ·simp [h]
 rw [dJ zI];rfl
theorem aT0 {n k : Nat} (p : Kn) : aAw (zq n) (zq k) p = ((p.2 : Int) : Rat):=by
 unfold aAw;rw [aQ8,aQ8];grind
theorem aTe {m : Mk} (hok : oF m) {p : Kn} (hp : p ∈ jW m) : p.2.natAbs ≤ 1000:=by
 obtain ⟨l,h1,h2,h3⟩:=aAf hp;have:=(hok.at h1).2.2 _ (cF h2);omega
theorem aUj {m : Mk} (hok : oF m) : ResSz m (zq m.length) (zq (fO m)):=by
 have hi : ∀ z : Int,z.natAbs ≤ 1000 → mZ (z : Rat) 499:=fun z hz=>aB4 (eK (lP hz) (eK (lG.2 (show 1000 < 1073741824 ^ 1 by decide)) (show 1 ≤ 499 by decide))) zD;refine ⟨aKm _,aKm _,fun x hx=>?_,fun p hp=>?_,fun p hp=>?_⟩
 ·have : x = 0:=by rcases gM.1 hx with h | h <;> exact List.eq_of_mem_replicate h
  subst this;exact hi 0 zD
 ·rw [aQ8,show ((p.2 : Int) : Rat) - 0 = p.2 by grind];exact hi _ (aTe hok hp)
 rw [aT0];exact hi _ (aTe hok hp)
theorem aSs {m : Mk} (hok : oF m) : ∀ l ∈ aGv m (zq m.length) (zq (fO m)),pW l 499:=by
 intro l hl
 have hd : ∀ x ∈ l,dn 1 1000 x:=by
  have hk : ∀ p ∈ jW m,dn 1 1000 (aAw (zq m.length) (zq (fO m)) p):=fun p hp=>by rw [aT0];exact dn.int _ (by have:=aTe hok hp;omega)
  intro x hx;rcases gM.1 hl with h | h
  ·rcases gM.1 h with h | h
   ·obtain ⟨i,_,rfl⟩:=gS.1 h;obtain ⟨p,hp,rfl⟩:=gS.1 hx;exact hk p (lD.1 hp).1
   obtain ⟨i,_,rfl⟩:=gS.1 h;obtain ⟨p,hp,rfl⟩:=gS.1 hx;exact hk p (lD.1 hp).1
  obtain rfl:=lW.1 h;have : x = 0:=List.eq_of_mem_replicate hx;subst this;exact dn.zero
 obtain ⟨i,hi⟩:=List.getElem?_of_mem hl;exact dn.sums hd zD (aOu hok (aUj hok) hl) zD (eK (lG.2 (show 96 * 1000 < 1073741824 ^ 1 by decide)) (show 1 ≤ 499 by decide)) (eK (lG.2 (show 1 < 1073741824 ^ 1 by decide)) (show 1 ≤ 499 by decide))
theorem aR3 (n : Nat) : zq n ++ [(0 : Rat)] = zq (n + 1):=by unfold zq;rw [List.replicate_succ']
theorem aVq : dg 1 = [1]:=by rw [aDb zD,show 1 / 1073741824 = 0 from rfl,dg0];rfl
theorem aKi {H : Hp} {b : Nat} (h : SlR (gV .i64) H (some ⟨b,0,none⟩) 1 [1]) : jX.R H [.bool false,.slice none 0 0,.bool false,.slice (some ⟨b,0,none⟩) 1 1] (0 : Rat):=by
 have h0 : dg (0 : Rat).num.natAbs = []:=dg0;have h1 : dg (0 : Rat).den = [1]:=aVq;exact ⟨none,0,some ⟨b,0,none⟩,1,by unfold aV5;rw [h0,h1];rfl,by rw [h0];exact SlR.nil0 _ _,by rw [h1];exact h⟩
theorem aTb {m : Mk} {K : List Kn} {i : Nat} {l' : List Int} (h : (aEs m K)[i]? = some l') : ∃ l,m[i]? = some l ∧ l'.length = l.length:=by
 unfold aEs at h
 induction K generalizing m with
 | nil=>exact ⟨_,h,rfl⟩
 | cons p K ih =>
  rw [List.foldl_cons] at h;obtain ⟨l,h1,h2⟩:=ih h;rw [iR] at h1;split at h1
  ·rename_i e
   subst e;split at h1
   ·rename_i hlt
    refine ⟨_,aJ hlt,?_⟩;rw [h2,← eE h1,gQ,dB,aJ hlt];rfl
   cases h1
  exact ⟨l,h1,h2⟩
end Go.Proofs

namespace Go.XL
section
variable {C : Ctx} {ops : Array Oper} {Q : Exit → St → Prop} {rest : List Oper} {env : gY} {df : List Deferred} {H : Hp} {own : Own} {dst : Option Nat} {ty : TypeId} {pos : String} {af : Array Edge}
theorem XO.toCells (i : Nat) {b n : Nat} {T : TypeId} {xs : List Value} (hp : Own.at own i = some (b,.row T n xs)) (hn : xs.length = n) (h : XO C ops Q rest ⟨env,df,H,Own.set2 own i (b,.cells T xs)⟩) : XO C ops Q rest ⟨env,df,H,own⟩:=by
 intro act w hr;obtain ⟨ms,hdf,hok⟩:=hr.ok;refine h act w ⟨hr.size,hr.get,ms,hdf,?_⟩;obtain ⟨pre,post,rfl,rfl⟩:=Own.at_split hp;rw [Own.set2_split];simp only [eM,fP] at hok ⊢;obtain ⟨c,hb,hc⟩:=aNz hok (b:=b) (T:=T) (n:=n) (xs:=xs) zP
 have hc0 : c = []:=by
  rw [fQ] at hc;exact List.eq_nil_of_length_eq_zero zO
 subst hc0;rw [gH] at hb;exact hok.write (s':=.cells T xs) rfl rfl rfl rfl rfl hb (fun _ _=>rfl)
theorem Own.at_set2 {p q : Nat × SObj} : ∀ {own : Own} {i : Nat},Own.at own i = some p → Own.at (Own.set2 own i q) i = some q
 | [],i,h=>by cases h
 | x :: r,0,_=>rfl
 | x :: r,i + 1,h=>Own.at_set2 (own:=r) (i:=i) h
theorem Own.set2_set2 {q q' : Nat × SObj} : ∀ {own : Own} {i : Nat},Own.set2 (Own.set2 own i q) i q' = Own.set2 own i q'
 | [],i=>rfl
 | x :: r,0=>rfl
 | x :: r,i + 1=>congrArg (x :: ·) (Own.set2_set2 (own:=r) (i:=i))
theorem Own.put_set2 {b : Nat} {s s' : SObj} : ∀ {own : Own} {i : Nat},Own.at own i = some (b,s) → Own.put own i s' = some (Own.set2 own i (b,s'))
 | [],i,h=>by cases h
 | x :: r,0,h=>by cases h;rfl
 | x :: r,i + 1,h=>by
  have:=Own.put_set2 (own:=r) (i:=i) (s':=s') h;simp [Own.put,this,Own.set2]
theorem src_ints {G : World} {own : Own} {k : IntKind} {a2 : Option Addr} {c2 : Nat} {l : List Int} {H : Hp} (hs : SlR (gV k) H a2 c2 l) (h0 : 0 < l.length) :
  ∃ a,a2 = some a ∧ ∀ w fr,Ok G H (own ++ fr) w → ∀ q v,(l.map (Value.int k))[q]? = some v → w.cell? (a.add q) = some v:=by
 obtain ⟨b,o,rfl⟩:=hs.addr h0;refine ⟨_,rfl,fun w fr hok q v hq=>?_⟩;rw [iI] at hq;cases hx : l[q]? with
 | none=>rw [hx] at hq;cases hq
 | some x =>
  rw [hx] at hq;cases hq;have hlt : q < l.length:=(bY.1 hx).1;obtain ⟨cs,u,hu,hR,hp⟩:=hs.elem q hlt;rw [hx] at hu;cases hu;obtain ⟨c,T,fz,h1,h2⟩:=hp;have h3 : cs = [.int k x]:=hR;subst h3;have:=h2 0 _ rfl;rw [tV];simp only [World.cell?,hok.pub _ _ h1];simpa [gV] using this
theorem iH.ints {k : IntKind} {H : Hp} : ∀ (l : List Int),iH (gV k) H (l.map (Value.int k)) l
 | []=>rfl
 | x :: l=>⟨[.int k x],l.map (Value.int k),rfl,rfl,iH.ints l⟩
theorem XO.copyA (i : Nat) {t t2 e : TypeId} {x y : Operand} {k : IntKind} {p : Nat × SObj} {n c c2 : Nat} {a2 : Option Addr} {T : TypeId} {l0 l : List Int} (hx : ev env x = some (.slice (some ⟨p.1,0,none⟩) n c)) (hy : ev env y = some (.slice a2 l.length c2))
  (hpo : Own.at own i = some p) (hacc : Acc (gV k) T H p (some ⟨p.1,0,none⟩) c l0) (hc : c = l0.length) (hn : n = l0.length) (hs : SlR (gV k) H a2 c2 l) (hl : l.length = l0.length) (ht : C.P.underlying t = some (.slice e)) (he : tP C.P e 1 false = true) (hd : iU C.N dst = true)
  (h : ∀ p',p'.1 = p.1 → Acc (gV k) T H p' (some ⟨p'.1,0,none⟩) c l → XO C ops Q rest ⟨jI dst (.int .i64 (l.length : Nat)) env,df,H,Own.set2 own i p'⟩) :
  XO C ops Q (⟨dst,.call { callee:=.builtin .copy,args:=#[x,y],argTypes:=#[t,t2] },ty,pos,af,none⟩ :: rest) ⟨env,df,H,own⟩:=by
 rcases hacc with ⟨h1,_⟩ | ⟨xs,_,h2,h3,h4⟩
 ·cases h1
 obtain ⟨b,so⟩:=p;simp only at h2 hx;subst h2;have hxl:=h3.length;rw [show (gV k).sz = 1 from rfl,Nat.mul_one] at hxl
 have hc1 : c * (gV k).sz = xs.length:=by
  have : (gV k).sz = 1:=rfl;rw [this,Nat.mul_one,hxl,hc]
 rw [hc1] at hpo;refine XO.toCells i hpo rfl ?_
 refine XO.copyO (vs:=l.map (Value.int k)) (cs':=l.map (Value.int k)) i hx hy (Own.at_set2 hpo) ht he (by rw [fB];omega) (fun h0=>src_ints hs (by simpa using h0)) (by rw [fB];omega) (fun v hv=>by obtain ⟨z,_,rfl⟩:=gS.1 hv;rfl)
  (by rw [List.take_zero,gN,List.drop_eq_nil_of_le (by rw [fB];omega),gH]) (Own.put_set2 (Own.at_set2 hpo)) hd ?_
 rw [Own.set2_set2,fB];refine XO.toRow i (Own.at_set2 hpo) ?_;rw [Own.set2_set2];refine h _ rfl (.inr ⟨_,rfl,?_,iH.ints l,zO⟩);have hs1 : (gV k).sz = 1:=rfl;rw [fB,hs1,Nat.mul_one,hc,hl]
end
end Go.XL

namespace Go.Proofs
open Go.XL
set_option maxRecDepth 100000 in
set_option maxHeartbeats 1600000 in
theorem Fit_none (a : Option Addr) (c : Nat) (m : Mk) (H : Hp) (hm : SlR mkR H a c m) (hok : oF m) (h0 : ¬ (0 < m.length ∧ 0 < fO m)) : iP Tryz.prog 28 #[.slice a m.length c] H [] (eQ (fun v H2 own=>own = [] ∧ v = .tuple #[.agg ⟨[.slice none 0 0,.slice none 0 0]⟩,.int .i64 371])):=by
 refine iP.introD (args:=[.slice a m.length c]) Tryz.func28 rfl rfl Tryz.ntmps28 rfl rfl rfl fun G rest=>?_;have hl:=hok.1;have hwd:=hok.2.1;refine zS ?_;refine iW rfl rfl rfl (fun b1=>?_);refine fI aCi rfl (fun b2=>?_);refine fI sJ rfl (fun b3=>?_);refine zN ?_;refine zS ?_;refine mL (L:=[_,_,_]) rfl rfl rfl rfl rfl (fun msD rest hrest=>?_);simp only [fP,gN];refine zN ?_;refine zS ?_;refine bT 2 rfl rfl pO rfl rfl rfl ?_;refine fH rfl (aJj _ _ m _ hm hok) rfl ?_;refine zN ?_;refine zS ?_;refine bT 2 rfl rfl pO rfl rfl rfl ?_;refine eD (ts:=#[]) rfl cH rfl ?_;refine zY rfl ?_;refine zM rfl ?_;refine iM rfl rfl rfl rfl (fun g2=>?_) (fun g2=>?_)
 ·have g2p:=eT g2;refine bT 2 rfl rfl pO rfl rfl rfl (zT rfl g2 (eV (i:=0) rfl hm rfl cH gE zO rfl ?_));rintro eb39 eo39 _ x39 hx39 ⟨ax39,cx39,rfl,mV⟩ mW;refine zT rfl g2 (eH rfl (by assumption) gE rfl rfl rfl (zT rfl g2 (eD (ts:=#[]) rfl bK rfl (zT rfl g2 (zY rfl (zV g2 rfl (sO rfl (aAo _ _ (aI (by have h1:=(hok.at hx39).1;omega)) _) rfl ?_)))))));intro HPn hlePn;refine pV (jO 0 (L:=[_,_,_]) rfl hrest rfl ((aDg _ _ _ _).mono (fun u2 HE own2 lF hD=>?_)));obtain ⟨h1,h2⟩:=hD;subst h2;refine ⟨h1,_,_,rfl,(fN 1 rfl rfl oR rfl rfl (fN 0 rfl rfl jZ rfl rfl iD)),eQ.mk ?_⟩;exact ⟨rfl,rfl⟩
 have g2p:=fM g2;refine zU rfl g2 (zU rfl g2 (zU rfl g2 (zU rfl g2 (zW g2 rfl (sO rfl (aAo _ _ rfl _) rfl ?_)))));intro HPn hlePn;refine pV (jO 0 (L:=[_,_,_]) rfl hrest rfl ((aDg _ _ _ _).mono (fun u2 HE own2 lF hD=>?_)));obtain ⟨h1,h2⟩:=hD;subst h2;refine ⟨h1,_,_,rfl,(fN 1 rfl rfl oR rfl rfl (fN 0 rfl rfl jZ rfl rfl iD)),eQ.mk ?_⟩;exact ⟨rfl,rfl⟩
theorem notmiss_fn (i k x : Int) (H : Hp) : iP Tryz.prog 27 #[.int .i64 i,.int .i64 k,.int .i64 x] H [] (eQ (fun v _ _=>v = .bool (decide (x ≠ -1)))):=by
 refine iP.intro (args:=[.int .i64 i,.int .i64 k,.int .i64 x]) Tryz.func27 rfl rfl Tryz.ntmps27 rfl rfl rfl fun G rest=>?_;refine zS ?_;refine zG rfl ?_;refine zN ?_;refine zS ?_;refine zM rfl ?_;refine zJ rfl ?_;refine zG rfl ?_;refine zN ?_;refine eP ?_;refine ⟨rfl,_,[],rfl,zA,eQ.mk ?_⟩;rfl
theorem aHj (a : Option Addr) (c : Nat) (m : Mk) (H : Hp) (hs : SlR mkR H a c m) (hok : oF m) : iP Tryz.prog 26 #[.slice a m.length c,.func (.func 27) #[] #[]] H [] (eQ (fun v H2 _=>∃ a2 c2,v = .slice a2 (rL m).length c2 ∧ SlR tbR H2 a2 c2 (rL m))):=by
 refine iP.intro (args:=[.slice a m.length c,.func (.func 27) #[] #[]]) Tryz.func26 rfl rfl Tryz.ntmps26 rfl rfl rfl fun G rest=>?_;have hl:=hok.1;have hwd:=hok.2.1;refine zS ?_;refine zG rfl ?_;refine zN ?_;refine cO ?_;refine zS ?_;refine zM rfl ?_;refine eD (ts:=#[]) rfl cH rfl ?_;refine zM rfl ?_;refine zN ?_;refine dK ?_;refine eU [4,12,1,10,11] rfl ?_;refine lR 0 ?_;refine gO (base:=[(1,_),(10,_),(11,_)]) (fun ζ : Nat × ((Nat × SObj) × Option Addr × Nat)=>[(4,.slice ζ.2.2.1 ((rL m).take (ζ.1)).length ζ.2.2.2),(12,.int .i64 (ζ.1 : Nat))]) (fun ζ Hl own=>ζ.1 ≤ m.length ∧ ζ.2.1 :: rest = own ∧ Acc tbR 34 Hl ζ.2.1 ζ.2.2.1 ζ.2.2.2 ((rL m).take (ζ.1))) (fun ζ=>m.length - ζ.1) (0,((0,.nothing),none,0)) (zC) zB ⟨eS _,rfl,Acc.nil _ _ _ _⟩ ?_;rintro ⟨k,⟨pw,aw,cw⟩⟩ Hl0 _ gB ⟨hkk,rfl,haccw⟩;replace hs:=hs.mono gB;try dsimp only at hkk haccw ⊢
 refine zS (zL rfl (zN (cO (fC rfl (fun nY=>?_) (fun nY=>?_)))))
 ·refine eF (bO (cO (dK (zS (zM rfl (eV rfl hs rfl cH gE zO rfl ?_))))));rintro eb15 eo15 _ x15 hx15 ⟨ax15,cx15,rfl,hd15⟩ rS;refine eH rfl (by assumption) gE rfl rfl rfl (zG rfl (zG rfl (zN (zS ?_))));have hw15:=(hok.at hx15).1;have hg15:=vU x15;refine zM rfl (eD (ts:=#[]) rfl bK rfl (XO.makeCap (ρ:=aE2) rfl rfl iZ oA aQd rfl aV3 (by have:=(hok.at hx15).1;omega) rfl (fun p19 hacc19=>zG rfl (zN (cO (zS (zM rfl (eD (ts:=#[]) rfl bK rfl (zM rfl (zN (dK (eU [7,22,1,4,5,10,11,12,20,21] rfl (gO (base:=[(1,_),(4,_),(5,_),(10,_),(11,_),(12,_),(20,_),(21,_)]) (fun ζ : Nat × ((Nat × SObj) × Option Addr × Nat)=>[(7,.slice ζ.2.2.1 ((grR x15).take (ζ.1)).length ζ.2.2.2),(22,.int .i64 (ζ.1 : Nat))]) (fun ζ Hl own=>ζ.1 ≤ x15.length ∧ ζ.2.1 :: pw :: rest = own ∧ Acc aE2 4 Hl ζ.2.1 ζ.2.2.1 ζ.2.2.2 ((grR x15).take (ζ.1))) (fun ζ=>x15.length - ζ.1) (0,(p19,(some ⟨p19.1,0,none⟩),_)) (zC) zB ⟨eS _,rfl,hacc19⟩ ?_)))))))))))));rintro ⟨j,⟨pg,ag,cg⟩⟩ Hl1 _ iT ⟨hkj,rfl,haccg⟩;replace hs:=hs.mono iT;replace haccw:=haccw.mono iT;replace rS:=rS.mono iT;replace hd15:=hd15.mono iT;replace gB:=gB.trans iT;try dsimp only at hkj haccg ⊢
  refine zS (zL rfl (zN (cO (fC rfl (fun c1_3=>?_) (fun c1_3=>?_)))))
  ·refine eF (bO (cO (dK (zS (zM rfl (eV rfl (by assumption) rfl bK gK zO rfl ?_))))));rintro eb25 eo25 _ x25 yI rfl hp25;refine eH rfl (by assumption) gK rfl rfl rfl (zG rfl (zG rfl (zN (dL (zM rfl (zM rfl (zM rfl (zM rfl (zM rfl (sZ rfl (by trivial) rfl (wH.of_fn (cap:=[]) (args:=[_,_,_]) (notmiss_fn _ _ x25 _)) rfl ?_))))))))));rintro _ rfl;refine fS rfl iZ oA aQd rfl rfl rfl (fun b33=>fT 0 rfl rfl rfl (fun HP33 oP33 hleP33 hbP33 hoP33=>?_));have hsl33:=SlR.lit (ρ:=aE2) (l:=[_]) hbP33 hoP33 (iH.one1 rfl);replace haccg:=haccg.mono hleP33;replace iT:=iT.trans hleP33;refine iV 0 rfl rfl haccg rfl rfl hsl33 rfl iZ oA aQd rfl aV3 zI rfl (fun p34 a34 c34 hacc34=>zG rfl (bF (fY (bO (dL (fR rfl rfl (dT zO zO) rfl (zM rfl (bF (eW ((j + 1,(p34,a34,c34))) (by show x15.length - (j + 1) < x15.length - j;omega) (iL (by first | rfl | (rw [jK (aC3 yI)];rfl)) (zC)) (⟨by show j + 1 ≤ x15.length;omega,rfl,by first | (exact hacc34) | (rw [jK (aC3 yI)];exact hacc34)⟩) zB (iT))))))))))
  obtain rfl : j = x15.length:=zO
  rw [show (grR x15).take x15.length = grR x15 from fJ (by rw [vU];omega)] at haccg ⊢;refine gI (fE (eY (fU rfl (bO (dL (zM rfl (iO 0 rfl haccg rfl (fun HQ7 hleQ7 hsQ7=>?_))))))));replace haccw:=haccw.mono hleQ7;replace gB:=gB.trans hleQ7;refine zM rfl (fS rfl gP qL aMn rfl rfl rfl (fun b38=>fT 0 rfl rfl rfl (fun HP38 oP38 hleP38 hbP38 hoP38=>?_)));replace haccw:=haccw.mono hleP38;replace hsQ7:=hsQ7.mono hleP38;replace gB:=gB.trans hleP38;have hsl38:=SlR.lit (ρ:=tbR) (l:=[grR x15]) hbP38 hoP38 (iH.one1 ⟨_,_,rfl,hsQ7⟩);refine iV 0 rfl rfl haccw rfl rfl hsl38 rfl gP qL aMn rfl aUk zI rfl (fun p39 a39 c39 hacc39=>zG rfl (bF (fY (bO (dL (fR rfl rfl (dT zO zO) rfl (zM rfl (bF (eW ((k + 1,(p39,a39,c39))) (by show m.length - (k + 1) < m.length - k;omega) (iL (by first | rfl | (rw [jK (aC8 hx15)];rfl)) (zC)) (⟨by show k + 1 ≤ m.length;omega,rfl,by first | (exact hacc39) | (rw [jK (aC8 hx15)];exact hacc39)⟩) zB (gB))))))))))
 obtain rfl : k = m.length:=zO
 rw [show (rL m).take m.length = rL m from fJ (by rw [mY];omega)] at haccw ⊢;refine gI (fE (eY (fU rfl (bO (zS (iO 0 rfl haccw rfl (fun HQ9 hleQ9 hsQ9=>?_)))))));replace hs:=hs.mono hleQ9;refine zM rfl (zG rfl (zN (eP ?_)));refine ⟨rfl,_,[],rfl,zA,eQ.mk ?_⟩;exact ⟨_,_,rfl,by assumption⟩
theorem hidden_fn (a : Option Addr) (n c : Nat) (H : Hp) : iP Tryz.prog 23 #[.slice a n c] H [] (eQ (fun v H2 _=>∃ b1,v = .func (.func 64) #[] #[.pointer (some ⟨b1,0,none⟩)] ∧ rC H2 b1 0 [.slice a n c])):=by
 refine iP.intro (args:=[.slice a n c]) Tryz.func23 rfl rfl Tryz.ntmps23 rfl rfl rfl fun G rest=>?_;refine zS ?_;refine iW rfl rfl rfl (fun b1=>?_);refine zG rfl ?_;refine zN ?_;refine zS ?_;refine fT 0 rfl rfl rfl (fun HK1 oK1 hleK1 hbK1 hoK1=>?_);have hpK1:=rC.of_is hbK1 hoK1;refine mA rfl rfl ?_;refine zG rfl ?_;refine zN ?_;refine eP ?_;refine ⟨rfl,_,[],rfl,zA,eQ.mk ?_⟩;exact ⟨_,rfl,hpK1⟩
theorem hidden_seq (a : Option Addr) (c : Nat) (ms : Tb) (H : Hp) (bm : Nat) (hs : SlR tbR H a c ms) (hl : ms.length ≤ 64) (hrow : ∀ r ∈ ms,r.length ≤ 16) (h1 : rC H bm 0 [.slice a ms.length c]) : aV9 Tryz.prog 64 [.pointer (some ⟨bm,0,none⟩)] H [] aXs (hdL ms):=by
 intro yv J K ownY hy hJ0;refine iP.intro (args:=[yv,.pointer (some ⟨bm,0,none⟩)]) Tryz.func64 rfl rfl Tryz.ntmps64 rfl rfl rfl fun G rest=>?_;refine zS ?_;refine eH rfl h1 aIb rfl rfl rfl ?_;refine eD (ts:=#[]) rfl gP rfl ?_;refine zM rfl ?_;refine zN ?_;refine dK ?_;refine eU [9,0,7,8] rfl ?_;refine gO (base:=[(0,_),(7,_),(8,_)]) (fun i : Nat=>[(9,.int .i64 (i : Nat))]) (fun i Hl own=>i ≤ ms.length ∧ Le H Hl ∧ ∃ oy,oy ++ rest = own ∧ J (sA (mtI ms) i) Hl oy) (fun i=>ms.length - i) 0 (zC) (jP _) ⟨eS _,Le.refl _,ownY,rfl,hJ0⟩ ?_;rintro i Hl _ hle ⟨hi,hH,oy,rfl,hJ⟩;replace hs:=hs.mono hH;refine zS ?_;refine zL rfl ?_;refine zN ?_;refine cO ?_;refine fC rfl (fun qK=>?_) (fun qK=>?_)
 ·refine eF (bO (cO (dK (zS (zM rfl (eV rfl hs rfl gP qL zO rfl ?_))))));rintro ebm eom _ xm hxm ⟨axm,cxm,rfl,hd⟩ hpm;have hrx:=hrow xm (cF hxm);refine eH rfl hpm qL rfl rfl rfl (zG rfl (zG rfl (zN (zS (zM rfl (eD (ts:=#[]) rfl iZ rfl (zM rfl (zN (dK (eU [16,0,3,7,8,9,14,15] rfl (gO (base:=[(0,_),(3,_),(7,_),(8,_),(9,_),(14,_),(15,_)]) (fun k : Nat=>[(16,.int .i64 (k : Nat))]) (fun k Hl own=>k ≤ xm.length ∧ Le H Hl ∧ ∃ oy,oy ++ rest = own ∧ J (sA (mtI ms) i ++ qN i (xm.map fun b=>if b then (1 : Int) else -1) k) Hl oy) (fun k=>xm.length - k) 0 (zC) (jP _) ⟨eS _,hH,oy,rfl,by rw [qN,gH];exact hJ⟩ ?_)))))))))));clear hJ;rintro k Hl _ aEw ⟨hk,hH,oy,rfl,hJ⟩;replace hd:=hd.mono aEw;replace hle:=hle.trans aEw;refine zS (zL rfl (zN (cO (fC rfl (fun aDq=>?_) (fun aDq=>?_)))))
  ·refine eF (bO (cO (dK (zS (zM rfl (eV rfl hd rfl iZ oA zO rfl ?_))))));rintro ebk eok _ xk hxk rfl hpk;refine eH rfl hpk oA rfl rfl rfl (zG rfl (zG rfl (zN (zS (zM rfl (zM rfl (iM rfl rfl rfl rfl (fun g8=>?_) (fun g8=>?_))))))))
   ·have g8p:=g8;have hnd:=g8;refine zM rfl ?_;refine zT rfl g8 ?_;refine zM rfl ?_;refine zT rfl g8 ?_;refine zM rfl ?_;refine zT rfl g8 ?_;obtain ⟨post,hpost⟩:=aJ7 (aOl hxm) (x:=1) (by rw [aKz hxk,hnd];rfl) zD;refine qQ [] (nQ:=oy) (rst:=rest) rfl trivial rfl (hy _ _ _ hpost _ oy hH hJ) rfl rfl ?_;rintro u HY oy2 yG hR;rcases hR with ⟨rfl,hJ2⟩ | ⟨rfl,hK2⟩
    ·have hH2:=hH.trans yG;rw [eM,← aHt (x:=1) (by rw [aKz hxk,hnd];rfl) zD] at hJ2;refine zT rfl g8 (lB rfl rfl (zV g8 rfl (zN (gD rfl rfl (eF (fY (bO (dL (fR rfl rfl (dT zO zO) rfl (zM rfl (bF (eW (k + 1) zO (iL (pK rfl zO) (zC)) (by first | exact ⟨zO,hH2,oy2,rfl,hJ2⟩ | exact ⟨zO,hH,oy,rfl,by rw [aGn (x:=-1) (by rw [aKz hxk,hnd];rfl) zD];exact hJ⟩) zA (by first | exact aEw.trans yG | exact aEw)))))))))))))
    have hH2:=hH.trans yG;refine zT rfl g8 (lB rfl rfl (zV g8 rfl (zN (jB rfl rfl (eP (iS (fD (jR (iS (iS (fD (jR (iS ?_)))))))))))));exact ⟨rfl,_,oy2,rfl,zA,eQ.mk ⟨rfl,[],oy2,rfl,.inr hK2⟩⟩
   have g8p:=g8;have hnd:=g8;refine zU rfl g8 (zU rfl g8 (zU rfl g8 (zU rfl g8 (zW g8 rfl (zN (gD rfl rfl (eF (fY (bO (dL (fR rfl rfl (dT zO zO) rfl (zM rfl (bF (eW (k + 1) zO (iL (pK rfl zO) (zC)) (by first | exact ⟨zO,hH2,oy2,rfl,hJ2⟩ | exact ⟨zO,hH,oy,rfl,by rw [aGn (x:=-1) (by rw [aKz hxk,hnd];rfl) zD];exact hJ⟩) zA (by first | exact aEw.trans yG | exact aEw)))))))))))))))
  obtain rfl : k = xm.length:=zO
  refine gI (fE (eY (fU rfl (fY (bO (dL (fR rfl rfl (dT zO zO) rfl (zM rfl (bF (eW (i + 1) zO (iL (pK rfl zO) (zC)) (⟨zO,hH,oy,rfl,by rw [aFj (aOl hxm),fB];exact hJ⟩) zA hle))))))))))
 obtain rfl : i = ms.length:=zO
 rw [show sA (mtI ms) ms.length = hdL ms by unfold hdL jW;rw [aSq]] at hJ;refine gI (fE (eY (fU rfl ?_)));exact ⟨rfl,_,oy,rfl,zA,eQ.mk ⟨rfl,[],oy,rfl,.inl hJ⟩⟩
end Go.Proofs

namespace Go.Proofs
open Go.XL
theorem bf_26 : vS Tryz.prog 26 = some [(0,1),(1,1)]:=zK
theorem bk_26 : vV Tryz.prog 26 = true:=zK
set_option maxRecDepth 100000 in
set_option maxHeartbeats 1600000 in
theorem aLx (a : Option Addr) (c : Nat) (m : Mk) (b : Option Addr) (d : Nat) (ms : Tb) (H : Hp) (hs : SlR mkR H a c m) (ht : SlR tbR H b d ms) (hok : oF m) (hms : ms.length ≤ 1000000 ∧ ∀ r ∈ ms,r.length ≤ 1000000) : iP Tryz.prog 22 #[.slice a m.length c,.slice b ms.length d] H [] (eQ (fun v _ _=>v = .int .i64 (if nK m ms then 0 else 390))):=by
 refine iP.intro (args:=[.slice a m.length c,.slice b ms.length d]) Tryz.func22 rfl rfl Tryz.ntmps22 rfl rfl rfl fun G rest=>?_;have hl:=hok.1;have hwd:=hok.2.1;refine zS ?_;refine zG rfl ?_;refine zN ?_;refine zS ?_;refine mC aJg aKe nV rfl rfl rfl ?_;refine fS rfl bK gK rV rfl rfl rfl (fun b12=>?_);refine fT 0 rfl rfl rfl (fun HP12 oP12 hleP12 hbP12 hoP12=>?_);have oJ:=SlR.lit (ρ:=(gV .i64)) (l:=[(1 : Int)]) hbP12 hoP12 (iH.one1 rfl);replace hs:=hs.mono hleP12;replace ht:=ht.mono hleP12;refine mC aJg aKe nV rfl rfl rfl ?_;refine mC aG0 aGr jD rfl rfl rfl ?_;refine fI jD rfl (fun b5=>?_);refine eG 0 rfl rfl rfl rfl fG rfl rfl rfl rfl rfl ?_;refine zN ?_;refine zS ?_;refine mC bk_26 bf_26 aCi rfl rfl rfl ?_;refine fI aCi rfl (fun b6=>?_);refine eG 0 rfl rfl rfl rfl oR rfl rfl rfl rfl rfl ?_;refine zN ?_;refine cO ?_;refine zS ?_;refine zM rfl ?_;refine eD (ts:=#[]) rfl cH rfl ?_;refine aF3 rfl rfl rfl ?_;refine zM rfl ?_;refine zN ?_;refine dK ?_;refine eU [19,0,1,5,6,18] rfl ?_;refine lR 0 ?_;refine gO (base:=[(0,_),(1,_),(5,_),(6,_),(18,_)]) (fun ζ : Nat × (Nat × SObj) × (Option Addr) × (Nat)=>[(19,.int .i64 (ζ.1 : Nat))]) (fun ζ Hl own=>ζ.1 ≤ m.length ∧ ζ.2.1 :: (b6,.cells 26 [.slice ζ.2.2.1 (zq ζ.1).length ζ.2.2.2,.slice none 0 0]) :: (b5,.cells 56 [.bool false,.slice none 0 0,.bool false,.slice (some ⟨b12,0,none⟩) 1 1]) :: rest = own ∧ (XL.Acc jX 56 Hl ζ.2.1 ζ.2.2.1 ζ.2.2.2 (zq (ζ.1)))) (fun ζ=>m.length - ζ.1) (0,(0,.nothing),none,0) (zC) zB ⟨eS _,rfl,Acc.nil _ _ _ _⟩ ?_;rintro ⟨k,pq,aq,cq⟩ Hl0 _ gB ⟨hkk,rfl,hq⟩;replace hs:=hs.mono gB;replace ht:=ht.mono gB;replace oJ:=oJ.mono gB;try dsimp only at hkk hq ⊢
 refine zS (zL rfl (zN (cO (fC rfl (fun nY=>?_) (fun nY=>?_)))))
 ·refine eF (bO (cO (dK (dL (bJ rfl pT rfl (bT 1 rfl rfl iG rfl rfl rfl (bT 2 rfl rfl fG rfl rfl rfl (fS rfl cJ fG jD rfl rfl rfl (fun b24=>fT 0 rfl rfl rfl (fun HP24 oP24 hleP24 hbP24 hoP24=>?_))))))))));replace oJ:=oJ.mono hleP24;replace hq:=hq.mono hleP24;replace gB:=gB.trans hleP24;have tF:=SlR.lit (ρ:=jX) (l:=[(0 : Rat)]) hbP24 hoP24 (iH.one1 (aKi oJ));refine iV 0 rfl rfl hq rfl rfl tF rfl cJ fG jD rfl tY (by rw [aKm];simp;omega) rfl (fun p25 a25 c25 hacc25=>bJ rfl pT rfl (eG 1 rfl rfl rfl rfl iG rfl rfl rfl rfl rfl (bF (fY (bO (dL (fR rfl rfl (dT zO zO) rfl (zM rfl (bF ?_)))))))));rw [aR3] at hacc25 ⊢;refine eW ((k + 1,p25,a25,c25)) (by show m.length - (k + 1) < m.length - k;omega) (zC) (⟨by show k + 1 ≤ m.length;omega,rfl,hacc25⟩) zB (gB)
 obtain rfl : k = m.length:=zO
 refine gI (fE (eY (fU rfl (bO (cO (zS (zM rfl (eD (ts:=#[]) rfl cH rfl (zY rfl (zN (fC rfl (fun c1_3=>?_) (fun c1_3=>?_))))))))))))
 ·refine zS (zM rfl (eV (i:=0) rfl hs rfl cH gE zO rfl ?_));rintro eb32 eo32 _ x32 hx32 ⟨ax32,cx32,rfl,yH⟩ aHa;have hw32:=(hok.at hx32).1;refine eH rfl (by assumption) gE rfl rfl rfl (eD (ts:=#[]) rfl bK rfl (aF3 rfl rfl rfl (zM rfl (zN (dK (eU [36,0,1,5,6,35] rfl (lR 0 (gO (base:=[(0,_),(1,_),(5,_),(6,_),(35,_)]) (fun ζ : Nat × (Nat × SObj) × (Option Addr) × (Nat)=>[(36,.int .i64 (ζ.1 : Nat))]) (fun ζ Hl own=>ζ.1 ≤ x32.length ∧ ζ.2.1 :: pq :: (b6,.cells 26 [.slice aq (zq m.length).length cq,.slice ζ.2.2.1 (zq ζ.1).length ζ.2.2.2]) :: (b5,.cells 56 [.bool false,.slice none 0 0,.bool false,.slice (some ⟨b12,0,none⟩) 1 1]) :: rest = own ∧ (XL.Acc jX 56 Hl ζ.2.1 ζ.2.2.1 ζ.2.2.2 (zq (ζ.1)))) (fun ζ=>x32.length - ζ.1) (0,(0,.nothing),none,0) (zC) zB ⟨eS _,rfl,Acc.nil _ _ _ _⟩ ?_))))))));rintro ⟨j,ps,as_,cs⟩ Hl1 _ iT ⟨hkj,rfl,hps⟩;replace hs:=hs.mono iT;replace ht:=ht.mono iT;replace oJ:=oJ.mono iT;replace hq:=hq.mono iT;replace aHa:=aHa.mono iT;replace yH:=yH.mono iT;try dsimp only at hkj hps ⊢
  refine zS (zL rfl (zN (cO (fC rfl (fun c2_5=>?_) (fun c2_5=>?_)))))
  ·refine eF (bO (cO (dK (dL (bJ rfl nU rfl (bT 2 rfl rfl iG rfl rfl rfl (bT 3 rfl rfl fG rfl rfl rfl (fS rfl cJ fG jD rfl rfl rfl (fun b41=>fT 0 rfl rfl rfl (fun HP41 oP41 hleP41 hbP41 hoP41=>?_))))))))));replace oJ:=oJ.mono hleP41;replace hps:=hps.mono hleP41;replace iT:=iT.trans hleP41;have hsl41:=SlR.lit (ρ:=jX) (l:=[(0 : Rat)]) hbP41 hoP41 (iH.one1 (aKi oJ));refine iV 0 rfl rfl hps rfl rfl hsl41 rfl cJ fG jD rfl tY (by rw [aKm];simp;omega) rfl (fun p42 a42 c42 hacc42=>bJ rfl nU rfl (eG 2 rfl rfl rfl rfl iG rfl rfl rfl rfl rfl (bF (fY (bO (dL (fR rfl rfl (dT zO zO) rfl (zM rfl (bF ?_)))))))));rw [aR3] at hacc42 ⊢;refine eW ((j + 1,p42,a42,c42)) (by show x32.length - (j + 1) < x32.length - j;omega) (zC) (⟨by show j + 1 ≤ x32.length;omega,rfl,hacc42⟩) zB (iT)
  obtain rfl : j = x32.length:=zO
  rw [hw32] at hps ⊢;refine gI (fE (eY (fU rfl (bO (cO (zS (zM rfl (iO 0 rfl hps rfl (fun HPS hlePS hsS=>?_)))))))));replace hs:=hs.mono hlePS;replace ht:=ht.mono hlePS;replace oJ:=oJ.mono hlePS;replace hq:=hq.mono hlePS;replace aHa:=aHa.mono hlePS;replace yH:=yH.mono hlePS;refine iO 0 rfl hq rfl (fun HPQ hlePQ hsQ=>?_);replace hs:=hs.mono hlePQ;replace ht:=ht.mono hlePQ;replace oJ:=oJ.mono hlePQ;replace aHa:=aHa.mono hlePQ;replace yH:=yH.mono hlePQ;replace hsS:=hsS.mono hlePQ;have hcall:=aHe m _ _ (zq m.length) (zq (fO m)) _ _ _ _ _ hs hsQ hsS hok (aUj hok) (aSs hok);refine bT 0 rfl rfl oR rfl rfl rfl (kK [] (nQ:=[]) (rst:=_) rfl hcall rfl rfl ?_);rintro _ HN own2 kI ⟨rfl,okv,rfl,_⟩;replace hs:=hs.mono kI;replace ht:=ht.mono kI;replace oJ:=oJ.mono kI;replace aHa:=aHa.mono kI;replace yH:=yH.mono kI;replace hsS:=hsS.mono kI;replace hsQ:=hsQ.mono kI;refine zM rfl (zX rfl (zX rfl (zG rfl (zG rfl (zN (zS (zM rfl (zJ rfl (zN (gD rfl (aI (fun h=>h rfl)) (eF (bO (cO (zS (zM rfl (eD (ts:=#[]) rfl gP rfl (zM rfl (eD (ts:=#[]) rfl cH rfl (zJ rfl (zN (fC rfl (fun c4_7=>?_) (fun c4_7=>?_))))))))))))))))))))))
  ·refine zS (zG rfl (zN (eP (fD ?_))));refine ⟨rfl,_,[],rfl,zA,eQ.mk ?_⟩;exact congrArg (Value.int .i64) (dG (fun h=>by have:=nK.len h;omega)).symm
  refine eF (bO (cO (zS (zM rfl (eD (ts:=#[]) rfl gP rfl (zM rfl (zN (dK (eU [61,0,59,60] rfl (gO (base:=[(0,_),(59,_),(60,_)]) (fun ζ : Nat=>[(61,.int .i64 (ζ : Nat))]) (fun ζ Hl own=>ζ ≤ ms.length ∧ rest = own ∧ (∀ (i : Nat) (l : List Int) (b : List Bool),i < ζ → m[i]? = some l → ms[i]? = some b → b.length = l.length)) (fun ζ=>ms.length - ζ) 0 (zC) zB ⟨eS _,rfl,fun i l b h=>absurd h zO⟩ ?_))))))))));rintro k Hl2 _ jJ ⟨hkk,rfl,hsm⟩;replace hs:=hs.mono jJ;replace ht:=ht.mono jJ;replace oJ:=oJ.mono jJ;replace aHa:=aHa.mono jJ;replace yH:=yH.mono jJ;replace hsS:=hsS.mono jJ;replace hsQ:=hsQ.mono jJ;try dsimp only at ⊢
  refine zS (zL rfl (zN (cO (fC rfl (fun c5_8=>?_) (fun c5_8=>?_)))))
  ·refine eF (bO (cO (dK (zS (zM rfl (eV rfl ht rfl gP qL zO rfl ?_))))));rintro eb64 eo64 _ x64 hx64 ⟨ax64,cx64,rfl,hd64⟩ hp64;refine eH rfl (by assumption) qL rfl rfl rfl (zG rfl (zG rfl (zN (zS (zM rfl (eD (ts:=#[]) rfl iZ rfl (zM rfl (zM rfl (eV rfl hs rfl cH gE zO rfl ?_)))))))));rintro eb70 eo70 _ x70 hx70 ⟨ax70,cx70,rfl,hd70⟩ hp70;refine eH rfl (by assumption) gE rfl rfl rfl (eD (ts:=#[]) rfl bK rfl (zJ rfl (zN (fC rfl (fun c6_11=>?_) (fun c6_11=>?_)))))
   ·have hlr:=hms.2 x64 (cF hx64);refine zS (zG rfl (zN (eP (iS (fD (jR (iS (fD ?_))))))));refine ⟨rfl,_,[],rfl,zA,eQ.mk ?_⟩;exact congrArg (Value.int .i64) (dG (fun h=>by have:=nK.at h hx70 hx64;omega)).symm
   have hlr:=hms.2 x64 (cF hx64);refine eF (fY (bO (dL (fR rfl rfl (dT zO zO) rfl (zM rfl (bF ?_))))))
   refine eW (k + 1) (by show ms.length - (k + 1) < ms.length - k;omega) (zC) (⟨by show k + 1 ≤ ms.length;omega,rfl,fun i l b h h1 h2=>by
    by_cases e : i = k
    ·subst e;rw [hx70] at h1;rw [hx64] at h2;cases h1;cases h2;omega
    exact hsm i l b zO h1 h2⟩) zB (jJ)
  obtain rfl : k = ms.length:=zO
  refine gI (fE (eY (fU rfl (bO (zS (zG rfl (zN (eP ?_))))))));refine ⟨rfl,_,[],rfl,zA,eQ.mk ?_⟩;exact congrArg (Value.int .i64) (eX (nK.mk zO (fun i l b h1 h2=>hsm i l b (by have:=(bY.1 h2).1;omega) h1 h2))).symm
 refine eF (bO (cO (zS (zM rfl (iO 0 rfl hq rfl (fun HPQ hlePQ hsQ=>?_))))));replace hs:=hs.mono hlePQ;replace ht:=ht.mono hlePQ;replace oJ:=oJ.mono hlePQ;have hm0 : m.length = 0:=zO
 have hw0 : fO m = 0:=sF hm0;have hcall:=aHe m _ _ (zq m.length) (zq (fO m)) _ none _ 0 _ hs hsQ (by rw [hw0];exact SlR.nil0 _ _) hok (aUj hok) (aSs hok);rw [show (zq (fO m)).length = 0 by rw [aKm,hw0]] at hcall;refine bT 0 rfl rfl oR rfl rfl rfl (kK [] (nQ:=[]) (rst:=_) rfl hcall rfl rfl ?_);rintro _ HN own2 kI ⟨rfl,okv,rfl,_⟩;replace hs:=hs.mono kI;replace ht:=ht.mono kI;replace oJ:=oJ.mono kI;replace hsQ:=hsQ.mono kI;refine zM rfl (zX rfl (zX rfl (zG rfl (zG rfl (zN (zS (zM rfl (zJ rfl (zN (gD rfl (aI (fun h=>h rfl)) (eF (bO (cO (zS (zM rfl (eD (ts:=#[]) rfl gP rfl (zM rfl (eD (ts:=#[]) rfl cH rfl (zJ rfl (zN (fC rfl (fun c4_12=>?_) (fun c4_12=>?_))))))))))))))))))))))
 ·refine zS (zG rfl (zN (eP (fD ?_))));refine ⟨rfl,_,[],rfl,zA,eQ.mk ?_⟩;exact congrArg (Value.int .i64) (dG (fun h=>by have:=nK.len h;omega)).symm
 refine eF (bO (cO (zS (zM rfl (eD (ts:=#[]) rfl gP rfl (zM rfl (zN (dK (eU [61,0,59,60] rfl (gO (base:=[(0,_),(59,_),(60,_)]) (fun ζ : Nat=>[(61,.int .i64 (ζ : Nat))]) (fun ζ Hl own=>ζ ≤ ms.length ∧ rest = own ∧ (∀ (i : Nat) (l : List Int) (b : List Bool),i < ζ → m[i]? = some l → ms[i]? = some b → b.length = l.length)) (fun ζ=>ms.length - ζ) 0 (zC) zB ⟨eS _,rfl,fun i l b h=>absurd h zO⟩ ?_))))))))));rintro k Hl2 _ jJ ⟨hkk,rfl,hsm⟩;replace hs:=hs.mono jJ;replace ht:=ht.mono jJ;replace oJ:=oJ.mono jJ;replace hsQ:=hsQ.mono jJ;try dsimp only at ⊢
 refine zS (zL rfl (zN (cO (fC rfl (fun c5_13=>?_) (fun c5_13=>?_)))))
 ·refine eF (bO (cO (dK (zS (zM rfl (eV rfl ht rfl gP qL zO rfl ?_))))));rintro eb64 eo64 _ x64 hx64 ⟨ax64,cx64,rfl,hd64⟩ hp64;refine eH rfl (by assumption) qL rfl rfl rfl (zG rfl (zG rfl (zN (zS (zM rfl (eD (ts:=#[]) rfl iZ rfl (zM rfl (zM rfl (eV rfl hs rfl cH gE zO rfl ?_)))))))));rintro eb70 eo70 _ x70 hx70 ⟨ax70,cx70,rfl,hd70⟩ hp70;refine eH rfl (by assumption) gE rfl rfl rfl (eD (ts:=#[]) rfl bK rfl (zJ rfl (zN (fC rfl (fun c6_16=>?_) (fun c6_16=>?_)))))
  ·have hlr:=hms.2 x64 (cF hx64);refine zS (zG rfl (zN (eP (iS (fD (jR (iS (fD ?_))))))));refine ⟨rfl,_,[],rfl,zA,eQ.mk ?_⟩;exact congrArg (Value.int .i64) (dG (fun h=>by have:=nK.at h hx70 hx64;omega)).symm
  have hlr:=hms.2 x64 (cF hx64);refine eF (fY (bO (dL (fR rfl rfl (dT zO zO) rfl (zM rfl (bF ?_))))))
  refine eW (k + 1) (by show ms.length - (k + 1) < ms.length - k;omega) (zC) (⟨by show k + 1 ≤ ms.length;omega,rfl,fun i l b h h1 h2=>by
   by_cases e : i = k
   ·subst e;rw [hx70] at h1;rw [hx64] at h2;cases h1;cases h2;omega
   exact hsm i l b zO h1 h2⟩) zB (jJ)
 obtain rfl : k = ms.length:=zO
 refine gI (fE (eY (fU rfl (bO (zS (zG rfl (zN (eP ?_))))))));refine ⟨rfl,_,[],rfl,zA,eQ.mk ?_⟩;exact congrArg (Value.int .i64) (eX (nK.mk zO (fun i l b h1 h2=>hsm i l b (by have:=(bY.1 h2).1;omega) h1 h2))).symm
theorem bcheck_ok (a : Option Addr) (c : Nat) (m : Mk) (b : Option Addr) (d : Nat) (ms : Tb) (H : Hp) (hs : SlR mkR H a c m) (ht : SlR tbR H b d ms) (hok : oF m) (hms : ms.length ≤ 1000000 ∧ ∀ r ∈ ms,r.length ≤ 1000000) (h : nK m ms) : iP Tryz.prog 22 #[.slice a m.length c,.slice b ms.length d] H [] (eQ fun v _ _=>v = .int .i64 0):=by
 have:=aLx a c m b d ms H hs ht hok hms;rwa [eX h] at this
theorem bcheck_bad (a : Option Addr) (c : Nat) (m : Mk) (b : Option Addr) (d : Nat) (ms : Tb) (H : Hp) (hs : SlR mkR H a c m) (ht : SlR tbR H b d ms) (hok : oF m) (hms : ms.length ≤ 1000000 ∧ ∀ r ∈ ms,r.length ≤ 1000000) (h : ¬ nK m ms) : iP Tryz.prog 22 #[.slice a m.length c,.slice b ms.length d] H [] (eQ fun v _ _=>v = .int .i64 390):=by
 have:=aLx a c m b d ms H hs ht hok hms;rwa [dG h] at this
end Go.Proofs

namespace Go.Proofs
open Go.XL
theorem aWz : nB Tryz.prog 22 = some [.slice none 0 0]:=zK
theorem yJ (a : Option Addr) (c : Nat) (m : Mk) (b : Option Addr) (d : Nat) (ms : Tb) (H : Hp) (hs : SlR mkR H a c m) (ht : SlR tbR H b d ms) (hok : oF m) (hms : ms.length ≤ 1000000 ∧ ∀ r ∈ ms,r.length ≤ 1000000) (hsh : nK m ms) : iP Tryz.prog 4 #[.slice a m.length c,.slice b ms.length d] H [] (eQ (fun v H2 own=>own = [] ∧ ∃ a2 c2,v = .tuple #[.slice a2 (jA m ms).length c2,.int .i64 0] ∧ SlR mkR H2 a2 c2 (jA m ms))):=by
 refine iP.introC (args:=[.slice a m.length c,.slice b ms.length d]) Tryz.func4 rfl rfl Tryz.ntmps4 rfl rfl rfl fun G rest=>?_;have hl:=hok.1;have hwd:=hok.2.1;refine zS ?_;refine fI aWz rfl (fun b4=>?_);refine zG rfl ?_;refine zN ?_;refine cO ?_;refine zS ?_;refine zM rfl ?_;refine zM rfl ?_;refine fH rfl (bcheck_ok _ _ m _ _ ms _ hs ht hok hms hsh) rfl ?_;refine zG rfl ?_;refine zN ?_;refine zS ?_;refine zM rfl ?_;refine zJ rfl ?_;refine zN ?_;refine gD rfl (aI (fun h=>h rfl)) ?_;refine eF ?_;refine bO ?_;refine cO ?_;refine zS ?_;refine zM rfl ?_;refine eD (ts:=#[]) rfl cH rfl ?_;refine zM rfl ?_;refine zN ?_;refine dK ?_;refine eU [19,1,4,17,18] rfl ?_;refine lR 0 ?_;refine oT (gW _ _ _) ?_;refine gO (base:=[(1,_),(4,_),(17,_),(18,_)]) (fun ζ : Nat × (List (RowO Int)) × (Nat × SObj) × (Option Addr) × (Nat)=>[(19,.int .i64 (ζ.1 : Nat))]) (fun ζ Hl own=>ζ.1 ≤ m.length ∧ (b4,.cells 22 [.slice ζ.2.2.2.1 ζ.2.1.length ζ.2.2.2.2]) :: ζ.2.2.1 :: (ζ.2.1.map RowO.p ++ rest) = own ∧ (XL.Acc XL.rawR 30 Hl ζ.2.2.1 ζ.2.2.2.1 ζ.2.2.2.2 (ζ.2.1.map RowO.raw)) ∧ (RowsO (gV .i64) 3 Hl ζ.2.1) ∧ (ζ.2.1.map RowO.l = m.take (ζ.1))) (fun ζ=>m.length - ζ.1) (0,[],(0,.nothing),none,0) (zC) zB ⟨eS _,rfl,Acc.nil _ _ _ _,RowsO.nil,by simp⟩ ?_;rintro ⟨k,rs,pt,a1,c1⟩ Hl0 _ gB ⟨hkk,rfl,hpt,hro,hrl⟩;replace hs:=hs.mono gB;replace ht:=ht.mono gB;try dsimp only at hkk hpt hro hrl ⊢
 refine zS (zL rfl (zN (cO (fC rfl (fun c1_2=>?_) (fun c1_2=>?_)))))
 ·refine eF (bO (cO (dK (zS (eV rfl hs rfl cH gE zO rfl ?_)))));rintro eb21 eo21 _ x21 hx21 ⟨ax21,cx21,rfl,hd21⟩ hp21;refine eH rfl (by assumption) gE rfl rfl rfl (zG rfl (zN (zS ?_)));have hw21:=(hok.at hx21).1;have hlr : rs.length = k:=by have:=congrArg List.length hrl;simp at this;omega
  refine zM rfl (eD (ts:=#[]) rfl bK rfl (uS (ρ:=gV .i64) (n:=x21.length) 0 rfl rfl bK gK rV rfl aCl zO rfl rfl (fun p25 c25 hc25 hacc25=>zG rfl (zN (zS (zM rfl (zM rfl (XO.copyA 0 rfl rfl rfl hacc25 (by rw [gR];exact hc25) (gR ..).symm hd21 (by rw [gR]) bK gK rfl (fun p26 hp26 hacc26=>?_)))))))));rw [hp26] at hacc26;refine zN (dL (bT 1 rfl rfl pO rfl rfl rfl (zM rfl (fS rfl cH gE aGe rfl rfl rfl (fun b31=>fT 0 rfl rfl rfl (fun HP31 oP31 hleP31 hbP31 hoP31=>?_))))));have hsl31:=SlR.lit (ρ:=XL.rawR) (l:=[(some ⟨p25.1,0,none⟩,x21.length,c25)]) hbP31 hoP31 (iH.one1 rfl);replace hpt:=hpt.mono hleP31;replace hro:=hro.mono hleP31;replace hacc26:=hacc26.mono hleP31;replace gB:=gB.trans hleP31;refine iV 2 rfl rfl hpt (fB ..).symm rfl hsl31 rfl cH gE aGe rfl aVo (by rw [fB];simp only [jL,List.length_nil];omega) rfl (fun p32 a32 c32 hacc32=>jM (gW _ _ _) (jM (List.Perm.cons _ (aJw (r:=(⟨p26,some ⟨p25.1,0,none⟩,c25,x21⟩ : RowO Int)))) ?_));have hlR : ((rs.map RowO.raw) ++ [((some ⟨p25.1,0,none⟩ : Option Addr),x21.length,c25)]).length = (rs ++ [(⟨p26,some ⟨p25.1,0,none⟩,c25,x21⟩ : RowO Int)]).length:=by simp
  refine eG 0 rfl rfl rfl rfl pO rfl rfl rfl rfl rfl (bF (fY (bO (dL (fR rfl rfl (dT zO zO) rfl (zM rfl (bF ?_)))))));rw [hlR];refine eW ((k + 1,rs ++ [(⟨p26,some ⟨p25.1,0,none⟩,c25,x21⟩ : RowO Int)],p32,a32,c32)) (by show m.length - (k + 1) < m.length - k;omega) (zC) (⟨by show k + 1 ≤ m.length;omega,rfl,by rw [List.map_append];exact hacc32,hro.snoc hacc26,by rw [List.map_append,hrl,jK hx21];rfl⟩) zB (gB)
 obtain rfl : k = m.length:=zO
 rw [gF] at hrl;have hlrs : rs.length = m.length:=by have:=congrArg List.length hrl;simpa using this
 refine gI (fE (eY (fU rfl (bO (cO (zS (iO 1 rfl hpt rfl (fun HD bI hsT=>?_))))))));replace hs:=hs.mono bI;replace ht:=ht.mono bI;replace hro:=hro.mono bI;refine zM rfl (eZ rfl (hidden_fn _ _ _ _) rfl ?_);rintro _ HK mE ⟨bH,rfl,hH1⟩;replace hs:=hs.mono mE;replace ht:=ht.mono mE;replace hro:=hro.mono mE;replace hsT:=hsT.mono mE;refine zN (dK (eU [4,35] rfl (qS (enc:=aXs) rfl (hidden_seq _ _ ms _ _ ht (by have:=hsh.len;omega) (fun r hr=>by obtain ⟨i,hi⟩:=List.getElem?_of_mem hr;have h1:=(bY.1 hi).1;have h2:=hsh.len;have h3:=hsh.at (aJ (show i < m.length by omega)) hi;have h4:=(hok.at (aJ (show i < m.length by omega))).2.1;omega) hH1) (fun _=>rfl) rfl rfl (fun pre Hl own=>∃ rs2 : List (RowO Int),(b4,.cells 22 [.slice a1 rs.length c1]) :: (rs2.map RowO.p ++ rest) = own ∧ RowsO (gV .i64) 3 Hl rs2 ∧ rs2.map RowO.l = aEs m pre ∧ rs2.map RowO.raw = rs.map RowO.raw) (fun _ _ _=>False) (⟨rs,rfl,hro,hrl,rfl⟩) (.inl rfl) ?_ ?_ ?_)))
 ·rintro G lp hd1 hd2 hrec pre x post hxs Hl ownL jQ ⟨rs2,rfl,aHc,hrl2,hraw2⟩;have hxm : x ∈ hdL ms:=by rw [hxs];simp
  obtain ⟨lx,hlx0,hjx,hmx0⟩:=aAf hxm;have hxi:=(bY.1 hlx0).1;have hxk:=(bY.1 hjx).1;rw [aSq] at hxi;obtain ⟨bx,hmsx⟩ : ∃ b,ms[x.1.1]? = some b:=⟨_,aJ hxi⟩
  have hxl2 : bx.length = lx.length:=by have:=aOl hmsx;rw [hlx0] at this;rw [eE this,fB]
  have hxm2 : x.1.1 < m.length:=by have:=hsh.len;omega
  have hmslen : ∀ {l : List Int},m[x.1.1]? = some l → ms[x.1.1]? = some bx → l.length = bx.length:=fun h1 h2=>(hsh.at h1 h2).symm;change XC _ _ _ ⟨wO [36,37] [.int .i64 (x.1.1 : Nat),.int .i64 (x.1.2 : Nat)] _,_,_,_⟩;replace hs:=hs.mono jQ;replace ht:=ht.mono jQ;replace hro:=hro.mono jQ;replace hsT:=hsT.mono jQ;replace hH1:=hH1.mono jQ;refine zS ?_;refine zG rfl ?_;refine zN ?_;refine dL ?_;refine zG rfl ?_;refine bF ?_;refine tS ?_;refine dK ?_;refine dL ?_;refine bT 0 rfl rfl pO rfl rfl rfl ?_;refine zM rfl ?_;obtain ⟨⟨rp,ra,rc,rl⟩,hri,hRi⟩:=aOs hrl2 (show x.1.1 < (aEs m pre).length by rw [aJq];omega);simp only at hRi;obtain ⟨lm,hlm,hlw⟩:=aTb hRi;have hlx : rl.length = (lx.length : Nat):=by rw [hlw,← hxl2,hmslen hlm hmsx]
  have hAr:=aHc _ (cF hri);simp only at hAr;have har:=hAr.addr zO;subst har;have hraw:=aOe hri;rw [hraw2] at hraw;simp only at hraw;have hwl : lm.length ≤ 16:=(hok.at hlm).2.1;obtain ⟨oth,hpE1,hpE2⟩:=aH2 hri rest;refine eV (by rw [fB];rfl) hsT rfl cH gE (by rw [fB];omega) rfl ?_;rintro eb40 eo40 _ x40 aHb rfl hp40;obtain rfl:=eE (hraw.symm.trans aHb);refine eH rfl (by assumption) gE rfl rfl rfl (zM rfl (fK rfl rfl bK gK zO (by first | omega | (dsimp only;omega)) rfl (jM (aK6 (hs:=[_]) hpE1) (lH 0 rfl rfl rfl hAr (k:=((x.1.2 : Nat) : Int).toNat) (u:=-1) (by rw [eN];omega) rfl rfl gK rfl (fun prN hRN=>?_)))));rw [eN] at hRN;obtain ⟨rs3,aEx⟩ : ∃ r,r = rs2.set x.1.1 (⟨prN,some ⟨rp.1,0,none⟩,rc,rl.set x.1.2 (-1)⟩ : RowO Int):=⟨_,rfl⟩
  have hro3:=RowsO.set aHc x.1.1 (r:=(⟨prN,some ⟨rp.1,0,none⟩,rc,rl.set x.1.2 (-1)⟩ : RowO Int)) hRN;rw [← aEx] at hro3;have hrl3 : rs3.map RowO.l = aEs m (pre ++ [x]):=by rw [aEx,List.map_set,hrl2,hidW_snoc,jE hRi]
  have hraw3 : rs3.map RowO.raw = rs.map RowO.raw:=by rw [aEx,aDu (r:=⟨rp,some ⟨rp.1,0,none⟩,rc,rl⟩) (by simp [RowO.raw]) hri,hraw2]
  refine jM (aHz (hs:=[_]) (hpE2 (⟨prN,some ⟨rp.1,0,none⟩,rc,rl.set x.1.2 (-1)⟩ : RowO Int))) ?_;rw [← aEx];refine bF (fY ?_);refine ⟨rfl,((b4,.cells 22 [.slice a1 rs.length c1]) :: (rs3.map RowO.p ++ rest)),zA,?_⟩;exact ⟨_,rfl,hro3,hrl3,hraw3⟩
 ·rintro Hl ownL jQ ⟨rs2,rfl,aHc,hrl2,hraw2⟩;replace hsT:=hsT.mono jQ;refine fY (bO (zS (jM (List.perm_append_comm_assoc [_] _ _) (XO.publishR aHc (fun HR mQ hsR=>?_)))));change XO _ _ _ _ ⟨_,_,_,(b4,.cells 22 [.slice a1 rs.length c1]) :: rest⟩;replace hsT:=hsT.mono mQ;have hlrs2 : rs.length = (jA m ms).length:=by unfold jA;rw [aJq];omega
  have uO : SlR mkR HR a1 c1 (jA m ms):=by rw [show jA m ms = rs2.map RowO.l from hrl2.symm];exact SlR.ofRaw (by rw [hraw2];exact hsT) (fun r hr=>hsR r hr)
  rw [hlrs2];refine bT 0 rfl rfl pO rfl rfl rfl (eG 0 rfl rfl rfl rfl pO rfl rfl rfl rfl rfl (zG rfl (zN (eP ?_))));refine ⟨rfl,_,[],(fN 0 rfl rfl pO rfl rfl (mM rfl iD)),zA,eQ.mk ?_⟩;exact ⟨rfl,_,_,rfl,uO⟩
 rintro c Hl ownL jQ hK;exact hK.elim
theorem Hide_bad (a : Option Addr) (c : Nat) (m : Mk) (b : Option Addr) (d : Nat) (ms : Tb) (H : Hp) (hs : SlR mkR H a c m) (ht : SlR tbR H b d ms) (hok : oF m) (hms : ms.length ≤ 1000000 ∧ ∀ r ∈ ms,r.length ≤ 1000000) (hsh : ¬ nK m ms) : iP Tryz.prog 4 #[.slice a m.length c,.slice b ms.length d] H [] (eQ (fun v H2 own=>v = .tuple #[.slice none 0 0,.int .i64 390])):=by
 refine iP.introC (args:=[.slice a m.length c,.slice b ms.length d]) Tryz.func4 rfl rfl Tryz.ntmps4 rfl rfl rfl fun G rest=>?_;refine zS ?_;refine fI aWz rfl (fun b4=>?_);refine zG rfl ?_;refine zN ?_;refine cO ?_;refine zS ?_;refine zM rfl ?_;refine zM rfl ?_;refine fH rfl (bcheck_bad _ _ m _ _ ms _ hs ht hok hms hsh) rfl ?_;refine zG rfl ?_;refine zN ?_;refine zS ?_;refine zM rfl ?_;refine zJ rfl ?_;refine zN ?_;refine jB rfl (bG zD) ?_;refine zS ?_;refine zM rfl ?_;refine eG 0 rfl rfl rfl rfl pO rfl rfl rfl rfl rfl ?_;refine zG rfl ?_;refine zN ?_;refine eP ?_;refine fD ?_;refine ⟨rfl,_,[],(fN 0 rfl rfl pO rfl rfl (mM rfl iD)),zA,eQ.mk ?_⟩;rfl
end Go.Proofs

namespace Go.Proofs
open Go.XL
theorem aRu (a : Option Addr) (c : Nat) (m : Mk) (b : Option Addr) (d : Nat) (ms : Tb) (t : Int) (H : Hp) (hs : SlR mkR H a c m) (ht : SlR tbR H b d ms) (hok : oF m) (hms : ms.length ≤ 1000000 ∧ ∀ r ∈ ms,r.length ≤ 1000000) (hsh : nK m ms) (htt : 0 ≤ t ∧ t ≤ 3) (hx : oF (jA m ms)) (hck : qV (rL (jA m ms)) = 0) (hw : ¬ reP (rL (jA m ms)) t) (hf : FitOk (jA m ms)) : iP Tryz.prog 8 #[.slice a m.length c,.slice b ms.length d,.int .i64 t] H [] (eQ (fun v H2 own=>∃ a1 c1 a2 c2,v = .tuple #[.agg ⟨[.slice a1 (rA (jA m ms) (jV (jA m ms))).length c1,.slice a2 (jV (jA m ms)).length c2]⟩,.int .i64 0] ∧ SlR jX H2 a1 c1 (rA (jA m ms) (jV (jA m ms))) ∧ SlR jX H2 a2 c2 (jV (jA m ms)))):=by
 refine iP.introC (args:=[.slice a m.length c,.slice b ms.length d,.int .i64 t]) Tryz.func8 rfl rfl Tryz.ntmps8 rfl rfl rfl fun G rest=>?_;refine zS ?_;refine fI aCi rfl (fun b6=>?_);refine zG rfl ?_;refine zN ?_;refine zS ?_;refine zM rfl ?_;refine zM rfl ?_;refine kK [] (nQ:=[]) (rst:=_) rfl (yJ _ _ m _ _ ms _ hs ht hok hms hsh) rfl rfl ?_;rintro _ HH own2 aCd ⟨rfl,aX,cX,rfl,hX⟩;refine zM rfl ?_;refine zX rfl ?_;refine zX rfl ?_;refine zG rfl ?_;refine zG rfl ?_;refine zN ?_;refine cO ?_;refine zS ?_;refine zM rfl ?_;refine zJ rfl ?_;refine zN ?_;refine gD rfl (aI (fun h=>h rfl)) ?_;refine eF ?_;refine bO ?_;refine zS ?_;refine zM rfl ?_;refine eZ rfl (aHj _ _ (jA m ms) _ hX hx) rfl ?_;rintro _ HM sP ⟨aG,cG,rfl,hG⟩;replace hX:=hX.mono sP;refine zM rfl ?_;have hre : reE (rL (jA m ms)) t = 0:=by unfold reE;rw [dG (by rw [hck];decide),dG zO]
 refine eZ rfl (wP _ _ (rL (jA m ms)) _ hG (by rw [mY];have:=hx.1;omega) t zO) rfl ?_;rintro _ HR mQ ⟨aR,cR,hR,rfl⟩;rw [hre];replace hX:=hX.mono mQ;refine zM rfl (zX rfl (zX rfl (zX rfl (zG rfl (zG rfl (zG rfl (zN (cO (dK (zS (zM rfl (zJ rfl (zG rfl (zN (gD rfl (aI (fun h=>h rfl)) (zS (zM rfl (zG rfl (zN (gD rfl (aI hw) (eF (fY (bO (zS (zM rfl (kK [] (nQ:=[]) (rst:=_) rfl (Fit_fn _ _ (jA m ms) _ hX hx hf.m0 hf.w0 hf.tr hf.ax hf.bx hf.st hf.za hf.qz) rfl rfl ?_))))))))))))))))))))))))));rintro _ HF own2 aCe ⟨rfl,a1,c1,a2,c2,rfl,hFq,hFs⟩;refine zX rfl (zX rfl (eG 0 rfl rfl rfl rfl oR rfl rfl rfl rfl rfl (zG rfl (zN (eP ?_)))));refine ⟨rfl,_,[],(fN 0 rfl rfl oR rfl rfl (mM rfl iD)),zA,eQ.mk ?_⟩;exact ⟨_,_,_,_,rfl,hFq,hFs⟩
theorem bfit_weak (a : Option Addr) (c : Nat) (m : Mk) (b : Option Addr) (d : Nat) (ms : Tb) (t : Int) (H : Hp) (hs : SlR mkR H a c m) (ht : SlR tbR H b d ms) (hok : oF m) (hms : ms.length ≤ 1000000 ∧ ∀ r ∈ ms,r.length ≤ 1000000) (hsh : nK m ms) (htt : 0 ≤ t ∧ t ≤ 3) (hx : oF (jA m ms)) (hck : qV (rL (jA m ms)) = 0) (hw : reP (rL (jA m ms)) t) : iP Tryz.prog 8 #[.slice a m.length c,.slice b ms.length d,.int .i64 t] H [] (eQ (fun v H2 own=>v = .tuple #[.agg ⟨[.slice none 0 0,.slice none 0 0]⟩,.int .i64 371])):=by
 refine iP.introC (args:=[.slice a m.length c,.slice b ms.length d,.int .i64 t]) Tryz.func8 rfl rfl Tryz.ntmps8 rfl rfl rfl fun G rest=>?_;refine zS ?_;refine fI aCi rfl (fun b6=>?_);refine zG rfl ?_;refine zN ?_;refine zS ?_;refine zM rfl ?_;refine zM rfl ?_;refine kK [] (nQ:=[]) (rst:=_) rfl (yJ _ _ m _ _ ms _ hs ht hok hms hsh) rfl rfl ?_;rintro _ HH own2 aCd ⟨rfl,aX,cX,rfl,hX⟩;refine zM rfl ?_;refine zX rfl ?_;refine zX rfl ?_;refine zG rfl ?_;refine zG rfl ?_;refine zN ?_;refine cO ?_;refine zS ?_;refine zM rfl ?_;refine zJ rfl ?_;refine zN ?_;refine gD rfl (aI (fun h=>h rfl)) ?_;refine eF ?_;refine bO ?_;refine zS ?_;refine zM rfl ?_;refine eZ rfl (aHj _ _ (jA m ms) _ hX hx) rfl ?_;rintro _ HM sP ⟨aG,cG,rfl,hG⟩;refine zM rfl ?_;have hre : reE (rL (jA m ms)) t = 0:=by unfold reE;rw [dG (by rw [hck];decide),dG zO]
 refine eZ rfl (wP _ _ (rL (jA m ms)) _ hG (by rw [mY];have:=hx.1;omega) t zO) rfl ?_;rintro _ HR mQ ⟨aR,cR,hR,rfl⟩;rw [hre];refine zM rfl (zX rfl (zX rfl (zX rfl (zG rfl (zG rfl (zG rfl (zN (cO (dK (zS (zM rfl (zJ rfl (zG rfl (zN (gD rfl (aI (fun h=>h rfl)) (zS (zM rfl (zG rfl (zN (jB rfl (bG hw) (zS (bT 0 rfl rfl oR rfl rfl rfl (eG 0 rfl rfl rfl rfl oR rfl rfl rfl rfl rfl (zG rfl (zN (eP (iS (fD ?_))))))))))))))))))))))))))));refine ⟨rfl,_,[],(fN 0 rfl rfl oR rfl rfl (mM rfl iD)),zA,eQ.mk ?_⟩;rfl
theorem aL4 (a : Option Addr) (c : Nat) (m : Mk) (b : Option Addr) (d : Nat) (ms : Tb) (t : Int) (H : Hp) (hs : SlR mkR H a c m) (ht : SlR tbR H b d ms) (hok : oF m) (hms : ms.length ≤ 1000000 ∧ ∀ r ∈ ms,r.length ≤ 1000000) (hsh : nK m ms) (htt : 0 ≤ t ∧ t ≤ 3) (hx : oF (jA m ms)) (hck : qV (rL (jA m ms)) = 0) (hw : ¬ reP (rL (jA m ms)) t) (h0 : ¬ (0 < (jA m ms).length ∧ 0 < fO (jA m ms))) : iP Tryz.prog 8 #[.slice a m.length c,.slice b ms.length d,.int .i64 t] H [] (eQ (fun v H2 own=>v = .tuple #[.agg ⟨[.slice none 0 0,.slice none 0 0]⟩,.int .i64 371])):=by
 refine iP.introC (args:=[.slice a m.length c,.slice b ms.length d,.int .i64 t]) Tryz.func8 rfl rfl Tryz.ntmps8 rfl rfl rfl fun G rest=>?_;refine zS ?_;refine fI aCi rfl (fun b6=>?_);refine zG rfl ?_;refine zN ?_;refine zS ?_;refine zM rfl ?_;refine zM rfl ?_;refine kK [] (nQ:=[]) (rst:=_) rfl (yJ _ _ m _ _ ms _ hs ht hok hms hsh) rfl rfl ?_;rintro _ HH own2 aCd ⟨rfl,aX,cX,rfl,hX⟩;refine zM rfl ?_;refine zX rfl ?_;refine zX rfl ?_;refine zG rfl ?_;refine zG rfl ?_;refine zN ?_;refine cO ?_;refine zS ?_;refine zM rfl ?_;refine zJ rfl ?_;refine zN ?_;refine gD rfl (aI (fun h=>h rfl)) ?_;refine eF ?_;refine bO ?_;refine zS ?_;refine zM rfl ?_;refine eZ rfl (aHj _ _ (jA m ms) _ hX hx) rfl ?_;rintro _ HM sP ⟨aG,cG,rfl,hG⟩;replace hX:=hX.mono sP;refine zM rfl ?_;have hre : reE (rL (jA m ms)) t = 0:=by unfold reE;rw [dG (by rw [hck];decide),dG zO]
 refine eZ rfl (wP _ _ (rL (jA m ms)) _ hG (by rw [mY];have:=hx.1;omega) t zO) rfl ?_;rintro _ HR mQ ⟨aR,cR,hR,rfl⟩;rw [hre];replace hX:=hX.mono mQ;refine zM rfl (zX rfl (zX rfl (zX rfl (zG rfl (zG rfl (zG rfl (zN (cO (dK (zS (zM rfl (zJ rfl (zG rfl (zN (gD rfl (aI (fun h=>h rfl)) (zS (zM rfl (zG rfl (zN (gD rfl (aI hw) (eF (fY (bO (zS (zM rfl (kK [] (nQ:=[]) (rst:=_) rfl (Fit_none _ _ (jA m ms) _ hX hx h0) rfl rfl ?_))))))))))))))))))))))))));rintro _ HF own2 aCe ⟨rfl,rfl⟩;refine zX rfl (zX rfl (eG 0 rfl rfl rfl rfl oR rfl rfl rfl rfl rfl (zG rfl (zN (eP ?_)))));refine ⟨rfl,_,[],(fN 0 rfl rfl oR rfl rfl (mM rfl iD)),zA,eQ.mk ?_⟩;rfl
end Go.Proofs

namespace Go.Proofs
open Go.XL
def vX (S : List Rat) (l : List Int) : Nat → List (Nat × Rat)
 | 0=>[]
 | k + 1=>vX S l k ++ (if l.getD k (-1) ≠ -1 then [(k,((l.getD k (-1) : Int) : Rat) - S.getD k 0)] else [])
def vK (S : List Rat) (l : List Int) : List (Nat × Rat):=vX S l l.length
def aXb (x : Nat × Rat) (v : Value) : List Value:=[.int .i64 (x.1 : Nat),v]
def aUs (x : Nat × Rat) (v : Value) (H : Hp) (o : XL.Own) : Prop:=o = [] ∧ lJ x.2 H v
theorem aQu {S : List Rat} {l : List Int} {k : Nat} {x : Int} {s : Rat} (hx : l[k]? = some x) (hs : S[k]? = some s) (h : x ≠ -1) : vX S l (k + 1) = vX S l k ++ [(k,(x : Rat) - s)]:=by
 rw [vX,jE hx,jE hs,eX h]
theorem aSv {S : List Rat} {l : List Int} {k : Nat} {x : Int} (hx : l[k]? = some x) (h : ¬ x ≠ -1) : vX S l (k + 1) = vX S l k:=by
 rw [vX,jE hx,dG h,gH]
theorem aPu {S : List Rat} {l : List Int} : ∀ {k n : Nat},k ≤ n → ∃ post,vX S l n = vX S l k ++ post
 | k,0,h=>⟨[],by rw [show k = 0 by omega];rfl⟩
 | k,n + 1,h=>by
  by_cases e : k = n + 1
  ·exact ⟨[],by rw [e,gH]⟩
  obtain ⟨p,hp⟩:=aPu (S:=S) (l:=l) (k:=k) (n:=n) zO;rw [vX,hp,eM];exact ⟨_,rfl⟩
theorem cor_split {S : List Rat} {l : List Int} {k : Nat} {x : Int} {s : Rat} (hx : l[k]? = some x) (hs : S[k]? = some s) (h : x ≠ -1) : ∃ post,vK S l = vX S l k ++ (k,(x : Rat) - s) :: post:=by
 have hk:=(bY.1 hx).1;obtain ⟨p,hp⟩:=aPu (S:=S) (l:=l) (k:=k + 1) (n:=l.length) zO;exact ⟨p,by unfold vK;rw [hp,aQu hx hs h,eM];rfl⟩
theorem aOm {S : List Rat} {l : List Int} {p : Nat × Rat} : ∀ {n : Nat},p ∈ vX S l n → p.1 < n ∧ l.getD p.1 (-1) ≠ -1 ∧ p.2 = ((l.getD p.1 (-1) : Int) : Rat) - S.getD p.1 0
 | 0,h=>by cases h
 | n + 1,h=>by
  rw [vX] at h;rcases gM.1 h with h | h
  ·obtain ⟨a,b⟩:=aOm h;exact ⟨zO,b⟩
  split at h
  ·rename_i hx;simp at h;subst h;exact ⟨by simp,hx,rfl⟩
  cases h
theorem aGj {S : List Rat} {l : List Int} : ∀ n,(vX S l n).length ≤ n
 | 0=>gT _
 | n + 1=>by rw [vX,fQ];have:=aGj (S:=S) (l:=l) n;split <;> simp <;> omega
def yD (K : List (Nat × Rat)) : List Rat:=K.map Prod.snd
theorem aQ1 {K : List (Nat × Rat)} {n : Nat} (h : pW (yD K) n) {pre post : List (Nat × Rat)} {x : Nat × Rat} (hx : K = pre ++ x :: post) : mZ (mP (yD pre)) n ∧ mZ x.2 n:=by
 subst hx;refine ⟨?_,h.2 _ (by simp [yD])⟩;have:=h.1 pre.length;rwa [show (yD (pre ++ x :: post)).take pre.length = yD pre by simp [yD,List.take_append]] at this
theorem snd_snoc (pre : List (Nat × Rat)) (x : Nat × Rat) : mP (yD (pre ++ [x])) = mP (yD pre) + x.2:=by simp only [yD,List.map_append,List.map_cons,List.map_nil];exact aB0 _ _
def aIi (S : List Rat) (l : List Int) : Rat:=mP (yD (vK S l)) / (((vK S l).length : Nat) : Int)
def aVu : Raw × Raw:=((false,[]),(false,[]))
def aO6 (n : Nat) (K : List (Nat × Rat)) : List (Raw × Raw):=K.foldl (fun r x=>r.set x.1 (oB x.2)) (List.replicate n aVu)
theorem putM_nil (n : Nat) : aO6 n [] = List.replicate n aVu:=rfl
theorem aMm (n : Nat) (K : List (Nat × Rat)) (x : Nat × Rat) : aO6 n (K ++ [x]) = (aO6 n K).set x.1 (oB x.2):=by simp [aO6,List.foldl_append]
theorem aG4 (n : Nat) (K : List (Nat × Rat)) : (aO6 n K).length = n:=by
 unfold aO6
 suffices h : ∀ r : List (Raw × Raw),(K.foldl (fun r x=>r.set x.1 (oB x.2)) r).length = r.length by rw [h,gR]
 induction K with
 | nil=>intro r;rfl
 | cons p K ih=>intro r;rw [List.foldl_cons,ih,gQ]
def qG (S : List Rat) (l : List Int) : List (Raw × Raw):=aO6 l.length (vK S l)
end Go.Proofs

namespace Go.Proofs
open Go.XL
theorem xU (b : Bool) (y : Int) (hb : b = true) (H : Hp) : iP Tryz.prog 88 #[.bool b,.int .i64 y] H [] (eQ (fun v _ _=>v = .tuple #[])):=by
 refine iP.intro (args:=[.bool b,.int .i64 y]) Tryz.func88 rfl rfl Tryz.ntmps88 rfl rfl rfl fun G rest=>?_;refine zS ?_;refine zM rfl ?_;refine lB rfl rfl ?_;refine zN ?_;refine gD rfl (by rw [hb];rfl) ?_;refine eF ?_;refine ⟨rfl,_,[],rfl,zA,eQ.mk ?_⟩;rfl
theorem get_cells (b1 b2 : Bool) (a1 a2 : Option Addr) (n1 n2 c1 c2 : Nat) (H : Hp) : iP Tryz.prog 49 #[.agg ⟨[.bool b1,.slice a1 n1 c1,.bool b2,.slice a2 n2 c2]⟩,.int .i64 0] H [] (eQ (fun v _ _=>v = .agg ⟨[.bool b1,.slice a1 n1 c1,.bool b2,.slice a2 n2 c2]⟩)):=by
 refine iP.introC (args:=[.agg ⟨[.bool b1,.slice a1 n1 c1,.bool b2,.slice a2 n2 c2]⟩,.int .i64 0]) Tryz.func49 rfl rfl Tryz.ntmps49 rfl rfl rfl fun G rest=>?_;refine zS ?_;refine iW rfl rfl rfl (fun b2=>?_);refine fI jD rfl (fun b4=>?_);refine zN ?_;refine zS ?_;refine zM rfl ?_;refine zZ rfl ?_;refine zM rfl ?_;refine fH rfl (xU _ _ (bG rfl) _) rfl ?_;refine zN ?_;refine zS ?_;refine bT 1 rfl rfl fG rfl rfl rfl ?_;refine eG 0 rfl rfl rfl rfl fG rfl rfl rfl rfl rfl ?_;refine zN ?_;refine eP ?_;refine ⟨rfl,_,[],(fN 0 rfl rfl fG rfl rfl iD),zA,eQ.mk ?_⟩;rfl
theorem aLt {q : Rat} {H : Hp} {u : Value} (hu : lJ q H u) : iP Tryz.prog 49 #[u,.int .i64 0] H [] (eQ fun v _ _=>v = u):=by
 obtain ⟨a1,c1,a2,c2,rfl,h1,h2⟩:=hu;exact get_cells _ _ _ _ _ _ _ _ _
theorem aIn (be : Nat) (x : Int) (H : Hp) : FnD Tryz.prog 86 #[.pointer (some ⟨be,0,none⟩)] (.returning) H [(be,.cells 27 [.int .i64 x])] (fun u _ own=>u = .returning ∧ own = [(be,.cells 27 [.int .i64 x])]):=by
 refine FnD.intro (args:=[.pointer (some ⟨be,0,none⟩)]) Tryz.func86 rfl rfl Tryz.ntmps86 rfl rfl rfl fun G rest=>?_;refine XS.seq ?_;refine XS.recover rfl rfl ?_;refine zG rfl ?_;refine bF ?_;refine XS.of rfl ?_;refine zS ?_;refine zM rfl ?_;refine aBu rfl (Or.inl ⟨rfl,rfl⟩) nD rfl ?_;refine zN ?_;refine gD rfl rfl ?_;refine eF ?_;refine ⟨rfl,_,[(be,.cells 27 [.int .i64 x])],rfl,zA,?_⟩;exact ⟨rfl,rfl⟩
theorem rows_ret (b7 b6 : Nat) (H : Hp) : FnD Tryz.prog 85 #[.pointer (some ⟨b7,0,none⟩),.pointer (some ⟨b6,0,none⟩)] .returning H [(b7,.cells 27 [.int .i64 0])] (fun u _ own=>u = .returning ∧ own = [(b7,.cells 27 [.int .i64 0])]):=by
 refine FnD.intro (args:=[.pointer (some ⟨b7,0,none⟩),.pointer (some ⟨b6,0,none⟩)]) Tryz.func85 rfl rfl Tryz.ntmps85 rfl rfl rfl fun G rest=>?_;refine XS.of rfl ?_;refine zS ?_;refine bT 0 rfl rfl jZ rfl rfl rfl ?_;refine zJ rfl ?_;refine zN ?_;refine gD rfl (aI zD) ?_;refine eF ?_;refine ⟨rfl,_,[_],rfl,zA,?_⟩;exact ⟨rfl,rfl⟩
theorem rows2_ret (b7 b6 : Nat) (H : Hp) : FnD Tryz.prog 96 #[.pointer (some ⟨b7,0,none⟩),.pointer (some ⟨b6,0,none⟩)] .returning H [(b7,.cells 27 [.int .i64 0])] (fun u _ own=>u = .returning ∧ own = [(b7,.cells 27 [.int .i64 0])]):=by
 refine FnD.intro (args:=[.pointer (some ⟨b7,0,none⟩),.pointer (some ⟨b6,0,none⟩)]) Tryz.func96 rfl rfl Tryz.ntmps96 rfl rfl rfl fun G rest=>?_;refine XS.of rfl ?_;refine zS ?_;refine bT 0 rfl rfl jZ rfl rfl rfl ?_;refine zJ rfl ?_;refine zN ?_;refine gD rfl (aI zD) ?_;refine eF ?_;refine ⟨rfl,_,[_],rfl,zA,?_⟩;exact ⟨rfl,rfl⟩
set_option maxRecDepth 100000 in
set_option maxHeartbeats 1600000 in
theorem aM4 (a : Option Addr) (c : Nat) (m : Mk) (S : List Rat) (b : Option Addr) (d : Nat) (H : Hp) (hs : SlR mkR H a c m) (ht : SlR jX H b d S) (hok : oF m) (hm0 : 0 < m.length) (hS : S.length = fO m) (hz : ∀ s ∈ S,mZ s 499) : iP Tryz.prog 87 #[.slice a m.length c,.slice b S.length d] H [] (eQ (fun v _ _=>v = .tuple #[])):=by
 refine iP.intro (args:=[.slice a m.length c,.slice b S.length d]) Tryz.func87 rfl rfl Tryz.ntmps87 rfl rfl rfl fun G rest=>?_;have hl:=hok.1;have hwd:=hok.2.1;refine zS ?_;refine zM rfl ?_;refine eD (ts:=#[]) rfl cH rfl ?_;refine yA rfl ?_;refine zM rfl ?_;refine zT rfl (bG zO) ?_;refine zM rfl ?_;refine zT rfl (bG zO) ?_;refine eD (ts:=#[]) rfl cJ rfl ?_;refine zT rfl (bG zO) ?_;refine yA rfl ?_;refine zV (bG zO) rfl ?_;refine fH rfl (xU _ _ (bG zO) _) rfl ?_;refine zN ?_;refine cO ?_;refine zS ?_;refine zM rfl ?_;refine eD (ts:=#[]) rfl cH rfl ?_;refine zM rfl ?_;refine zN ?_;refine dK ?_;refine eU [23,0,1,21,22] rfl ?_;refine gO (base:=[(0,_),(1,_),(21,_),(22,_)]) (fun ζ : Nat=>[(23,.int .i64 (ζ : Nat))]) (fun ζ Hl own=>ζ ≤ m.length ∧ rest = own) (fun ζ=>m.length - ζ) 0 (zC) zB ⟨eS _,rfl⟩ ?_;rintro k Hl0 _ gB ⟨hkk,rfl⟩;replace hs:=hs.mono gB;replace ht:=ht.mono gB;try dsimp only at ⊢
 refine zS (zL rfl (zN (cO (fC rfl (fun qK=>?_) (fun qK=>?_)))))
 ·refine eF (bO (cO (dK (zS (eV rfl hs rfl cH gE zO rfl ?_)))));rintro eb25 eo25 _ x25 yI ⟨ax25,cx25,rfl,hd25⟩ hp25;refine eH rfl (by assumption) gE rfl rfl rfl (zG rfl (zN (dL (zM rfl (eD (ts:=#[]) rfl bK rfl (yA rfl (fH rfl (xU _ _ (bG (by have h1:=(hok.at yI).2.1;omega)) _) rfl (bF (fY (bO (dL (fR rfl rfl (dT zO zO) rfl (zM rfl (bF (eW (k + 1) (by show m.length - (k + 1) < m.length - k;omega) (zC) (⟨by show k + 1 ≤ m.length;omega,rfl⟩) zB (gB))))))))))))))))
 refine gI (fE (eY (fU rfl (bO (cO (zS (zM rfl (eD (ts:=#[]) rfl cH rfl (zM rfl (zN (dK (eU [34,0,1,32,33] rfl (gO (base:=[(0,_),(1,_),(32,_),(33,_)]) (fun ζ : Nat=>[(34,.int .i64 (ζ : Nat))]) (fun ζ Hl own=>ζ ≤ m.length ∧ rest = own) (fun ζ=>m.length - ζ) 0 (zC) zB ⟨eS _,rfl⟩ ?_)))))))))))));rintro k Hl1 _ iT ⟨hkk,rfl⟩;replace hs:=hs.mono iT;replace ht:=ht.mono iT;try dsimp only at ⊢
 refine zS (zL rfl (zN (cO (fC rfl (fun aDq=>?_) (fun aDq=>?_)))))
 ·refine eF (bO (cO (dK (zS (eV rfl hs rfl cH gE zO rfl ?_)))));rintro eb36 eo36 _ x36 hx36 ⟨ax36,cx36,rfl,hd36⟩ hp36;refine eH rfl (by assumption) gE rfl rfl rfl (zG rfl (zN (zS (zM rfl (eD (ts:=#[]) rfl bK rfl (zM rfl (eV (i:=0) rfl hs rfl cH gE zO rfl ?_)))))));rintro eb41 eo41 _ x41 hx41 ⟨ax41,cx41,rfl,hd41⟩ hp41;refine eH rfl (by assumption) gE rfl rfl rfl (eD (ts:=#[]) rfl bK rfl (zZ rfl (fH rfl (xU _ _ (bG (by have h1:=(hok.at hx36).1;have h2:=(hok.at hx41).1;omega)) _) rfl (zN (zS ?_)))));have hw36:=(hok.at hx36).1;refine zM rfl (eD (ts:=#[]) rfl bK rfl (zM rfl (zN (dK (eU [48,0,1,32,33,34,46,47] rfl (gO (base:=[(0,_),(1,_),(32,_),(33,_),(34,_),(46,_),(47,_)]) (fun ζ : Nat=>[(48,.int .i64 (ζ : Nat))]) (fun ζ Hl own=>ζ ≤ x36.length ∧ rest = own) (fun ζ=>x36.length - ζ) 0 (zC) zB ⟨eS _,rfl⟩ ?_))))));rintro j Hl2 _ jJ ⟨hkj,rfl⟩;replace hs:=hs.mono jJ;replace ht:=ht.mono jJ;replace hp36:=hp36.mono jJ;replace hd36:=hd36.mono jJ;replace hp41:=hp41.mono jJ;replace hd41:=hd41.mono jJ;replace iT:=iT.trans jJ;try dsimp only at ⊢
  refine zS (zL rfl (zN (cO (fC rfl (fun c2_9=>?_) (fun c2_9=>?_)))))
  ·refine eF (bO (cO (dK (zS (eV rfl (by assumption) rfl bK gK zO rfl ?_)))));rintro eb50 eo50 _ x50 hx50 rfl hp50;refine eH rfl (by assumption) gK rfl rfl rfl (zG rfl (zN (dL (zM rfl (yB rfl (zM rfl (zT rfl (bG (by have h1:=(hok.at hx36).2.2 _ (cF hx50);omega)) (zM rfl (zT rfl (bG (by have h1:=(hok.at hx36).2.2 _ (cF hx50);omega)) (yA rfl (zV (bG (by have h1:=(hok.at hx36).2.2 _ (cF hx50);omega)) rfl (fH rfl (xU _ _ (bG (by have h1:=(hok.at hx36).2.2 _ (cF hx50);omega)) _) rfl (bF (fY (bO (dL (fR rfl rfl (dT zO zO) rfl (zM rfl (bF (eW (j + 1) (by show x36.length - (j + 1) < x36.length - j;omega) (zC) (⟨by show j + 1 ≤ x36.length;omega,rfl⟩) zB (jJ)))))))))))))))))))))
  refine gI (fE (eY (fU rfl (fY (bO (dL (fR rfl rfl (dT zO zO) rfl (zM rfl (bF (eW (k + 1) (by show m.length - (k + 1) < m.length - k;omega) (zC) (⟨by show k + 1 ≤ m.length;omega,rfl⟩) zB (iT)))))))))))
 refine gI (fE (eY (fU rfl (bO (zS (zM rfl (eD (ts:=#[]) rfl cH rfl (zZ rfl (zM rfl (zT rfl (aI zO) (zM rfl (zT rfl (aI zO) (eV (i:=0) rfl hs rfl cH gE zO rfl ?_)))))))))))));rintro eb66 eo66 _ x66 hx66 ⟨ax66,cx66,rfl,hd66⟩ hp66;refine zT rfl (aI zO) (eH rfl (by assumption) gE rfl rfl rfl (zT rfl (aI zO) (eD (ts:=#[]) rfl bK rfl (zT rfl (aI zO) (zM rfl (zT rfl (aI zO) (eD (ts:=#[]) rfl cJ rfl (zT rfl (aI zO) (zZ rfl (zW (aI zO) rfl (fH rfl (xU _ _ (bG (by have h1:=(hok.at hx66).1;omega)) _) rfl (zN (zS (zM rfl (eD (ts:=#[]) rfl cJ rfl (zM rfl (zN (dK (eU [76,74,75] rfl (gO (base:=[(74,_),(75,_)]) (fun ζ : Nat=>[(76,.int .i64 (ζ : Nat))]) (fun ζ Hl own=>ζ ≤ S.length ∧ rest = own) (fun ζ=>S.length - ζ) 0 (zC) zB ⟨eS _,rfl⟩ ?_))))))))))))))))))));rintro k Hl3 _ nZ ⟨hkk,rfl⟩;replace hs:=hs.mono nZ;replace ht:=ht.mono nZ;replace hp66:=hp66.mono nZ;replace hd66:=hd66.mono nZ;try dsimp only at ⊢
 refine zS (zL rfl (zN (cO (fC rfl (fun c3_14=>?_) (fun c3_14=>?_)))))
 ·refine eF (bO (cO (dK (zS (eV rfl ht rfl cJ fG zO rfl ?_)))));rintro eb78 eo78 _ x78 hx78 ⟨ax78,cx78,bx78,dx78,rfl,hd78,he78⟩ hp78;refine eH rfl (by assumption) fG rfl rfl rfl (fI jD rfl (fun b11=>eG 0 rfl rfl rfl rfl fG rfl rfl rfl rfl rfl (zN (dL (bT 0 rfl rfl fG rfl rfl rfl (fH rfl (aP5 ⟨_,_,_,_,rfl,hd78,he78⟩ (hz x78 (cF hx78)) zD) rfl (zZ rfl (fH rfl (xU _ _ (bG rfl) _) rfl (bF (fY (bO (dL (fR rfl rfl (dT zO zO) rfl (zM rfl (bF (eW (k + 1) (by show S.length - (k + 1) < S.length - k;omega) (zC) (⟨by show k + 1 ≤ S.length;omega,rfl⟩) zB (nZ)))))))))))))))))
 refine gI (fE (eY (fU rfl ?_)));refine ⟨rfl,_,[],rfl,zA,eQ.mk ?_⟩;rfl
theorem aMx (a b : Option Addr) (n k c d : Nat) (H : Hp) : iP Tryz.prog 51 #[.slice a n c,.slice b k d] H [] (eQ (fun v H2 _=>∃ b2 b3,v = .func (.func 91) #[] #[.pointer (some ⟨b2,0,none⟩),.pointer (some ⟨b3,0,none⟩)] ∧ rC H2 b2 0 [.slice a n c] ∧ rC H2 b3 0 [.slice b k d])):=by
 refine iP.intro (args:=[.slice a n c,.slice b k d]) Tryz.func51 rfl rfl Tryz.ntmps51 rfl rfl rfl fun G rest=>?_;refine zS ?_;refine iW rfl rfl rfl (fun b2=>?_);refine iW rfl rfl rfl (fun b3=>?_);refine zG rfl ?_;refine zN ?_;refine zS ?_;refine fT 1 rfl rfl rfl (fun HK2 oK2 pE aFw aFx=>?_);have qU:=rC.of_is aFw aFx;refine fT 0 rfl rfl rfl (fun HK3 oK3 rH aDr aDs=>?_);have aCo:=rC.of_is aDr aDs;replace qU:=qU.mono rH;refine mA rfl rfl ?_;refine zG rfl ?_;refine zN ?_;refine eP ?_;refine ⟨rfl,_,[],rfl,zA,eQ.mk ?_⟩;exact ⟨_,_,rfl,qU,aCo⟩
theorem aSm (S : List Rat) (l : List Int) (a b : Option Addr) (c d : Nat) (H : Hp) (b1 b2 : Nat) (hs : SlR (gV .i64) H a c l) (ht : SlR jX H b d S) (hl : l.length ≤ S.length ∧ l.length ≤ 16) (hSl : S.length ≤ 1000) (hb : ∀ x ∈ l,-1 ≤ x ∧ x ≤ 1000) (hz : ∀ s ∈ S,mZ s 499) (h1 : rC H b1 0 [.slice a l.length c]) (h2 : rC H b2 0 [.slice b S.length d]) : aWb Tryz.prog 91 [.pointer (some ⟨b1,0,none⟩),.pointer (some ⟨b2,0,none⟩)] H [] aXb aUs (vK S l):=by
 intro yv J K ownY hy hJ0;refine iP.intro (args:=[yv,.pointer (some ⟨b1,0,none⟩),.pointer (some ⟨b2,0,none⟩)]) Tryz.func91 rfl rfl Tryz.ntmps91 rfl rfl rfl fun G rest=>?_;refine zS ?_;refine eH rfl h1 gE rfl rfl rfl ?_;refine eD (ts:=#[]) rfl bK rfl ?_;refine zM rfl ?_;refine zN ?_;refine dK ?_;refine eU [8,0,2,6,7] rfl ?_;refine gO (base:=[(0,_),(2,_),(6,_),(7,_)]) (fun k : Nat=>[(8,.int .i64 (k : Nat))]) (fun k Hl own=>k ≤ l.length ∧ Le H Hl ∧ ∃ oy,oy ++ rest = own ∧ J.Holds (vX S l k) Hl oy) (fun k=>l.length - k) 0 (zC) (jP _) ⟨eS _,Le.refl _,ownY,rfl,hJ0⟩ ?_;rintro k Hl _ hle ⟨hk,hH,oy,rfl,hJ⟩;replace hs:=hs.mono hH;replace ht:=ht.mono hH;replace h1:=h1.mono hH;replace h2:=h2.mono hH;refine zS ?_;refine zL rfl ?_;refine zN ?_;refine cO ?_;refine fC rfl (fun qK=>?_) (fun qK=>?_)
 ·refine eF (bO (cO (dK (zS (zM rfl (eV rfl hs rfl bK gK zO rfl ?_))))));rintro eb11 eo11 _ x11 aEv rfl hp11;refine eH rfl (by assumption) gK rfl rfl rfl (zG rfl (zG rfl (zN (cO ?_))));by_cases hne : x11 ≠ -1
  ·skip
   refine eU [0,2,4,5,6,7,8] rfl ?_;obtain ⟨bEB,oEB,rfl⟩:=ht.addr zO;obtain ⟨_,xB,hxB,⟨axB,cxB,bxB,dxB,rfl,hdB,heB⟩,hpB⟩:=ht.elem (k) zO;have hmk:=hb x11 (cF aEv);apply aAv (fun _=>True) trivial [] zD (fun _ _ _ _=>True) (fun _ _ _ _ _ _ h=>h) 18 [gC _,gC _,gC _,gC _,gC _,gC _,fun v H=>∃ u,v = .tuple #[u,.int .i64 0] ∧ lJ (((x11 : Int) : Rat)) H u,fun v H=>lJ (((x11 : Int) : Rat)) H v,gC _,fun v H=>lJ (((x11 : Int) : Rat)) H v,gC _,gC _,gC _,gC _,fun v H=>∃ u,v = .tuple #[u,.int .i64 0] ∧ lJ (((x11 : Int) : Rat) - xB) H u,fun v H=>lJ (((x11 : Int) : Rat) - xB) H v,gC _,fun v H=>lJ (((x11 : Int) : Rat) - xB) H v] follows zK ⟨aH _,aH _,aH _,aH _,aH _,aH _,fun _ _ _ hle ⟨u,h,k⟩=>⟨u,h,k.mono hle⟩,kG _,aH _,kG _,aH _,aH _,aH _,aH _,fun _ _ _ hle ⟨u,h,k⟩=>⟨u,h,k.mono hle⟩,kG _,aH _,kG _,trivial⟩ zD ?steps4 ?tail4
   case steps4 =>
    refine dO rfl ?_ ?_
    ·intro X ext HD bI _;exact aO rfl (zM rfl zR)
    refine dO rfl ?_ ?_
    ·intro X ext HD bI _;exact fX rfl (aO rfl (zJ rfl zR))
    refine dO rfl ?_ ?_
    ·intro X ext HD bI _;exact fX rfl (aO rfl (zM rfl zR))
    refine dO rfl ?_ ?_
    ·intro X ext HD bI _;exact fX rfl (aO rfl (zT rfl (bG hne) (zM rfl zR)))
    refine dO rfl ?_ ?_
    ·intro X ext HD bI _;exact fX rfl (aO rfl (zT rfl (bG hne) (zM rfl zR)))
    refine dO rfl ?_ ?_
    ·intro X ext HD bI _;exact fX rfl (aO rfl (zT rfl (bG hne) (zM rfl zR)))
    refine dO rfl ?_ ?_
    ·intro X ext HD bI _;refine fX rfl (fX rfl (aO rfl (zT rfl (bG hne) (eZ rfl (aDk x11 1 zO zD zD _) rfl ?_))));rintro _ HN kI ⟨_,rfl,hNC⟩;rw [aIg] at hNC;obtain ⟨aA,cA,bA,dA,rfl,hA,kA⟩:=hNC;exact bF (mU rfl trivial (⟨_,rfl,⟨_,_,_,_,rfl,hA,kA⟩⟩))
    refine dO rfl ?_ ?_
    ·intro X ext HD bI _;refine eR rfl rfl ?_;rintro _ ⟨_,rfl,aA,cA,bA,dA,rfl,hA,kA⟩;exact fX rfl (aO rfl (zT rfl (bG hne) (zX rfl (bF (mU rfl trivial (⟨_,_,_,_,rfl,hA,kA⟩))))))
    refine dO rfl ?_ ?_
    ·intro X ext HD bI _;refine eR rfl rfl ?_;rintro _ ⟨_,rfl,aA,cA,bA,dA,rfl,hA,kA⟩;exact fX rfl (aO rfl (zT rfl (bG hne) (zX rfl zR)))
    refine dO rfl ?_ ?_
    ·intro X ext HD bI _;refine eR rfl rfl ?_;rintro _ ⟨aA,cA,bA,dA,rfl,hA,kA⟩;exact fX rfl (fX rfl (aO rfl (zT rfl (bG hne) (fH rfl (aLt ⟨_,_,_,_,rfl,hA,kA⟩) rfl (bF (mU rfl trivial (⟨_,_,_,_,rfl,hA,kA⟩)))))))
    refine dO rfl ?_ ?_
    ·intro X ext HD bI _;replace h2:=h2.mono bI;exact fX rfl (aO rfl (zT rfl (bG hne) (eH rfl h2 iG rfl rfl rfl zR)))
    refine dO rfl ?_ ?_
    ·intro X ext HD bI _;exact fX rfl (aO rfl (zT rfl (bG hne) (zM rfl zR)))
    refine dO rfl ?_ ?_
    ·intro X ext HD bI _;exact fX rfl (fX rfl (fX rfl (aO rfl (zT rfl (bG hne) (fK rfl rfl cJ fG zO zO rfl zR)))))
    refine dO rfl ?_ ?_
    ·intro X ext HD bI _;replace hs:=hs.mono bI;replace ht:=ht.mono bI;replace h1:=h1.mono bI;replace h2:=h2.mono bI;replace hJ:=hJ.mono bI;replace hp11:=hp11.mono bI;replace hpB:=hpB.mono bI;replace hdB:=hdB.mono bI;replace heB:=heB.mono bI;replace hH:=hH.trans bI;exact fX rfl (fX rfl (aO rfl (zT rfl (bG hne) (eH rfl (by assumption) fG rfl rfl rfl zR))))
    refine dO rfl ?_ ?_
    ·intro X ext HD bI _;replace hdB:=hdB.mono bI;replace heB:=heB.mono bI;refine eR rfl rfl ?_;rintro _ ⟨aA,cA,bA,dA,rfl,hA,kA⟩;refine fX rfl (fX rfl (aO rfl (zT rfl (bG hne) (eZ rfl (aJy ⟨_,_,_,_,rfl,hA,kA⟩ ⟨_,_,_,_,rfl,hdB,heB⟩ (aB4 (eK (sH zO) zD) zD) (hz xB (cF hxB))) rfl ?_))));rintro _ HN kI ⟨_,rfl,⟨aD,cD,bD,dD,rfl,hD,kD⟩⟩;exact bF (mU rfl trivial (⟨_,rfl,⟨_,_,_,_,rfl,hD,kD⟩⟩))
    refine dO rfl ?_ ?_
    ·intro X ext HD bI _;refine eR rfl rfl ?_;rintro _ ⟨_,rfl,aD,cD,bD,dD,rfl,hD,kD⟩;exact fX rfl (aO rfl (zT rfl (bG hne) (zX rfl (bF (mU rfl trivial (⟨_,_,_,_,rfl,hD,kD⟩))))))
    refine dO rfl ?_ ?_
    ·intro X ext HD bI _;refine eR rfl rfl ?_;rintro _ ⟨_,rfl,aD,cD,bD,dD,rfl,hD,kD⟩;exact fX rfl (aO rfl (zT rfl (bG hne) (zX rfl zR)))
    refine dO rfl ?_ ?_
    ·intro X ext HD bI _;refine eR rfl rfl ?_;rintro _ ⟨aD,cD,bD,dD,rfl,hD,kD⟩;exact fX rfl (fX rfl (aO rfl (zT rfl (bG hne) (fH rfl (aLt ⟨_,_,_,_,rfl,hD,kD⟩) rfl (bF (mU rfl trivial (⟨_,_,_,_,rfl,hD,kD⟩)))))))
    exact uE rfl
   case tail4 =>
    intro HD bI _;replace hJ:=hJ.mono bI;replace hH:=hH.trans bI;replace hle:=hle.trans bI;refine fX rfl ?_;refine fX rfl ?_;refine fX rfl ?_;refine fX rfl ?_;refine fX rfl ?_;refine fX rfl ?_;refine eR rfl rfl ?_;rintro _ ⟨_,rfl,aA,cA,bA,dA,rfl,hA,kA⟩;refine eR rfl rfl ?_;rintro _ ⟨aA,cA,bA,dA,rfl,hA,kA⟩;refine fX rfl ?_;refine eR rfl rfl ?_;rintro _ ⟨aA,cA,bA,dA,rfl,hA,kA⟩;refine fX rfl ?_;refine fX rfl ?_;refine fX rfl ?_;refine fX rfl ?_;refine eR rfl rfl ?_;rintro _ ⟨_,rfl,aD,cD,bD,dD,rfl,hD,kD⟩;refine eR rfl rfl ?_;rintro _ ⟨aD,cD,bD,dD,rfl,hD,kD⟩;refine fX rfl ?_;refine eR rfl rfl ?_;rintro _ ⟨aD,cD,bD,dD,rfl,hD,kD⟩;refine aO rfl ?_;refine nT ?_;refine zT rfl (bG hne) ?_;obtain ⟨post,hpost⟩:=cor_split aEv hxB hne;refine qQ [] (nQ:=oy) (rst:=rest) rfl trivial rfl (hy _ _ _ hpost _ _ [] oy hH hJ ⟨rfl,⟨_,_,_,_,rfl,hD,kD⟩⟩) rfl rfl ?_;rintro u HY oy2 yG hR;replace hH:=hH.trans yG;replace hle:=hle.trans yG;rcases hR with ⟨rfl,o3,rfl,hJ2⟩ | ⟨rfl,hK2⟩
    ·rw [← aQu aEv hxB hne] at hJ2;refine zT rfl (bG hne) (lB rfl rfl (zV (bG hne) rfl (zN (gD rfl rfl (eF (fY (bO (dL (fR rfl rfl (dT zO zO) rfl (zM rfl (bF (eW (k + 1) zO (iL (pK rfl zO) (zC)) (by first | exact ⟨zO,hH,oy2,rfl,hJ2⟩ | exact ⟨zO,hH,oy,rfl,by rw [aSv aEv hne];exact hJ⟩) zA hle))))))))))))
    skip
    refine zT rfl (bG hne) (lB rfl rfl (zV (bG hne) rfl (zN (jB rfl rfl (eP (iS (fD (jR (iS ?_)))))))));exact ⟨rfl,_,oy2,rfl,zA,eQ.mk ⟨rfl,[],oy2,rfl,.inr hK2⟩⟩
  skip
  refine eU [0,2,4,5,6,7,8] rfl ?_;apply aAv (fun _=>True) trivial [] zD (fun _ _ _ _=>True) (fun _ _ _ _ _ _ h=>h) 18 [gC _,gC _,gC _,gC _,gC _,gC _,gC _,gC _,gC _,gC _,gC _,gC _,gC _,gC _,gC _,gC _,gC _,gC _] follows zK ⟨aH _,aH _,aH _,aH _,aH _,aH _,aH _,aH _,aH _,aH _,aH _,aH _,aH _,aH _,aH _,aH _,aH _,aH _,trivial⟩ zD ?steps9 ?tail9
  case steps9 =>
   refine dO rfl ?_ ?_
   ·intro X ext HD bI _;exact aO rfl (zM rfl zR)
   refine dO rfl ?_ ?_
   ·intro X ext HD bI _;exact fX rfl (aO rfl (zJ rfl zR))
   refine dO rfl ?_ ?_
   ·intro X ext HD bI _;exact fX rfl (aO rfl (zM rfl zR))
   refine dO rfl ?_ ?_
   ·intro X ext HD bI _;exact fX rfl (aO rfl (zU rfl (aI hne) zR))
   refine dO rfl ?_ ?_
   ·intro X ext HD bI _;exact fX rfl (aO rfl (zU rfl (aI hne) zR))
   refine dO rfl ?_ ?_
   ·intro X ext HD bI _;exact fX rfl (aO rfl (zU rfl (aI hne) zR))
   refine dO rfl ?_ ?_
   ·intro X ext HD bI _;exact fX rfl (fX rfl (aO rfl (zU rfl (aI hne) zR)))
   refine dO rfl ?_ ?_
   ·intro X ext HD bI _;exact fX rfl (fX rfl (aO rfl (zU rfl (aI hne) zR)))
   refine dO rfl ?_ ?_
   ·intro X ext HD bI _;exact fX rfl (fX rfl (aO rfl (zU rfl (aI hne) zR)))
   refine dO rfl ?_ ?_
   ·intro X ext HD bI _;exact fX rfl (fX rfl (fX rfl (aO rfl (zU rfl (aI hne) zR))))
   refine dO rfl ?_ ?_
   ·intro X ext HD bI _;exact fX rfl (aO rfl (zU rfl (aI hne) zR))
   refine dO rfl ?_ ?_
   ·intro X ext HD bI _;exact fX rfl (aO rfl (zU rfl (aI hne) zR))
   refine dO rfl ?_ ?_
   ·intro X ext HD bI _;exact fX rfl (fX rfl (fX rfl (aO rfl (zU rfl (aI hne) zR))))
   refine dO rfl ?_ ?_
   ·intro X ext HD bI _;exact fX rfl (fX rfl (aO rfl (zU rfl (aI hne) zR)))
   refine dO rfl ?_ ?_
   ·intro X ext HD bI _;exact fX rfl (fX rfl (fX rfl (aO rfl (zU rfl (aI hne) zR))))
   refine dO rfl ?_ ?_
   ·intro X ext HD bI _;exact fX rfl (fX rfl (aO rfl (zU rfl (aI hne) zR)))
   refine dO rfl ?_ ?_
   ·intro X ext HD bI _;exact fX rfl (fX rfl (aO rfl (zU rfl (aI hne) zR)))
   refine dO rfl ?_ ?_
   ·intro X ext HD bI _;exact fX rfl (fX rfl (fX rfl (aO rfl (zU rfl (aI hne) zR))))
   exact uE rfl
  case tail9 =>
   intro HD bI _;replace hJ:=hJ.mono bI;replace hH:=hH.trans bI;replace hle:=hle.trans bI;refine fX rfl (fX rfl (fX rfl (fX rfl (fX rfl (fX rfl (fX rfl (fX rfl (fX rfl (fX rfl (fX rfl (fX rfl (fX rfl (fX rfl (fX rfl (fX rfl (fX rfl (fX rfl (aO rfl (nT (zU rfl (aI hne) (zU rfl (aI hne) (zW (aI hne) rfl (zN (gD rfl rfl (eF (fY (bO (dL (fR rfl rfl (dT zO zO) rfl (zM rfl ?_))))))))))))))))))))))))))))));refine bF (eW (k + 1) zO (iL (pK rfl zO) (zC)) (by first | exact ⟨zO,hH,oy2,rfl,hJ2⟩ | exact ⟨zO,hH,oy,rfl,by rw [aSv aEv hne];exact hJ⟩) zA hle)
 obtain rfl : k = l.length:=zO
 refine gI (fE (eY (fU rfl ?_)));exact ⟨rfl,_,oy,rfl,zA,eQ.mk ⟨rfl,[],oy,rfl,.inl hJ⟩⟩
end Go.Proofs

namespace Go.Proofs
open Go.XL
theorem rows_fn (a : Option Addr) (c : Nat) (m : Mk) (S : List Rat) (b : Option Addr) (d : Nat) (H : Hp) (hs : SlR mkR H a c m) (ht : SlR jX H b d S) (hok : oF m) (hm0 : 0 < m.length) (hS : S.length = fO m) (hz : ∀ s ∈ S,mZ s 499) (f : Value) (F : List Int → Rat) (hF : ∀ x ∈ m,∀ ax cx H2,Le H H2 → SlR (gV .i64) H2 ax cx x → wH Tryz.prog f [.slice ax x.length cx] H2 [] (eQ fun u H2 _=>lJ (F x) H2 u)) : iP Tryz.prog 47 #[.slice a m.length c,.slice b S.length d,f] H [] (eQ (fun v H2 own=>own = [] ∧ ∃ a2 c2,v = .tuple #[.slice a2 (m.map F).length c2,.int .i64 0] ∧ SlR jX H2 a2 c2 (m.map F))):=by
 refine iP.introDD (args:=[.slice a m.length c,.slice b S.length d,f]) Tryz.func47 rfl rfl Tryz.ntmps47 rfl rfl rfl fun G rest=>?_;have hl:=hok.1;have hH0 : Le H H:=Le.refl _;refine zS ?_;refine fI tA rfl (fun b6=>?_);refine fI sJ rfl (fun b7=>?_);refine zN ?_;refine zS ?_;refine mA rfl rfl ?_;refine aHi (L:=[_,_]) rfl rfl rfl rfl rfl rfl (fun msD rest hrest=>?_);simp only [fP,gN];refine zN ?_;refine zS ?_;refine aHs (L:=[_,_]) rfl rfl rfl rfl rfl (fun msE rest2 hrest2=>?_);simp only [fP,gN];refine zN ?_;refine zS ?_;refine zM rfl ?_;refine zM rfl ?_;refine fH rfl (aM4 _ _ m S _ _ _ hs ht hok hm0 hS hz) rfl ?_;refine zN ?_;refine cO ?_;refine zS ?_;refine zM rfl ?_;refine eD (ts:=#[]) rfl cH rfl ?_;refine zM rfl ?_;refine zN ?_;refine dK ?_;refine eU [16,2,6,7,14,15] rfl ?_;refine lR 0 ?_;refine gO (base:=[(2,_),(6,_),(7,_),(14,_),(15,_)]) (fun ζ : Nat × (Nat × SObj) × (Option Addr) × (Nat)=>[(16,.int .i64 (ζ.1 : Nat))]) (fun ζ Hl own=>ζ.1 ≤ m.length ∧ ζ.2.1 :: (b7,.cells 27 [.int .i64 0]) :: (b6,.cells 24 [.slice ζ.2.2.1 ((m.map F).take (ζ.1)).length ζ.2.2.2]) :: rest2 = own ∧ (XL.Acc jX 56 Hl ζ.2.1 ζ.2.2.1 ζ.2.2.2 ((m.map F).take (ζ.1)))) (fun ζ=>m.length - ζ.1) (0,(0,.nothing),none,0) (zC) zB ⟨eS _,rfl,Acc.nil _ _ _ _⟩ ?_;rintro ⟨k,pq,aq,cq⟩ Hl0 _ gB ⟨hkk,rfl,hq⟩;replace hs:=hs.mono gB;replace ht:=ht.mono gB;replace hH0:=hH0.trans gB;try dsimp only at hkk hq ⊢
 refine zS (zL rfl (zN (cO (fC rfl (fun qK=>?_) (fun qK=>?_)))))
 ·refine eF (bO (cO (dK (zS (eV rfl hs rfl cH gE zO rfl ?_)))));rintro eb18 eo18 _ x18 hx18 ⟨ax18,cx18,rfl,hd18⟩ hp18;refine eH rfl (by assumption) gE rfl rfl rfl (zG rfl (zN (eU [2,6,7,9,14,15,16] rfl ?_)));apply nX (fun _=>True) trivial 5 [gC _,gC _,gC _,fun v H=>lJ (F x18) H v,slF jX [F x18]] follows zK zK ⟨aH _,aH _,aH _,kG _,oQ _ _,trivial⟩ ?steps4 ?tail4
  case steps4 =>
   refine dH rfl ?_ ?_
   ·intro X HD bI _;exact aF rfl (bT 2 rfl rfl iG rfl rfl rfl (bF (eO trivial rfl)))
   refine dH rfl ?_ ?_
   ·intro X HD bI _;exact aF rfl (zM rfl (bF (eO trivial rfl)))
   refine dH rfl ?_ ?_
   ·intro X HD bI _;exact aF rfl (zM rfl (bF (eO trivial rfl)))
   refine dH rfl ?_ ?_
   ·intro X HD bI _;replace hd18:=hd18.mono bI;replace hH0:=hH0.trans bI;refine gL rfl (gL rfl (aF rfl (XO.callVH rfl trivial rfl (hF x18 (cF hx18) _ _ _ hH0 hd18) rfl ?_)));rintro u HY oy2 yG ⟨aQ,cQ,bQ,dQ,rfl,hQ,kQ⟩;exact bF (eO trivial (⟨_,_,_,_,rfl,hQ,kQ⟩))
   refine dH rfl ?_ ?_
   ·intro X HD bI _;refine eJ rfl rfl ?_;rintro _ ⟨aQ,cQ,bQ,dQ,rfl,hQ,kQ⟩;refine aF rfl (fS rfl cJ fG jD rfl rfl rfl (fun b24=>fT 0 rfl rfl rfl (fun HP24 oP24 hleP24 hbP24 hoP24=>?_)));have tF:=SlR.lit (ρ:=jX) (l:=[F x18]) hbP24 hoP24 (iH.one1 ⟨_,_,_,_,rfl,hQ.mono hleP24,kQ.mono hleP24⟩);exact bF (eO trivial (⟨_,rfl,tF⟩))
   exact jH rfl
  case tail4 =>
   intro HD bI _;replace hq:=hq.mono bI;replace gB:=gB.trans bI;refine gL rfl (gL rfl (gL rfl (eJ rfl rfl ?_)));rintro _ ⟨aQ,cQ,bQ,dQ,rfl,hQ,kQ⟩;refine eJ rfl rfl ?_;rintro _ ⟨bs24,rfl,tF⟩;refine aF rfl (iV 0 rfl rfl hq rfl rfl tF rfl cJ fG jD rfl tY zI rfl (fun p25 a25 c25 hacc25=>eG 2 rfl rfl rfl rfl iG rfl rfl rfl rfl rfl (bF (fY (bO (dL (fR rfl rfl (dT zO zO) rfl (zM rfl (bF ?_)))))))));rw [← jK (show (m.map F)[k]? = some (F x18) by rw [iI,hx18];rfl)] at hacc25 ⊢;refine eW ((k + 1,p25,a25,c25)) (by show m.length - (k + 1) < m.length - k;omega) (zC) (⟨by show k + 1 ≤ m.length;omega,rfl,hacc25⟩) zB (gB)
 obtain rfl : k = m.length:=zO
 rw [show (m.map F).take m.length = m.map F from fJ (by rw [fB];omega)] at hq ⊢;refine gI (fE (eY (fU rfl (bO (zS (iO 0 rfl hq rfl (fun HQZ hleQZ hsQ=>bT 1 rfl rfl iG rfl rfl rfl (eG 1 rfl rfl rfl rfl iG rfl rfl rfl rfl rfl (eG 0 rfl rfl rfl rfl jZ rfl rfl rfl rfl rfl (zN (eP (aBl 0 (L:=[_,_]) rfl hrest2 hrest rfl ((aIn _ _ _).mono (fun u2 HE own2 lF hD=>?_))))))))))))));obtain ⟨h1,h2⟩:=hD;subst h2;replace hsQ:=hsQ.mono lF;refine ⟨by subst h1;rfl,_,[_],_,rfl,mO _,(rows_ret _ _ _).mono (fun u3 HE2 own3 hleE2 hD2=>?_)⟩;obtain ⟨h3,h4⟩:=hD2;subst h4;replace hsQ:=hsQ.mono hleE2;refine ⟨by subst h3;rfl,_,(fN 1 rfl rfl iG rfl rfl (fN 0 rfl rfl jZ rfl rfl iD)),eQ.mk ?_⟩;exact ⟨rfl,_,_,rfl,hsQ⟩
theorem mean_fn (S : List Rat) (l : List Int) (a b : Option Addr) (c d : Nat) (H : Hp) (b1 : Nat) (hs : SlR (gV .i64) H a c l) (ht : SlR jX H b d S) (hl : l.length ≤ S.length ∧ l.length ≤ 16) (hSl : S.length ≤ 1000) (hb : ∀ x ∈ l,-1 ≤ x ∧ x ≤ 1000) (hz : ∀ s ∈ S,mZ s 499) (h1 : rC H b1 0 [.slice b S.length d]) (hsz : pW (yD (vK S l)) 499) (hne : 0 < (vK S l).length) : iP Tryz.prog 48 #[.slice a l.length c,.pointer (some ⟨b1,0,none⟩)] H [] (eQ (fun v H2 _=>lJ (aIi S l) H2 v)):=by
 refine iP.introC (args:=[.slice a l.length c,.pointer (some ⟨b1,0,none⟩)]) Tryz.func48 rfl rfl Tryz.ntmps48 rfl rfl rfl fun G rest=>?_;refine zS ?_;refine fI jD rfl (fun b3=>?_);refine zN ?_;refine zS ?_;refine eZ rfl (aDk 0 1 zO zD zD _) rfl ?_;rintro _ HN kI ⟨_,rfl,hNC⟩;rw [aIg] at hNC;obtain ⟨aZ,cZ,bZ,dZ,rfl,hZ,kZ⟩:=hNC;replace hs:=hs.mono kI;replace ht:=ht.mono kI;replace h1:=h1.mono kI;refine zX rfl ?_;refine zX rfl ?_;refine fH rfl (aLt ⟨_,_,_,_,rfl,hZ,kZ⟩) rfl ?_;refine fI jD rfl (fun b4=>?_);refine fI rV rfl (fun b5=>?_);refine eG 1 rfl rfl rfl rfl fG rfl rfl rfl rfl rfl ?_;refine eG 0 rfl rfl rfl rfl gK rfl rfl rfl rfl rfl ?_;refine zN ?_;refine cO ?_;refine zS ?_;refine zM rfl ?_;refine eH rfl h1 iG rfl rfl rfl ?_;refine eZ rfl (aMx _ _ _ _ _ _ _) rfl ?_;rintro _ HK mE ⟨bK1,bK2,rfl,hK1,hK2⟩;replace hs:=hs.mono mE;replace ht:=ht.mono mE;replace h1:=h1.mono mE;replace hZ:=hZ.mono mE;replace kZ:=kZ.mono mE;refine zN ?_;refine dK ?_;refine eU [3,4,5,14] rfl ?_;refine aAa (enc:=aXb) (lend:=aUs) rfl (aSm S l _ _ _ _ _ _ _ hs ht hl hSl hb hz hK1 hK2) (fun _ _=>rfl) rfl rfl (fun pre Hl own=>∃ (cs : List Value) (n : Nat),(b5,.cells 3 [.int .i64 (n : Nat)]) :: (b4,.cells 56 cs) :: (b3,.cells 56 [.bool false,.slice none 0 0,.bool false,.slice none 0 0]) :: rest = own ∧ n = pre.length ∧ jX.R Hl cs (mP (yD pre))) (fun _ _ _=>False) (fun _ _ _ _ hle ⟨cs,n,e1,e2,e3⟩=>⟨cs,n,e1,e2,jX.mono hle e3⟩) (⟨_,0,rfl,rfl,⟨_,_,_,_,rfl,hZ,kZ⟩⟩) (.inl rfl) ?_ ?_ ?_
 ·rintro G lp hd1 hd2 hrec pre x post hxs v16 Hl _ ownL jQ ⟨cs,n,rfl,hn,hcs⟩ ⟨rfl,aV,cV,bV,dV,rfl,hV,kV⟩;replace h1:=h1.mono jQ;have hnb : n ≤ 16:=by have h1:=congrArg List.length hxs;have h2:=aGj (S:=S) (l:=l) l.length;simp only [vK,fQ,jL] at h1;omega
  obtain ⟨aS,cS,bS,dS,rfl,hS,kS⟩:=hcs;refine dL (fI jD rfl (fun b7=>eG 0 rfl rfl rfl rfl fG rfl rfl rfl rfl rfl (bF (tS (dK (zS (bT 2 rfl rfl fG rfl rfl rfl (bT 0 rfl rfl fG rfl rfl rfl (eZ rfl (aN5 ⟨_,_,_,_,rfl,hS,kS⟩ ⟨_,_,_,_,rfl,hV,kV⟩ (aQ1 hsz hxs).1 (aQ1 hsz hxs).2) rfl ?_)))))))));rintro _ HNA hleNA ⟨_,rfl,⟨aA,cA,bA,dA,rfl,hA,kA⟩⟩;refine zX rfl (zX rfl (fH rfl (aLt ⟨_,_,_,_,rfl,hA,kA⟩) rfl (eG 2 rfl rfl rfl rfl fG rfl rfl rfl rfl rfl (zN (dL (bT 1 rfl rfl gK rfl rfl rfl (fR rfl rfl (dT zO zO) rfl (eG 1 rfl rfl rfl rfl gK rfl rfl rfl rfl rfl (bF (fY ?_))))))))));refine ⟨rfl,((b5,.cells 3 [.int .i64 ((n + 1) : Nat)]) :: (b4,.cells 56 _) :: (b3,.cells 56 [.bool false,.slice none 0 0,.bool false,.slice none 0 0]) :: rest),zA,?_⟩;exact ⟨_,rfl,_,n + 1,rfl,by rw [fQ];simp;omega,by rw [snd_snoc];exact ⟨_,_,_,_,rfl,hA,kA⟩⟩
 ·rintro Hl ownL jQ ⟨cs,n,rfl,hn,hcs⟩;have hnb : n ≤ 16:=by have h2:=aGj (S:=S) (l:=l) l.length;unfold vK at hn;omega
  obtain ⟨aS,cS,bS,dS,rfl,hS,kS⟩:=hcs;refine fY (bO (cO (zS (bT 0 rfl rfl gK rfl rfl rfl (zZ rfl (zN (gD rfl (aI zO) (eF (bO (cO (eU [3,4,5] rfl ?_)))))))))));apply nX (fun _=>True) trivial 9 [gC _,gC _,fun v H=>∃ u,v = .tuple #[u,.int .i64 0] ∧ lJ ((((n : Nat) : Int) : Rat)) H u,fun v H=>lJ ((((n : Nat) : Int) : Rat)) H v,gC _,fun v H=>lJ ((((n : Nat) : Int) : Rat)) H v,fun v H=>∃ u,v = .tuple #[u,.int .i64 0] ∧ lJ (mP (yD (vK S l)) / (((n : Nat) : Int) : Rat)) H u,fun v H=>lJ (mP (yD (vK S l)) / (((n : Nat) : Int) : Rat)) H v,gC _] follows zK zK ⟨aH _,aH _,fun _ _ _ hle ⟨u,h,k⟩=>⟨u,h,k.mono hle⟩,kG _,aH _,kG _,fun _ _ _ hle ⟨u,h,k⟩=>⟨u,h,k.mono hle⟩,kG _,aH _,trivial⟩ ?steps6 ?tail6
  case steps6 =>
   refine dH rfl ?_ ?_
   ·intro X HD bI _;exact aF rfl (bT 1 rfl rfl fG rfl rfl rfl (bF (eO trivial rfl)))
   refine dH rfl ?_ ?_
   ·intro X HD bI _;exact aF rfl (bT 0 rfl rfl gK rfl rfl rfl (bF (eO trivial rfl)))
   refine dH rfl ?_ ?_
   ·intro X HD bI _;refine gL rfl (aF rfl (eZ rfl (aDk ((n : Nat) : Int) 1 zO zD zD _) rfl ?_));rintro _ HN kI ⟨_,rfl,hNC⟩;rw [aIg] at hNC;obtain ⟨aN,cN,bN,dN,rfl,hN,kN⟩:=hNC;exact bF (eO trivial (⟨_,rfl,⟨_,_,_,_,rfl,hN,kN⟩⟩))
   refine dH rfl ?_ ?_
   ·intro X HD bI _;refine eJ rfl rfl ?_;rintro _ ⟨_,rfl,aN,cN,bN,dN,rfl,hN,kN⟩;exact aF rfl (zX rfl (bF (eO trivial (⟨_,_,_,_,rfl,hN,kN⟩))))
   refine dH rfl ?_ ?_
   ·intro X HD bI _;refine eJ rfl rfl ?_;rintro _ ⟨_,rfl,aN,cN,bN,dN,rfl,hN,kN⟩;exact aF rfl (zX rfl (bF (eO trivial rfl)))
   refine dH rfl ?_ ?_
   ·intro X HD bI _;refine eJ rfl rfl ?_;rintro _ ⟨aN,cN,bN,dN,rfl,hN,kN⟩;exact gL rfl (aF rfl (fH rfl (aLt ⟨_,_,_,_,rfl,hN,kN⟩) rfl (bF (eO trivial (⟨_,_,_,_,rfl,hN,kN⟩)))))
   refine dH rfl ?_ ?_
   ·intro X HD bI _;replace hS:=hS.mono bI;replace kS:=kS.mono bI;refine gL rfl (eJ rfl rfl ?_);rintro _ ⟨aN,cN,bN,dN,rfl,hN,kN⟩;refine aF rfl (eZ rfl (aRd ⟨_,_,_,_,rfl,hS,kS⟩ ⟨_,_,_,_,rfl,hN,kN⟩ (by have:=hsz.1 (yD (vK S l)).length;rwa [gF] at this) (aB4 (eK (sH zO) zD) zD) (aVb zO)) rfl ?_);rintro _ HN kI ⟨_,rfl,⟨aM,cM,bM,dM,rfl,hM,kM⟩⟩;exact bF (eO trivial (⟨_,rfl,⟨_,_,_,_,rfl,hM,kM⟩⟩))
   refine dH rfl ?_ ?_
   ·intro X HD bI _;refine eJ rfl rfl ?_;rintro _ ⟨_,rfl,aM,cM,bM,dM,rfl,hM,kM⟩;exact aF rfl (zX rfl (bF (eO trivial (⟨_,_,_,_,rfl,hM,kM⟩))))
   refine dH rfl ?_ ?_
   ·intro X HD bI _;refine eJ rfl rfl ?_;rintro _ ⟨_,rfl,aM,cM,bM,dM,rfl,hM,kM⟩;exact aF rfl (zX rfl (bF (eO trivial rfl)))
   exact jH rfl
  case tail6 =>
   intro HD bI _;refine gL rfl (gL rfl (eJ rfl rfl ?_));rintro _ ⟨_,rfl,aN,cN,bN,dN,rfl,hN,kN⟩;refine eJ rfl rfl ?_;rintro _ ⟨aN,cN,bN,dN,rfl,hN,kN⟩;refine gL rfl (eJ rfl rfl ?_);rintro _ ⟨aN,cN,bN,dN,rfl,hN,kN⟩;refine eJ rfl rfl ?_;rintro _ ⟨_,rfl,aM,cM,bM,dM,rfl,hM,kM⟩;refine eJ rfl rfl ?_;rintro _ ⟨aM,cM,bM,dM,rfl,hM,kM⟩;refine gL rfl (aF rfl (fH rfl (aLt ⟨_,_,_,_,rfl,hM,kM⟩) rfl (eG 2 rfl rfl rfl rfl fG rfl rfl rfl rfl rfl (zN (eP ?_)))));refine ⟨rfl,_,[],(fN 2 rfl rfl fG rfl rfl iD),zA,eQ.mk ?_⟩;unfold aIi;rw [← hn];exact ⟨_,_,_,_,rfl,hM,kM⟩
 rintro c Hl ownL jQ hK;exact hK.elim
theorem Means_fn (a : Option Addr) (c : Nat) (m : Mk) (S : List Rat) (b : Option Addr) (d : Nat) (H : Hp) (hs : SlR mkR H a c m) (ht : SlR jX H b d S) (hok : oF m) (hm0 : 0 < m.length) (hS : S.length = fO m) (hz : ∀ s ∈ S,mZ s 499) (hsz : ∀ x ∈ m,pW (yD (vK S x)) 499 ∧ 0 < (vK S x).length) : iP Tryz.prog 15 #[.slice a m.length c,.slice b S.length d] H [] (eQ (fun v H2 _=>∃ a2 c2,v = .tuple #[.slice a2 (m.map (aIi S)).length c2,.int .i64 0] ∧ SlR jX H2 a2 c2 (m.map (aIi S)))):=by
 refine iP.intro (args:=[.slice a m.length c,.slice b S.length d]) Tryz.func15 rfl rfl Tryz.ntmps15 rfl rfl rfl fun G rest=>?_;refine zS ?_;refine iW rfl rfl rfl (fun b3=>?_);refine zG rfl ?_;refine zG rfl ?_;refine zN ?_;refine zS ?_;refine zM rfl ?_;refine fT 0 rfl rfl rfl (fun HK3 oK3 rH aDr aDs=>?_);have aCo:=rC.of_is aDr aDs;replace hs:=hs.mono rH;replace ht:=ht.mono rH;refine eH rfl aCo iG rfl rfl rfl ?_;refine mA rfl rfl ?_;refine kK [] (nQ:=[]) (rst:=_) rfl (rows_fn _ _ m S _ _ _ hs ht hok hm0 hS hz _ (aIi S) (fun x hx ax cx H2 hle hsx=>wH.of_fn (cap:=[.pointer (some ⟨b3,0,none⟩)]) (args:=[_]) (mean_fn S x ax _ cx _ H2 b3 hsx (ht.mono hle) (by have h1:=hok.2.2 x hx;have h2:=hok.2.1;omega) (by have h2:=hok.2.1;omega) (fun y hy=>(hok.2.2 x hx).2 y hy) hz (aCo.mono hle) (hsz x hx).1 (hsz x hx).2))) rfl rfl ?_;rintro _ HR own2 mQ ⟨rfl,aR,cR,rfl,hR⟩;refine zX rfl ?_;refine zX rfl ?_;refine zG rfl ?_;refine zG rfl ?_;refine zN ?_;refine eP ?_;refine ⟨rfl,_,[],rfl,zA,eQ.mk ?_⟩;exact ⟨_,_,rfl,hR⟩
end Go.Proofs

namespace Go.Proofs
open Go.XL
theorem rows2_fn (a : Option Addr) (c : Nat) (m : Mk) (S : List Rat) (b : Option Addr) (d : Nat) (H : Hp) (hs : SlR mkR H a c m) (ht : SlR jX H b d S) (hok : oF m) (hm0 : 0 < m.length) (hS : S.length = fO m) (hz : ∀ s ∈ S,mZ s 499) (f : Value) (F : List Int → List (Raw × Raw)) (hF : ∀ x ∈ m,∀ ax cx H2,Le H H2 → SlR (gV .i64) H2 ax cx x → wH Tryz.prog f [.slice ax x.length cx] H2 [] (eQ fun u H2 _=>∃ a2 c2,u = .slice a2 (F x).length c2 ∧ SlR lS H2 a2 c2 (F x))) : iP Tryz.prog 54 #[.slice a m.length c,.slice b S.length d,f] H [] (eQ (fun v H2 own=>own = [] ∧ ∃ a2 c2,v = .tuple #[.slice a2 (m.map F).length c2,.int .i64 0] ∧ SlR (slR lS) H2 a2 c2 (m.map F))):=by
 refine iP.introDD (args:=[.slice a m.length c,.slice b S.length d,f]) Tryz.func54 rfl rfl Tryz.ntmps54 rfl rfl rfl fun G rest=>?_;have hl:=hok.1;have hH0 : Le H H:=Le.refl _;refine zS ?_;refine fI aRx rfl (fun b6=>?_);refine fI sJ rfl (fun b7=>?_);refine zN ?_;refine zS ?_;refine mA rfl rfl ?_;refine aHi (L:=[_,_]) rfl rfl rfl rfl rfl rfl (fun msD rest hrest=>?_);simp only [fP,gN];refine zN ?_;refine zS ?_;refine aHs (L:=[_,_]) rfl rfl rfl rfl rfl (fun msE rest2 hrest2=>?_);simp only [fP,gN];refine zN ?_;refine zS ?_;refine zM rfl ?_;refine zM rfl ?_;refine fH rfl (aM4 _ _ m S _ _ _ hs ht hok hm0 hS hz) rfl ?_;refine zN ?_;refine cO ?_;refine zS ?_;refine zM rfl ?_;refine eD (ts:=#[]) rfl cH rfl ?_;refine zM rfl ?_;refine zN ?_;refine dK ?_;refine eU [16,2,6,7,14,15] rfl ?_;refine lR 0 ?_;refine gO (base:=[(2,_),(6,_),(7,_),(14,_),(15,_)]) (fun ζ : Nat × (Nat × SObj) × (Option Addr) × (Nat)=>[(16,.int .i64 (ζ.1 : Nat))]) (fun ζ Hl own=>ζ.1 ≤ m.length ∧ ζ.2.1 :: (b7,.cells 27 [.int .i64 0]) :: (b6,.cells 49 [.slice ζ.2.2.1 ((m.map F).take (ζ.1)).length ζ.2.2.2]) :: rest2 = own ∧ (XL.Acc (slR lS) 24 Hl ζ.2.1 ζ.2.2.1 ζ.2.2.2 ((m.map F).take (ζ.1)))) (fun ζ=>m.length - ζ.1) (0,(0,.nothing),none,0) (zC) zB ⟨eS _,rfl,Acc.nil _ _ _ _⟩ ?_;rintro ⟨k,pq,aq,cq⟩ Hl0 _ gB ⟨hkk,rfl,hq⟩;replace hs:=hs.mono gB;replace ht:=ht.mono gB;replace hH0:=hH0.trans gB;try dsimp only at hkk hq ⊢
 refine zS (zL rfl (zN (cO (fC rfl (fun qK=>?_) (fun qK=>?_)))))
 ·refine eF (bO (cO (dK (zS (eV rfl hs rfl cH gE zO rfl ?_)))));rintro eb18 eo18 _ x18 hx18 ⟨ax18,cx18,rfl,hd18⟩ hp18;refine eH rfl (by assumption) gE rfl rfl rfl (zG rfl (zN (eU [2,6,7,9,14,15,16] rfl ?_)));apply nX (fun _=>True) trivial 5 [gC _,gC _,gC _,fun u H=>∃ a2 c2,u = .slice a2 (F x18).length c2 ∧ SlR lS H a2 c2 (F x18),slF (slR lS) [F x18]] follows zK zK ⟨aH _,aH _,aH _,fun _ _ _ hle ⟨a,c,e1,e2⟩=>⟨a,c,e1,e2.mono hle⟩,oQ _ _,trivial⟩ ?steps4 ?tail4
  case steps4 =>
   refine dH rfl ?_ ?_
   ·intro X HD bI _;exact aF rfl (bT 2 rfl rfl oH rfl rfl rfl (bF (eO trivial rfl)))
   refine dH rfl ?_ ?_
   ·intro X HD bI _;exact aF rfl (zM rfl (bF (eO trivial rfl)))
   refine dH rfl ?_ ?_
   ·intro X HD bI _;exact aF rfl (zM rfl (bF (eO trivial rfl)))
   refine dH rfl ?_ ?_
   ·intro X HD bI _;replace hd18:=hd18.mono bI;replace hH0:=hH0.trans bI;refine gL rfl (gL rfl (aF rfl (XO.callVH rfl trivial rfl (hF x18 (cF hx18) _ _ _ hH0 hd18) rfl ?_)));rintro u HY oy2 yG ⟨aQ,cQ,rfl,hQ⟩;exact bF (eO trivial (⟨_,_,rfl,hQ⟩))
   refine dH rfl ?_ ?_
   ·intro X HD bI _;refine eJ rfl rfl ?_;rintro _ ⟨aQ,cQ,rfl,hQ⟩;refine aF rfl (fS rfl eI iG tA rfl rfl rfl (fun b24=>fT 0 rfl rfl rfl (fun HP24 oP24 hleP24 hbP24 hoP24=>?_)));have tF:=SlR.lit (ρ:=(slR lS)) (l:=[F x18]) hbP24 hoP24 (iH.one1 ⟨_,_,rfl,hQ.mono hleP24⟩);exact bF (eO trivial (⟨_,rfl,tF⟩))
   exact jH rfl
  case tail4 =>
   intro HD bI _;replace hq:=hq.mono bI;replace gB:=gB.trans bI;refine gL rfl (gL rfl (gL rfl (eJ rfl rfl ?_)));rintro _ ⟨aQ,cQ,rfl,hQ⟩;refine eJ rfl rfl ?_;rintro _ ⟨bs24,rfl,tF⟩;refine aF rfl (iV 0 rfl rfl hq rfl rfl tF rfl eI iG tA rfl aE1 zI rfl (fun p25 a25 c25 hacc25=>eG 2 rfl rfl rfl rfl oH rfl rfl rfl rfl rfl (bF (fY (bO (dL (fR rfl rfl (dT zO zO) rfl (zM rfl (bF ?_)))))))));rw [← jK (show (m.map F)[k]? = some (F x18) by rw [iI,hx18];rfl)] at hacc25 ⊢;refine eW ((k + 1,p25,a25,c25)) (by show m.length - (k + 1) < m.length - k;omega) (zC) (⟨by show k + 1 ≤ m.length;omega,rfl,hacc25⟩) zB (gB)
 obtain rfl : k = m.length:=zO
 rw [show (m.map F).take m.length = m.map F from fJ (by rw [fB];omega)] at hq ⊢;refine gI (fE (eY (fU rfl (bO (zS (iO 0 rfl hq rfl (fun HQZ hleQZ hsQ=>bT 1 rfl rfl oH rfl rfl rfl (eG 1 rfl rfl rfl rfl oH rfl rfl rfl rfl rfl (eG 0 rfl rfl rfl rfl jZ rfl rfl rfl rfl rfl (zN (eP (aBl 0 (L:=[_,_]) rfl hrest2 hrest rfl ((aIn _ _ _).mono (fun u2 HE own2 lF hD=>?_))))))))))))));obtain ⟨h1,h2⟩:=hD;subst h2;replace hsQ:=hsQ.mono lF;refine ⟨by subst h1;rfl,_,[_],_,rfl,mO _,(rows2_ret _ _ _).mono (fun u3 HE2 own3 hleE2 hD2=>?_)⟩;obtain ⟨h3,h4⟩:=hD2;subst h4;replace hsQ:=hsQ.mono hleE2;refine ⟨by subst h3;rfl,_,(fN 1 rfl rfl oH rfl rfl (fN 0 rfl rfl jZ rfl rfl iD)),eQ.mk ?_⟩;exact ⟨rfl,_,_,rfl,hsQ⟩
theorem mark1_fn (S : List Rat) (l : List Int) (a b : Option Addr) (c d : Nat) (H : Hp) (b1 : Nat) (hs : SlR (gV .i64) H a c l) (ht : SlR jX H b d S) (hl : l.length ≤ S.length ∧ l.length ≤ 16) (hSl : S.length ≤ 1000) (hb : ∀ x ∈ l,-1 ≤ x ∧ x ≤ 1000) (hz : ∀ s ∈ S,mZ s 499) (h1 : rC H b1 0 [.slice b S.length d]) : iP Tryz.prog 55 #[.slice a l.length c,.pointer (some ⟨b1,0,none⟩)] H [] (eQ (fun v H2 _=>∃ a2 c2,v = .slice a2 (qG S l).length c2 ∧ SlR lS H2 a2 c2 (qG S l))):=by
 refine iP.intro (args:=[.slice a l.length c,.pointer (some ⟨b1,0,none⟩)]) Tryz.func55 rfl rfl Tryz.ntmps55 rfl rfl rfl fun G rest=>?_;refine zS ?_;refine zG rfl ?_;refine zN ?_;refine zS ?_;refine zM rfl ?_;refine eD (ts:=#[]) rfl bK rfl ?_;refine sT (ρ:=lS) (n:=l.length) aVu rfl rfl cJ fG jD rfl tY zO ⟨none,0,none,0,rfl,SlR.nil0 _ _,SlR.nil0 _ _⟩ rfl (fun p9 c9 hacc9=>?_);refine fI tA rfl (fun b4=>?_);refine eG 0 rfl rfl rfl rfl iG rfl rfl rfl rfl rfl ?_;refine zN ?_;refine cO ?_;refine zS ?_;refine zM rfl ?_;refine eH rfl h1 iG rfl rfl rfl ?_;refine eZ rfl (aMx _ _ _ _ _ _ _) rfl ?_;rintro _ HK mE ⟨bK1,bK2,rfl,hK1,hK2⟩;replace hs:=hs.mono mE;replace ht:=ht.mono mE;replace hacc9:=hacc9.mono mE;refine zN ?_;refine dK ?_;refine eU [4,12] rfl ?_;refine aAa (enc:=aXb) (lend:=aUs) rfl (aSm S l _ _ _ _ _ _ _ hs ht hl hSl hb hz hK1 hK2) (fun _ _=>rfl) rfl rfl (fun pre Hl own=>∃ pm : Nat × SObj,(b4,.cells 24 [.slice (some ⟨p9.1,0,none⟩) l.length c9]) :: pm :: rest = own ∧ XL.Acc lS 56 Hl pm (some ⟨p9.1,0,none⟩) c9 (aO6 l.length pre)) (fun _ _ _=>False) (fun _ _ _ _ hle ⟨pm,e1,e2⟩=>⟨pm,e1,e2.mono hle⟩) (⟨_,rfl,hacc9⟩) (.inl rfl) ?_ ?_ ?_
 ·rintro G lp hd1 hd2 hrec pre x post hxs v16 Hl _ ownL jQ ⟨pm,rfl,hM⟩ ⟨rfl,aV,cV,bV,dV,rfl,hV,kV⟩;have hxm : x.1 < l.length:=(aOm (S:=S) (l:=l) (n:=l.length) (p:=x) (by show x ∈ vK S l;rw [hxs];simp)).1;refine zS (zG rfl (zN (dL (fI jD rfl (fun b6=>eG 0 rfl rfl rfl rfl fG rfl rfl rfl rfl rfl (bF (tS (dK (dL (bT 1 rfl rfl iG rfl rfl rfl (zM rfl (bT 0 rfl rfl fG rfl rfl rfl (fK rfl rfl cJ fG zO zO rfl (lH 2 rfl rfl rfl hM (k:=((x.1 : Nat) : Int).toNat) (u:=oB x.2) (by rw [eN,aG4];omega) rfl ⟨_,_,_,_,rfl,hV,kV⟩ fG rfl (fun pm2 hM2=>?_)))))))))))))));rw [eN,← aMm] at hM2;refine bF (fY ?_);refine ⟨rfl,((b4,.cells 24 [.slice (some ⟨p9.1,0,none⟩) l.length c9]) :: pm2 :: rest),zA,?_⟩;exact ⟨_,rfl,_,rfl,hM2⟩
 ·rintro Hl ownL jQ ⟨pm,rfl,hM⟩;refine fY (bO (zS (iO 1 rfl hM rfl (fun HQZ hleQZ hsM=>bT 0 rfl rfl iG rfl rfl rfl (zG rfl (zN (eP ?_)))))));refine ⟨rfl,_,[],rfl,zA,eQ.mk ?_⟩;unfold qG;rw [aG4];exact ⟨_,_,rfl,hsM⟩
 rintro c Hl ownL jQ hK;exact hK.elim
theorem aPk (a : Option Addr) (c : Nat) (m : Mk) (S : List Rat) (b : Option Addr) (d : Nat) (H : Hp) (hs : SlR mkR H a c m) (ht : SlR jX H b d S) (hok : oF m) (hm0 : 0 < m.length) (hS : S.length = fO m) (hz : ∀ s ∈ S,mZ s 499) : iP Tryz.prog 16 #[.slice a m.length c,.slice b S.length d] H [] (eQ (fun v H2 _=>∃ a2 c2,v = .tuple #[.slice a2 (m.map (qG S)).length c2,.int .i64 0] ∧ SlR (slR lS) H2 a2 c2 (m.map (qG S)))):=by
 refine iP.intro (args:=[.slice a m.length c,.slice b S.length d]) Tryz.func16 rfl rfl Tryz.ntmps16 rfl rfl rfl fun G rest=>?_;refine zS ?_;refine iW rfl rfl rfl (fun b3=>?_);refine zG rfl ?_;refine zG rfl ?_;refine zN ?_;refine zS ?_;refine zM rfl ?_;refine fT 0 rfl rfl rfl (fun HK3 oK3 rH aDr aDs=>?_);have aCo:=rC.of_is aDr aDs;replace hs:=hs.mono rH;replace ht:=ht.mono rH;refine eH rfl aCo iG rfl rfl rfl ?_;refine mA rfl rfl ?_;refine kK [] (nQ:=[]) (rst:=_) rfl (rows2_fn _ _ m S _ _ _ hs ht hok hm0 hS hz _ (qG S) (fun x hx ax cx H2 hle hsx=>wH.of_fn (cap:=[.pointer (some ⟨b3,0,none⟩)]) (args:=[_]) (mark1_fn S x ax _ cx _ H2 b3 hsx (ht.mono hle) (by have h1:=hok.2.2 x hx;have h2:=hok.2.1;omega) (by have h2:=hok.2.1;omega) (fun y hy=>(hok.2.2 x hx).2 y hy) hz (aCo.mono hle)))) rfl rfl ?_;rintro _ HR own2 mQ ⟨rfl,aR,cR,rfl,hR⟩;refine zX rfl ?_;refine zX rfl ?_;refine zG rfl ?_;refine zG rfl ?_;refine zN ?_;refine eP ?_;refine ⟨rfl,_,[],rfl,zA,eQ.mk ?_⟩;exact ⟨_,_,rfl,hR⟩
end Go.Proofs

namespace Go.Proofs
open Go.XL
def aXd (m : Mk) : Prop:=(m.length ≤ 6 ∨ (64 < m.length ∧ m.length ≤ 80)) ∧ ∀ r ∈ m,r.length ≤ 4 ∨ (16 < r.length ∧ r.length ≤ 30)
def aXq (m : Mk) : Prop:=m.length ≤ 64 ∧ ∀ r ∈ m,r.length ≤ 16 ∧ r.length = fO m ∧ ∀ x ∈ r,-1 ≤ x ∧ x ≤ 1000
theorem aTy {m : Mk} (h : aXd m) (k : aXq m) : oF m:=by
 obtain ⟨h1,h2⟩:=h;obtain ⟨k1,k2⟩:=k;have hr : ∀ r ∈ m,r.length ≤ 4:=fun r hr=>by have:=h2 r hr;have:=(k2 r hr).1;omega
 refine ⟨zO,?_,fun r hr=>(k2 r hr).2⟩;cases m with
 | nil=>simp [fO]
 | cons x l=>exact hr x zP
theorem tB {b : Bool} : (!(b == b)) = false:=by cases b <;> rfl
theorem sV {q : Rat} {m n : Nat} (h : mZ q m) (hm : m ≤ n) : mZ q n:=⟨eK h.1 hm,eK h.2 hm⟩
theorem aDm {n : Nat} : mZ 0 (n + 1):=⟨by show (dg 0).length ≤ _;rw [dg0];exact eS _,by show (dg 1).length ≤ _;rw [aVq];exact Nat.le_add_left _ _⟩
theorem aJz {r : Rat} (h : aIp (oB r)) (k : okQ (oB r).1 (oB r).2) : mZ r 3:=by
 obtain ⟨h1,h2⟩:=h;obtain ⟨_,_,_,k1,k2⟩:=k;unfold aTo at h1 h2;exact ⟨show (oB r).1.2.length ≤ 3 by omega,show (oB r).2.2.length ≤ 3 by omega⟩
theorem cmpQ_zero {x : Rat} : aLn x 0 = 0 ↔ x = 0:=by
 unfold aLn;constructor
 ·intro h;split at h
  ·cases h
  split at h
  ·assumption
  cases h
 rintro rfl;rw [dG Rat.lt_irrefl,eX rfl]
end Go.Proofs
