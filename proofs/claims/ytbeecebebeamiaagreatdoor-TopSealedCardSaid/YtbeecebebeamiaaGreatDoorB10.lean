/- The walks of the functions under TopSealed: what each of them computes,at any input. -/
import Derived.Test.YtbeecebebeamiaaGreatDoorB9
import Derived.Test.YtbeecebebeamiaaGreatDoorB2
import Derived.OpenShut
import Derived.Lib.LaidTab
set_option maxRecDepth 100000
set_option autoImplicit false
set_option linter.unusedVariables false
set_option linter.unusedSimpArgs false
namespace Go.Proofs
open Go.XL
theorem bf_54 : lW Tryz.prog 54 = some [(0,1),(1,1),(2,1),(3,1)]:=by kernel_rfl
theorem bf_56 : lW Tryz.prog 56 = some [(0,1),(1,1),(2,32)]:=by kernel_rfl
theorem aJ5 : lW Tryz.prog 58 = some [(0,1),(1,1),(2,36),(38,4),(42,34)]:=by kernel_rfl
theorem bk_54 : mB Tryz.prog 54 = true:=by kernel_rfl
theorem bk_56 : mB Tryz.prog 56 = true:=by kernel_rfl
theorem aJz : mB Tryz.prog 58 = true:=by kernel_rfl
theorem aK1 : Nat.ble (Tryz.prog.bytesOf 64) 4096 = true:=by kernel_rfl
theorem aBj : fW Tryz.prog 37 5 = some 36:=by kernel_rfl
theorem tX : fW Tryz.prog 64 0 = some 0:=by kernel_rfl
theorem yG : fW Tryz.prog 64 1 = some 1:=by kernel_rfl
theorem nM : tyF Tryz.prog 64 2 true = true:=by kernel_rfl
theorem aJg : gH Tryz.prog 58 = some [.int .i64 0,.int .i64 0,.int .i64 0,.int .i64 0,.int .i64 0,.slice none 0 0,.int .u8 0,.int .u8 0,.int .u8 0,.int .u8 0,.int .u8 0,.int .u8 0,.int .u8 0,.int .u8 0,.int .u8 0,.int .u8 0,.int .u8 0,.int .u8 0,.int .u8 0,.int .u8 0,.int .u8 0,.int .u8 0,.int .u8 0,.int .u8 0,.int .u8 0,.int .u8 0,.int .u8 0,.int .u8 0,.int .u8 0,.int .u8 0,.int .u8 0,.int .u8 0,.int .u8 0,.int .u8 0,.int .u8 0,.int .u8 0,.int .u8 0,.int .u8 0,.int .i64 0,.int .i64 0,.int .i64 0,.int .i64 0,.int .i64 0,.slice none 0 0,.int .u8 0,.int .u8 0,.int .u8 0,.int .u8 0,.int .u8 0,.int .u8 0,.int .u8 0,.int .u8 0,.int .u8 0,.int .u8 0,.int .u8 0,.int .u8 0,.int .u8 0,.int .u8 0,.int .u8 0,.int .u8 0,.int .u8 0,.int .u8 0,.int .u8 0,.int .u8 0,.int .u8 0,.int .u8 0,.int .u8 0,.int .u8 0,.int .u8 0,.int .u8 0,.int .u8 0,.int .u8 0,.int .u8 0,.int .u8 0,.int .u8 0,.int .u8 0]:=by kernel_rfl
theorem wN : gH Tryz.prog 64 = some [.int .i64 0,.int .i64 0]:=by kernel_rfl
set_option maxRecDepth 100000 in
set_option maxHeartbeats 1600000 in
theorem topSealed_fn (tb : List Int × List Int) (H : Hp) (hT : TB H tb) (a : Option Addr) (c : Nat) (l : List Jdg) (cr nd : Int) (hs : SlR aL1 H a c l) (hl : l.length < 4611686018427387904) (hcr : 0 ≤ cr ∧ cr ≤ 255) (hnd : 0 ≤ nd ∧ nd ≤ 255) : FnC Tryz.prog 3 #[.slice a l.length c,.int .u8 cr,.int .u8 nd] H [] (bX (fun v _ _=>v = .bool true)):=by
 refine FnC.intro (args:=[.slice a l.length c,.int .u8 cr,.int .u8 nd]) Tryz.func3 rfl rfl Tryz.ntmps3 rfl rfl rfl fun G rest=>?_
 refine aZ (aH (bA rfl rfl (aE (aR (aZ (aZ (aH (fQ aMz aNs uG rfl rfl rfl (bR rfl (gate_no ⟨0,0,0,[],0,0,0,[],[],[]⟩ none none none none 0 0 0 0 _ (SlR.nil0 _ _) (SlR.nil0 _ _) (SlR.nil0 _ _) (SlR.nil0 _ _) rfl (show (0 : Nat) ≤ 1000 by decide) (show (-1000 : Int) ≤ 0 ∧ (0 : Int) ≤ 1000 by decide)) rfl (aU rfl rfl (bV rfl rfl rfl (bV rfl rfl rfl (bA rfl rfl (bA rfl rfl (aE (aR (aZ (aH (aU rfl rfl (fY rfl rfl rfl (aE (aR (dY rfl (decide_eq_false (by decide)) (bS (aR (aZ (aH (aU rfl rfl (cH (ts:=#[]) rfl Tryz.underlying22 rfl (aU rfl rfl ?_))))))))))))))))))))))))))))));refine gT rfl Tryz.underlying5 Tryz.underlying3 (bU (by omega) (by omega)) rfl (wW rfl rfl (by omega) (aAj (by omega)) rfl (dJ rfl rfl (bU (by omega) (by omega)) rfl (bA rfl rfl (bA rfl rfl (aE (aR (aZ (aZ (aH ?_)))))))))
 obtain ⟨k3,hk3⟩ : ∃ k3,1 + cr % 3 = k3:=⟨_,rfl⟩
 rw [hk3]
 refine aU rfl rfl (dN rfl rfl rfl (aU rfl rfl (eW rfl rfl rfl rfl (fun g2=>?_) (fun g2=>?_))))
 ·have g2p:=of_decide_eq_false g2
  refine aU rfl rfl (bE rfl rfl (g2) rfl (lT rfl rfl rfl (dL rfl (g2) rfl rfl (aE (aR (cW rfl (fun qU=>?_) (fun qU=>?_)))))))
  ·refine aZ (aH (bA rfl rfl (aE (aR (bW (bY ?_))))));refine ⟨rfl,_,[],rfl,(by repeat(first|exact sL _|apply sC)),bX.mk ?_⟩
   rfl
  refine bS (aR (aZ (aH (aU rfl rfl (gT rfl Tryz.underlying5 Tryz.underlying3 (bU (by omega) (by omega)) rfl (aU rfl rfl (wW rfl rfl (by omega) (aAj (by omega)) rfl ?_)))))))
  have hm1:=Int.emod_nonneg nd (show (l.length : Int) ≠ 0 by omega)
  have hm2:=Int.emod_lt_of_pos nd (show (0 : Int) < (l.length : Int) by omega)
  obtain ⟨mm,hmm⟩:=Int.eq_ofNat_of_zero_le hm1
  rw [hmm] at hm2 ⊢
  obtain ⟨m,hm⟩ : ∃ m,m = mm + 1:=⟨_,rfl⟩
  refine dJ (c:=((m : Nat) : Int)) rfl rfl ((bU (by omega) (by omega)).trans (by omega)) rfl (bA rfl rfl (aE (aR (aZ (aZ (aH (aU rfl rfl (aU rfl rfl (aU rfl rfl (jO rfl (right36_fn _ _ l k3 ((m : Nat) : Int) _ hs (by omega) (by omega) (by omega)) rfl ?_))))))))));rintro _ ⟨bq,rfl,hbq⟩;refine fC rfl rfl (aE (aR (gN rfl (fun c2_6=>?_) (fun c2_6=>?_))))
  ·refine aZ (aH (bA rfl rfl (aE (aR (bW (bY ?_))))));refine ⟨rfl,_,[],rfl,(by repeat(first|exact sL _|apply sC)),bX.mk ?_⟩
   rfl
  have hr : Rgt l k3 ((m : Nat) : Int):=hbq (by cases bq with | true=>rfl | false=>cases c2_6)
  have hok : ∀ j,j < l.length → okP (cdN tb l j):=hr.ok (by omega) (by omega)
  have hgr:=oS (xT hok l.length (Nat.le_refl _)).good
  have hl5 : 2 ≤ l.length ∧ l.length ≤ 5:=by omega
  replace hl:=hl5;refine bS (aR (aZ (aH (bA rfl rfl (aE (aR (aZ (aH (bA rfl rfl (aE (aR (aZ (aZ (aH (aU rfl rfl (cH (ts:=#[]) rfl Tryz.underlying22 rfl (aU rfl rfl (aE (aR (bT (cE [12,13,87,0,9,10,11,85,86] rfl (iQ 0 (eE (base:=[(0,_),(9,_),(10,_),(11,_),(85,_),(86,_)]) (fun ζ : Nat × ((Nat × SObj) × Option Addr × Nat)=>[(12,.slice ζ.2.2.1 ((rB (ζ.1))).length ζ.2.2.2),(13,.int .i64 ((oB l (ζ.1) : Nat) : Int)),(87,.int .i64 (ζ.1 : Nat))]) (fun ζ Hl own=>ζ.1 ≤ l.length ∧ ζ.2.1 :: rest = own ∧ Acc (eO .i64) 3 Hl ζ.2.1 ζ.2.2.1 ζ.2.2.2 ((rB (ζ.1)))) (fun ζ=>l.length - ζ.1) (0,((0,.nothing),none,0)) (aQ rfl (aQ rfl (aQ rfl (aQ rfl (aQ rfl (aQ rfl (aQ rfl (aQ rfl (aQ rfl bP))))))))) (by repeat(first|exact sL _|apply sD|apply sC)) ⟨Nat.zero_le _,rfl,Acc.nil _ _ _ _⟩ ?_)))))))))))))))))))))));rintro ⟨k,⟨pw,aw,cw⟩⟩ Hl0 _ bM ⟨hkk,rfl,haccw⟩;replace hT:=hT.mono bM;replace hs:=hs.mono bM
  try dsimp only at hkk haccw ⊢
  have hlft:=aEe l k
  refine aZ (aH (dN rfl rfl rfl (aE (aR (aZ (cW rfl (fun c3_7=>?_) (fun c3_7=>?_)))))))
  ·refine bS (aR (aZ (bT (aZ (aH (aU rfl rfl (dK rfl hs rfl Tryz.underlying22 oU (by omega) rfl ?_)))))));rintro eb90 eo90 _ x90 hx90 ⟨aM90,cM90,aK90,cK90,aP90,cP90,rfl,hM90,hK90,hP90,hD90⟩ hp90;refine cQ rfl (by assumption) oU rfl rfl rfl (dC aHa rfl (fun b15=>bA rfl rfl (bZ 0 rfl rfl rfl rfl oU rfl rfl rfl rfl rfl (aE (aR (aZ (aH (aU rfl rfl (aU rfl rfl (dB rfl Tryz.underlying26 dT uI rfl rfl rfl (fun b94=>dF 0 rfl rfl rfl (fun HP94 oP94 hleP94 hbP94 hoP94=>?_))))))))))))
   have hsl94:=SlR.lit (ρ:=(eO .i64)) (l:=[((k : Nat) : Int)]) hbP94 hoP94 (eN.one1 rfl)
   replace hT:=hT.mono hleP94;replace hs:=hs.mono hleP94;replace haccw:=haccw.mono hleP94;replace hp90:=hp90.mono hleP94;replace hM90:=hM90.mono hleP94;replace hK90:=hK90.mono hleP94;replace hP90:=hP90.mono hleP94;replace bM:=bM.trans hleP94;refine fB 1 rfl rfl haccw rfl rfl hsl94 rfl Tryz.underlying26 dT uI rfl aLb (by rw [mM];simp;omega) rfl (fun p95 a95 c95 hacc95=>bA rfl rfl (aE (aR (aZ (aH (bD rfl aBj rfl (bK 0 rfl rfl mU rfl rfl rfl (fC rfl rfl (aE (aR (gN rfl (fun c4_10=>?_) (fun c4_10=>?_))))))))))))
   ·refine aH (aU rfl rfl (dJ rfl rfl (bU (by omega) (by omega)) rfl (bA rfl rfl (aE (dP (aR (aH (dJ rfl rfl (bU (by omega) (by omega)) rfl (aU rfl rfl (aE (cR ((k + 1,(p95,a95,c95))) (by show l.length - (k + 1) < l.length - k;omega) (aQ (by first | rfl | (rw [sI];rfl)) (aQ (by first | exact aDi rfl (by rw [aHu (by rw [tS hx90 (aDw (by assumption))];decide)];omega) | exact aDi rfl (by rw [aH3 (tS hx90 (aDw (by assumption)))])) (aQ rfl (aQ rfl (aQ rfl (aQ rfl (aQ rfl (aQ rfl (aQ rfl bP))))))))) (⟨by show k + 1 ≤ l.length;omega,rfl,by first | (exact hacc95) | (rw [sI];exact hacc95)⟩) (by repeat(first|exact sL _|apply sD|apply sC)) (bM))))))))))))
   refine bS (dP (aR (aH (dJ rfl rfl (bU (by omega) (by omega)) rfl (aU rfl rfl (aE (cR ((k + 1,(p95,a95,c95))) (by show l.length - (k + 1) < l.length - k;omega) (aQ (by first | rfl | (rw [sI];rfl)) (aQ (by first | exact aDi rfl (by rw [aHu (by rw [tS hx90 (aDw (by assumption))];decide)];omega) | exact aDi rfl (by rw [aH3 (tS hx90 (aDw (by assumption)))])) (aQ rfl (aQ rfl (aQ rfl (aQ rfl (aQ rfl (aQ rfl (aQ rfl bP))))))))) (⟨by show k + 1 ≤ l.length;omega,rfl,by first | (exact hacc95) | (rw [sI];exact hacc95)⟩) (by repeat(first|exact sL _|apply sD|apply sC)) (bM))))))))
  obtain rfl : k = l.length:=by omega
  refine dX (dA (cZ (dI rfl (aR (aZ (aH (aU rfl rfl (fI rfl (sealed36_fn tb _ hT _ _ l k3 ((m : Nat) : Int) hs (by omega) (by omega) hr) rfl ?_))))))));rintro _ HN104 hleN104 ⟨aN104,cN104,rfl,dG⟩;replace hT:=hT.mono hleN104;replace hs:=hs.mono hleN104;replace haccw:=haccw.mono hleN104;replace bM:=bM.trans hleN104;refine aU rfl rfl (bV rfl rfl rfl (bV rfl rfl rfl (bA rfl rfl (bA rfl rfl (aE (aR (aZ (aH (aU rfl rfl (aU rfl rfl (aU rfl rfl (gL 0 rfl haccw rfl (fun HQ13 hleQ13 dH=>?_)))))))))))));replace hT:=hT.mono hleQ13;replace hs:=hs.mono hleQ13;replace dG:=dG.mono hleQ13;replace bM:=bM.trans hleQ13
  have hgi:=good_init tb (c:=k3) (m:=((m : Nat) : Int)) (n:=l.length) (by omega) (by omega) (by omega)
  have hJ:=dH
  refine bR rfl (new_fn tb 0 0 k3 ((m : Nat) : Int) 100 (rB l.length) _ _ _ hJ hT hgi) rfl (aU rfl rfl (bV rfl rfl rfl (bV rfl rfl rfl (dC uG rfl (fun b18=>bZ 0 rfl rfl rfl rfl gV rfl rfl rfl rfl rfl (bA rfl rfl (aE (aR (aZ (aZ (aH (aU rfl rfl (fC rfl rfl (aU rfl rfl (bE rfl rfl rfl rfl (aU rfl rfl (bE rfl rfl rfl rfl (fZ rfl rfl rfl (dL rfl rfl rfl rfl (aE (aR (dY rfl (decide_eq_false (by decide)) (bS (aR (aZ (aZ (aH (aU rfl rfl (cH (ts:=#[]) rfl Tryz.underlying22 rfl (aU rfl rfl ?_))))))))))))))))))))))))))))));refine aE (aR (bT (cE [122,0,9,11,13,16,18,121] rfl (eE (base:=[(0,_),(9,_),(11,_),(13,_),(16,_),(18,_),(121,_)]) (fun ζ : Nat × (List Card) × (Option Addr) × (Nat)=>[(122,.int .i64 (ζ.1 : Nat))]) (fun ζ Hl own=>ζ.1 ≤ l.length ∧ (b18,.cells 31 (eR (lL k3 ((m : Nat) : Int) l.length ζ.2.1 [] []) aw ζ.2.2.1 none none cw ζ.2.2.2 0 0)) :: rest = own ∧ (SlR eV Hl ζ.2.2.1 ζ.2.2.2 ζ.2.1) ∧ (ζ.2.1 = oM tb l (ζ.1)) ∧ (GoodS tb (lL k3 ((m : Nat) : Int) l.length ζ.2.1 [] []))) (fun ζ=>l.length - ζ.1) (0,[],none,0) (aQ rfl (aQ rfl (aQ rfl (aQ rfl (aQ rfl (aQ rfl (aQ rfl (aQ rfl bP)))))))) (by repeat(first|exact sL _|apply sD|apply sC)) ⟨Nat.zero_le _,rfl,SlR.nil0 _ _,rfl,hgi⟩ ?_))));rintro ⟨k,SS,eS,fS⟩ Hl1 _ cD ⟨hkk,rfl,hS,hSS,hgd⟩;replace hT:=hT.mono cD;replace hs:=hs.mono cD;replace dG:=dG.mono cD;replace dH:=dH.mono cD;replace hJ:=hJ.mono cD;replace bM:=bM.trans cD
  try dsimp only at hkk hS hSS hgd ⊢
  refine aZ (aH (dN rfl rfl rfl (aE (aR (aZ (cW rfl (fun c6_14=>?_) (fun c6_14=>?_)))))))
  ·refine bS (aR (aZ (bT (aZ (aH (aU rfl rfl (bA rfl rfl (aE (aR (aZ (aH (bK 0 rfl rfl gV rfl rfl rfl ?_))))))))))))
   have hcall:=aAd tb (lL k3 ((m : Nat) : Int) l.length SS [] []) aw eS none none cw fS 0 0 _ hJ hS (SlR.nil0 _ _) (SlR.nil0 _ _) hT hgd (List.replicate l.length ((0,[]) : Int × List Int)) (by rw [List.length_replicate];exact (mM _).symm) (known_before hJ hS (SlR.nil0 _ _) (SlR.nil0 _ _) (aHd (by rw [hSS,lI];omega)) l.length)
   refine fI rfl hcall rfl ?_;rintro _ HN127 hleN127 ⟨aN127,cN127,rfl,hN127⟩;replace hT:=hT.mono hleN127;replace hs:=hs.mono hleN127;replace dG:=dG.mono hleN127;replace dH:=dH.mono hleN127;replace hJ:=hJ.mono hleN127;replace hS:=hS.mono hleN127;replace bM:=bM.trans hleN127;replace cD:=cD.trans hleN127;refine aU rfl rfl (bV rfl rfl rfl (bV rfl rfl rfl (bA rfl rfl (bA rfl rfl (aE (aR (aZ (aZ (aH (aU rfl rfl (fZ rfl rfl rfl (aU rfl rfl (bE rfl rfl (decide_eq_false (by decide)) rfl (aU rfl rfl (bE rfl rfl (decide_eq_false (by decide)) rfl (cH (ts:=#[]) rfl Tryz.underlying43 rfl (bE rfl rfl (decide_eq_false (by decide)) rfl (aU rfl rfl (bE rfl rfl (decide_eq_false (by decide)) rfl (fZ rfl rfl rfl (dL rfl (decide_eq_false (by decide)) rfl rfl (aE (aR (dY rfl (decide_eq_false (fun h=>h (by rw [List.length_replicate]))) (bS (aR (aZ (aZ (aH (aU rfl rfl ?_))))))))))))))))))))))))))))));refine cH (ts:=#[]) rfl Tryz.underlying43 rfl (aU rfl rfl (aE (aR (bT (cE [140,0,9,11,13,16,18,20,121,122,138,139] rfl (eE (base:=[(0,_),(9,_),(11,_),(13,_),(16,_),(18,_),(20,_),(121,_),(122,_),(138,_),(139,_)]) (fun ζ : Nat=>[(140,.int .i64 (ζ : Nat))]) (fun ζ Hl own=>ζ ≤ (List.replicate l.length ((0,[]) : Int × List Int)).length ∧ (b18,.cells 31 (eR (lL k3 ((m : Nat) : Int) l.length SS [] []) aw eS none none cw fS 0 0)) :: rest = own) (fun ζ=>(List.replicate l.length ((0,[]) : Int × List Int)).length - ζ) 0 (aQ rfl (aQ rfl (aQ rfl (aQ rfl (aQ rfl (aQ rfl (aQ rfl (aQ rfl (aQ rfl (aQ rfl (aQ rfl (aQ rfl bP)))))))))))) (by repeat(first|exact sL _|apply sD|apply sC)) ⟨Nat.zero_le _,rfl⟩ ?_))))));rintro q Hl2 _ eM ⟨hkq,rfl⟩;replace hT:=hT.mono eM;replace hs:=hs.mono eM;replace dG:=dG.mono eM;replace dH:=dH.mono eM;replace hJ:=hJ.mono eM;replace hS:=hS.mono eM;replace hN127:=hN127.mono eM;replace bM:=bM.trans eM;replace cD:=cD.trans eM
   try dsimp only at ⊢
   have hrl : (List.replicate l.length ((0,[]) : Int × List Int)).length = l.length:=List.length_replicate
   refine aZ (aH (dN rfl rfl rfl (aE (aR (aZ (cW rfl (fun c8_16=>?_) (fun c8_16=>?_)))))))
   ·refine bS (aR (aZ (bT (aZ (aH (dK rfl hN127 rfl Tryz.underlying43 gK (by omega) rfl ?_))))));rintro eb142 eo142 _ x142 hx142 ⟨ax142,cx142,rfl,hd142⟩ hp142;obtain rfl:=rep_at hx142;refine cQ rfl (by assumption) gK rfl rfl rfl (dC kO rfl (fun b24=>bZ 0 rfl rfl rfl rfl gK rfl rfl rfl rfl rfl (aE (aR (aZ (aH (bD rfl yF rfl (bK 0 rfl rfl dT rfl rfl rfl (fZ rfl rfl rfl (aU rfl rfl (bE rfl rfl (decide_eq_false (by simp)) rfl (bD rfl aEt rfl (bE rfl rfl (decide_eq_false (by simp)) rfl (bK 0 rfl rfl gZ rfl rfl rfl (bE rfl rfl (decide_eq_false (by simp)) rfl (cH (ts:=#[]) rfl Tryz.underlying26 rfl (bE rfl rfl (decide_eq_false (by simp)) rfl (lT rfl rfl rfl (dL rfl (decide_eq_false (by simp)) rfl rfl (aE (aR (dY rfl (decide_eq_false (by simp)) (bS (dP (aR (aH (dJ rfl rfl (bU (by omega) (by omega)) rfl (aU rfl rfl (aE (cR (q + 1) (by show (List.replicate l.length ((0,[]) : Int × List Int)).length - (q + 1) < (List.replicate l.length ((0,[]) : Int × List Int)).length - q;omega) (aQ rfl (aQ rfl (aQ rfl (aQ rfl (aQ rfl (aQ rfl (aQ rfl (aQ rfl (aQ rfl (aQ rfl (aQ rfl (aQ rfl bP)))))))))))) (⟨by show q + 1 ≤ (List.replicate l.length ((0,[]) : Int × List Int)).length;omega,rfl⟩) (by repeat(first|exact sL _|apply sD|apply sC)) (eM)))))))))))))))))))))))))))))))
   refine dX (dA (cZ (dI rfl (aR (aZ (aH (aU rfl rfl (aU rfl rfl ?_))))))))
   have hcall:=aId _ _ (tL tb l l.length) _ dG (by rw [lF];omega) hgr.1 hgr.2 0 0 ((k : Nat) : Int)
   rw [aCi hok hl.2 (by omega),aA0 hok hl.2] at hcall
   refine fI rfl hcall rfl ?_;rintro _ HN157 hleN157 ⟨aN157,cN157,rfl,hN157,hD157⟩
   simp only [Option.getD_some,Option.isSome_some] at hN157 hD157 ⊢
   replace hT:=hT.mono hleN157;replace hs:=hs.mono hleN157;replace dG:=dG.mono hleN157;replace dH:=dH.mono hleN157;replace hJ:=hJ.mono hleN157;replace hS:=hS.mono hleN157;replace hN127:=hN127.mono hleN157;replace bM:=bM.trans hleN157;replace cD:=cD.trans hleN157;replace eM:=eM.trans hleN157;refine aU rfl rfl (bV rfl rfl rfl (bV rfl rfl rfl (bV rfl rfl rfl (dC lY rfl (fun b25=>bZ 0 rfl rfl rfl rfl eI rfl rfl rfl rfl rfl (bA rfl rfl (bA rfl rfl (aE (aR (aZ (aH (bK 1 rfl rfl gV rfl rfl rfl (bK 0 rfl rfl eI rfl rfl rfl (fQ aJz aJ5 aJg rfl rfl rfl ?_))))))))))))))
   have hcall:=do_seal tb (lL k3 ((m : Nat) : Int) l.length SS [] []) aw eS none none cw fS 0 0 _ hJ hS (SlR.nil0 _ _) (SlR.nil0 _ _) hT hgd (cdN tb l k) _ _ hN157 hD157 (aHd (by rw [hSS,lI];omega)) (aGa hr (by omega) (by omega) (by omega) _ _ _) (fun y hy=>mT.2 (aIw tb l k y (by rw [← hSS];exact hy)))
   refine lE (lH:=[]) rfl hcall rfl rfl ?_;rintro _ HG36 _ hleG36 ⟨rfl,aS2,cS2,rfl,hS2⟩
   simp only [List.nil_append]
   replace hT:=hT.mono hleG36;replace hs:=hs.mono hleG36;replace dG:=dG.mono hleG36;replace dH:=dH.mono hleG36;replace hJ:=hJ.mono hleG36;replace hS:=hS.mono hleG36;replace hN127:=hN127.mono hleG36;replace hN157:=hN157.mono hleG36;replace bM:=bM.trans hleG36;replace cD:=cD.trans hleG36;replace eM:=eM.trans hleG36;refine aU rfl rfl (bV rfl rfl rfl (bV rfl rfl rfl (dC uG rfl (fun b28=>bZ 0 rfl rfl rfl rfl gV rfl rfl rfl rfl rfl (bA rfl rfl (aE (aR (aZ (aZ (aH (aU rfl rfl (fZ rfl rfl rfl (aU rfl rfl (bE rfl rfl (decide_eq_false (by decide)) rfl (aU rfl rfl (bE rfl rfl (decide_eq_false (by decide)) rfl (fC rfl rfl (dL rfl (decide_eq_false (by decide)) rfl rfl (aU rfl rfl (bE rfl rfl rfl rfl (aU rfl rfl (bE rfl rfl rfl rfl (fZ rfl rfl rfl (dL rfl rfl rfl rfl (aE (aR (dY rfl (decide_eq_false (by decide)) (bS (aR (aH ?_))))))))))))))))))))))))))))));refine bK 0 rfl rfl gV rfl rfl rfl (bZ 2 rfl rfl rfl rfl gV rfl rfl rfl rfl rfl (aE (dP (aR (aH (dJ rfl rfl (bU (by omega) (by omega)) rfl (aU rfl rfl (aE (cR ((k + 1,SS ++ [cdN tb l k],aS2,cS2)) (by show l.length - (k + 1) < l.length - k;omega) (aQ rfl (aQ rfl (aQ rfl (aQ rfl (aQ rfl (aQ rfl (aQ rfl (aQ rfl bP)))))))) (⟨by show k + 1 ≤ l.length;omega,rfl,hS2,(by rw [hSS,← cdsN_succ]),hgd.addS ⟨rfl,rfl⟩ (aGa hr (by omega) (by omega) (by omega) _ _ _) (fun y hy=>aIw tb l k y (by rw [← hSS];exact hy)) (by show SS.length ≤ 1000;rw [hSS,lI];omega)⟩) (by repeat(first|exact sL _|apply sD|apply sC)) (cD))))))))))
  obtain rfl : k = l.length:=by omega
  subst hSS
  refine dX (dA (cZ (dI rfl (aR (aZ (aZ (aH (aU rfl rfl (cH (ts:=#[]) rfl Tryz.underlying22 rfl (aU rfl rfl (aE (aR (bT (cE [182,0,9,11,13,18,180,181] rfl (eE (base:=[(0,_),(9,_),(11,_),(13,_),(18,_),(180,_),(181,_)]) (fun ζ : Nat × (List KeySh) × (Option Addr) × (Nat) × (List Shwn) × (Option Addr) × (Nat)=>[(182,.int .i64 (ζ.1 : Nat))]) (fun ζ Hl own=>ζ.1 ≤ l.length ∧ (b18,.cells 31 (eR (lL k3 ((m : Nat) : Int) l.length (oM tb l l.length) ζ.2.1 ζ.2.2.2.2.1) aw eS ζ.2.2.1 ζ.2.2.2.2.2.1 cw fS ζ.2.2.2.1 ζ.2.2.2.2.2.2)) :: rest = own ∧ (SlR iY Hl ζ.2.2.1 ζ.2.2.2.1 ζ.2.1) ∧ (SlR iZ Hl ζ.2.2.2.2.2.1 ζ.2.2.2.2.2.2 ζ.2.2.2.2.1) ∧ (ζ.2.1 = KL l (ζ.1)) ∧ (ζ.2.2.2.2.1 = XL l (ζ.1)) ∧ (GoodS tb (lL k3 ((m : Nat) : Int) l.length (oM tb l l.length) ζ.2.1 ζ.2.2.2.2.1))) (fun ζ=>l.length - ζ.1) (0,[],none,0,[],none,0) (aQ rfl (aQ rfl (aQ rfl (aQ rfl (aQ rfl (aQ rfl (aQ rfl (aQ rfl bP)))))))) (by repeat(first|exact sL _|apply sD|apply sC)) ⟨Nat.zero_le _,rfl,SlR.nil0 _ _,SlR.nil0 _ _,rfl,rfl,hgd⟩ ?_)))))))))))))));rintro ⟨k,KK,eK,fK,XX,eX,fX⟩ Hl3 _ eL ⟨hkk,rfl,hK,hX,hKK,hXX,hgd⟩;replace hT:=hT.mono eL;replace hs:=hs.mono eL;replace dG:=dG.mono eL;replace dH:=dH.mono eL;replace hJ:=hJ.mono eL;replace hS:=hS.mono eL;replace bM:=bM.trans eL;replace cD:=cD.trans eL
  try dsimp only at hkk hK hX hKK hXX hgd ⊢
  refine aZ (aH (dN rfl rfl rfl (aE (aR (aZ (cW rfl (fun c11_19=>?_) (fun c11_19=>?_)))))))
  ·refine bS (aR (aZ (bT (aZ (aH (aU rfl rfl (dK rfl hs rfl Tryz.underlying22 oU (by omega) rfl ?_)))))));rintro eb185 eo185 _ x185 pB ⟨aM185,cM185,aK185,cK185,aP185,cP185,rfl,qZ,pC,rA,hD185⟩ sB;refine cQ rfl (by assumption) oU rfl rfl rfl (dC aHa rfl (fun b31=>bA rfl rfl (bZ 0 rfl rfl rfl rfl oU rfl rfl rfl rfl rfl (aE (aR (aZ (aZ (aH (bD rfl aBj rfl (bK 0 rfl rfl mU rfl rfl rfl (fC rfl rfl (aE (aR (gN rfl (fun c12_21=>?_) (fun c12_21=>?_)))))))))))))))
   ·have hjx:=vE pB
    have hlx : lst l k = false:=tS pB (aDw c12_21)
    refine aZ (aH (bK 1 rfl rfl gV rfl rfl rfl (aU rfl rfl (bD rfl tD rfl (bK 0 rfl rfl gZ rfl rfl rfl (bD rfl aJy rfl (bK 0 rfl rfl oA rfl rfl rfl (fQ bk_56 bf_56 aGq rfl rfl rfl (fQ aJz aJ5 aJg rfl rfl rfl ?_)))))))))
    have hcall:=do_show tb (lL k3 ((m : Nat) : Int) l.length (oM tb l l.length) KK XX) aw eS eK eX cw fS fK fX _ hJ hS hK hX hT hgd (⟨(k : Int),x185.K,x185.D⟩ : Shwn) _ _ pC hD185 (rY (lI _ _ _)) (show vK tb (lL k3 ((m : Nat) : Int) l.length (oM tb l l.length) KK XX) (⟨(k : Int),x185.K,x185.D⟩ : Shwn) from ⟨cdN tb l k,List.mem_of_getElem? (aA8 tb l (by omega)),rfl,by rw [xJ pB];exact aEm (hr x185 (List.mem_of_getElem? pB)) (by omega) (by omega)⟩) (fun y hy=>mT.2 (by have:=aMc (l:=l) (k:=k) y (by rw [← hXX];exact hy);exact this))
    refine lE (lH:=[]) rfl hcall rfl rfl ?_;rintro _ HG45 _ nA ⟨rfl,aX2,cX2,rfl,hX2⟩
    simp only [List.nil_append]
    replace hT:=hT.mono nA;replace hs:=hs.mono nA;replace dG:=dG.mono nA;replace dH:=dH.mono nA;replace hJ:=hJ.mono nA;replace hS:=hS.mono nA;replace hK:=hK.mono nA;replace hX:=hX.mono nA;replace sB:=sB.mono nA;replace qZ:=qZ.mono nA;replace pC:=pC.mono nA;replace rA:=rA.mono nA;replace bM:=bM.trans nA;replace cD:=cD.trans nA;replace eL:=eL.trans nA;refine aU rfl rfl (bV rfl rfl rfl (bV rfl rfl rfl (dC uG rfl (fun b32=>bZ 0 rfl rfl rfl rfl gV rfl rfl rfl rfl rfl (bA rfl rfl (aE (aR (aZ (aZ (aH (aU rfl rfl (fZ rfl rfl rfl (aE (aR (dY rfl (decide_eq_false (by decide)) (bS (aR (aZ (aH (bK 0 rfl rfl gV rfl rfl rfl (bZ 2 rfl rfl rfl rfl gV rfl rfl rfl rfl rfl (aE (aR (dX (dA (dI rfl (aR (aH (dJ rfl rfl (bU (by omega) (by omega)) rfl (aU rfl rfl ?_))))))))))))))))))))))))))))));refine aE (cR ((k + 1,KK,eK,fK,XX ++ [(⟨(k : Int),x185.K,x185.D⟩ : Shwn)],aX2,cX2)) (by show l.length - (k + 1) < l.length - k;omega) (aQ rfl (aQ rfl (aQ rfl (aQ rfl (aQ rfl (aQ rfl (aQ rfl (aQ rfl bP)))))))) (⟨by show k + 1 ≤ l.length;omega,rfl,(by first | exact hK4 | exact hK),(by first | exact hX2 | exact hX),(by first | (rw [hKK4,aN2 hlx,hjx,aE1 (hr x185 (List.mem_of_getElem? pB))];done) | (rw [hKK,aNt (by rw [hlx];decide)])),(by first | (rw [hXX,aOa hlx];done) | (rw [hXX,aOk (by rw [hlx];decide)];unfold shJ;rw [hjx])),(by first | exact hg4 | exact hgd.addX (rY (lI _ _ _)) ⟨cdN tb l k,List.mem_of_getElem? (aA8 tb l (by omega)),rfl,by rw [xJ pB];exact aEm (hr x185 (List.mem_of_getElem? pB)) (by omega) (by omega)⟩ (fun y hy=>by have:=aMc (l:=l) (k:=k) y (by rw [← hXX];exact hy);exact this) (by show XX.length ≤ 1000;rw [hXX];have:=aH6 l k;omega))⟩) (by repeat(first|exact sL _|apply sD|apply sC)) (eL))
   have hjx:=vE pB
   have hlx : lst l k = true:=tS pB (aDw c12_21)
   refine bS (aR (aZ (aH (bK 0 rfl rfl oU rfl rfl rfl (aU rfl rfl (fI rfl (dealt36_fn x185 _ _ _ _ _ _ l.length k3 ((m : Nat) : Int) _ qZ pC rA hD185 (hr x185 (List.mem_of_getElem? pB)) (by omega) (by omega) (by omega)) rfl ?_))))));rintro _ HN208 lC ⟨aN208,cN208,rfl,hN208⟩;replace hT:=hT.mono lC;replace hs:=hs.mono lC;replace dG:=dG.mono lC;replace dH:=dH.mono lC;replace hJ:=hJ.mono lC;replace hS:=hS.mono lC;replace hK:=hK.mono lC;replace hX:=hX.mono lC;replace sB:=sB.mono lC;replace qZ:=qZ.mono lC;replace pC:=pC.mono lC;replace rA:=rA.mono lC;replace bM:=bM.trans lC;replace cD:=cD.trans lC;replace eL:=eL.trans lC;refine aU rfl rfl (bV rfl rfl rfl (bV rfl rfl rfl (bA rfl rfl (bA rfl rfl (aE (aR (aZ (aZ (aH (aU rfl rfl (fC rfl rfl (aE (aR (dY rfl rfl (bS (aR (aZ (aH (aU rfl rfl (cH (ts:=#[]) rfl Tryz.underlying59 rfl (aU rfl rfl (aE (aR (bT (cE [215,0,9,11,13,18,30,31,180,181,182,213,214] rfl (eE (base:=[(0,_),(9,_),(11,_),(13,_),(18,_),(30,_),(31,_),(180,_),(181,_),(182,_),(213,_),(214,_)]) (fun ζ : Nat × (List KeySh) × (Option Addr) × (Nat)=>[(215,.int .i64 (ζ.1 : Nat))]) (fun ζ Hl own=>ζ.1 ≤ (rD x185 l.length).length ∧ (b31,.cells 37 (aGg x185 aM185 cM185 aK185 cK185 aP185 cP185)) :: (b18,.cells 31 (eR (lL k3 ((m : Nat) : Int) l.length (oM tb l l.length) ζ.2.1 XX) aw eS ζ.2.2.1 eX cw fS ζ.2.2.2 fX)) :: rest = own ∧ (SlR iY Hl ζ.2.2.1 ζ.2.2.2 ζ.2.1) ∧ (ζ.2.1 = KL l k ++ ksJ l k l.length (ζ.1)) ∧ (GoodS tb (lL k3 ((m : Nat) : Int) l.length (oM tb l l.length) ζ.2.1 XX))) (fun ζ=>(rD x185 l.length).length - ζ.1) (0,KK,eK,fK) (aQ rfl (aQ rfl (aQ rfl (aQ rfl (aQ rfl (aQ rfl (aQ rfl (aQ rfl (aQ rfl (aQ rfl (aQ rfl (aQ rfl (aQ rfl bP))))))))))))) (by repeat(first|exact sL _|apply sD|apply sC)) ⟨Nat.zero_le _,rfl,hK,(by rw [hKK];simp [ksJ]),hgd⟩ ?_))))))))))))))))))))))))));rintro ⟨i,K4,e4,f4⟩ Hl4 _ pD ⟨hki,rfl,hK4,hKK4,hg4⟩;replace hT:=hT.mono pD;replace hs:=hs.mono pD;replace dG:=dG.mono pD;replace dH:=dH.mono pD;replace hJ:=hJ.mono pD;replace hS:=hS.mono pD;replace hK:=hK.mono pD;replace hX:=hX.mono pD;replace sB:=sB.mono pD;replace qZ:=qZ.mono pD;replace pC:=pC.mono pD;replace rA:=rA.mono pD;replace hN208:=hN208.mono pD;replace bM:=bM.trans pD;replace cD:=cD.trans pD;replace eL:=eL.trans pD
   try dsimp only at hki hK4 hKK4 hg4 ⊢
   have hdl:=aE1 (hr x185 (List.mem_of_getElem? pB)) l.length
   have hkl:=(hr x185 (List.mem_of_getElem? pB)).k
   refine aZ (aH (dN rfl rfl rfl (aE (aR (aZ (cW rfl (fun c15_23=>?_) (fun c15_23=>?_)))))))
   ·refine bS (aR (aZ (bT (aZ (aH (aU rfl rfl (dK rfl hN208 rfl Tryz.underlying59 aAt (by omega) rfl ?_)))))));rintro eb218 eo218 _ x218 hx218 ⟨ax218,cx218,rfl,hd218⟩ hp218;obtain rfl : Ra.dealL (pP l k i) l.length = x218:=Option.some.inj ((deal_pol pB (hr x185 (List.mem_of_getElem? pB)) (by omega)).symm.trans hx218);refine cQ rfl (by assumption) aAt rfl rfl rfl (bA rfl rfl (bA rfl rfl (aE (aR (aZ (aH (bA rfl rfl (aE (aR (aZ (aZ (aH (aU rfl rfl (cH (ts:=#[]) rfl Tryz.underlying62 rfl (aU rfl rfl (aE (aR (bT (cE [38,222,0,9,11,13,18,30,31,36,180,181,182,213,214,215,220,221] rfl (iQ 0 (eE (base:=[(0,_),(9,_),(11,_),(13,_),(18,_),(30,_),(31,_),(36,_),(180,_),(181,_),(182,_),(213,_),(214,_),(215,_),(220,_),(221,_)]) (fun ζ : Nat × (List KeySh) × (Option Addr) × (Nat) × ((Nat × SObj) × Option Addr × Nat)=>[(38,.slice ζ.2.2.2.2.2.1 ((gvC l k i (ζ.1))).length ζ.2.2.2.2.2.2),(222,.int .i64 (ζ.1 : Nat))]) (fun ζ Hl own=>ζ.1 ≤ (Ra.dealL (pP l k i) l.length).length ∧ ζ.2.2.2.2.1 :: (b31,.cells 37 (aGg x185 aM185 cM185 aK185 cK185 aP185 cP185)) :: (b18,.cells 31 (eR (lL k3 ((m : Nat) : Int) l.length (oM tb l l.length) ζ.2.1 XX) aw eS ζ.2.2.1 eX cw fS ζ.2.2.2.1 fX)) :: rest = own ∧ Acc Ra.ptR 64 Hl ζ.2.2.2.2.1 ζ.2.2.2.2.2.1 ζ.2.2.2.2.2.2 ((gvC l k i (ζ.1))) ∧ (SlR iY Hl ζ.2.2.1 ζ.2.2.2.1 ζ.2.1) ∧ (ζ.2.1 = KL l k ++ ksJ l k l.length i ++ ksC l k i (ζ.1)) ∧ (GoodS tb (lL k3 ((m : Nat) : Int) l.length (oM tb l l.length) ζ.2.1 XX))) (fun ζ=>(Ra.dealL (pP l k i) l.length).length - ζ.1) (0,K4,e4,f4,((0,.nothing),none,0)) (aQ rfl (aQ rfl (aQ rfl (aQ rfl (aQ rfl (aQ rfl (aQ rfl (aQ rfl (aQ rfl (aQ rfl (aQ rfl (aQ rfl (aQ rfl (aQ rfl (aQ rfl (aQ rfl (aQ rfl (aQ rfl bP)))))))))))))))))) (by repeat(first|exact sL _|apply sD|apply sC)) ⟨Nat.zero_le _,rfl,Acc.nil _ _ _ _,hK4,(by rw [hKK4];simp [ksC]),hg4⟩ ?_)))))))))))))))))))));rintro ⟨h,K5,e5,f5,⟨pg,ag,cg⟩⟩ Hl5 _ nX ⟨hkh,rfl,haccg,hK5,zE,hg5⟩;replace hT:=hT.mono nX;replace hs:=hs.mono nX;replace dG:=dG.mono nX;replace dH:=dH.mono nX;replace hJ:=hJ.mono nX;replace hS:=hS.mono nX;replace hK:=hK.mono nX;replace hX:=hX.mono nX;replace sB:=sB.mono nX;replace qZ:=qZ.mono nX;replace pC:=pC.mono nX;replace rA:=rA.mono nX;replace hN208:=hN208.mono nX;replace hK4:=hK4.mono nX;replace hp218:=hp218.mono nX;replace hd218:=hd218.mono nX;replace bM:=bM.trans nX;replace cD:=cD.trans nX;replace eL:=eL.trans nX;replace pD:=pD.trans nX
    try dsimp only at hkh haccg hK5 zE hg5 ⊢
    have hdl5 : (Ra.dealL (pP l k i) l.length).length = l.length:=Ra.dealL_len _ _
    refine aZ (aH (dN rfl rfl rfl (aE (aR (aZ (cW rfl (fun c16_25=>?_) (fun c16_25=>?_)))))))
    ·refine bS (aR (aZ (bT (aZ (aH (dK rfl (by assumption) rfl Tryz.underlying62 nM (by omega) rfl ?_))))));rintro eb224 eo224 _ x224 hx224 rfl hp224;obtain rfl : (⟨(h : Int) + 1,aAg l k i h⟩ : Ra.Pt) = x224:=Option.some.inj ((Ra.dealL_get (by omega)).symm.trans hx224);refine cQ rfl (by assumption) nM rfl rfl rfl (dC wN rfl (fun b40=>bZ 0 rfl rfl rfl rfl nM rfl rfl rfl rfl rfl (aE (aR (aZ (aH (bD rfl tX rfl (bK 0 rfl rfl dT rfl rfl rfl (iF (c:=((h : Nat) : Int)) rfl rfl (by show IntKind.i64.wrap ((h : Int) + 1 - 1) = (h : Int);rw [bU (by omega) (by omega)];omega) rfl (bA rfl rfl (aE (aR (aZ (aZ (aH (aU rfl rfl (dN rfl rfl rfl (aU rfl rfl (bE rfl rfl (decide_eq_false (by omega)) rfl (aU rfl rfl (bE rfl rfl (decide_eq_false (by omega)) rfl (aU rfl rfl (bE rfl rfl (decide_eq_false (by omega)) rfl (jC rfl rfl rfl (dL rfl (decide_eq_false (by omega)) rfl rfl (aE (aR (dY rfl (decide_eq_false (by omega)) (bS (aR ?_))))))))))))))))))))))))))))));refine aZ (aZ (aH (aU rfl rfl (aU rfl rfl (fY rfl rfl rfl (aU rfl rfl (eW rfl rfl rfl rfl (fun g28=>?_) (fun g28=>?_))))))))
     ·have g28p:=of_decide_eq_false g28
      refine aU rfl rfl (bE rfl rfl (g28) rfl (aU rfl rfl (bE rfl rfl (g28) rfl (dK (i:=h) rfl hs rfl Tryz.underlying22 oU (by omega) rfl ?_))));rintro eb242 eo242 _ x242 hx242 ⟨aM242,cM242,aK242,cK242,aP242,cP242,rfl,hM242,hK242,hP242,hD242⟩ hp242;refine bE rfl rfl (g28) rfl (bD rfl aBj rfl (bE rfl rfl (g28) rfl (gG rfl (by assumption) mU rfl rfl rfl (dL rfl (g28) rfl rfl (aE (aR (gN rfl (fun c18_30=>?_) (fun c18_30=>?_))))))))
      ·have hsk : skp l k h:=.inr (tS hx242 c18_30)
       refine dX (dA (dI rfl (aR (aH (dJ rfl rfl (bU (by omega) (by omega)) rfl (aU rfl rfl (aE (cR ((h + 1,K5,e5,f5,(pg,ag,cg))) (by show (Ra.dealL (pP l k i) l.length).length - (h + 1) < (Ra.dealL (pP l k i) l.length).length - h;omega) (aQ (by first | rfl | (rw [xS hns];rfl) | (rw [yH hsk];rfl)) (aQ rfl (aQ rfl (aQ rfl (aQ rfl (aQ rfl (aQ rfl (aQ rfl (aQ rfl (aQ rfl (aQ rfl (aQ rfl (aQ rfl (aQ rfl (aQ rfl (aQ rfl (aQ rfl (aQ rfl bP)))))))))))))))))) (⟨by show h + 1 ≤ (Ra.dealL (pP l k i) l.length).length;omega,rfl,by first | (exact haccg) | (rw [xS hns];exact haccg) | (rw [yH hsk];exact haccg),(by first | exact hK2 | exact hK5),(by first | (rw [zE,aF7 hsk];done) | (rw [zE,aF6 hns,← List.append_assoc])),(by first | exact hg5.addK (rY (lI _ _ _)) hsp (fun y hy=>aFp (l:=l) (n:=l.length) y (by rw [← zE];exact hy)) hK5l | exact hg5)⟩) (by repeat(first|exact sL _|apply sD|apply sC)) (nX)))))))))
      have hns : ¬ skp l k h:=no_skip (by omega) hx242 c18_30
      have hsp : vT (lL k3 ((m : Nat) : Int) l.length (oM tb l l.length) K5 XX) (⟨(k : Int),(i : Int),(h : Int),aAg l k i h⟩ : KeySh):=⟨aCn (by omega),aCn (by omega),(by show (k : Int) ≠ (h : Int);have : h ≠ k:=fun e=>hns (.inl e);omega),(by show 0 ≤ (i : Int) ∧ (i : Int) < k3;omega),val_rng l k i h⟩
      have hK5l : K5.length ≤ 1000:=by rw [zE];exact K5_len l k i h (fun x hx=>by have:=(hr x hx).k;omega) (by omega) (by omega) (by omega) (by omega)
      refine bS (aR (aZ (aH (aU rfl rfl (bK 0 rfl rfl nM rfl rfl rfl (dB rfl Tryz.underlying62 nM wN rfl rfl rfl (fun b248=>dF 0 rfl rfl rfl (fun HP248 oP248 gS hbP248 hoP248=>?_))))))))
      have hsl248:=SlR.lit (ρ:=Ra.ptR) (l:=[(⟨(h : Int) + 1,aAg l k i h⟩ : Ra.Pt)]) hbP248 hoP248 (eN.one1 rfl)
      replace hT:=hT.mono gS;replace hs:=hs.mono gS;replace dG:=dG.mono gS;replace dH:=dH.mono gS;replace hJ:=hJ.mono gS;replace hS:=hS.mono gS;replace hK:=hK.mono gS;replace hX:=hX.mono gS;replace sB:=sB.mono gS;replace qZ:=qZ.mono gS;replace pC:=pC.mono gS;replace rA:=rA.mono gS;replace hN208:=hN208.mono gS;replace hK4:=hK4.mono gS;replace hp218:=hp218.mono gS;replace hd218:=hd218.mono gS;replace haccg:=haccg.mono gS;replace hK5:=hK5.mono gS;replace hp224:=hp224.mono gS;replace hp242:=hp242.mono gS;replace hM242:=hM242.mono gS;replace hK242:=hK242.mono gS;replace hP242:=hP242.mono gS;replace bM:=bM.trans gS;replace cD:=cD.trans gS;replace eL:=eL.trans gS;replace pD:=pD.trans gS;replace nX:=nX.trans gS;refine fB 1 rfl rfl haccg rfl rfl hsl248 rfl Tryz.underlying62 nM wN rfl aK1 (by have:=(zX l k i h).length_le;rw [Ra.dealL_len] at this;simp;omega) rfl (fun p249 a249 c249 hacc249=>bA rfl rfl (aE (aR (aZ (aH (bK 3 rfl rfl gV rfl rfl rfl (aU rfl rfl (aU rfl rfl (aU rfl rfl (bD rfl yG rfl (bK 0 rfl rfl dT rfl rfl rfl (fQ bk_54 bf_54 aDd rfl rfl rfl (fQ aJz aJ5 aJg rfl rfl rfl ?_)))))))))))))
      have hcall:=do_share tb (lL k3 ((m : Nat) : Int) l.length (oM tb l l.length) K5 XX) aw eS e5 eX cw fS f5 fX _ hJ hS hK5 hX hT hg5 (⟨(k : Int),(i : Int),(h : Int),aAg l k i h⟩ : KeySh) (rY (lI _ _ _)) hsp (fun y hy=>aFp (l:=l) (n:=l.length) y (by rw [← zE];exact hy))
      refine lE (lH:=[]) rfl hcall rfl rfl ?_;rintro _ HG64 _ iR ⟨rfl,aK2,cK2,rfl,hK2⟩
      simp only [List.nil_append]
      replace hT:=hT.mono iR;replace hs:=hs.mono iR;replace dG:=dG.mono iR;replace dH:=dH.mono iR;replace hJ:=hJ.mono iR;replace hS:=hS.mono iR;replace hK:=hK.mono iR;replace hX:=hX.mono iR;replace sB:=sB.mono iR;replace qZ:=qZ.mono iR;replace pC:=pC.mono iR;replace rA:=rA.mono iR;replace hN208:=hN208.mono iR;replace hK4:=hK4.mono iR;replace hp218:=hp218.mono iR;replace hd218:=hd218.mono iR;replace hK5:=hK5.mono iR;replace hp224:=hp224.mono iR;replace hp242:=hp242.mono iR;replace hM242:=hM242.mono iR;replace hK242:=hK242.mono iR;replace hP242:=hP242.mono iR;replace hsl248:=hsl248.mono iR;replace hacc249:=hacc249.mono iR;replace bM:=bM.trans iR;replace cD:=cD.trans iR;replace eL:=eL.trans iR;replace pD:=pD.trans iR;replace nX:=nX.trans iR;refine aU rfl rfl (bV rfl rfl rfl (bV rfl rfl rfl (dC uG rfl (fun b42=>bZ 0 rfl rfl rfl rfl gV rfl rfl rfl rfl rfl (bA rfl rfl (aE (aR (aZ (aZ (aH (aU rfl rfl (fZ rfl rfl rfl (aE (aR (dY rfl (decide_eq_false (by decide)) (bS (aR (aH (bK 0 rfl rfl gV rfl rfl rfl (bZ 4 rfl rfl rfl rfl gV rfl rfl rfl rfl rfl (aE (dP (aR (aH (dJ rfl rfl (bU (by omega) (by omega)) rfl (aU rfl rfl (aE (cR ((h + 1,K5 ++ [(⟨(k : Int),(i : Int),(h : Int),aAg l k i h⟩ : KeySh)],aK2,cK2,(p249,a249,c249))) (by show (Ra.dealL (pP l k i) l.length).length - (h + 1) < (Ra.dealL (pP l k i) l.length).length - h;omega) (aQ (by first | rfl | (rw [xS hns];rfl) | (rw [yH hsk];rfl)) (aQ rfl (aQ rfl (aQ rfl (aQ rfl (aQ rfl (aQ rfl (aQ rfl (aQ rfl (aQ rfl (aQ rfl (aQ rfl (aQ rfl (aQ rfl (aQ rfl (aQ rfl (aQ rfl (aQ rfl bP)))))))))))))))))) (⟨by show h + 1 ≤ (Ra.dealL (pP l k i) l.length).length;omega,rfl,by first | (exact hacc249) | (rw [xS hns];exact hacc249) | (rw [yH hsk];exact hacc249),(by first | exact hK2 | exact hK5),(by first | (rw [zE,aF7 hsk];done) | (rw [zE,aF6 hns,← List.append_assoc])),(by first | exact hg5.addK (rY (lI _ _ _)) hsp (fun y hy=>aFp (l:=l) (n:=l.length) y (by rw [← zE];exact hy)) hK5l | exact hg5)⟩) (by repeat(first|exact sL _|apply sD|apply sC)) (nX)))))))))))))))))))))))))))))
     have g28p:=of_decide_eq_true g28
     have hsk : skp l k h:=.inl (by omega)
     refine bL rfl rfl (g28) rfl rfl (bL rfl rfl (g28) rfl rfl (bL rfl rfl (g28) rfl rfl (bL rfl rfl (g28) rfl rfl (dE rfl (g28) rfl rfl (aE (aR (eY rfl rfl (dX (dA (dI rfl (aR (aH (dJ rfl rfl (bU (by omega) (by omega)) rfl (aU rfl rfl (aE (cR ((h + 1,K5,e5,f5,(pg,ag,cg))) (by show (Ra.dealL (pP l k i) l.length).length - (h + 1) < (Ra.dealL (pP l k i) l.length).length - h;omega) (aQ (by first | rfl | (rw [xS hns];rfl) | (rw [yH hsk];rfl)) (aQ rfl (aQ rfl (aQ rfl (aQ rfl (aQ rfl (aQ rfl (aQ rfl (aQ rfl (aQ rfl (aQ rfl (aQ rfl (aQ rfl (aQ rfl (aQ rfl (aQ rfl (aQ rfl (aQ rfl bP)))))))))))))))))) (⟨by show h + 1 ≤ (Ra.dealL (pP l k i) l.length).length;omega,rfl,by first | (exact haccg) | (rw [xS hns];exact haccg) | (rw [yH hsk];exact haccg),(by first | exact hK2 | exact hK5),(by first | (rw [zE,aF7 hsk];done) | (rw [zE,aF6 hns,← List.append_assoc])),(by first | exact hg5.addK (rY (lI _ _ _)) hsp (fun y hy=>aFp (l:=l) (n:=l.length) y (by rw [← zE];exact hy)) hK5l | exact hg5)⟩) (by repeat(first|exact sL _|apply sD|apply sC)) (nX)))))))))))))))))
    obtain rfl : h = l.length:=by omega
    refine dX (dA (cZ (dI rfl (aR (aZ (aZ (aH (aU rfl rfl (cH (ts:=#[]) rfl Tryz.underlying62 rfl (aU rfl rfl (fZ rfl rfl rfl (aE (aR (dY rfl (decide_eq_false (fun e=>e (by rw [zW i hlx]))) (bS (aR (aZ (aH (aU rfl rfl (gL 0 rfl haccg rfl (fun HQ33 kD hsQ33=>?_)))))))))))))))))))));replace hT:=hT.mono kD;replace hs:=hs.mono kD;replace dG:=dG.mono kD;replace dH:=dH.mono kD;replace hJ:=hJ.mono kD;replace hS:=hS.mono kD;replace hK:=hK.mono kD;replace hX:=hX.mono kD;replace sB:=sB.mono kD;replace qZ:=qZ.mono kD;replace pC:=pC.mono kD;replace rA:=rA.mono kD;replace hN208:=hN208.mono kD;replace hK4:=hK4.mono kD;replace hp218:=hp218.mono kD;replace hd218:=hd218.mono kD;replace hK5:=hK5.mono kD;replace bM:=bM.trans kD;replace cD:=cD.trans kD;replace eL:=eL.trans kD;replace pD:=pD.trans kD;replace nX:=nX.trans kD;refine bR rfl (Ra.recover_fn _ _ (gvC l k i l.length) _ hsQ33 (by rw [zW i hlx];have:=aEe l l.length;omega)) rfl (aU rfl rfl (bV rfl rfl rfl (bV rfl rfl rfl (bA rfl rfl (bA rfl rfl (aE (aR (aZ (aH (aU rfl rfl (aU rfl rfl (jC rfl rfl rfl (aU rfl rfl (eW rfl rfl rfl rfl (fun g34=>?_) (fun g34=>?_)))))))))))))))
    ·have g34p:=of_decide_eq_true g34
     have hrec:=rec_ok (m:=m) (i:=i) hr (by omega) (show k < l.length by omega) hlx (by omega) (by omega) (by omega)
     rw [hrec]
     refine aU rfl rfl (bE rfl rfl (g34) rfl (fZ rfl rfl rfl (bE rfl rfl (g34) rfl (aU rfl rfl (bE rfl rfl (decide_eq_false (by simp)) rfl (aU rfl rfl (bE rfl rfl (decide_eq_false (by simp)) rfl (bD rfl tD rfl (bE rfl rfl (decide_eq_false (by simp)) rfl (bK 0 rfl rfl gZ rfl rfl rfl (bE rfl rfl (decide_eq_false (by simp)) rfl (aU rfl rfl (bE rfl rfl (decide_eq_false (by simp)) rfl (dK rfl pC rfl Tryz.underlying26 dT (by omega) rfl ?_))))))))))))));rintro eb286 eo286 _ x286 hx286 rfl hp286;refine bE rfl rfl (decide_eq_false (by simp)) rfl (cQ rfl (by assumption) dT rfl rfl rfl (bE rfl rfl (decide_eq_false (by simp)) rfl (fZ rfl rfl rfl (bE rfl rfl (g34) rfl (dL rfl (decide_eq_false (by simp)) rfl rfl (dE rfl (g34) rfl rfl (aE (aR (dY rfl (decide_eq_false (fun e=>e (by show (l.getD k jd0).K.getD i 0 = x286;rw [hjx,List.getD_eq_getElem?_getD,hx286];rfl))) ?_)))))))));refine bS (dP (aR (aH (dJ rfl rfl (bU (by omega) (by omega)) rfl (aU rfl rfl (aE (cR ((i + 1,K5,e5,f5)) (by show (rD x185 l.length).length - (i + 1) < (rD x185 l.length).length - i;omega) (aQ rfl (aQ rfl (aQ rfl (aQ rfl (aQ rfl (aQ rfl (aQ rfl (aQ rfl (aQ rfl (aQ rfl (aQ rfl (aQ rfl (aQ rfl bP))))))))))))) (⟨by show i + 1 ≤ (rD x185 l.length).length;omega,rfl,hK5,(by rw [zE];show _ = KL l k ++ (ksJ l k l.length i ++ ksC l k i l.length);rw [List.append_assoc]),hg5⟩) (by repeat(first|exact sL _|apply sD|apply sC)) (pD))))))))
    have g34p:=of_decide_eq_false g34
    refine bL rfl rfl (g34) rfl rfl (bL rfl rfl (g34) rfl rfl (jA rfl rfl rfl rfl (jA rfl rfl rfl rfl (jA rfl rfl rfl rfl (jA rfl rfl rfl rfl (jA rfl rfl rfl rfl (jA rfl rfl rfl rfl (jA rfl rfl rfl rfl (bL rfl rfl (g34) rfl rfl (dL rfl (g34) rfl rfl (aE (aR (dY rfl rfl (bS (dP (aR (aH (dJ rfl rfl (bU (by omega) (by omega)) rfl (aU rfl rfl (aE (cR ((i + 1,K5,e5,f5)) (by show (rD x185 l.length).length - (i + 1) < (rD x185 l.length).length - i;omega) (aQ rfl (aQ rfl (aQ rfl (aQ rfl (aQ rfl (aQ rfl (aQ rfl (aQ rfl (aQ rfl (aQ rfl (aQ rfl (aQ rfl (aQ rfl bP))))))))))))) (⟨by show i + 1 ≤ (rD x185 l.length).length;omega,rfl,hK5,(by rw [zE];show _ = KL l k ++ (ksJ l k l.length i ++ ksC l k i l.length);rw [List.append_assoc]),hg5⟩) (by repeat(first|exact sL _|apply sD|apply sC)) (pD))))))))))))))))))))))
   obtain rfl : i = (rD x185 l.length).length:=by omega
   refine dX (dA (cZ (dI rfl (dP (aR (aH (dJ rfl rfl (bU (by omega) (by omega)) rfl (aU rfl rfl (aE (cR ((k + 1,K4,e4,f4,XX,eX,fX)) (by show l.length - (k + 1) < l.length - k;omega) (aQ rfl (aQ rfl (aQ rfl (aQ rfl (aQ rfl (aQ rfl (aQ rfl (aQ rfl bP)))))))) (⟨by show k + 1 ≤ l.length;omega,rfl,(by first | exact hK4 | exact hK),(by first | exact hX2 | exact hX),(by first | (rw [hKK4,aN2 hlx,hjx,aE1 (hr x185 (List.mem_of_getElem? pB))];done) | (rw [hKK,aNt (by rw [hlx];decide)])),(by first | (rw [hXX,aOa hlx];done) | (rw [hXX,aOk (by rw [hlx];decide)];unfold shJ;rw [hjx])),(by first | exact hg4 | exact hgd.addX (rY (lI _ _ _)) ⟨cdN tb l k,List.mem_of_getElem? (aA8 tb l (by omega)),rfl,by rw [xJ pB];exact aEm (hr x185 (List.mem_of_getElem? pB)) (by omega) (by omega)⟩ (fun y hy=>by have:=aMc (l:=l) (k:=k) y (by rw [← hXX];exact hy);exact this) (by show XX.length ≤ 1000;rw [hXX];have:=aH6 l k;omega))⟩) (by repeat(first|exact sL _|apply sD|apply sC)) (eL)))))))))))
  obtain rfl : k = l.length:=by omega
  subst hKK
  subst hXX
  refine dX (dA (cZ (dI rfl (aR (aZ (aH (bK 0 rfl rfl gV rfl rfl rfl (fQ aJz aJ5 aJg rfl rfl rfl ?_))))))))
  have hcall:=do_time tb (lL k3 ((m : Nat) : Int) l.length (oM tb l l.length) (KL l l.length) (XL l l.length)) aw eS eK eX cw fS fK fX _ hJ hS hK hX hT hgd 1540 (by show (0 : Int) ≤ 1540 ∧ (1540 : Int) < 2097152;omega)
  refine lE (lH:=[]) rfl hcall rfl rfl ?_;rintro _ HG76 _ hleG76 ⟨rfl,rfl⟩
  simp only [List.nil_append]
  replace hT:=hT.mono hleG76;replace hs:=hs.mono hleG76;replace dG:=dG.mono hleG76;replace dH:=dH.mono hleG76;replace hJ:=hJ.mono hleG76;replace hS:=hS.mono hleG76;replace hK:=hK.mono hleG76;replace hX:=hX.mono hleG76;replace bM:=bM.trans hleG76;replace cD:=cD.trans hleG76;replace eL:=eL.trans hleG76;refine aU rfl rfl (bV rfl rfl rfl (bV rfl rfl rfl (dC uG rfl (fun b46=>bZ 0 rfl rfl rfl rfl gV rfl rfl rfl rfl rfl (bA rfl rfl (aE (aR (aZ (aZ (aH (aU rfl rfl (fZ rfl rfl rfl (aE (aR (dY rfl (decide_eq_false (by decide)) (bS (aR (aZ (aH (bK 1 rfl rfl gV rfl rfl rfl ?_))))))))))))))))))))
  have hk0:=aEa hr (by omega) (by omega) (by omega) 0 false (by simp) (lL k3 ((m : Nat) : Int) l.length (oM tb l l.length) (KL l l.length) (XL l l.length)) rfl hJ hS hK hX hT hgd
  have hcall:=aAd tb (lL k3 ((m : Nat) : Int) l.length (oM tb l l.length) (KL l l.length) (XL l l.length)) aw eS eK eX cw fS fK fX _ hJ hS hK hX hT hgd (aGo l m false) (by rw [iM];exact (mM _).symm) hk0
  refine fI rfl hcall rfl ?_;rintro _ HN303 hleN303 ⟨aN303,cN303,rfl,dM⟩;replace hT:=hT.mono hleN303;replace hs:=hs.mono hleN303;replace dG:=dG.mono hleN303;replace dH:=dH.mono hleN303;replace hJ:=hJ.mono hleN303;replace hS:=hS.mono hleN303;replace hK:=hK.mono hleN303;replace hX:=hX.mono hleN303;replace bM:=bM.trans hleN303;replace cD:=cD.trans hleN303;replace eL:=eL.trans hleN303;refine aU rfl rfl (bV rfl rfl rfl (bV rfl rfl rfl (bA rfl rfl (bA rfl rfl (aE (aR (aZ (aH (bK 0 rfl rfl gV rfl rfl rfl ?_)))))))))
  have hgt : GoodS tb (setT (lL k3 ((m : Nat) : Int) l.length (oM tb l l.length) (KL l l.length) (XL l l.length)) 1540):=hgd.setT (rY (lI _ _ _)) (by show (0 : Int) ≤ 1540 ∧ (1540 : Int) < 2097152;omega)
  have hk1:=aEa hr (by omega) (by omega) (by omega) 1540 true (by simp) (setT (lL k3 ((m : Nat) : Int) l.length (oM tb l l.length) (KL l l.length) (XL l l.length)) 1540) rfl hJ hS hK hX hT hgt
  have hcall:=aAd tb (setT (lL k3 ((m : Nat) : Int) l.length (oM tb l l.length) (KL l l.length) (XL l l.length)) 1540) aw eS eK eX cw fS fK fX _ hJ hS hK hX hT hgt (aGo l m true) (by rw [iM];exact (mM _).symm) hk1
  refine fI rfl hcall rfl ?_;rintro _ HN308 hleN308 ⟨aN308,cN308,rfl,dO⟩;replace hT:=hT.mono hleN308;replace hs:=hs.mono hleN308;replace dG:=dG.mono hleN308;replace dH:=dH.mono hleN308;replace hJ:=hJ.mono hleN308;replace hS:=hS.mono hleN308;replace hK:=hK.mono hleN308;replace hX:=hX.mono hleN308;replace dM:=dM.mono hleN308;replace bM:=bM.trans hleN308;replace cD:=cD.trans hleN308;replace eL:=eL.trans hleN308;refine aU rfl rfl (bV rfl rfl rfl (bV rfl rfl rfl (bA rfl rfl (bA rfl rfl (aE (aR (aZ (aZ (aH (aU rfl rfl (fZ rfl rfl rfl (aU rfl rfl (bE rfl rfl (decide_eq_false (by decide)) rfl (aU rfl rfl (bE rfl rfl (decide_eq_false (by decide)) rfl (fZ rfl rfl rfl (dL rfl (decide_eq_false (by decide)) rfl rfl (aU rfl rfl (bE rfl rfl (decide_eq_false (by decide)) rfl (aU rfl rfl (bE rfl rfl (decide_eq_false (by decide)) rfl (cH (ts:=#[]) rfl Tryz.underlying43 rfl (bE rfl rfl (decide_eq_false (by decide)) rfl (aU rfl rfl (bE rfl rfl (decide_eq_false (by decide)) rfl (fZ rfl rfl rfl (dL rfl (decide_eq_false (by decide)) rfl rfl (aU rfl rfl (bE rfl rfl (decide_eq_false (fun h=>h (by rw [iM]))) rfl (aU rfl rfl ?_))))))))))))))))))))))))))))));refine bE rfl rfl (decide_eq_false (fun h=>h (by rw [iM]))) rfl (cH (ts:=#[]) rfl Tryz.underlying43 rfl (bE rfl rfl (decide_eq_false (fun h=>h (by rw [iM]))) rfl (aU rfl rfl (bE rfl rfl (decide_eq_false (fun h=>h (by rw [iM]))) rfl (fZ rfl rfl rfl (dL rfl (decide_eq_false (fun h=>h (by rw [iM]))) rfl rfl (aE (aR (dY rfl (decide_eq_false (fun h=>h (by rw [iM]))) (bS (aR (aZ (aZ (aH (aU rfl rfl (cH (ts:=#[]) rfl Tryz.underlying22 rfl (aU rfl rfl (aE (aR (bT (cE [331,11,13,48,50,329,330] rfl (eE (base:=[(11,_),(13,_),(48,_),(50,_),(329,_),(330,_)]) (fun ζ : Nat=>[(331,.int .i64 (ζ : Nat))]) (fun ζ Hl own=>ζ ≤ l.length ∧ rest = own) (fun ζ=>l.length - ζ) 0 (aQ rfl (aQ rfl (aQ rfl (aQ rfl (aQ rfl (aQ rfl (aQ rfl bP))))))) (by repeat(first|exact sL _|apply sD|apply sC)) ⟨Nat.zero_le _,rfl⟩ ?_))))))))))))))))))))));rintro k Hl6 _ eT ⟨hkk,rfl⟩;replace hT:=hT.mono eT;replace hs:=hs.mono eT;replace dG:=dG.mono eT;replace dH:=dH.mono eT;replace hJ:=hJ.mono eT;replace hS:=hS.mono eT;replace hK:=hK.mono eT;replace hX:=hX.mono eT;replace dM:=dM.mono eT;replace dO:=dO.mono eT;replace bM:=bM.trans eT;replace cD:=cD.trans eT;replace eL:=eL.trans eT
  try dsimp only at ⊢
  refine aZ (aH (dN rfl rfl rfl (aE (aR (aZ (cW rfl (fun c24_38=>?_) (fun c24_38=>?_)))))))
  ·refine bS (aR (aZ (bT (aZ (aH (aU rfl rfl (dK rfl hs rfl Tryz.underlying22 oU (by omega) rfl ?_)))))));rintro eb334 eo334 _ x334 hx334 ⟨aM334,cM334,aK334,cK334,aP334,cP334,rfl,dS,dU,dV,hD334⟩ dW;refine cQ rfl (by assumption) oU rfl rfl rfl (dC aHa rfl (fun b53=>bA rfl rfl (bZ 0 rfl rfl rfl rfl oU rfl rfl rfl rfl rfl (aE (aR (aZ (cE [11,13,48,50,52,53,329,330,331] rfl ?_)))))))
   apply yS (fun _=>True) trivial [6,7] (by decide) [(8,6)] (fun _ v p _=>v = .pointer (some ⟨p.1,0,none⟩) ∧ p.2 = .cells 47 [.int .i64 0,.slice none 0 0]) (fun _ v p _=>v = .pointer (some ⟨p.1,0,none⟩) ∧ p.2 = .cells 47 [.int .i64 1,.slice aM334 x334.M.length cM334]) (fun _ _ _ _ _ _ h=>h) (fun _ _ _ _ _ _ h=>h) 9 [eqF _,eqF _,eqF _,eqF _,eqF _,eqF _,rC,rC,rC] follows (by kernel_rfl) ⟨bB _,bB _,bB _,bB _,bB _,bB _,gR,gR,gR,trivial⟩ (by decide) (by kernel_rfl) ?steps40 ?tail40
   case steps40 =>
    refine eA rfl rfl ?_ ?_
    ·intro X ext HD aD _
     replace hT:=hT.mono aD;replace hs:=hs.mono aD;replace dG:=dG.mono aD;replace dH:=dH.mono aD;replace hJ:=hJ.mono aD;replace hS:=hS.mono aD;replace hK:=hK.mono aD;replace hX:=hX.mono aD;replace dM:=dM.mono aD;replace dO:=dO.mono aD;replace dW:=dW.mono aD;replace dS:=dS.mono aD;replace dU:=dU.mono aD;replace dV:=dV.mono aD;replace bM:=bM.trans aD;replace cD:=cD.trans aD;replace eL:=eL.trans aD;replace eT:=eT.trans aD;exact bG rfl (bD rfl wG rfl (aE (bN rfl trivial rfl)))
    refine eA rfl rfl ?_ ?_
    ·intro X ext HD aD _
     replace hT:=hT.mono aD;replace hs:=hs.mono aD;replace dG:=dG.mono aD;replace dH:=dH.mono aD;replace hJ:=hJ.mono aD;replace hS:=hS.mono aD;replace hK:=hK.mono aD;replace hX:=hX.mono aD;replace dM:=dM.mono aD;replace dO:=dO.mono aD;replace dW:=dW.mono aD;replace dS:=dS.mono aD;replace dU:=dU.mono aD;replace dV:=dV.mono aD;replace bM:=bM.trans aD;replace cD:=cD.trans aD;replace eL:=eL.trans aD;replace eT:=eT.trans aD;exact wQq rfl rfl rfl (bG rfl (bK 0 rfl rfl gZ rfl rfl rfl (aE (bN rfl trivial rfl))))
    refine eA rfl rfl ?_ ?_
    ·intro X ext HD aD _
     replace hT:=hT.mono aD;replace hs:=hs.mono aD;replace dG:=dG.mono aD;replace dH:=dH.mono aD;replace hJ:=hJ.mono aD;replace hS:=hS.mono aD;replace hK:=hK.mono aD;replace hX:=hX.mono aD;replace dM:=dM.mono aD;replace dO:=dO.mono aD;replace dW:=dW.mono aD;replace dS:=dS.mono aD;replace dU:=dU.mono aD;replace dV:=dV.mono aD;replace bM:=bM.trans aD;replace cD:=cD.trans aD;replace eL:=eL.trans aD;replace eT:=eT.trans aD;exact wQq rfl rfl rfl (bG rfl (fQ aBm aB5 kO rfl rfl rfl (aE (bN rfl trivial rfl))))
    refine eA rfl rfl ?_ ?_
    ·intro X ext HD aD _
     replace hT:=hT.mono aD;replace hs:=hs.mono aD;replace dG:=dG.mono aD;replace dH:=dH.mono aD;replace hJ:=hJ.mono aD;replace hS:=hS.mono aD;replace hK:=hK.mono aD;replace hX:=hX.mono aD;replace dM:=dM.mono aD;replace dO:=dO.mono aD;replace dW:=dW.mono aD;replace dS:=dS.mono aD;replace dU:=dU.mono aD;replace dV:=dV.mono aD;replace bM:=bM.trans aD;replace cD:=cD.trans aD;replace eL:=eL.trans aD;replace eT:=eT.trans aD;exact bG rfl (bD rfl wG rfl (aE (bN rfl trivial rfl)))
    refine eA rfl rfl ?_ ?_
    ·intro X ext HD aD _
     replace hT:=hT.mono aD;replace hs:=hs.mono aD;replace dG:=dG.mono aD;replace dH:=dH.mono aD;replace hJ:=hJ.mono aD;replace hS:=hS.mono aD;replace hK:=hK.mono aD;replace hX:=hX.mono aD;replace dM:=dM.mono aD;replace dO:=dO.mono aD;replace dW:=dW.mono aD;replace dS:=dS.mono aD;replace dU:=dU.mono aD;replace dV:=dV.mono aD;replace bM:=bM.trans aD;replace cD:=cD.trans aD;replace eL:=eL.trans aD;replace eT:=eT.trans aD;exact wQq rfl rfl rfl (bG rfl (bK 0 rfl rfl gZ rfl rfl rfl (aE (bN rfl trivial rfl))))
    refine eA rfl rfl ?_ ?_
    ·intro X ext HD aD _
     replace hT:=hT.mono aD;replace hs:=hs.mono aD;replace dG:=dG.mono aD;replace dH:=dH.mono aD;replace hJ:=hJ.mono aD;replace hS:=hS.mono aD;replace hK:=hK.mono aD;replace hX:=hX.mono aD;replace dM:=dM.mono aD;replace dO:=dO.mono aD;replace dW:=dW.mono aD;replace dS:=dS.mono aD;replace dU:=dU.mono aD;replace dV:=dV.mono aD;replace bM:=bM.trans aD;replace cD:=cD.trans aD;replace eL:=eL.trans aD;replace eT:=eT.trans aD;exact wQq rfl rfl rfl (bG rfl (fQ aBm aB5 kO rfl rfl rfl (aE (bN rfl trivial rfl))))
    refine eA rfl rfl ?_ ?_
    ·intro X ext HD aD _
     replace hT:=hT.mono aD;replace hs:=hs.mono aD;replace dG:=dG.mono aD;replace dH:=dH.mono aD;replace hJ:=hJ.mono aD;replace hS:=hS.mono aD;replace hK:=hK.mono aD;replace hX:=hX.mono aD;replace dM:=dM.mono aD;replace dO:=dO.mono aD;replace dW:=dW.mono aD;replace dS:=dS.mono aD;replace dU:=dU.mono aD;replace dV:=dV.mono aD;replace bM:=bM.trans aD;replace cD:=cD.trans aD;replace eL:=eL.trans aD;replace eT:=eT.trans aD;refine bG rfl (dC kO rfl (fun b54=>aE ?_))
     exact kJ rfl trivial trivial (⟨rfl,rfl⟩)
    refine eA rfl rfl ?_ ?_
    ·intro X ext HD aD _
     replace hT:=hT.mono aD;replace hs:=hs.mono aD;replace dG:=dG.mono aD;replace dH:=dH.mono aD;replace hJ:=hJ.mono aD;replace hS:=hS.mono aD;replace hK:=hK.mono aD;replace hX:=hX.mono aD;replace dM:=dM.mono aD;replace dO:=dO.mono aD;replace dW:=dW.mono aD;replace dS:=dS.mono aD;replace dU:=dU.mono aD;replace dV:=dV.mono aD;replace bM:=bM.trans aD;replace cD:=cD.trans aD;replace eL:=eL.trans aD;replace eT:=eT.trans aD;refine bG rfl (dC kO rfl (fun b55=>aE ?_))
     exact kJ rfl trivial trivial (⟨rfl,rfl⟩)
    refine tU rfl rfl ?_ ?_
    ·intro X ext p HD aD _
     replace hT:=hT.mono aD;replace hs:=hs.mono aD;replace dG:=dG.mono aD;replace dH:=dH.mono aD;replace hJ:=hJ.mono aD;replace hS:=hS.mono aD;replace hK:=hK.mono aD;replace hX:=hX.mono aD;replace dM:=dM.mono aD;replace dO:=dO.mono aD;replace dW:=dW.mono aD;replace dS:=dS.mono aD;replace dU:=dU.mono aD;replace dV:=dV.mono aD;replace bM:=bM.trans aD;replace cD:=cD.trans aD;replace eL:=eL.trans aD;replace eT:=eT.trans aD;refine dD rfl rfl ?_;rintro _ _;refine wQq rfl rfl rfl (bG rfl ?_)
     intro hfo
     obtain ⟨be6,se6⟩:=p;obtain ⟨rfl,hse6⟩:=hfo _ _ rfl rfl
     simp only at hse6
     subst hse6
     refine bZ 0 rfl rfl rfl rfl gK rfl rfl rfl rfl rfl (aE ?_)
     exact vU trivial (trivial) (fun u t h1 h2=>by cases (show some _ = some t from h1);cases (show some (Value.pointer _) = some u from h2);exact ⟨rfl,rfl⟩)
    exact tR rfl
   case tail40 =>
    intro HD aD _
    replace hT:=hT.mono aD;replace hs:=hs.mono aD;replace dG:=dG.mono aD;replace dH:=dH.mono aD;replace hJ:=hJ.mono aD;replace hS:=hS.mono aD;replace hK:=hK.mono aD;replace hX:=hX.mono aD;replace dM:=dM.mono aD;replace dO:=dO.mono aD;replace dW:=dW.mono aD;replace dS:=dS.mono aD;replace dU:=dU.mono aD;replace dV:=dV.mono aD;replace bM:=bM.trans aD;replace cD:=cD.trans aD;replace eL:=eL.trans aD;replace eT:=eT.trans aD;refine wQq rfl rfl rfl (wQq rfl rfl rfl (wQq rfl rfl rfl (wQq rfl rfl rfl (wQq rfl rfl rfl (wQq rfl rfl rfl (dD rfl rfl ?_))))));rintro _ _;refine dD rfl rfl ?_;rintro _ _;refine oT rfl rfl (bG rfl (iO ?_))
    intro pk6 hpk6
    obtain ⟨rfl,hpk6b⟩:=hpk6 _ ⟨_,rfl,rfl⟩;obtain ⟨be6,se6⟩:=pk6
    simp only at hpk6b
    subst hpk6b
    refine iO ?_
    intro pk7 hpk7
    obtain ⟨rfl,hpk7b⟩:=hpk7 _ ⟨_,rfl,rfl⟩;obtain ⟨be7,se7⟩:=pk7
    simp only at hpk7b
    subst hpk7b
    refine fL (bZ 1 rfl rfl rfl rfl gK rfl rfl rfl rfl rfl (aE (aR (aZ (aZ (aH (bD rfl aBj rfl (bK 2 rfl rfl mU rfl rfl rfl (aE (aR (gN rfl (fun c25_41=>?_) (fun c25_41=>?_))))))))))))
    ·have hjx:=vE hx334
     have hlx : lst l k = true:=tS hx334 c25_41
     refine aZ (aH (bD rfl yF rfl (bZ 0 rfl rfl rfl rfl dT rfl rfl rfl rfl rfl (bD rfl yF rfl (bZ 1 rfl rfl rfl rfl dT rfl rfl rfl rfl rfl (aE (aR (aZ (aH (aU rfl rfl (aU rfl rfl (dN rfl rfl rfl (aE (aR (cW rfl (fun c26_42=>?_) (fun c26_42=>?_))))))))))))))))
     ·have hout0 : jP l m false k = (0,[]):=by unfold jP;rw [if_pos hlx,if_neg (by omega),if_neg (by decide)]
      have hout1 : jP l m true k = (3,[]):=by unfold jP;rw [if_pos hlx,if_neg (by omega),if_pos rfl]
      refine aH (fQ aBm aB5 kO rfl rfl rfl (fQ aBm aB5 kO rfl rfl rfl (bZ 0 rfl rfl rfl rfl gK rfl rfl rfl rfl rfl (bZ 1 rfl rfl rfl rfl gK rfl rfl rfl rfl rfl (aE (aR (aZ (cE [11,13,48,50,52,54,55,329,330,331] rfl ?_))))))))
      have hMl : (l.getD k jd0).M.length < 9223372036854775808:=by rw [hjx];have:=(hr x334 (List.mem_of_getElem? hx334)).m;omega
      apply iG (fun _=>True) trivial [] (by decide) (fun _ _ _ _=>True) (fun _ _ _ _ _ _ h=>h) 17 [eqF _,eqF _,eqF _,eqF _,slG opR [jP l m false k],eqF _,slF opR [jP l m false k],eqF _,eqF _,eqF _,eqF _,eqF _,eqF _,eqF _,slG opR [jP l m true k],eqF _,slF opR [jP l m true k]] follows (by kernel_rfl) ⟨bB _,bB _,bB _,bB _,lD _ _,bB _,gX _ _,bB _,bB _,bB _,bB _,bB _,bB _,bB _,lD _ _,bB _,gX _ _,trivial⟩ (by decide) ?steps43 ?tail43
      case steps43 =>
       refine bJ rfl ?_ ?_
       ·intro X ext HD aD _
        replace hT:=hT.mono aD;replace hs:=hs.mono aD;replace dG:=dG.mono aD;replace dH:=dH.mono aD;replace hJ:=hJ.mono aD;replace hS:=hS.mono aD;replace hK:=hK.mono aD;replace hX:=hX.mono aD;replace dM:=dM.mono aD;replace dO:=dO.mono aD;replace dW:=dW.mono aD;replace dS:=dS.mono aD;replace dU:=dU.mono aD;replace dV:=dV.mono aD;replace bM:=bM.trans aD;replace cD:=cD.trans aD;replace eL:=eL.trans aD;replace eT:=eT.trans aD;exact bG rfl (aU rfl rfl (aE (bN rfl trivial rfl)))
       refine bJ rfl ?_ ?_
       ·intro X ext HD aD _
        replace hT:=hT.mono aD;replace hs:=hs.mono aD;replace dG:=dG.mono aD;replace dH:=dH.mono aD;replace hJ:=hJ.mono aD;replace hS:=hS.mono aD;replace hK:=hK.mono aD;replace hX:=hX.mono aD;replace dM:=dM.mono aD;replace dO:=dO.mono aD;replace dW:=dW.mono aD;replace dS:=dS.mono aD;replace dU:=dU.mono aD;replace dV:=dV.mono aD;replace bM:=bM.trans aD;replace cD:=cD.trans aD;replace eL:=eL.trans aD;replace eT:=eT.trans aD;exact bG rfl (aU rfl rfl (aE (bN rfl trivial rfl)))
       refine bJ rfl ?_ ?_
       ·intro X ext HD aD _
        replace hT:=hT.mono aD;replace hs:=hs.mono aD;replace dG:=dG.mono aD;replace dH:=dH.mono aD;replace hJ:=hJ.mono aD;replace hS:=hS.mono aD;replace hK:=hK.mono aD;replace hX:=hX.mono aD;replace dM:=dM.mono aD;replace dO:=dO.mono aD;replace dW:=dW.mono aD;replace dS:=dS.mono aD;replace dU:=dU.mono aD;replace dV:=dV.mono aD;replace bM:=bM.trans aD;replace cD:=cD.trans aD;replace eL:=eL.trans aD;replace eT:=eT.trans aD;exact bG rfl (aU rfl rfl (aE (bN rfl trivial rfl)))
       refine bJ rfl ?_ ?_
       ·intro X ext HD aD _
        replace hT:=hT.mono aD;replace hs:=hs.mono aD;replace dG:=dG.mono aD;replace dH:=dH.mono aD;replace hJ:=hJ.mono aD;replace hS:=hS.mono aD;replace hK:=hK.mono aD;replace hX:=hX.mono aD;replace dM:=dM.mono aD;replace dO:=dO.mono aD;replace dW:=dW.mono aD;replace dS:=dS.mono aD;replace dU:=dU.mono aD;replace dV:=dV.mono aD;replace bM:=bM.trans aD;replace cD:=cD.trans aD;replace eL:=eL.trans aD;replace eT:=eT.trans aD;exact wQq rfl rfl rfl (bG rfl (dJ rfl rfl (bU (by omega) (by omega)) rfl (aE (bN rfl trivial rfl))))
       refine bJ rfl ?_ ?_
       ·intro X ext HD aD _
        replace hT:=hT.mono aD;replace hs:=hs.mono aD;replace dG:=dG.mono aD;replace dH:=dH.mono aD;replace hJ:=hJ.mono aD;replace hS:=hS.mono aD;replace hK:=hK.mono aD;replace hX:=hX.mono aD;replace dM:=dM.mono aD;replace dO:=dO.mono aD;replace dW:=dW.mono aD;replace dS:=dS.mono aD;replace dU:=dU.mono aD;replace dV:=dV.mono aD;replace bM:=bM.trans aD;replace cD:=cD.trans aD;replace eL:=eL.trans aD;replace eT:=eT.trans aD;refine wQq rfl rfl rfl (wQq rfl rfl rfl (wQq rfl rfl rfl (bG rfl ?_)))
        have hcap:=dM.le
        rw [iM] at hcap
        refine iP (lo':=(k : Int)) (hi':=(k : Int) + 1) (m':=(_ : Nat)) rfl dM (fT rfl) (fT rfl) fF (by simp) (by omega) (by omega) (by rw [iM];omega) (by omega) (by omega) Tryz.underlying43 gK rfl (fun as355 ls355 hls355 hss355=>?_)
        obtain rfl : ls355 = [jP l m false k]:=by rw [hls355,show ((k : Int) + 1).toNat - (k : Int).toNat = 1 by omega,Int.toNat_natCast];exact zS (tP (by omega))
        refine aE ?_
        exact bN rfl trivial (⟨_,_,rfl,hss355⟩)
       refine bJ rfl ?_ ?_
       ·intro X ext HD aD _
        replace hT:=hT.mono aD;replace hs:=hs.mono aD;replace dG:=dG.mono aD;replace dH:=dH.mono aD;replace hJ:=hJ.mono aD;replace hS:=hS.mono aD;replace hK:=hK.mono aD;replace hX:=hX.mono aD;replace dM:=dM.mono aD;replace dO:=dO.mono aD;replace dW:=dW.mono aD;replace dS:=dS.mono aD;replace dU:=dU.mono aD;replace dV:=dV.mono aD;replace bM:=bM.trans aD;replace cD:=cD.trans aD;replace eL:=eL.trans aD;replace eT:=eT.trans aD;exact bG rfl (bK 0 rfl rfl gK rfl rfl rfl (aE (bN rfl trivial rfl)))
       refine bJ rfl ?_ ?_
       ·intro X ext HD aD _
        replace hT:=hT.mono aD;replace hs:=hs.mono aD;replace dG:=dG.mono aD;replace dH:=dH.mono aD;replace hJ:=hJ.mono aD;replace hS:=hS.mono aD;replace hK:=hK.mono aD;replace hX:=hX.mono aD;replace dM:=dM.mono aD;replace dO:=dO.mono aD;replace dW:=dW.mono aD;replace dS:=dS.mono aD;replace dU:=dU.mono aD;replace dV:=dV.mono aD;replace bM:=bM.trans aD;replace cD:=cD.trans aD;replace eL:=eL.trans aD;replace eT:=eT.trans aD;refine wQq rfl rfl rfl (bG rfl (dB rfl Tryz.underlying43 gK kO rfl rfl rfl (fun b357=>dF 0 rfl rfl rfl (fun HP357 oP357 fD hbP357 hoP357=>?_))));replace hT:=hT.mono fD;replace hs:=hs.mono fD;replace dG:=dG.mono fD;replace dH:=dH.mono fD;replace hJ:=hJ.mono fD;replace hS:=hS.mono fD;replace hK:=hK.mono fD;replace hX:=hX.mono fD;replace dM:=dM.mono fD;replace dO:=dO.mono fD;replace dW:=dW.mono fD;replace dS:=dS.mono fD;replace dU:=dU.mono fD;replace dV:=dV.mono fD;replace bM:=bM.trans fD;replace cD:=cD.trans fD;replace eL:=eL.trans fD;replace eT:=eT.trans fD
        have nY:=SlR.lit (ρ:=opR) (l:=[jP l m false k]) hbP357 hoP357 (eN.one1 (by rw [hout0];first | exact ⟨_,_,rfl,dS⟩ | exact ⟨_,_,rfl,SlR.nil0 _ _⟩))
        refine aE ?_
        exact bN rfl trivial (⟨_,rfl,nY⟩)
       refine bJ rfl ?_ ?_
       ·intro X ext HD aD _
        replace hT:=hT.mono aD;replace hs:=hs.mono aD;replace dG:=dG.mono aD;replace dH:=dH.mono aD;replace hJ:=hJ.mono aD;replace hS:=hS.mono aD;replace hK:=hK.mono aD;replace hX:=hX.mono aD;replace dM:=dM.mono aD;replace dO:=dO.mono aD;replace dW:=dW.mono aD;replace dS:=dS.mono aD;replace dU:=dU.mono aD;replace dV:=dV.mono aD;replace bM:=bM.trans aD;replace cD:=cD.trans aD;replace eL:=eL.trans aD;replace eT:=eT.trans aD;refine dD rfl rfl ?_;rintro _ ⟨aA,cA,rfl,hslA⟩;refine dD rfl rfl ?_;rintro _ ⟨bs357,rfl,nY⟩;exact bG rfl (bR rfl (nJ _ _ _ _ (jP l m false k) _ hslA nY (sT l m false k hMl)) rfl (aE (bN rfl trivial rfl)))
       refine bJ rfl ?_ ?_
       ·intro X ext HD aD _
        replace hT:=hT.mono aD;replace hs:=hs.mono aD;replace dG:=dG.mono aD;replace dH:=dH.mono aD;replace hJ:=hJ.mono aD;replace hS:=hS.mono aD;replace hK:=hK.mono aD;replace hX:=hX.mono aD;replace dM:=dM.mono aD;replace dO:=dO.mono aD;replace dW:=dW.mono aD;replace dS:=dS.mono aD;replace dU:=dU.mono aD;replace dV:=dV.mono aD;replace bM:=bM.trans aD;replace cD:=cD.trans aD;replace eL:=eL.trans aD;replace eT:=eT.trans aD;exact wQq rfl rfl rfl (bG rfl (fC rfl rfl (aE (bN rfl trivial rfl))))
       refine bJ rfl ?_ ?_
       ·intro X ext HD aD _
        replace hT:=hT.mono aD;replace hs:=hs.mono aD;replace dG:=dG.mono aD;replace dH:=dH.mono aD;replace hJ:=hJ.mono aD;replace hS:=hS.mono aD;replace hK:=hK.mono aD;replace hX:=hX.mono aD;replace dM:=dM.mono aD;replace dO:=dO.mono aD;replace dW:=dW.mono aD;replace dS:=dS.mono aD;replace dU:=dU.mono aD;replace dV:=dV.mono aD;replace bM:=bM.trans aD;replace cD:=cD.trans aD;replace eL:=eL.trans aD;replace eT:=eT.trans aD;exact wQq rfl rfl rfl (bG rfl (aU rfl rfl (aE (bN rfl trivial rfl))))
       refine bJ rfl ?_ ?_
       ·intro X ext HD aD _
        replace hT:=hT.mono aD;replace hs:=hs.mono aD;replace dG:=dG.mono aD;replace dH:=dH.mono aD;replace hJ:=hJ.mono aD;replace hS:=hS.mono aD;replace hK:=hK.mono aD;replace hX:=hX.mono aD;replace dM:=dM.mono aD;replace dO:=dO.mono aD;replace dW:=dW.mono aD;replace dS:=dS.mono aD;replace dU:=dU.mono aD;replace dV:=dV.mono aD;replace bM:=bM.trans aD;replace cD:=cD.trans aD;replace eL:=eL.trans aD;replace eT:=eT.trans aD;exact wQq rfl rfl rfl (bG rfl (bE rfl rfl rfl rfl (aU rfl rfl (aE (bN rfl trivial rfl)))))
       refine bJ rfl ?_ ?_
       ·intro X ext HD aD _
        replace hT:=hT.mono aD;replace hs:=hs.mono aD;replace dG:=dG.mono aD;replace dH:=dH.mono aD;replace hJ:=hJ.mono aD;replace hS:=hS.mono aD;replace hK:=hK.mono aD;replace hX:=hX.mono aD;replace dM:=dM.mono aD;replace dO:=dO.mono aD;replace dW:=dW.mono aD;replace dS:=dS.mono aD;replace dU:=dU.mono aD;replace dV:=dV.mono aD;replace bM:=bM.trans aD;replace cD:=cD.trans aD;replace eL:=eL.trans aD;replace eT:=eT.trans aD;exact wQq rfl rfl rfl (bG rfl (bE rfl rfl rfl rfl (aU rfl rfl (aE (bN rfl trivial rfl)))))
       refine bJ rfl ?_ ?_
       ·intro X ext HD aD _
        replace hT:=hT.mono aD;replace hs:=hs.mono aD;replace dG:=dG.mono aD;replace dH:=dH.mono aD;replace hJ:=hJ.mono aD;replace hS:=hS.mono aD;replace hK:=hK.mono aD;replace hX:=hX.mono aD;replace dM:=dM.mono aD;replace dO:=dO.mono aD;replace dW:=dW.mono aD;replace dS:=dS.mono aD;replace dU:=dU.mono aD;replace dV:=dV.mono aD;replace bM:=bM.trans aD;replace cD:=cD.trans aD;replace eL:=eL.trans aD;replace eT:=eT.trans aD;exact wQq rfl rfl rfl (bG rfl (bE rfl rfl rfl rfl (aU rfl rfl (aE (bN rfl trivial rfl)))))
       refine bJ rfl ?_ ?_
       ·intro X ext HD aD _
        replace hT:=hT.mono aD;replace hs:=hs.mono aD;replace dG:=dG.mono aD;replace dH:=dH.mono aD;replace hJ:=hJ.mono aD;replace hS:=hS.mono aD;replace hK:=hK.mono aD;replace hX:=hX.mono aD;replace dM:=dM.mono aD;replace dO:=dO.mono aD;replace dW:=dW.mono aD;replace dS:=dS.mono aD;replace dU:=dU.mono aD;replace dV:=dV.mono aD;replace bM:=bM.trans aD;replace cD:=cD.trans aD;replace eL:=eL.trans aD;replace eT:=eT.trans aD;exact wQq rfl rfl rfl (wQq rfl rfl rfl (bG rfl (bE rfl rfl rfl rfl (dJ rfl rfl (bU (by omega) (by omega)) rfl (aE (bN rfl trivial rfl))))))
       refine bJ rfl ?_ ?_
       ·intro X ext HD aD _
        replace hT:=hT.mono aD;replace hs:=hs.mono aD;replace dG:=dG.mono aD;replace dH:=dH.mono aD;replace hJ:=hJ.mono aD;replace hS:=hS.mono aD;replace hK:=hK.mono aD;replace hX:=hX.mono aD;replace dM:=dM.mono aD;replace dO:=dO.mono aD;replace dW:=dW.mono aD;replace dS:=dS.mono aD;replace dU:=dU.mono aD;replace dV:=dV.mono aD;replace bM:=bM.trans aD;replace cD:=cD.trans aD;replace eL:=eL.trans aD;replace eT:=eT.trans aD;refine wQq rfl rfl rfl (wQq rfl rfl rfl (wQq rfl rfl rfl (wQq rfl rfl rfl (bG rfl (bE rfl rfl rfl rfl ?_)))))
        have hcap:=dO.le
        rw [iM] at hcap
        refine iP (lo':=(k : Int)) (hi':=(k : Int) + 1) (m':=(_ : Nat)) rfl dO (fT rfl) (fT rfl) fF (by simp) (by omega) (by omega) (by rw [iM];omega) (by omega) (by omega) Tryz.underlying43 gK rfl (fun as365 ls365 hls365 hss365=>?_)
        obtain rfl : ls365 = [jP l m true k]:=by rw [hls365,show ((k : Int) + 1).toNat - (k : Int).toNat = 1 by omega,Int.toNat_natCast];exact zS (tP (by omega))
        refine aE ?_
        exact bN rfl trivial (⟨_,_,rfl,hss365⟩)
       refine bJ rfl ?_ ?_
       ·intro X ext HD aD _
        replace hT:=hT.mono aD;replace hs:=hs.mono aD;replace dG:=dG.mono aD;replace dH:=dH.mono aD;replace hJ:=hJ.mono aD;replace hS:=hS.mono aD;replace hK:=hK.mono aD;replace hX:=hX.mono aD;replace dM:=dM.mono aD;replace dO:=dO.mono aD;replace dW:=dW.mono aD;replace dS:=dS.mono aD;replace dU:=dU.mono aD;replace dV:=dV.mono aD;replace bM:=bM.trans aD;replace cD:=cD.trans aD;replace eL:=eL.trans aD;replace eT:=eT.trans aD;exact wQq rfl rfl rfl (bG rfl (bE rfl rfl rfl rfl (bK 1 rfl rfl gK rfl rfl rfl (aE (bN rfl trivial rfl)))))
       refine bJ rfl ?_ ?_
       ·intro X ext HD aD _
        replace hT:=hT.mono aD;replace hs:=hs.mono aD;replace dG:=dG.mono aD;replace dH:=dH.mono aD;replace hJ:=hJ.mono aD;replace hS:=hS.mono aD;replace hK:=hK.mono aD;replace hX:=hX.mono aD;replace dM:=dM.mono aD;replace dO:=dO.mono aD;replace dW:=dW.mono aD;replace dS:=dS.mono aD;replace dU:=dU.mono aD;replace dV:=dV.mono aD;replace bM:=bM.trans aD;replace cD:=cD.trans aD;replace eL:=eL.trans aD;replace eT:=eT.trans aD;refine wQq rfl rfl rfl (wQq rfl rfl rfl (bG rfl (bE rfl rfl rfl rfl (dB rfl Tryz.underlying43 gK kO rfl rfl rfl (fun b367=>dF 0 rfl rfl rfl (fun HP367 oP367 fE hbP367 hoP367=>?_))))));replace hT:=hT.mono fE;replace hs:=hs.mono fE;replace dG:=dG.mono fE;replace dH:=dH.mono fE;replace hJ:=hJ.mono fE;replace hS:=hS.mono fE;replace hK:=hK.mono fE;replace hX:=hX.mono fE;replace dM:=dM.mono fE;replace dO:=dO.mono fE;replace dW:=dW.mono fE;replace dS:=dS.mono fE;replace dU:=dU.mono fE;replace dV:=dV.mono fE;replace bM:=bM.trans fE;replace cD:=cD.trans fE;replace eL:=eL.trans fE;replace eT:=eT.trans fE
        have hsl367:=SlR.lit (ρ:=opR) (l:=[jP l m true k]) hbP367 hoP367 (eN.one1 (by rw [hout1];first | exact ⟨_,_,rfl,dS⟩ | exact ⟨_,_,rfl,SlR.nil0 _ _⟩))
        refine aE ?_
        exact bN rfl trivial (⟨_,rfl,hsl367⟩)
       exact gI rfl
      case tail43 =>
       intro HD aD _
       replace hT:=hT.mono aD;replace hs:=hs.mono aD;replace dG:=dG.mono aD;replace dH:=dH.mono aD;replace hJ:=hJ.mono aD;replace hS:=hS.mono aD;replace hK:=hK.mono aD;replace hX:=hX.mono aD;replace dM:=dM.mono aD;replace dO:=dO.mono aD;replace dW:=dW.mono aD;replace dS:=dS.mono aD;replace dU:=dU.mono aD;replace dV:=dV.mono aD;replace bM:=bM.trans aD;replace cD:=cD.trans aD;replace eL:=eL.trans aD;replace eT:=eT.trans aD;refine wQq rfl rfl rfl (wQq rfl rfl rfl (wQq rfl rfl rfl (wQq rfl rfl rfl (dD rfl rfl ?_))));rintro _ ⟨aA,cA,rfl,hslA⟩;refine wQq rfl rfl rfl (dD rfl rfl ?_);rintro _ ⟨bs357,rfl,nY⟩;refine wQq rfl rfl rfl (wQq rfl rfl rfl (wQq rfl rfl rfl (wQq rfl rfl rfl (wQq rfl rfl rfl (wQq rfl rfl rfl (wQq rfl rfl rfl (dD rfl rfl ?_)))))));rintro _ ⟨aB,cB,rfl,hslB⟩;refine wQq rfl rfl rfl (dD rfl rfl ?_);rintro _ ⟨bs367,rfl,hsl367⟩;refine bG rfl (fL (bE rfl rfl rfl rfl (bR rfl (nJ _ _ _ _ (jP l m true k) _ hslB hsl367 (sT l m true k hMl)) rfl (bE rfl rfl rfl rfl (fC rfl rfl (dL rfl rfl rfl rfl (aE (aR (dY rfl rfl (bS (dP (aR (aH (dJ rfl rfl (bU (by omega) (by omega)) rfl (aU rfl rfl (aE (cR (k + 1) (by show l.length - (k + 1) < l.length - k;omega) (aQ rfl (aQ rfl (aQ rfl (aQ rfl (aQ rfl (aQ rfl (aQ rfl bP))))))) (⟨by show k + 1 ≤ l.length;omega,rfl⟩) (by repeat(first|exact sL _|apply sD|apply sC)) (eT))))))))))))))))))
     have hout0 : jP l m false k = (2,x334.M):=by unfold jP;rw [if_pos hlx,if_pos (by omega),hjx]
     have hout1 : jP l m true k = (2,x334.M):=by unfold jP;rw [if_pos hlx,if_pos (by omega),hjx]
     refine bS (aR (aZ (cE [11,13,48,50,52,54,55,329,330,331] rfl ?_)))
     have hMl : (l.getD k jd0).M.length < 9223372036854775808:=by rw [hjx];have:=(hr x334 (List.mem_of_getElem? hx334)).m;omega
     apply iG (fun _=>True) trivial [] (by decide) (fun _ _ _ _=>True) (fun _ _ _ _ _ _ h=>h) 17 [eqF _,eqF _,eqF _,eqF _,slG opR [jP l m false k],eqF _,slF opR [jP l m false k],eqF _,eqF _,eqF _,eqF _,eqF _,eqF _,eqF _,slG opR [jP l m true k],eqF _,slF opR [jP l m true k]] follows (by kernel_rfl) ⟨bB _,bB _,bB _,bB _,lD _ _,bB _,gX _ _,bB _,bB _,bB _,bB _,bB _,bB _,bB _,lD _ _,bB _,gX _ _,trivial⟩ (by decide) ?steps46 ?tail46
     case steps46 =>
      refine bJ rfl ?_ ?_
      ·intro X ext HD aD _
       replace hT:=hT.mono aD;replace hs:=hs.mono aD;replace dG:=dG.mono aD;replace dH:=dH.mono aD;replace hJ:=hJ.mono aD;replace hS:=hS.mono aD;replace hK:=hK.mono aD;replace hX:=hX.mono aD;replace dM:=dM.mono aD;replace dO:=dO.mono aD;replace dW:=dW.mono aD;replace dS:=dS.mono aD;replace dU:=dU.mono aD;replace dV:=dV.mono aD;replace bM:=bM.trans aD;replace cD:=cD.trans aD;replace eL:=eL.trans aD;replace eT:=eT.trans aD;exact bG rfl (aU rfl rfl (aE (bN rfl trivial rfl)))
      refine bJ rfl ?_ ?_
      ·intro X ext HD aD _
       replace hT:=hT.mono aD;replace hs:=hs.mono aD;replace dG:=dG.mono aD;replace dH:=dH.mono aD;replace hJ:=hJ.mono aD;replace hS:=hS.mono aD;replace hK:=hK.mono aD;replace hX:=hX.mono aD;replace dM:=dM.mono aD;replace dO:=dO.mono aD;replace dW:=dW.mono aD;replace dS:=dS.mono aD;replace dU:=dU.mono aD;replace dV:=dV.mono aD;replace bM:=bM.trans aD;replace cD:=cD.trans aD;replace eL:=eL.trans aD;replace eT:=eT.trans aD;exact bG rfl (aU rfl rfl (aE (bN rfl trivial rfl)))
      refine bJ rfl ?_ ?_
      ·intro X ext HD aD _
       replace hT:=hT.mono aD;replace hs:=hs.mono aD;replace dG:=dG.mono aD;replace dH:=dH.mono aD;replace hJ:=hJ.mono aD;replace hS:=hS.mono aD;replace hK:=hK.mono aD;replace hX:=hX.mono aD;replace dM:=dM.mono aD;replace dO:=dO.mono aD;replace dW:=dW.mono aD;replace dS:=dS.mono aD;replace dU:=dU.mono aD;replace dV:=dV.mono aD;replace bM:=bM.trans aD;replace cD:=cD.trans aD;replace eL:=eL.trans aD;replace eT:=eT.trans aD;exact bG rfl (aU rfl rfl (aE (bN rfl trivial rfl)))
      refine bJ rfl ?_ ?_
      ·intro X ext HD aD _
       replace hT:=hT.mono aD;replace hs:=hs.mono aD;replace dG:=dG.mono aD;replace dH:=dH.mono aD;replace hJ:=hJ.mono aD;replace hS:=hS.mono aD;replace hK:=hK.mono aD;replace hX:=hX.mono aD;replace dM:=dM.mono aD;replace dO:=dO.mono aD;replace dW:=dW.mono aD;replace dS:=dS.mono aD;replace dU:=dU.mono aD;replace dV:=dV.mono aD;replace bM:=bM.trans aD;replace cD:=cD.trans aD;replace eL:=eL.trans aD;replace eT:=eT.trans aD;exact wQq rfl rfl rfl (bG rfl (dJ rfl rfl (bU (by omega) (by omega)) rfl (aE (bN rfl trivial rfl))))
      refine bJ rfl ?_ ?_
      ·intro X ext HD aD _
       replace hT:=hT.mono aD;replace hs:=hs.mono aD;replace dG:=dG.mono aD;replace dH:=dH.mono aD;replace hJ:=hJ.mono aD;replace hS:=hS.mono aD;replace hK:=hK.mono aD;replace hX:=hX.mono aD;replace dM:=dM.mono aD;replace dO:=dO.mono aD;replace dW:=dW.mono aD;replace dS:=dS.mono aD;replace dU:=dU.mono aD;replace dV:=dV.mono aD;replace bM:=bM.trans aD;replace cD:=cD.trans aD;replace eL:=eL.trans aD;replace eT:=eT.trans aD;refine wQq rfl rfl rfl (wQq rfl rfl rfl (wQq rfl rfl rfl (bG rfl ?_)))
       have hcap:=dM.le
       rw [iM] at hcap
       refine iP (lo':=(k : Int)) (hi':=(k : Int) + 1) (m':=(_ : Nat)) rfl dM (fT rfl) (fT rfl) fF (by simp) (by omega) (by omega) (by rw [iM];omega) (by omega) (by omega) Tryz.underlying43 gK rfl (fun as355 ls355 hls355 hss355=>?_)
       obtain rfl : ls355 = [jP l m false k]:=by rw [hls355,show ((k : Int) + 1).toNat - (k : Int).toNat = 1 by omega,Int.toNat_natCast];exact zS (tP (by omega))
       refine aE ?_
       exact bN rfl trivial (⟨_,_,rfl,hss355⟩)
      refine bJ rfl ?_ ?_
      ·intro X ext HD aD _
       replace hT:=hT.mono aD;replace hs:=hs.mono aD;replace dG:=dG.mono aD;replace dH:=dH.mono aD;replace hJ:=hJ.mono aD;replace hS:=hS.mono aD;replace hK:=hK.mono aD;replace hX:=hX.mono aD;replace dM:=dM.mono aD;replace dO:=dO.mono aD;replace dW:=dW.mono aD;replace dS:=dS.mono aD;replace dU:=dU.mono aD;replace dV:=dV.mono aD;replace bM:=bM.trans aD;replace cD:=cD.trans aD;replace eL:=eL.trans aD;replace eT:=eT.trans aD;exact bG rfl (bK 0 rfl rfl gK rfl rfl rfl (aE (bN rfl trivial rfl)))
      refine bJ rfl ?_ ?_
      ·intro X ext HD aD _
       replace hT:=hT.mono aD;replace hs:=hs.mono aD;replace dG:=dG.mono aD;replace dH:=dH.mono aD;replace hJ:=hJ.mono aD;replace hS:=hS.mono aD;replace hK:=hK.mono aD;replace hX:=hX.mono aD;replace dM:=dM.mono aD;replace dO:=dO.mono aD;replace dW:=dW.mono aD;replace dS:=dS.mono aD;replace dU:=dU.mono aD;replace dV:=dV.mono aD;replace bM:=bM.trans aD;replace cD:=cD.trans aD;replace eL:=eL.trans aD;replace eT:=eT.trans aD;refine wQq rfl rfl rfl (bG rfl (dB rfl Tryz.underlying43 gK kO rfl rfl rfl (fun b357=>dF 0 rfl rfl rfl (fun HP357 oP357 fD hbP357 hoP357=>?_))));replace hT:=hT.mono fD;replace hs:=hs.mono fD;replace dG:=dG.mono fD;replace dH:=dH.mono fD;replace hJ:=hJ.mono fD;replace hS:=hS.mono fD;replace hK:=hK.mono fD;replace hX:=hX.mono fD;replace dM:=dM.mono fD;replace dO:=dO.mono fD;replace dW:=dW.mono fD;replace dS:=dS.mono fD;replace dU:=dU.mono fD;replace dV:=dV.mono fD;replace bM:=bM.trans fD;replace cD:=cD.trans fD;replace eL:=eL.trans fD;replace eT:=eT.trans fD
       have nY:=SlR.lit (ρ:=opR) (l:=[jP l m false k]) hbP357 hoP357 (eN.one1 (by rw [hout0];first | exact ⟨_,_,rfl,dS⟩ | exact ⟨_,_,rfl,SlR.nil0 _ _⟩))
       refine aE ?_
       exact bN rfl trivial (⟨_,rfl,nY⟩)
      refine bJ rfl ?_ ?_
      ·intro X ext HD aD _
       replace hT:=hT.mono aD;replace hs:=hs.mono aD;replace dG:=dG.mono aD;replace dH:=dH.mono aD;replace hJ:=hJ.mono aD;replace hS:=hS.mono aD;replace hK:=hK.mono aD;replace hX:=hX.mono aD;replace dM:=dM.mono aD;replace dO:=dO.mono aD;replace dW:=dW.mono aD;replace dS:=dS.mono aD;replace dU:=dU.mono aD;replace dV:=dV.mono aD;replace bM:=bM.trans aD;replace cD:=cD.trans aD;replace eL:=eL.trans aD;replace eT:=eT.trans aD;refine dD rfl rfl ?_;rintro _ ⟨aA,cA,rfl,hslA⟩;refine dD rfl rfl ?_;rintro _ ⟨bs357,rfl,nY⟩;exact bG rfl (bR rfl (nJ _ _ _ _ (jP l m false k) _ hslA nY (sT l m false k hMl)) rfl (aE (bN rfl trivial rfl)))
      refine bJ rfl ?_ ?_
      ·intro X ext HD aD _
       replace hT:=hT.mono aD;replace hs:=hs.mono aD;replace dG:=dG.mono aD;replace dH:=dH.mono aD;replace hJ:=hJ.mono aD;replace hS:=hS.mono aD;replace hK:=hK.mono aD;replace hX:=hX.mono aD;replace dM:=dM.mono aD;replace dO:=dO.mono aD;replace dW:=dW.mono aD;replace dS:=dS.mono aD;replace dU:=dU.mono aD;replace dV:=dV.mono aD;replace bM:=bM.trans aD;replace cD:=cD.trans aD;replace eL:=eL.trans aD;replace eT:=eT.trans aD;exact wQq rfl rfl rfl (bG rfl (fC rfl rfl (aE (bN rfl trivial rfl))))
      refine bJ rfl ?_ ?_
      ·intro X ext HD aD _
       replace hT:=hT.mono aD;replace hs:=hs.mono aD;replace dG:=dG.mono aD;replace dH:=dH.mono aD;replace hJ:=hJ.mono aD;replace hS:=hS.mono aD;replace hK:=hK.mono aD;replace hX:=hX.mono aD;replace dM:=dM.mono aD;replace dO:=dO.mono aD;replace dW:=dW.mono aD;replace dS:=dS.mono aD;replace dU:=dU.mono aD;replace dV:=dV.mono aD;replace bM:=bM.trans aD;replace cD:=cD.trans aD;replace eL:=eL.trans aD;replace eT:=eT.trans aD;exact wQq rfl rfl rfl (bG rfl (aU rfl rfl (aE (bN rfl trivial rfl))))
      refine bJ rfl ?_ ?_
      ·intro X ext HD aD _
       replace hT:=hT.mono aD;replace hs:=hs.mono aD;replace dG:=dG.mono aD;replace dH:=dH.mono aD;replace hJ:=hJ.mono aD;replace hS:=hS.mono aD;replace hK:=hK.mono aD;replace hX:=hX.mono aD;replace dM:=dM.mono aD;replace dO:=dO.mono aD;replace dW:=dW.mono aD;replace dS:=dS.mono aD;replace dU:=dU.mono aD;replace dV:=dV.mono aD;replace bM:=bM.trans aD;replace cD:=cD.trans aD;replace eL:=eL.trans aD;replace eT:=eT.trans aD;exact wQq rfl rfl rfl (bG rfl (bE rfl rfl rfl rfl (aU rfl rfl (aE (bN rfl trivial rfl)))))
      refine bJ rfl ?_ ?_
      ·intro X ext HD aD _
       replace hT:=hT.mono aD;replace hs:=hs.mono aD;replace dG:=dG.mono aD;replace dH:=dH.mono aD;replace hJ:=hJ.mono aD;replace hS:=hS.mono aD;replace hK:=hK.mono aD;replace hX:=hX.mono aD;replace dM:=dM.mono aD;replace dO:=dO.mono aD;replace dW:=dW.mono aD;replace dS:=dS.mono aD;replace dU:=dU.mono aD;replace dV:=dV.mono aD;replace bM:=bM.trans aD;replace cD:=cD.trans aD;replace eL:=eL.trans aD;replace eT:=eT.trans aD;exact wQq rfl rfl rfl (bG rfl (bE rfl rfl rfl rfl (aU rfl rfl (aE (bN rfl trivial rfl)))))
      refine bJ rfl ?_ ?_
      ·intro X ext HD aD _
       replace hT:=hT.mono aD;replace hs:=hs.mono aD;replace dG:=dG.mono aD;replace dH:=dH.mono aD;replace hJ:=hJ.mono aD;replace hS:=hS.mono aD;replace hK:=hK.mono aD;replace hX:=hX.mono aD;replace dM:=dM.mono aD;replace dO:=dO.mono aD;replace dW:=dW.mono aD;replace dS:=dS.mono aD;replace dU:=dU.mono aD;replace dV:=dV.mono aD;replace bM:=bM.trans aD;replace cD:=cD.trans aD;replace eL:=eL.trans aD;replace eT:=eT.trans aD;exact wQq rfl rfl rfl (bG rfl (bE rfl rfl rfl rfl (aU rfl rfl (aE (bN rfl trivial rfl)))))
      refine bJ rfl ?_ ?_
      ·intro X ext HD aD _
       replace hT:=hT.mono aD;replace hs:=hs.mono aD;replace dG:=dG.mono aD;replace dH:=dH.mono aD;replace hJ:=hJ.mono aD;replace hS:=hS.mono aD;replace hK:=hK.mono aD;replace hX:=hX.mono aD;replace dM:=dM.mono aD;replace dO:=dO.mono aD;replace dW:=dW.mono aD;replace dS:=dS.mono aD;replace dU:=dU.mono aD;replace dV:=dV.mono aD;replace bM:=bM.trans aD;replace cD:=cD.trans aD;replace eL:=eL.trans aD;replace eT:=eT.trans aD;exact wQq rfl rfl rfl (wQq rfl rfl rfl (bG rfl (bE rfl rfl rfl rfl (dJ rfl rfl (bU (by omega) (by omega)) rfl (aE (bN rfl trivial rfl))))))
      refine bJ rfl ?_ ?_
      ·intro X ext HD aD _
       replace hT:=hT.mono aD;replace hs:=hs.mono aD;replace dG:=dG.mono aD;replace dH:=dH.mono aD;replace hJ:=hJ.mono aD;replace hS:=hS.mono aD;replace hK:=hK.mono aD;replace hX:=hX.mono aD;replace dM:=dM.mono aD;replace dO:=dO.mono aD;replace dW:=dW.mono aD;replace dS:=dS.mono aD;replace dU:=dU.mono aD;replace dV:=dV.mono aD;replace bM:=bM.trans aD;replace cD:=cD.trans aD;replace eL:=eL.trans aD;replace eT:=eT.trans aD;refine wQq rfl rfl rfl (wQq rfl rfl rfl (wQq rfl rfl rfl (wQq rfl rfl rfl (bG rfl (bE rfl rfl rfl rfl ?_)))))
       have hcap:=dO.le
       rw [iM] at hcap
       refine iP (lo':=(k : Int)) (hi':=(k : Int) + 1) (m':=(_ : Nat)) rfl dO (fT rfl) (fT rfl) fF (by simp) (by omega) (by omega) (by rw [iM];omega) (by omega) (by omega) Tryz.underlying43 gK rfl (fun as365 ls365 hls365 hss365=>?_)
       obtain rfl : ls365 = [jP l m true k]:=by rw [hls365,show ((k : Int) + 1).toNat - (k : Int).toNat = 1 by omega,Int.toNat_natCast];exact zS (tP (by omega))
       refine aE ?_
       exact bN rfl trivial (⟨_,_,rfl,hss365⟩)
      refine bJ rfl ?_ ?_
      ·intro X ext HD aD _
       replace hT:=hT.mono aD;replace hs:=hs.mono aD;replace dG:=dG.mono aD;replace dH:=dH.mono aD;replace hJ:=hJ.mono aD;replace hS:=hS.mono aD;replace hK:=hK.mono aD;replace hX:=hX.mono aD;replace dM:=dM.mono aD;replace dO:=dO.mono aD;replace dW:=dW.mono aD;replace dS:=dS.mono aD;replace dU:=dU.mono aD;replace dV:=dV.mono aD;replace bM:=bM.trans aD;replace cD:=cD.trans aD;replace eL:=eL.trans aD;replace eT:=eT.trans aD;exact wQq rfl rfl rfl (bG rfl (bE rfl rfl rfl rfl (bK 1 rfl rfl gK rfl rfl rfl (aE (bN rfl trivial rfl)))))
      refine bJ rfl ?_ ?_
      ·intro X ext HD aD _
       replace hT:=hT.mono aD;replace hs:=hs.mono aD;replace dG:=dG.mono aD;replace dH:=dH.mono aD;replace hJ:=hJ.mono aD;replace hS:=hS.mono aD;replace hK:=hK.mono aD;replace hX:=hX.mono aD;replace dM:=dM.mono aD;replace dO:=dO.mono aD;replace dW:=dW.mono aD;replace dS:=dS.mono aD;replace dU:=dU.mono aD;replace dV:=dV.mono aD;replace bM:=bM.trans aD;replace cD:=cD.trans aD;replace eL:=eL.trans aD;replace eT:=eT.trans aD;refine wQq rfl rfl rfl (wQq rfl rfl rfl (bG rfl (bE rfl rfl rfl rfl (dB rfl Tryz.underlying43 gK kO rfl rfl rfl (fun b367=>dF 0 rfl rfl rfl (fun HP367 oP367 fE hbP367 hoP367=>?_))))));replace hT:=hT.mono fE;replace hs:=hs.mono fE;replace dG:=dG.mono fE;replace dH:=dH.mono fE;replace hJ:=hJ.mono fE;replace hS:=hS.mono fE;replace hK:=hK.mono fE;replace hX:=hX.mono fE;replace dM:=dM.mono fE;replace dO:=dO.mono fE;replace dW:=dW.mono fE;replace dS:=dS.mono fE;replace dU:=dU.mono fE;replace dV:=dV.mono fE;replace bM:=bM.trans fE;replace cD:=cD.trans fE;replace eL:=eL.trans fE;replace eT:=eT.trans fE
       have hsl367:=SlR.lit (ρ:=opR) (l:=[jP l m true k]) hbP367 hoP367 (eN.one1 (by rw [hout1];first | exact ⟨_,_,rfl,dS⟩ | exact ⟨_,_,rfl,SlR.nil0 _ _⟩))
       refine aE ?_
       exact bN rfl trivial (⟨_,rfl,hsl367⟩)
      exact gI rfl
     case tail46 =>
      intro HD aD _
      replace hT:=hT.mono aD;replace hs:=hs.mono aD;replace dG:=dG.mono aD;replace dH:=dH.mono aD;replace hJ:=hJ.mono aD;replace hS:=hS.mono aD;replace hK:=hK.mono aD;replace hX:=hX.mono aD;replace dM:=dM.mono aD;replace dO:=dO.mono aD;replace dW:=dW.mono aD;replace dS:=dS.mono aD;replace dU:=dU.mono aD;replace dV:=dV.mono aD;replace bM:=bM.trans aD;replace cD:=cD.trans aD;replace eL:=eL.trans aD;replace eT:=eT.trans aD;refine wQq rfl rfl rfl (wQq rfl rfl rfl (wQq rfl rfl rfl (wQq rfl rfl rfl (dD rfl rfl ?_))));rintro _ ⟨aA,cA,rfl,hslA⟩;refine wQq rfl rfl rfl (dD rfl rfl ?_);rintro _ ⟨bs357,rfl,nY⟩;refine wQq rfl rfl rfl (wQq rfl rfl rfl (wQq rfl rfl rfl (wQq rfl rfl rfl (wQq rfl rfl rfl (wQq rfl rfl rfl (wQq rfl rfl rfl (dD rfl rfl ?_)))))));rintro _ ⟨aB,cB,rfl,hslB⟩;refine wQq rfl rfl rfl (dD rfl rfl ?_);rintro _ ⟨bs367,rfl,hsl367⟩;refine bG rfl (fL (bE rfl rfl rfl rfl (bR rfl (nJ _ _ _ _ (jP l m true k) _ hslB hsl367 (sT l m true k hMl)) rfl (bE rfl rfl rfl rfl (fC rfl rfl (dL rfl rfl rfl rfl (aE (aR (dY rfl rfl (bS (dP (aR (aH (dJ rfl rfl (bU (by omega) (by omega)) rfl (aU rfl rfl (aE (cR (k + 1) (by show l.length - (k + 1) < l.length - k;omega) (aQ rfl (aQ rfl (aQ rfl (aQ rfl (aQ rfl (aQ rfl (aQ rfl bP))))))) (⟨by show k + 1 ≤ l.length;omega,rfl⟩) (by repeat(first|exact sL _|apply sD|apply sC)) (eT))))))))))))))))))
    have hjx:=vE hx334
    have hlx : lst l k = false:=tS hx334 c25_41
    have hout0 : jP l m false k = (1,x334.M):=by unfold jP;rw [if_neg (by rw [hlx];decide),hjx]
    have hout1 : jP l m true k = (1,x334.M):=by unfold jP;rw [if_neg (by rw [hlx];decide),hjx]
    refine bS (aR (aZ (cE [11,13,48,50,52,54,55,329,330,331] rfl ?_)))
    have hMl : (l.getD k jd0).M.length < 9223372036854775808:=by rw [hjx];have:=(hr x334 (List.mem_of_getElem? hx334)).m;omega
    apply iG (fun _=>True) trivial [] (by decide) (fun _ _ _ _=>True) (fun _ _ _ _ _ _ h=>h) 17 [eqF _,eqF _,eqF _,eqF _,slG opR [jP l m false k],eqF _,slF opR [jP l m false k],eqF _,eqF _,eqF _,eqF _,eqF _,eqF _,eqF _,slG opR [jP l m true k],eqF _,slF opR [jP l m true k]] follows (by kernel_rfl) ⟨bB _,bB _,bB _,bB _,lD _ _,bB _,gX _ _,bB _,bB _,bB _,bB _,bB _,bB _,bB _,lD _ _,bB _,gX _ _,trivial⟩ (by decide) ?steps49 ?tail49
    case steps49 =>
     refine bJ rfl ?_ ?_
     ·intro X ext HD aD _
      replace hT:=hT.mono aD;replace hs:=hs.mono aD;replace dG:=dG.mono aD;replace dH:=dH.mono aD;replace hJ:=hJ.mono aD;replace hS:=hS.mono aD;replace hK:=hK.mono aD;replace hX:=hX.mono aD;replace dM:=dM.mono aD;replace dO:=dO.mono aD;replace dW:=dW.mono aD;replace dS:=dS.mono aD;replace dU:=dU.mono aD;replace dV:=dV.mono aD;replace bM:=bM.trans aD;replace cD:=cD.trans aD;replace eL:=eL.trans aD;replace eT:=eT.trans aD;exact bG rfl (aU rfl rfl (aE (bN rfl trivial rfl)))
     refine bJ rfl ?_ ?_
     ·intro X ext HD aD _
      replace hT:=hT.mono aD;replace hs:=hs.mono aD;replace dG:=dG.mono aD;replace dH:=dH.mono aD;replace hJ:=hJ.mono aD;replace hS:=hS.mono aD;replace hK:=hK.mono aD;replace hX:=hX.mono aD;replace dM:=dM.mono aD;replace dO:=dO.mono aD;replace dW:=dW.mono aD;replace dS:=dS.mono aD;replace dU:=dU.mono aD;replace dV:=dV.mono aD;replace bM:=bM.trans aD;replace cD:=cD.trans aD;replace eL:=eL.trans aD;replace eT:=eT.trans aD;exact bG rfl (aU rfl rfl (aE (bN rfl trivial rfl)))
     refine bJ rfl ?_ ?_
     ·intro X ext HD aD _
      replace hT:=hT.mono aD;replace hs:=hs.mono aD;replace dG:=dG.mono aD;replace dH:=dH.mono aD;replace hJ:=hJ.mono aD;replace hS:=hS.mono aD;replace hK:=hK.mono aD;replace hX:=hX.mono aD;replace dM:=dM.mono aD;replace dO:=dO.mono aD;replace dW:=dW.mono aD;replace dS:=dS.mono aD;replace dU:=dU.mono aD;replace dV:=dV.mono aD;replace bM:=bM.trans aD;replace cD:=cD.trans aD;replace eL:=eL.trans aD;replace eT:=eT.trans aD;exact bG rfl (aU rfl rfl (aE (bN rfl trivial rfl)))
     refine bJ rfl ?_ ?_
     ·intro X ext HD aD _
      replace hT:=hT.mono aD;replace hs:=hs.mono aD;replace dG:=dG.mono aD;replace dH:=dH.mono aD;replace hJ:=hJ.mono aD;replace hS:=hS.mono aD;replace hK:=hK.mono aD;replace hX:=hX.mono aD;replace dM:=dM.mono aD;replace dO:=dO.mono aD;replace dW:=dW.mono aD;replace dS:=dS.mono aD;replace dU:=dU.mono aD;replace dV:=dV.mono aD;replace bM:=bM.trans aD;replace cD:=cD.trans aD;replace eL:=eL.trans aD;replace eT:=eT.trans aD;exact wQq rfl rfl rfl (bG rfl (dJ rfl rfl (bU (by omega) (by omega)) rfl (aE (bN rfl trivial rfl))))
     refine bJ rfl ?_ ?_
     ·intro X ext HD aD _
      replace hT:=hT.mono aD;replace hs:=hs.mono aD;replace dG:=dG.mono aD;replace dH:=dH.mono aD;replace hJ:=hJ.mono aD;replace hS:=hS.mono aD;replace hK:=hK.mono aD;replace hX:=hX.mono aD;replace dM:=dM.mono aD;replace dO:=dO.mono aD;replace dW:=dW.mono aD;replace dS:=dS.mono aD;replace dU:=dU.mono aD;replace dV:=dV.mono aD;replace bM:=bM.trans aD;replace cD:=cD.trans aD;replace eL:=eL.trans aD;replace eT:=eT.trans aD;refine wQq rfl rfl rfl (wQq rfl rfl rfl (wQq rfl rfl rfl (bG rfl ?_)))
      have hcap:=dM.le
      rw [iM] at hcap
      refine iP (lo':=(k : Int)) (hi':=(k : Int) + 1) (m':=(_ : Nat)) rfl dM (fT rfl) (fT rfl) fF (by simp) (by omega) (by omega) (by rw [iM];omega) (by omega) (by omega) Tryz.underlying43 gK rfl (fun as355 ls355 hls355 hss355=>?_)
      obtain rfl : ls355 = [jP l m false k]:=by rw [hls355,show ((k : Int) + 1).toNat - (k : Int).toNat = 1 by omega,Int.toNat_natCast];exact zS (tP (by omega))
      refine aE ?_
      exact bN rfl trivial (⟨_,_,rfl,hss355⟩)
     refine bJ rfl ?_ ?_
     ·intro X ext HD aD _
      replace hT:=hT.mono aD;replace hs:=hs.mono aD;replace dG:=dG.mono aD;replace dH:=dH.mono aD;replace hJ:=hJ.mono aD;replace hS:=hS.mono aD;replace hK:=hK.mono aD;replace hX:=hX.mono aD;replace dM:=dM.mono aD;replace dO:=dO.mono aD;replace dW:=dW.mono aD;replace dS:=dS.mono aD;replace dU:=dU.mono aD;replace dV:=dV.mono aD;replace bM:=bM.trans aD;replace cD:=cD.trans aD;replace eL:=eL.trans aD;replace eT:=eT.trans aD;exact bG rfl (bK 0 rfl rfl gK rfl rfl rfl (aE (bN rfl trivial rfl)))
     refine bJ rfl ?_ ?_
     ·intro X ext HD aD _
      replace hT:=hT.mono aD;replace hs:=hs.mono aD;replace dG:=dG.mono aD;replace dH:=dH.mono aD;replace hJ:=hJ.mono aD;replace hS:=hS.mono aD;replace hK:=hK.mono aD;replace hX:=hX.mono aD;replace dM:=dM.mono aD;replace dO:=dO.mono aD;replace dW:=dW.mono aD;replace dS:=dS.mono aD;replace dU:=dU.mono aD;replace dV:=dV.mono aD;replace bM:=bM.trans aD;replace cD:=cD.trans aD;replace eL:=eL.trans aD;replace eT:=eT.trans aD;refine wQq rfl rfl rfl (bG rfl (dB rfl Tryz.underlying43 gK kO rfl rfl rfl (fun b357=>dF 0 rfl rfl rfl (fun HP357 oP357 fD hbP357 hoP357=>?_))));replace hT:=hT.mono fD;replace hs:=hs.mono fD;replace dG:=dG.mono fD;replace dH:=dH.mono fD;replace hJ:=hJ.mono fD;replace hS:=hS.mono fD;replace hK:=hK.mono fD;replace hX:=hX.mono fD;replace dM:=dM.mono fD;replace dO:=dO.mono fD;replace dW:=dW.mono fD;replace dS:=dS.mono fD;replace dU:=dU.mono fD;replace dV:=dV.mono fD;replace bM:=bM.trans fD;replace cD:=cD.trans fD;replace eL:=eL.trans fD;replace eT:=eT.trans fD
      have nY:=SlR.lit (ρ:=opR) (l:=[jP l m false k]) hbP357 hoP357 (eN.one1 (by rw [hout0];first | exact ⟨_,_,rfl,dS⟩ | exact ⟨_,_,rfl,SlR.nil0 _ _⟩))
      refine aE ?_
      exact bN rfl trivial (⟨_,rfl,nY⟩)
     refine bJ rfl ?_ ?_
     ·intro X ext HD aD _
      replace hT:=hT.mono aD;replace hs:=hs.mono aD;replace dG:=dG.mono aD;replace dH:=dH.mono aD;replace hJ:=hJ.mono aD;replace hS:=hS.mono aD;replace hK:=hK.mono aD;replace hX:=hX.mono aD;replace dM:=dM.mono aD;replace dO:=dO.mono aD;replace dW:=dW.mono aD;replace dS:=dS.mono aD;replace dU:=dU.mono aD;replace dV:=dV.mono aD;replace bM:=bM.trans aD;replace cD:=cD.trans aD;replace eL:=eL.trans aD;replace eT:=eT.trans aD;refine dD rfl rfl ?_;rintro _ ⟨aA,cA,rfl,hslA⟩;refine dD rfl rfl ?_;rintro _ ⟨bs357,rfl,nY⟩;exact bG rfl (bR rfl (nJ _ _ _ _ (jP l m false k) _ hslA nY (sT l m false k hMl)) rfl (aE (bN rfl trivial rfl)))
     refine bJ rfl ?_ ?_
     ·intro X ext HD aD _
      replace hT:=hT.mono aD;replace hs:=hs.mono aD;replace dG:=dG.mono aD;replace dH:=dH.mono aD;replace hJ:=hJ.mono aD;replace hS:=hS.mono aD;replace hK:=hK.mono aD;replace hX:=hX.mono aD;replace dM:=dM.mono aD;replace dO:=dO.mono aD;replace dW:=dW.mono aD;replace dS:=dS.mono aD;replace dU:=dU.mono aD;replace dV:=dV.mono aD;replace bM:=bM.trans aD;replace cD:=cD.trans aD;replace eL:=eL.trans aD;replace eT:=eT.trans aD;exact wQq rfl rfl rfl (bG rfl (fC rfl rfl (aE (bN rfl trivial rfl))))
     refine bJ rfl ?_ ?_
     ·intro X ext HD aD _
      replace hT:=hT.mono aD;replace hs:=hs.mono aD;replace dG:=dG.mono aD;replace dH:=dH.mono aD;replace hJ:=hJ.mono aD;replace hS:=hS.mono aD;replace hK:=hK.mono aD;replace hX:=hX.mono aD;replace dM:=dM.mono aD;replace dO:=dO.mono aD;replace dW:=dW.mono aD;replace dS:=dS.mono aD;replace dU:=dU.mono aD;replace dV:=dV.mono aD;replace bM:=bM.trans aD;replace cD:=cD.trans aD;replace eL:=eL.trans aD;replace eT:=eT.trans aD;exact wQq rfl rfl rfl (bG rfl (aU rfl rfl (aE (bN rfl trivial rfl))))
     refine bJ rfl ?_ ?_
     ·intro X ext HD aD _
      replace hT:=hT.mono aD;replace hs:=hs.mono aD;replace dG:=dG.mono aD;replace dH:=dH.mono aD;replace hJ:=hJ.mono aD;replace hS:=hS.mono aD;replace hK:=hK.mono aD;replace hX:=hX.mono aD;replace dM:=dM.mono aD;replace dO:=dO.mono aD;replace dW:=dW.mono aD;replace dS:=dS.mono aD;replace dU:=dU.mono aD;replace dV:=dV.mono aD;replace bM:=bM.trans aD;replace cD:=cD.trans aD;replace eL:=eL.trans aD;replace eT:=eT.trans aD;exact wQq rfl rfl rfl (bG rfl (bE rfl rfl rfl rfl (aU rfl rfl (aE (bN rfl trivial rfl)))))
     refine bJ rfl ?_ ?_
     ·intro X ext HD aD _
      replace hT:=hT.mono aD;replace hs:=hs.mono aD;replace dG:=dG.mono aD;replace dH:=dH.mono aD;replace hJ:=hJ.mono aD;replace hS:=hS.mono aD;replace hK:=hK.mono aD;replace hX:=hX.mono aD;replace dM:=dM.mono aD;replace dO:=dO.mono aD;replace dW:=dW.mono aD;replace dS:=dS.mono aD;replace dU:=dU.mono aD;replace dV:=dV.mono aD;replace bM:=bM.trans aD;replace cD:=cD.trans aD;replace eL:=eL.trans aD;replace eT:=eT.trans aD;exact wQq rfl rfl rfl (bG rfl (bE rfl rfl rfl rfl (aU rfl rfl (aE (bN rfl trivial rfl)))))
     refine bJ rfl ?_ ?_
     ·intro X ext HD aD _
      replace hT:=hT.mono aD;replace hs:=hs.mono aD;replace dG:=dG.mono aD;replace dH:=dH.mono aD;replace hJ:=hJ.mono aD;replace hS:=hS.mono aD;replace hK:=hK.mono aD;replace hX:=hX.mono aD;replace dM:=dM.mono aD;replace dO:=dO.mono aD;replace dW:=dW.mono aD;replace dS:=dS.mono aD;replace dU:=dU.mono aD;replace dV:=dV.mono aD;replace bM:=bM.trans aD;replace cD:=cD.trans aD;replace eL:=eL.trans aD;replace eT:=eT.trans aD;exact wQq rfl rfl rfl (bG rfl (bE rfl rfl rfl rfl (aU rfl rfl (aE (bN rfl trivial rfl)))))
     refine bJ rfl ?_ ?_
     ·intro X ext HD aD _
      replace hT:=hT.mono aD;replace hs:=hs.mono aD;replace dG:=dG.mono aD;replace dH:=dH.mono aD;replace hJ:=hJ.mono aD;replace hS:=hS.mono aD;replace hK:=hK.mono aD;replace hX:=hX.mono aD;replace dM:=dM.mono aD;replace dO:=dO.mono aD;replace dW:=dW.mono aD;replace dS:=dS.mono aD;replace dU:=dU.mono aD;replace dV:=dV.mono aD;replace bM:=bM.trans aD;replace cD:=cD.trans aD;replace eL:=eL.trans aD;replace eT:=eT.trans aD;exact wQq rfl rfl rfl (wQq rfl rfl rfl (bG rfl (bE rfl rfl rfl rfl (dJ rfl rfl (bU (by omega) (by omega)) rfl (aE (bN rfl trivial rfl))))))
     refine bJ rfl ?_ ?_
     ·intro X ext HD aD _
      replace hT:=hT.mono aD;replace hs:=hs.mono aD;replace dG:=dG.mono aD;replace dH:=dH.mono aD;replace hJ:=hJ.mono aD;replace hS:=hS.mono aD;replace hK:=hK.mono aD;replace hX:=hX.mono aD;replace dM:=dM.mono aD;replace dO:=dO.mono aD;replace dW:=dW.mono aD;replace dS:=dS.mono aD;replace dU:=dU.mono aD;replace dV:=dV.mono aD;replace bM:=bM.trans aD;replace cD:=cD.trans aD;replace eL:=eL.trans aD;replace eT:=eT.trans aD;refine wQq rfl rfl rfl (wQq rfl rfl rfl (wQq rfl rfl rfl (wQq rfl rfl rfl (bG rfl (bE rfl rfl rfl rfl ?_)))))
      have hcap:=dO.le
      rw [iM] at hcap
      refine iP (lo':=(k : Int)) (hi':=(k : Int) + 1) (m':=(_ : Nat)) rfl dO (fT rfl) (fT rfl) fF (by simp) (by omega) (by omega) (by rw [iM];omega) (by omega) (by omega) Tryz.underlying43 gK rfl (fun as365 ls365 hls365 hss365=>?_)
      obtain rfl : ls365 = [jP l m true k]:=by rw [hls365,show ((k : Int) + 1).toNat - (k : Int).toNat = 1 by omega,Int.toNat_natCast];exact zS (tP (by omega))
      refine aE ?_
      exact bN rfl trivial (⟨_,_,rfl,hss365⟩)
     refine bJ rfl ?_ ?_
     ·intro X ext HD aD _
      replace hT:=hT.mono aD;replace hs:=hs.mono aD;replace dG:=dG.mono aD;replace dH:=dH.mono aD;replace hJ:=hJ.mono aD;replace hS:=hS.mono aD;replace hK:=hK.mono aD;replace hX:=hX.mono aD;replace dM:=dM.mono aD;replace dO:=dO.mono aD;replace dW:=dW.mono aD;replace dS:=dS.mono aD;replace dU:=dU.mono aD;replace dV:=dV.mono aD;replace bM:=bM.trans aD;replace cD:=cD.trans aD;replace eL:=eL.trans aD;replace eT:=eT.trans aD;exact wQq rfl rfl rfl (bG rfl (bE rfl rfl rfl rfl (bK 1 rfl rfl gK rfl rfl rfl (aE (bN rfl trivial rfl)))))
     refine bJ rfl ?_ ?_
     ·intro X ext HD aD _
      replace hT:=hT.mono aD;replace hs:=hs.mono aD;replace dG:=dG.mono aD;replace dH:=dH.mono aD;replace hJ:=hJ.mono aD;replace hS:=hS.mono aD;replace hK:=hK.mono aD;replace hX:=hX.mono aD;replace dM:=dM.mono aD;replace dO:=dO.mono aD;replace dW:=dW.mono aD;replace dS:=dS.mono aD;replace dU:=dU.mono aD;replace dV:=dV.mono aD;replace bM:=bM.trans aD;replace cD:=cD.trans aD;replace eL:=eL.trans aD;replace eT:=eT.trans aD;refine wQq rfl rfl rfl (wQq rfl rfl rfl (bG rfl (bE rfl rfl rfl rfl (dB rfl Tryz.underlying43 gK kO rfl rfl rfl (fun b367=>dF 0 rfl rfl rfl (fun HP367 oP367 fE hbP367 hoP367=>?_))))));replace hT:=hT.mono fE;replace hs:=hs.mono fE;replace dG:=dG.mono fE;replace dH:=dH.mono fE;replace hJ:=hJ.mono fE;replace hS:=hS.mono fE;replace hK:=hK.mono fE;replace hX:=hX.mono fE;replace dM:=dM.mono fE;replace dO:=dO.mono fE;replace dW:=dW.mono fE;replace dS:=dS.mono fE;replace dU:=dU.mono fE;replace dV:=dV.mono fE;replace bM:=bM.trans fE;replace cD:=cD.trans fE;replace eL:=eL.trans fE;replace eT:=eT.trans fE
      have hsl367:=SlR.lit (ρ:=opR) (l:=[jP l m true k]) hbP367 hoP367 (eN.one1 (by rw [hout1];first | exact ⟨_,_,rfl,dS⟩ | exact ⟨_,_,rfl,SlR.nil0 _ _⟩))
      refine aE ?_
      exact bN rfl trivial (⟨_,rfl,hsl367⟩)
     exact gI rfl
    case tail49 =>
     intro HD aD _
     replace hT:=hT.mono aD;replace hs:=hs.mono aD;replace dG:=dG.mono aD;replace dH:=dH.mono aD;replace hJ:=hJ.mono aD;replace hS:=hS.mono aD;replace hK:=hK.mono aD;replace hX:=hX.mono aD;replace dM:=dM.mono aD;replace dO:=dO.mono aD;replace dW:=dW.mono aD;replace dS:=dS.mono aD;replace dU:=dU.mono aD;replace dV:=dV.mono aD;replace bM:=bM.trans aD;replace cD:=cD.trans aD;replace eL:=eL.trans aD;replace eT:=eT.trans aD;refine wQq rfl rfl rfl (wQq rfl rfl rfl (wQq rfl rfl rfl (wQq rfl rfl rfl (dD rfl rfl ?_))));rintro _ ⟨aA,cA,rfl,hslA⟩;refine wQq rfl rfl rfl (dD rfl rfl ?_);rintro _ ⟨bs357,rfl,nY⟩;refine wQq rfl rfl rfl (wQq rfl rfl rfl (wQq rfl rfl rfl (wQq rfl rfl rfl (wQq rfl rfl rfl (wQq rfl rfl rfl (wQq rfl rfl rfl (dD rfl rfl ?_)))))));rintro _ ⟨aB,cB,rfl,hslB⟩;refine wQq rfl rfl rfl (dD rfl rfl ?_);rintro _ ⟨bs367,rfl,hsl367⟩;refine bG rfl (fL (bE rfl rfl rfl rfl (bR rfl (nJ _ _ _ _ (jP l m true k) _ hslB hsl367 (sT l m true k hMl)) rfl (bE rfl rfl rfl rfl (fC rfl rfl (dL rfl rfl rfl rfl (aE (aR (dY rfl rfl (bS (dP (aR (aH (dJ rfl rfl (bU (by omega) (by omega)) rfl (aU rfl rfl (aE (cR (k + 1) (by show l.length - (k + 1) < l.length - k;omega) (aQ rfl (aQ rfl (aQ rfl (aQ rfl (aQ rfl (aQ rfl (aQ rfl bP))))))) (⟨by show k + 1 ≤ l.length;omega,rfl⟩) (by repeat(first|exact sL _|apply sD|apply sC)) (eT))))))))))))))))))
  refine dX (dA (cZ (dI rfl (aR (aZ (aH (bA rfl rfl (aE (aR (bW ?_))))))))));refine ⟨rfl,_,[],rfl,(by repeat(first|exact sL _|apply sC)),bX.mk ?_⟩
  rfl
 have g2p:=of_decide_eq_true g2
 refine bL rfl rfl (g2) rfl rfl (dE rfl (g2) rfl rfl (aE (aR (eY rfl rfl (aZ (aH (bA rfl rfl (aE (aR (bW (bY ?_)))))))))));refine ⟨rfl,_,[],rfl,(by repeat(first|exact sL _|apply sC)),bX.mk ?_⟩
 rfl
end Go.Proofs

namespace Go.Proofs
open Go.XL Go.RowKit Go.ChangeShapes Go.WideShapes
theorem aFu : oZ Tryz.prog 26 (slR (eO .i64)) (fun l=>l.length ≤ maxLen ∧ ∀ n ∈ l,(Lit.int .i64 n).wf = true):=oZ.slice Tryz.underlying26 (by kernel_rfl) (by decide) (oZ.int Tryz.underlying3)
theorem aHj : ∀ (cs : List Value),(∀ i,i < cs.length → ∃ n,(cs.drop i).take 1 = [.int .u8 n] ∧ 0 ≤ n ∧ n ≤ 255) → ∃ D : List UInt8,D.length = cs.length ∧ cs = D.map fun x=>.int .u8 ((x.toNat : Nat) : Int)
  | [],_=>⟨[],rfl,rfl⟩
  | v :: cs,h=>by
    obtain ⟨D,h1,h2⟩:=aHj cs fun i hi=>h (i + 1) (by simp;omega)
    obtain ⟨n,h3,h4⟩:=h 0 (by simp)
    simp only [List.drop_zero,List.take_succ_cons,List.take_zero,List.cons.injEq,and_true] at h3
    refine ⟨UInt8.ofNat n.toNat :: D,by simp [h1],?_⟩
    rw [h3,List.map_cons,← h2]
    have : ((((UInt8.ofNat n.toNat).toNat : Nat)) : Int) = n:=by rw [UInt8.toNat_ofNat'];omega
    rw [this]
theorem ks_d32 {D : List UInt8} (h : D.length = 32) : d32 D = D.map fun x=>.int .u8 ((x.toNat : Nat) : Int):=by
 match D,h with
 | [x0,x1,x2,x3,x4,x5,x6,x7,x8,x9,x10,x11,x12,x13,x14,x15,x16,x17,x18,x19,x20,x21,x22,x23,x24,x25,x26,x27,x28,x29,x30,x31],_=>rfl
theorem ks_arr {H : Type} {enc : TypeId × Value → H} {w : World} {base : Nat} {spare : Nat → Bool} {held : Bool} {fuel : Nat} {cs : List Value} {x : DataW H × List MemPlace} (h : DataW.trod enc Tryz.prog w base spare held fuel 34 cs = some x) : ∃ D : List UInt8,D.length = 32 ∧ cs = d32 D:=by
 obtain ⟨xs,m,_,_,hl,hx,hf⟩:=DataW.trod_array Tryz.underlying34 h
 rw [show Tryz.prog.cellsOf 34 = 32 by kernel_rfl] at hl
 obtain ⟨D,h1,h2⟩:=aHj cs fun i hi=>by
  have h3:=hf i (by omega)
  rw [show Tryz.prog.cellsOf 5 = 1 by kernel_rfl,Nat.mul_one,List.getElem?_eq_getElem (by omega)] at h3
  obtain ⟨n,h4,_,h5⟩:=DataW.trod_int Tryz.underlying5 h3
  have:=aMi h5
  exact ⟨n,h4,by omega,by omega⟩
 have hD : D.length = 32:=by omega
 exact ⟨D,hD,by rw [ks_d32 hD];exact h2⟩
theorem ks_rows : oZ Tryz.prog 35 (slR (slR (eO .i64))) (fun l : List (List Int)=>l.length ≤ maxLen ∧ ∀ x ∈ l,x.length ≤ maxLen ∧ ∀ n ∈ x,(Lit.int .i64 n).wf = true):=oZ.slice Tryz.underlying35 (by kernel_rfl) (by decide) aFu
theorem ks_jdg : oZ Tryz.prog 37 aL1 (fun _=>True):=by
  intro H enc w base spare held fuel cs x h
  obtain ⟨xs,m,hm,_,hl,hxs,hf⟩:=DataW.trod_struct Tryz.underlying37 h
  rw [show Tryz.prog.cellsOf 37 = 37 by kernel_rfl] at hl
  match cs,hl,xs,hxs with
  | u0 :: u1 :: r,hl,[y0,y1,y2,y3,y4,y5],_ =>
    have hr : r.length = 35:=by simpa using hl
    have h0 : DataW.trod enc Tryz.prog w base spare held m 26 ((u0 :: u1 :: r).take (Tryz.prog.cellsOf 26)) = some y0:=hf 0 _ rfl
    have h1 : DataW.trod enc Tryz.prog w base spare held m 26 ((u1 :: r).take (Tryz.prog.cellsOf 26)) = some y1:=hf 1 _ rfl
    have h2 : DataW.trod enc Tryz.prog w base spare held m 34 (r.take (Tryz.prog.cellsOf 34)) = some y2:=hf 2 _ rfl
    have h3 : DataW.trod enc Tryz.prog w base spare held m 35 ((r.drop 32).take (Tryz.prog.cellsOf 35)) = some y3:=hf 3 _ rfl
    have h4 : DataW.trod enc Tryz.prog w base spare held m 4 ((r.drop 33).take (Tryz.prog.cellsOf 4)) = some y4:=hf 4 _ rfl
    have h5 : DataW.trod enc Tryz.prog w base spare held m 4 ((r.drop 34).take (Tryz.prog.cellsOf 4)) = some y5:=hf 5 _ rfl
    simp only [show Tryz.prog.cellsOf 26 = 1 by kernel_rfl,show Tryz.prog.cellsOf 34 = 32 by kernel_rfl,show Tryz.prog.cellsOf 35 = 1 by kernel_rfl,show Tryz.prog.cellsOf 4 = 1 by kernel_rfl] at h0 h1 h2 h3 h4 h5
    obtain ⟨M,⟨aM,cM,e0,sM⟩,_⟩:=aFu enc w base spare held m _ _ h0
    obtain ⟨K,⟨aK,cK,e1,sK⟩,_⟩:=aFu enc w base spare held m _ _ h1
    obtain ⟨D,hD,e2⟩:=ks_arr h2
    obtain ⟨P,⟨aP,cP,e3,sP⟩,_⟩:=ks_rows enc w base spare held m _ _ h3
    obtain ⟨L,e4,_⟩:=oZ.bool Tryz.underlying4 enc w base spare held m _ _ h4
    obtain ⟨X,e5,_⟩:=oZ.bool Tryz.underlying4 enc w base spare held m _ _ h5
    have er : r = d32 D ++ [.slice aP P.length cP,.bool L,.bool X]:=by
      have a1 : r = r.take 32 ++ ((r.drop 32).take 1 ++ ((r.drop 33).take 1 ++ (r.drop 34).take 1)):=by
        have b1 : (r.drop 34).take 1 = r.drop 34:=List.take_of_length_le (by simp;omega)
        have b2 : (r.drop 33).take 1 ++ r.drop 34 = r.drop 33:=by
          have:=List.take_append_drop 1 (r.drop 33);rwa [List.drop_drop] at this
        have b3 : (r.drop 32).take 1 ++ r.drop 33 = r.drop 32:=by
          have:=List.take_append_drop 1 (r.drop 32);rwa [List.drop_drop] at this
        rw [b1,b2,b3,List.take_append_drop]
      rw [a1,e2,e3,e4,e5];rfl
    simp at e0 e1
    subst e0;subst e1
    exact ⟨⟨M,K,D,P,L,X⟩,⟨aM,cM,aK,cK,aP,cP,by rw [er],sM,sK,sP,hD⟩,trivial⟩
theorem ks_jdgs : oZ Tryz.prog 22 (slR aL1) (fun l : List Jdg=>l.length ≤ maxLen ∧ ∀ x ∈ l,True):=oZ.slice Tryz.underlying22 (by kernel_rfl) (by decide) ks_jdg
theorem aD7 {w : World} {name : String} {zs : List Int} {g : Nat} (hg : Tryz.prog.globalNamed name = some g) (h : Lib.TabIs Tryz.prog w name .u32 zs) : PtH (aH7 w) g 0 (wds .u32 zs):=by
  unfold Lib.TabIs World.var? at h
  rw [hg,Option.bind_some] at h
  cases hb : w.heap[g]? with
  | none=>rw [hb] at h;cases h
  | some o =>
    rw [hb] at h
    cases o with
    | cells c T fz =>
      simp only [Option.some.injEq] at h
      refine ⟨c,T,fz,hb,fun j u hj=>?_⟩
      subst h
      simpa [wds] using hj
    | _=>cases h
theorem tail_laid {P : Program} {n : String} {d : DataW Unit} {r : List (String × DataW Unit)} {w : World} (h : laidMet P ((n,d) :: r) w) : laidMet P r w:=by
 obtain ⟨ps,⟨g,t,cs,fuel,p,q,_,_,_,_,hr,rfl⟩,hn,hc⟩:=h
 exact ⟨q,hr,(List.nodup_append.1 hn).2.1,fun b off hb=>hc b off (List.mem_append.2 (.inr hb))⟩
end Go.Proofs
