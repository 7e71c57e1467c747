/- The walks of the functions that the laws of the field and of the shares call: what each of them computes,at any input. -/
import Derived.Test.YtbeecebebeamiaaGreatDoorB1
import Derived.Test.YtbeecebebeamiaaGreatDoorB2
import Derived.Test.YtbeecebebeamiaaGreatDoorB7
import Derived.Test.YtbeecebebeamiaaGreatDoorProg
set_option maxRecDepth 100000
set_option autoImplicit false
set_option linter.unusedVariables false
set_option linter.unusedSimpArgs false
namespace Go.Proofs.Ra
open Go.XL
theorem sR : fW Tryz.prog 100 0 = some 0:=by kernel_rfl
theorem aC2 : fW Tryz.prog 100 1 = some 1:=by kernel_rfl
theorem kC : tyF Tryz.prog 100 2 true = true:=by kernel_rfl
theorem dT : tyF Tryz.prog 3 1 false = true:=by kernel_rfl
theorem ty_98 : tyF Tryz.prog 98 1 false = true:=by kernel_rfl
theorem pL : gH Tryz.prog 100 = some [.int .i64 0,.int .i64 0]:=by kernel_rfl
theorem uI : gH Tryz.prog 3 = some [.int .i64 0]:=by kernel_rfl
theorem follows : Tryz.prog.follows .mixedOrders = true:=by kernel_rfl
theorem vM (a : Int) (H : Hp) : FnC Tryz.prog 84 #[.int .i64 a] H [] (bX fun v _ _=>v = .int .i64 (a % 1073741789)):=by
 have hm:=tmod_bd a
 refine FnC.intro (args:=[.int .i64 a]) Tryz.func84 rfl rfl Tryz.ntmps84 rfl rfl rfl fun G rest=>?_
 refine aZ (aH (bA rfl rfl (aE (aR (aZ (aZ (aH (aU rfl rfl (wW rfl rfl (by decide) rfl rfl (bA rfl rfl (aE (aR (aZ (aH (aU rfl rfl (dN rfl rfl rfl (aE (aR (cW rfl (fun nT=>?_) (fun nT=>?_))))))))))))))))))))
 ·refine aH (aU rfl rfl (dJ rfl rfl (bU (by omega) (by omega)) rfl (bA rfl rfl (aE (aR (aZ (aH (aU rfl rfl (bA rfl rfl (aE (aR (bW ?_))))))))))));refine ⟨rfl,_,[],rfl,(by repeat(first|exact sL _|apply sC)),bX.mk ?_⟩
  show Value.int _ _ = _;rw [tmod_neg _ ‹_›]
 refine bS (aR (aZ (aH (aU rfl rfl (bA rfl rfl (aE (aR (bW ?_))))))));refine ⟨rfl,_,[],rfl,(by repeat(first|exact sL _|apply sC)),bX.mk ?_⟩
 show Value.int _ _ = _;rw [tmod_pos _ ‹_›]
theorem vJ (a b : Int) (H : Hp) : FnC Tryz.prog 86 #[.int .i64 a,.int .i64 b] H [] (bX fun v _ _=>v = .int .i64 (a * b % 1073741789)):=by
 have hm:=mul_bd a b
 refine FnC.intro (args:=[.int .i64 a,.int .i64 b]) Tryz.func86 rfl rfl Tryz.ntmps86 rfl rfl rfl fun G rest=>?_
 refine aZ (aH (bA rfl rfl (aE (aR (aZ (aH (aU rfl rfl (bR rfl (vM _ _) rfl (aU rfl rfl (bR rfl (vM _ _) rfl (zV rfl rfl (bU (by omega) (by omega)) rfl (wW rfl rfl (by omega) (aAj (by omega)) rfl (bA rfl rfl (aE (aR (bW ?_))))))))))))))));refine ⟨rfl,_,[],rfl,(by repeat(first|exact sL _|apply sC)),bX.mk ?_⟩
 show Value.int _ _ = _;rw [← Int.mul_emod]
theorem xC (a : Option Addr) (c : Nat) (l : List Int) (H : Hp) (hs : SlR (eO .i64) H a c l) (hl : l.length < 4611686018427387904) : FnC Tryz.prog 87 #[.slice a l.length c] H [] (bX fun v _ _=>v = .int .i64 (l.sum % 1073741789)):=by
 refine FnC.intro (args:=[.slice a l.length c]) Tryz.func87 rfl rfl Tryz.ntmps87 rfl rfl rfl fun G rest=>?_
 refine aZ (aH (bA rfl rfl (aE (aR (aZ (aH (bA rfl rfl (aE (aR (aZ (aZ (aH (aU rfl rfl (cH (ts:=#[]) rfl Tryz.underlying26 rfl (aU rfl rfl (aE (aR (bT (cE [3,8,6,7] rfl (eE (base:=[(6,_),(7,_)]) (fun k=>[(3,.int .i64 ((l.take k).sum % 1073741789)),(8,.int .i64 (k : Nat))]) (fun k Hl own=>k ≤ l.length ∧ rest = own ∧ H = Hl) (fun k=>l.length - k) 0 (aQ rfl (aQ rfl (aQ rfl (aQ rfl bP)))) (List.Sublist.refl _) ⟨Nat.zero_le _,rfl,rfl⟩ ?_))))))))))))))))))));rintro k Hl _ hle ⟨hk,rfl,rfl⟩;refine aZ (aH (dN rfl rfl rfl (aE (aR (aZ (cW rfl (fun gJ=>?_) (fun gJ=>?_)))))))
 ·refine bS (aR (aZ (bT (aZ (aH (dK rfl (by assumption) rfl Tryz.underlying26 dT (by omega) rfl ?_))))));rintro eb eo _ xE hxE rfl hpE;refine cQ rfl (by assumption) dT rfl rfl rfl (bA rfl rfl (aE (aR (aH (aU rfl rfl (aU rfl rfl (bR rfl (vM _ _) rfl (dJ rfl rfl (bU (by omega) (by omega)) rfl (wW rfl rfl (by omega) (aAj (by omega)) rfl (bA rfl rfl (aE (dP (aR (aH (dJ rfl rfl (bU (by omega) (by omega)) rfl (aU rfl rfl (aE (cR (k + 1) (by omega) (aQ (by rw [sum_take _ _ _ hxE];rfl) (aQ rfl (aQ rfl (aQ rfl bP)))) (⟨by omega,rfl,rfl⟩) (by repeat(first|exact sL _|apply sC)) hle))))))))))))))))))
 refine dX (dA (cZ (dI rfl (aR (aZ (aH (aU rfl rfl (bA rfl rfl (aE (aR (bW ?_)))))))))));refine ⟨rfl,_,[],rfl,(by repeat(first|exact sL _|apply sC)),bX.mk ?_⟩
 show Value.int _ _ = _;rw [List.take_of_length_le (by omega)]
theorem inv_fn (a : Int) (H : Hp) : FnC Tryz.prog 88 #[.int .i64 a] H [] (bX fun v _ _=>v = .tuple #[.int .i64 (aBl a),.int .i64 (aLc a)]):=by
 refine FnC.intro (args:=[.int .i64 a]) Tryz.func88 rfl rfl Tryz.ntmps88 rfl rfl rfl fun G rest=>?_
 refine aZ (aH (bA rfl rfl (bA rfl rfl (aE (aR (XC.scope (aZ (aZ (aH (aU rfl rfl (bR rfl (vM _ _) rfl (fY rfl rfl rfl (aE (aR (cW rfl (fun nT=>?_) (fun nT=>?_))))))))))))))))
 ·refine aZ (aH (bA rfl rfl (bA rfl rfl (aE (aR (bW (bY (oE ?_))))))));refine ⟨rfl,_,[],rfl,(by repeat(first|exact sL _|apply sC)),bX.mk ?_⟩
  show _ = Value.tuple _;first | (rw [aBl,aLc,if_pos ‹_›,if_pos ‹_›];rfl) | (rw [aBl,aLc,if_neg ‹_›,if_neg ‹_›];rfl)
 refine bS (aR (aZ (aH (bA rfl rfl (aE (aR (aZ (XC.label (aR (aZ (aZ (aH (aU rfl rfl (bA rfl rfl (bA rfl rfl (aE (aR (bT (cE [2,4,5] rfl (eE (base:=[]) (fun p : Int × Nat × Int=>[(2,.int .i64 p.1),(4,.int .i64 (p.2.1 : Nat)),(5,.int .i64 p.2.2)]) (fun p Hl own=>(∃ f : Nat,p.2.1 < 2 ^ f ∧ f ≤ 31 ∧ pwF f p.1 p.2.2 p.2.1 = aNy a) ∧ rest = own ∧ H = Hl) (fun p=>p.2.1) (1,1073741787,a) (aQ rfl (aQ rfl (aQ rfl bP))) (List.Sublist.refl _) ⟨⟨31,(by show (1073741787 : Nat) < 2 ^ 31;decide),by decide,rfl⟩,rfl,rfl⟩ ?_))))))))))))))))))));rintro ⟨x,left,sq⟩ Hl _ hle ⟨⟨f,hf1,hf2,hf3⟩,rfl,rfl⟩
 have hf2 : left < 2147483648:=Nat.lt_of_lt_of_le hf1 (Nat.pow_le_pow_right (by decide) hf2)
 simp only at hf1 hf3 ⊢
 refine aZ (bT (bT (aZ (aH (aU rfl rfl (fY rfl rfl rfl (bA rfl rfl (aE (aR (cW rfl (fun qU=>?_) (fun qU=>?_)))))))))))
 ·obtain rfl : left = 0:=by omega
  rw [pwF_zero] at hf3;subst hf3
  refine dX (aDb rfl (aDb rfl (dA (cZ (dI rfl (aR (aZ (aH (aU rfl rfl (bA rfl rfl (bA rfl rfl (aE (aR (bW (oE ?_)))))))))))))));refine ⟨rfl,_,[],rfl,(by repeat(first|exact sL _|apply sC)),bX.mk ?_⟩
  show _ = Value.tuple _;first | (rw [aBl,aLc,if_pos ‹_›,if_pos ‹_›];rfl) | (rw [aBl,aLc,if_neg ‹_›,if_neg ‹_›];rfl)
 have h0 : left ≠ 0:=by omega
 obtain ⟨f,rfl⟩ : ∃ g,f = g + 1:=by cases f with | zero=>(simp at hf1;omega) | succ g=>exact ⟨g,rfl⟩
 obtain ⟨hp1,hp2⟩:=pwF_step (x:=x) (sq:=sq) h0 hf1;refine aZ (aH (aU rfl rfl (wW rfl rfl (by omega) (aAj (by omega)) rfl (fY rfl rfl rfl (bA rfl rfl (aE (aR (cW rfl (fun c2_4=>?_) (fun c2_4=>?_)))))))))
 ·have h1 : left % 2 = 1:=by omega
  rw [if_pos h1] at hp2
  refine aH (aU rfl rfl (aU rfl rfl (bR rfl (vJ _ _ _) rfl (bA rfl rfl (aE (dP (dP (aR (aH (aU rfl rfl (XO.quo rfl rfl (by omega) (aKg (by omega) (by omega) (by omega)) rfl (aU rfl rfl (aU rfl rfl (bR rfl (vJ _ _ _) rfl (bA rfl rfl (bA rfl rfl (aE (cR ((_,left / 2,sq * sq % 1073741789)) (by show left / 2 < left;omega) (aQ rfl (aQ rfl (aQ rfl bP))) (⟨⟨f,hp1,by omega,by rw [← hf3,hp2]⟩,rfl,rfl⟩) (by repeat(first|exact sL _|apply sC)) hle))))))))))))))))))
 have h1 : ¬ left % 2 = 1:=by omega
 rw [if_neg h1] at hp2
 refine bS (dP (dP (aR (aH (aU rfl rfl (XO.quo rfl rfl (by omega) (aKg (by omega) (by omega) (by omega)) rfl (aU rfl rfl (aU rfl rfl (bR rfl (vJ _ _ _) rfl (bA rfl rfl (bA rfl rfl (aE (cR ((_,left / 2,sq * sq % 1073741789)) (by show left / 2 < left;omega) (aQ rfl (aQ rfl (aQ rfl bP))) (⟨⟨f,hp1,by omega,by rw [← hf3,hp2]⟩,rfl,rfl⟩) (by repeat(first|exact sL _|apply sC)) hle)))))))))))))
theorem value_fn (a : Option Addr) (c : Nat) (l : List Int) (at_ : Int) (H : Hp) (hs : SlR (eO .i64) H a c l) (hl : l.length < 4611686018427387904) : FnC Tryz.prog 127 #[.slice a l.length c,.int .i64 at_] H [] (bX fun v _ _=>v = .int .i64 (valP at_ l 0 1)):=by
 refine FnC.intro (args:=[.slice a l.length c,.int .i64 at_]) Tryz.func127 rfl rfl Tryz.ntmps127 rfl rfl rfl fun G rest=>?_
 refine aZ (aH (bA rfl rfl (aE (aR (aZ (aH (bA rfl rfl (aE (aR (aZ (aZ (aH (aU rfl rfl (cH (ts:=#[]) rfl Tryz.underlying26 rfl (aU rfl rfl (aE (aR (bT (cE [4,5,10,1,8,9] rfl (eE (base:=[(1,_),(8,_),(9,_)]) (fun p : Nat × Int × Int=>[(4,.int .i64 p.2.1),(5,.int .i64 p.2.2),(10,.int .i64 (p.1 : Nat))]) (fun p Hl own=>(valP at_ (l.drop p.1) p.2.1 p.2.2 = valP at_ l 0 1 ∧ p.1 ≤ l.length) ∧ rest = own ∧ Le H Hl) (fun p=>l.length - p.1) (0,0,1) (aQ rfl (aQ rfl (aQ rfl (aQ rfl (aQ rfl (aQ rfl bP)))))) (List.Sublist.refl _) ⟨⟨rfl,Nat.zero_le _⟩,rfl,Le.refl _⟩ ?_))))))))))))))))))));rintro ⟨k,y,pw⟩ Hl _ hle ⟨⟨hv,hk⟩,rfl,hH⟩;replace hs:=hs.mono hH
 simp only at hv hk ⊢
 refine aZ (aH (dN rfl rfl rfl (aE (aR (aZ (cW rfl (fun gJ=>?_) (fun gJ=>?_)))))))
 ·refine bS (aR (aZ (bT (aZ (aH (dK rfl (by assumption) rfl Tryz.underlying26 dT (by omega) rfl ?_))))));rintro eb eo _ xE hxE rfl hpE;refine cQ rfl (by assumption) dT rfl rfl rfl (bA rfl rfl (aE (aR (aZ (aH (aU rfl rfl (aU rfl rfl (aU rfl rfl (bR rfl (vJ _ _ _) rfl (dB rfl Tryz.underlying26 dT uI rfl rfl rfl (fun b18=>dF 0 rfl rfl rfl (fun HP oP hleP hbP hoP=>?_))))))))))))
  have hsl:=SlR.ints hbP hoP (l:=[_,_]) rfl
  refine bR rfl (xC _ _ [_,_] _ hsl (by simp)) rfl (bA rfl rfl (aE (aR (aH (aU rfl rfl (aU rfl rfl (bR rfl (vJ _ _ _) rfl (bA rfl rfl (aE (dP (aR (aH (dJ rfl rfl (bU (by omega) (by omega)) rfl (aU rfl rfl (aE (cR ((k + 1,_,_)) (by show l.length - (k + 1) < l.length - k;omega) (aQ rfl (aQ rfl (aQ rfl (aQ rfl (aQ rfl (aQ rfl bP)))))) (⟨⟨by rw [iT hxE] at hv;simpa [valP] using hv,by omega⟩,rfl,hH.trans hleP⟩) (by repeat(first|exact sL _|apply sC)) (hle.trans hleP)))))))))))))))))
 obtain rfl : k = l.length:=by omega
 rw [List.drop_length] at hv
 refine dX (dA (cZ (dI rfl (aR (aZ (aH (aU rfl rfl (bA rfl rfl (aE (aR (bW ?_)))))))))));refine ⟨rfl,_,[],rfl,(by repeat(first|exact sL _|apply sC)),bX.mk ?_⟩
 show Value.int _ _ = _;rw [← hv];rfl
theorem others_fn (a : Option Addr) (c n : Nat) (i : Int) (H : Hp) : FnC Tryz.prog 85 #[.slice a n c,.int .i64 i] H [] (bX fun v H _=>∃ b1 b2,v = .func (.func 129) #[] #[.pointer (some ⟨b1,0,none⟩),.pointer (some ⟨b2,0,none⟩)] ∧ PtH H b1 0 [.slice a n c] ∧ PtH H b2 0 [.int .i64 i]):=by
 refine FnC.intro (args:=[.slice a n c,.int .i64 i]) Tryz.func85 rfl rfl Tryz.ntmps85 rfl rfl rfl fun G rest=>?_
 refine aZ (aH (dZ rfl rfl rfl (fun b2=>dZ rfl rfl rfl (fun b3=>bA rfl rfl (aE (aR (aZ (aH (gY rfl rfl (dF 0 rfl rfl rfl (fun HA o1 cD hb1 ho1=>dF 0 rfl rfl rfl (fun HB o2 eM hb2 ho2=>bA rfl rfl (aE (aR (bW ?_)))))))))))))));refine ⟨rfl,_,[],rfl,(by repeat(first|exact sL _|apply sC)),bX.mk ?_⟩
 exact ⟨_,_,rfl,PtH.of_is hb2 ho2,(PtH.of_is hb1 ho1).mono eM⟩
theorem others_seq (a : Option Addr) (c : Nat) (l : List Pt) (i : Nat) (H : Hp) (b1 b2 : Nat) (hs : SlR ptR H a c l) (hl : l.length < 4611686018427387904) (h1 : PtH H b1 0 [.slice a l.length c]) (h2 : PtH H b2 0 [.int .i64 (i : Nat)]) : aLo Tryz.prog 129 [.pointer (some ⟨b1,0,none⟩),.pointer (some ⟨b2,0,none⟩)] H [] (fun p : Pt=>[.agg ⟨[.int .i64 p.X,.int .i64 p.Y]⟩]) (l.eraseIdx i):=by
 intro yv J K ownY hy hJ0
 refine FnC.intro (args:=[yv,.pointer (some ⟨b1,0,none⟩),.pointer (some ⟨b2,0,none⟩)]) Tryz.func129 rfl rfl Tryz.ntmps129 rfl rfl rfl fun G rest=>?_
 refine aZ (aH (cQ rfl h1 ty_98 rfl rfl rfl (cH (ts:=#[]) rfl Tryz.underlying98 rfl (aU rfl rfl (aE (aR (bT (cE [8,0,2,6,7] rfl (eE (base:=[(0,_),(2,_),(6,_),(7,_)]) (fun k : Nat=>[(8,.int .i64 (k : Nat))]) (fun k Hl own=>k ≤ l.length ∧ Le H Hl ∧ ∃ oy,oy ++ rest = own ∧ J ((l.take k).eraseIdx i) Hl oy) (fun k=>l.length - k) 0 (aQ rfl (aQ rfl (aQ rfl (aQ rfl (aQ rfl bP))))) (List.Sublist.refl _) ⟨Nat.zero_le _,Le.refl _,ownY,rfl,by simpa using hJ0⟩ ?_)))))))));rintro k Hl _ hle ⟨hk,hH,oy,rfl,hJ⟩;replace hs:=hs.mono hH;replace h1:=h1.mono hH;replace h2:=h2.mono hH;refine aZ (aH (dN rfl rfl rfl (aE (aR (aZ (cW rfl (fun nT=>?_) (fun nT=>?_)))))))
 ·refine bS (aR (aZ (bT (aZ (aH (aU rfl rfl (dK rfl (by assumption) rfl Tryz.underlying98 kC (by omega) rfl ?_)))))));rintro eb eo _ xE hxE rfl hpE;refine cQ rfl (by assumption) kC rfl rfl rfl (dC pL rfl (fun b5=>bA rfl rfl (bZ 0 rfl rfl rfl rfl kC rfl rfl rfl rfl rfl (aE (aR (aZ (aH (aU rfl rfl (cQ rfl h2 dT rfl rfl rfl (fZ rfl rfl rfl (aU rfl rfl (eW rfl rfl rfl rfl (fun g5=>?_) (fun g5=>?_)))))))))))))
  ·have g5p:=of_decide_eq_true g5
   refine aU rfl rfl (bE rfl rfl (g5) rfl (bK 0 rfl rfl kC rfl rfl rfl (bE rfl rfl (g5) rfl ?_)));obtain ⟨post,hpost⟩:=erase_split hxE (show k ≠ i by omega);refine kX [_] (lH:=oy) (rst:=rest) rfl trivial rfl (hy _ xE post hpost Hl oy hH hJ) rfl rfl ?_;rintro u HY oy2 hleY hR
   rcases hR with ⟨rfl,hJ2⟩ | ⟨rfl,hK2⟩
   ·have hH2:=hH.trans hleY
    rw [← xR hxE (show k ≠ i by omega)] at hJ2
    refine bE rfl rfl (g5) rfl (fC rfl rfl (dE rfl (g5) rfl rfl (aE (aR (dY rfl rfl (bS (dP (aR (aH (dJ rfl rfl (bU (by omega) (by omega)) rfl (aU rfl rfl (aE (cR (k + 1) (by omega) (aQ rfl (aQ rfl (aQ rfl (aQ rfl (aQ rfl bP))))) (by first | exact ⟨by omega,hH2,oy2,rfl,hJ2⟩ | exact ⟨by omega,hH,oy,rfl,(by obtain rfl : i = k:=(by omega);rw [aBq hxE];exact hJ)⟩) (by repeat(first|exact sL _|apply sC)) (by first | exact hle.trans hleY | exact hle))))))))))))))
   have hH2:=hH.trans hleY
   refine bE rfl rfl (g5) rfl (fC rfl rfl (dE rfl (g5) rfl rfl (aE (aR (eY rfl rfl (bW (dQ (bY (eG (dQ ?_))))))))))
   exact ⟨rfl,_,oy2,rfl,(by repeat(first|exact sL _|apply sC)),bX.mk ⟨rfl,[],oy2,rfl,.inr hK2⟩⟩
  have g5p:=of_decide_eq_false g5
  refine bL rfl rfl (g5) rfl rfl (bL rfl rfl (g5) rfl rfl (bL rfl rfl (g5) rfl rfl (dL rfl (g5) rfl rfl (aE (aR (dY rfl rfl (bS (dP (aR (aH (dJ rfl rfl (bU (by omega) (by omega)) rfl (aU rfl rfl (aE (cR (k + 1) (by omega) (aQ rfl (aQ rfl (aQ rfl (aQ rfl (aQ rfl bP))))) (by first | exact ⟨by omega,hH2,oy2,rfl,hJ2⟩ | exact ⟨by omega,hH,oy,rfl,(by obtain rfl : i = k:=(by omega);rw [aBq hxE];exact hJ)⟩) (by repeat(first|exact sL _|apply sC)) (by first | exact hle.trans hleY | exact hle)))))))))))))))
 obtain rfl : k = l.length:=by omega
 rw [List.take_length] at hJ
 refine dX (dA (cZ (dI rfl ?_)))
 exact ⟨rfl,_,oy,rfl,(by repeat(first|exact sL _|apply sC)),bX.mk ⟨rfl,[],oy,rfl,.inl hJ⟩⟩
set_option maxRecDepth 100000 in
theorem at_fn (a : Option Addr) (c : Nat) (l : List Pt) (at_ : Int) (H : Hp) (hs : SlR ptR H a c l) : FnC Tryz.prog 32 #[.slice a l.length c,.int .i64 at_] H [] (bX fun v _ _=>v = .tuple #[.int .i64 (atV at_ l).1,.int .i64 (atV at_ l).2]):=by
 refine FnC.intro (args:=[.slice a l.length c,.int .i64 at_]) Tryz.func32 rfl rfl Tryz.ntmps32 rfl rfl rfl fun G rest=>?_
 refine aZ (aH (dZ rfl rfl rfl (fun b3=>bA rfl rfl (bA rfl rfl (aE (aR (aZ (aZ (aH (aU rfl rfl (cH (ts:=#[]) rfl Tryz.underlying98 rfl (lT rfl rfl rfl (aE (aR (cW rfl (fun gJ=>?_) (fun gJ=>?_))))))))))))))))
 ·refine aZ (aH (bA rfl rfl (bA rfl rfl (aE (aR (bW (bY ?_)))))));refine ⟨rfl,_,[],rfl,(by repeat(first|exact sL _|apply sC)),bX.mk ?_⟩
  show _ = _;rw [atV,if_pos (by omega)];rfl
 have rF : l.length ≤ 24:=by omega
 refine bS (aR (aZ (aH (qJ rfl (fun bm=>bA rfl rfl (aE (aR (aZ (aZ (aH (aU rfl rfl (cH (ts:=#[]) rfl Tryz.underlying98 rfl (aU rfl rfl (aE (aR (bT (cE [22,0,3,4,6,20,21] rfl (eE (base:=[(0,_),(3,_),(4,_),(6,_),(20,_),(21,_)]) (fun k : Nat=>[(22,.int .i64 (k : Nat))]) (fun k Hl own=>k ≤ l.length ∧ H = Hl ∧ ∃ es cl,(bm,.obj (.map es cl)) :: (b3,.cells 3 [.int .i64 at_]) :: rest = own ∧ sG .i64 es (aAu (l.take k))) (fun k=>l.length - k) 0 (aQ rfl (aQ rfl (aQ rfl (aQ rfl (aQ rfl (aQ rfl (aQ rfl bP))))))) (List.Sublist.refl _) ⟨Nat.zero_le _,rfl,#[],0,rfl,sG.nil _⟩ ?_))))))))))))))))));rintro k Hl _ hle ⟨hk,rfl,es,cl,rfl,hM⟩;refine aZ (aH (dN rfl rfl rfl (aE (aR (aZ (cW rfl (fun qU=>?_) (fun qU=>?_)))))))
 ·refine bS (aR (aZ (bT (aZ (aH (dK rfl (by assumption) rfl Tryz.underlying98 kC (by omega) rfl ?_))))));rintro eb eo _ xE hxE rfl hpE;refine cQ rfl (by assumption) kC rfl rfl rfl (dC pL rfl (fun b8=>bZ 0 rfl rfl rfl rfl kC rfl rfl rfl rfl rfl (aE (aR (aH (aU rfl rfl (bD rfl sR rfl (bK 0 rfl rfl dT rfl rfl rfl (bR rfl (vM _ _) rfl (XO.mapSet 1 rfl rfl rfl rfl hM Tryz.underlying150 Tryz.underlying3 rfl ?_))))))))))
  intro es2 cl2 hM2
  refine aE (dP (aR (aH (dJ rfl rfl (bU (by omega) (by omega)) rfl (aU rfl rfl (aE (cR (k + 1) (by omega) (aQ rfl (aQ rfl (aQ rfl (aQ rfl (aQ rfl (aQ rfl (aQ rfl bP))))))) (⟨by omega,rfl,es2,cl2,rfl,by rw [seen_succ hxE];exact hM2⟩) (by repeat(first|exact sL _|apply sC)) hle)))))))
 obtain rfl : k = l.length:=by omega
 rw [List.take_length] at hM
 refine dX (dA (cZ (dI rfl (aR (aZ (aZ (aH (aU rfl rfl (XO.mapLen 0 rfl rfl hM Tryz.underlying150 rfl (aU rfl rfl (cH (ts:=#[]) rfl Tryz.underlying98 rfl (dN rfl rfl rfl (aE (aR (cW rfl (fun c2_8=>?_) (fun c2_8=>?_))))))))))))))))
 ·have hnd : ¬ (l.map fun p=>p.X % 1073741789).Nodup:=fun h=>by have:=seen_full l h;omega
  refine aZ (aH (bA rfl rfl (bA rfl rfl (aE (aR (bW (bY ?_)))))));refine ⟨rfl,_,[],rfl,(by repeat(first|exact sL _|apply sC)),bX.mk ?_⟩
  show _ = _;rw [atV,if_neg (by omega),if_pos hnd];rfl
 have hnd : (l.map fun p=>p.X % 1073741789).Nodup:=seen_nodup l (by omega)
 refine bS (aR (aZ (aZ (aH (aU rfl rfl (cH (ts:=#[]) rfl Tryz.underlying98 rfl (aU rfl rfl (aE (aR (bT (cE [4,38,0,3,36,37] rfl (eE (base:=[(0,_),(3,_),(36,_),(37,_)]) (fun k : Nat=>[(4,.int .i64 (atF at_ l k)),(38,.int .i64 (k : Nat))]) (fun k Hl own=>k ≤ l.length ∧ Le H Hl ∧ (b3,.cells 3 [.int .i64 at_]) :: rest = own) (fun k=>l.length - k) 0 (aQ rfl (aQ rfl (aQ rfl (aQ rfl (aQ rfl (aQ rfl bP)))))) (List.Sublist.cons _ (List.Sublist.refl _)) ⟨Nat.zero_le _,Le.refl _,rfl⟩ ?_))))))))))));rintro k Hl _ hle ⟨hk,hH,rfl⟩;replace hs:=hs.mono hH;refine aZ (aH (dN rfl rfl rfl (aE (aR (aZ (cW rfl (fun c3_9=>?_) (fun c3_9=>?_)))))))
 ·refine bS (aR (aZ (bT (aZ (aH (aU rfl rfl (dK rfl (by assumption) rfl Tryz.underlying98 kC (by omega) rfl ?_)))))));rintro eb eo _ xE hxE rfl hpE;refine cQ rfl (by assumption) kC rfl rfl rfl (dC pL rfl (fun b10=>bA rfl rfl (bZ 0 rfl rfl rfl rfl kC rfl rfl rfl rfl rfl (aE (aR (aZ (aH (bD rfl aC2 rfl (bK 0 rfl rfl dT rfl rfl rfl (bR rfl (vM _ _) rfl (dC uI rfl (fun b11=>dC uI rfl (fun b12=>bZ 1 rfl rfl rfl rfl dT rfl rfl rfl rfl rfl (bZ 0 rfl rfl rfl rfl dT rfl rfl rfl rfl rfl (aE (aR (aZ (aZ (aH (aU rfl rfl (aU rfl rfl (fI rfl (others_fn _ _ _ _ _) rfl ?_))))))))))))))))))))));rintro _ HO uD ⟨bo1,bo2,rfl,hpo1,hpo2⟩;replace hs:=hs.mono uD;refine aE (aR (bT (cE [0,3,4,10,11,12,36,37,38,48] rfl (XC.rangeFunc (enc:=fun p : Pt=>[.agg ⟨[.int .i64 p.X,.int .i64 p.Y]⟩]) rfl (others_seq _ _ l k _ _ _ hs (by omega) hpo1 hpo2) (fun _=>rfl) rfl rfl (fun pre Hl own=>Le HO Hl ∧ (b12,.cells 3 [.int .i64 (aIi xE.X pre 1)]) :: (b11,.cells 3 [.int .i64 (aGs at_ pre (xE.Y % 1073741789))]) :: (b10,.cells 100 [.int .i64 xE.X,.int .i64 xE.Y]) :: (b3,.cells 3 [.int .i64 at_]) :: rest = own) (fun _ _ _=>False) (⟨Le.refl _,rfl⟩) (.inl rfl) ?_ ?_ ?_))))
  ·rintro G lp hd1 hd2 hrec pre x post hxs Hl ownL hleL ⟨hHl,rfl⟩;refine aH (dC pL rfl (fun b13=>bZ 0 rfl rfl rfl rfl kC rfl rfl rfl rfl rfl (aE (aFo (bT (cE [3,10,11,12,13] rfl ?_))))))
   apply iJ (fun _=>True) trivial 19 [eqF _,eqF _,eqF _,eqF _,eqF _,eqF _,slF (eO .i64) [_,_],eqF _,eqF _,eqF _,eqF _,eqF _,eqF _,eqF _,eqF _,eqF _,slF (eO .i64) [_,_],eqF _,eqF _] follows (by kernel_rfl) (by kernel_rfl) ⟨bB _,bB _,bB _,bB _,bB _,bB _,gX _ _,bB _,bB _,bB _,bB _,bB _,bB _,bB _,bB _,bB _,gX _ _,bB _,bB _,trivial⟩ ?steps13 ?tail13
   case steps13 =>
    refine bI rfl ?_ ?_
    ·intro X HD aD _
     refine aW rfl (bK 2 rfl rfl dT rfl rfl rfl (aE ?_))
     exact bH trivial rfl
    refine bI rfl ?_ ?_
    ·intro X HD aD _
     refine aW rfl (bK 4 rfl rfl dT rfl rfl rfl (aE ?_))
     exact bH trivial rfl
    refine bI rfl ?_ ?_
    ·intro X HD aD _
     refine aW rfl (bD rfl sR rfl (aE ?_))
     exact bH trivial rfl
    refine bI rfl ?_ ?_
    ·intro X HD aD _
     refine wPq rfl rfl rfl (aW rfl (bK 0 rfl rfl dT rfl rfl rfl (aE ?_)))
     exact bH trivial rfl
    refine bI rfl ?_ ?_
    ·intro X HD aD _
     refine wPq rfl rfl rfl (aW rfl (bR rfl (vM _ _) rfl (aE ?_)))
     exact bH trivial rfl
    refine bI rfl ?_ ?_
    ·intro X HD aD _
     refine wPq rfl rfl rfl (aW rfl (aB9 rfl (bU (by omega) (by omega)) rfl (aE ?_)))
     exact bH trivial rfl
    refine bI rfl ?_ ?_
    ·intro X HD aD _
     refine wPq rfl rfl rfl (wPq rfl rfl rfl (aW rfl (dB rfl Tryz.underlying26 dT uI rfl rfl rfl (fun b56=>dF 0 rfl rfl rfl (fun HP oP hleP hbP hoP=>?_)))))
     have hsl:=SlR.ints hbP hoP (l:=[_,_]) rfl
     refine aE ?_
     exact bH trivial (⟨_,rfl,hsl⟩)
    refine bI rfl ?_ ?_
    ·intro X HD aD _
     refine cU rfl rfl ?_;rintro _ ⟨bs,rfl,hsl⟩;refine aW rfl (bR rfl (xC _ _ [_,_] _ hsl (by simp)) rfl (aE ?_))
     exact bH trivial rfl
    refine bI rfl ?_ ?_
    ·intro X HD aD _
     refine wPq rfl rfl rfl (wPq rfl rfl rfl (aW rfl (bR rfl (vJ _ _ _) rfl (aE ?_))))
     exact bH trivial rfl
    refine bI rfl ?_ ?_
    ·intro X HD aD _
     refine aW rfl (bK 1 rfl rfl dT rfl rfl rfl (aE ?_))
     exact bH trivial rfl
    refine bI rfl ?_ ?_
    ·intro X HD aD _
     refine aW rfl (bD rfl sR rfl (aE ?_))
     exact bH trivial rfl
    refine bI rfl ?_ ?_
    ·intro X HD aD _
     refine wPq rfl rfl rfl (aW rfl (bK 3 rfl rfl dT rfl rfl rfl (aE ?_)))
     exact bH trivial rfl
    refine bI rfl ?_ ?_
    ·intro X HD aD _
     refine aW rfl (bD rfl sR rfl (aE ?_))
     exact bH trivial rfl
    refine bI rfl ?_ ?_
    ·intro X HD aD _
     refine wPq rfl rfl rfl (aW rfl (bK 0 rfl rfl dT rfl rfl rfl (aE ?_)))
     exact bH trivial rfl
    refine bI rfl ?_ ?_
    ·intro X HD aD _
     refine wPq rfl rfl rfl (aW rfl (bR rfl (vM _ _) rfl (aE ?_)))
     exact bH trivial rfl
    refine bI rfl ?_ ?_
    ·intro X HD aD _
     refine wPq rfl rfl rfl (aW rfl (aB9 rfl (bU (by omega) (by omega)) rfl (aE ?_)))
     exact bH trivial rfl
    refine bI rfl ?_ ?_
    ·intro X HD aD _
     refine wPq rfl rfl rfl (wPq rfl rfl rfl (aW rfl (dB rfl Tryz.underlying26 dT uI rfl rfl rfl (fun b66=>dF 0 rfl rfl rfl (fun HP oP hleP hbP hoP=>?_)))))
     have hsl:=SlR.ints hbP hoP (l:=[_,_]) rfl
     refine aE ?_
     exact bH trivial (⟨_,rfl,hsl⟩)
    refine bI rfl ?_ ?_
    ·intro X HD aD _
     refine cU rfl rfl ?_;rintro _ ⟨bs,rfl,hsl⟩;refine aW rfl (bR rfl (xC _ _ [_,_] _ hsl (by simp)) rfl (aE ?_))
     exact bH trivial rfl
    refine bI rfl ?_ ?_
    ·intro X HD aD _
     refine wPq rfl rfl rfl (wPq rfl rfl rfl (aW rfl (bR rfl (vJ _ _ _) rfl (aE ?_))))
     exact bH trivial rfl
    exact eU rfl
   case tail13 =>
    intro HD aD _
    refine wPq rfl rfl rfl (wPq rfl rfl rfl (wPq rfl rfl rfl (wPq rfl rfl rfl (wPq rfl rfl rfl (wPq rfl rfl rfl (cU rfl rfl ?_))))));rintro _ ⟨bs,rfl,hsl⟩;refine wPq rfl rfl rfl (wPq rfl rfl rfl (wPq rfl rfl rfl (wPq rfl rfl rfl (wPq rfl rfl rfl (wPq rfl rfl rfl (wPq rfl rfl rfl (wPq rfl rfl rfl (wPq rfl rfl rfl (cU rfl rfl ?_)))))))));rintro _ ⟨bs,rfl,hsl⟩;refine wPq rfl rfl rfl (wPq rfl rfl rfl (aW rfl (bZ 2 rfl rfl rfl rfl dT rfl rfl rfl rfl rfl (bZ 1 rfl rfl rfl rfl dT rfl rfl rfl rfl rfl (aE (dP ?_))))));refine ⟨rfl,((b12,.cells 3 [.int .i64 (aIi xE.X pre 1 * ([xE.X,0 - x.X % 1073741789].sum % 1073741789) % 1073741789)]) :: (b11,.cells 3 [.int .i64 (aGs at_ pre (xE.Y % 1073741789) * ([at_,0 - x.X % 1073741789].sum % 1073741789) % 1073741789)]) :: (b10,.cells 100 [.int .i64 xE.X,.int .i64 xE.Y]) :: (b3,.cells 3 [.int .i64 at_]) :: rest),(by repeat(first|exact sL _|apply sC)),?_⟩
    exact ⟨hHl.trans aD,by rw [belF_snoc,abvF_snoc]⟩
  ·rintro Hl ownL hleL ⟨hHl,rfl⟩
   have hH3:=(hH.trans uD).trans hHl
   refine dP (aR (aZ (aH (bK 0 rfl rfl dT rfl rfl rfl (bR rfl (inv_fn _ _) rfl (aU rfl rfl (bV rfl rfl rfl (bV rfl rfl rfl (bA rfl rfl (bA rfl rfl (aE (aR (aH (aU rfl rfl (bK 1 rfl rfl dT rfl rfl rfl (aU rfl rfl (bR rfl (vJ _ _ _) rfl (dB rfl Tryz.underlying26 dT uI rfl rfl rfl (fun b78=>dF 0 rfl rfl rfl (fun HP oP hleP hbP hoP=>?_))))))))))))))))))))
   have hsl:=SlR.ints hbP hoP (l:=[_,_]) rfl
   refine bR rfl (xC _ _ [_,_] _ hsl (by simp)) rfl (bA rfl rfl (aE (dP (aR (aH (dJ rfl rfl (bU (by omega) (by omega)) rfl (aU rfl rfl (aE (cR (k + 1) (by omega) (aQ (by rw [aHm hxE,atT];rfl) (aQ rfl (aQ rfl (aQ rfl (aQ rfl (aQ rfl bP)))))) (⟨by omega,hH3.trans hleP,rfl⟩) (by repeat(first|exact sL _|apply sC)) (hH3.trans hleP))))))))))
  rintro c Hl ownL hleL hK
  exact hK.elim
 obtain rfl : k = l.length:=by omega
 refine dX (dA (cZ (dI rfl (aR (aZ (aH (aU rfl rfl (bA rfl rfl (bA rfl rfl (aE (aR (bW ?_))))))))))));refine ⟨rfl,_,[],rfl,(by repeat(first|exact sL _|apply sC)),bX.mk ?_⟩
 show _ = _;rw [atV,if_neg (by omega),if_neg (Decidable.not_not.2 hnd)];rfl
end Go.Proofs.Ra

namespace Go.Proofs.Ra
def E (a b : Int) : Prop:=a % 1073741789 = b % 1073741789
theorem E.refl (a : Int) : E a a:=rfl
theorem E.symm {a b : Int} (h : E a b) : E b a:=Eq.symm h
theorem E.trans {a b c : Int} (h : E a b) (k : E b c) : E a c:=Eq.trans h k
theorem E.of_eq {a b : Int} (h : a = b) : E a b:=by subst h;rfl
theorem E.mod (a : Int) : E (a % 1073741789) a:=Int.emod_emod_of_dvd _ (Int.dvd_refl _)
theorem E.add {a b c d : Int} (h : E a b) (k : E c d) : E (a + c) (b + d):=by
 unfold E at *;rw [Int.add_emod,h,k,← Int.add_emod]
theorem E.mul {a b c d : Int} (h : E a b) (k : E c d) : E (a * c) (b * d):=by
 unfold E at *;rw [Int.mul_emod,h,k,← Int.mul_emod]
theorem E.sub {a b c d : Int} (h : E a b) (k : E c d) : E (a - c) (b - d):=by
 unfold E at *;rw [Int.sub_emod,h,k,← Int.sub_emod]
theorem E.pow {a b : Int} (h : E a b) : ∀ n : Nat,E (a ^ n) (b ^ n)
 | 0=>by rw [Int.pow_zero,Int.pow_zero];exact E.refl _
 | n + 1=>by rw [Int.pow_succ,Int.pow_succ];exact (E.pow h n).mul h
theorem E.eq {a b : Int} (h : E a b) (a0 : 0 ≤ a) (a1 : a < 1073741789) (b0 : 0 ≤ b) (b1 : b < 1073741789) : a = b:=by
 unfold E at h;rw [Int.emod_eq_of_lt a0 a1,Int.emod_eq_of_lt b0 b1] at h;exact h
theorem rng (a : Int) : 0 ≤ a % 1073741789 ∧ a % 1073741789 < 1073741789:=⟨Int.emod_nonneg _ (by decide),Int.emod_lt_of_pos _ (by decide)⟩
theorem aM9 : ∀ (f : Nat) (x sq : Int) (left : Nat),left < 2 ^ f → E (pwF f x sq left) (x * sq ^ left)
  | 0,x,sq,left,h=>by
    obtain rfl : left = 0:=by simpa using h
    simp [pwF,E]
  | f + 1,x,sq,left,h=>by
    rw [pwF]
    split
    · rename_i h0;subst h0;simp [E]
    have h2 : left / 2 < 2 ^ f:=by rw [Nat.pow_succ] at h;omega
    have ih:=fun x'=>aM9 f x' (sq * sq % 1073741789) (left / 2) h2
    have hs : E ((sq * sq % 1073741789) ^ (left / 2)) (sq ^ (2 * (left / 2))):=by
      refine ((E.mod (sq * sq)).pow _).trans (E.of_eq ?_)
      rw [Int.pow_mul,Int.pow_succ,Int.pow_succ,Int.pow_zero,Int.one_mul]
    split
    · rename_i h1
      refine (ih _).trans ((E.mul (E.mod _) hs).trans (E.of_eq ?_))
      have e : left = 1 + 2 * (left / 2):=by omega
      conv=>rhs;rw [e,Int.pow_add]
      rw [Int.mul_assoc,Int.pow_succ,Int.pow_zero,Int.one_mul]
    rename_i h1
    refine (ih _).trans ((E.mul (E.refl _) hs).trans (E.of_eq ?_))
    have e : left = 2 * (left / 2):=by omega
    conv=>rhs;rw [e]
def pe : Nat:=1073741787
theorem invQ_E (a : Int) : E (aNy a) (a ^ pe):=by
 have:=aM9 31 1 a pe (by decide)
 rwa [Int.one_mul] at this
theorem zero_pow {a : Int} (h : E a 0) : E (a ^ pe) 0:=by
 have e : pe = 1073741786 + 1:=rfl
 rw [e,Int.pow_succ]
 exact ((E.refl _).mul h).trans (E.of_eq (by simp))
theorem inv0_E (a : Int) : E (aBl a) (a ^ pe):=by
 unfold aBl
 split
 ·rename_i h;exact (zero_pow (show E a 0 from h)).symm
 exact invQ_E a
theorem vI (x : Int) (l : List Int) : 0 ≤ valR x l ∧ valR x l < 1073741789:=by
 cases l with
 | nil=>exact ⟨by simp [valR],by simp [valR]⟩
 | cons c l=>exact rng _
theorem aK0 (x : Int) : ∀ (l : List Int) (y pw : Int),E (valP x l y pw) (y + pw * valR x l)
  | [],y,pw=>E.of_eq (by simp [valP,valR])
  | c :: l,y,pw=>by
    rw [valP]
    refine (aK0 x l _ _).trans ?_
    have h1 : E ((y + c * pw % 1073741789) % 1073741789) (y + c * pw):=(E.mod _).trans ((E.refl y).add (E.mod _))
    have h2 : E (pw * x % 1073741789 * valR x l) (pw * x * valR x l):=(E.mod _).mul (E.refl _)
    have h3 : E (valR x (c :: l)) (valR x l * x + c):=(E.mod _).trans ((E.mod _).add (E.refl c))
    refine (h1.add h2).trans (E.trans (E.of_eq ?_) ((E.refl y).add ((E.refl pw).mul h3.symm)))
    grind
theorem valP_rng (x : Int) : ∀ (l : List Int) (y pw : Int),0 ≤ y → y < 1073741789 → 0 ≤ valP x l y pw ∧ valP x l y pw < 1073741789
 | [],y,pw,h0,h1=>⟨h0,h1⟩
 | c :: l,y,pw,_,_=>valP_rng x l _ _ (rng _).1 (rng _).2
theorem valP_eq (x : Int) (l : List Int) : valP x l 0 1 = valR x l :=
 ((aK0 x l 0 1).trans (E.of_eq (by simp))).eq (valP_rng x l 0 1 (by decide) (by decide)).1 (valP_rng x l 0 1 (by decide) (by decide)).2 (vI x l).1 (vI x l).2
/-! ### The polynomial through some points -/
def prF (t : Int) : List Pt → Int
 | []=>1
 | q :: ps=>(t - q.X) * prF t ps
theorem fac_E (t : Int) (q : Pt) : E ([t,0 - q.X % 1073741789].sum % 1073741789) (t - q.X):=by
 refine (E.mod _).trans ?_
 have : E (t + (0 - q.X % 1073741789)) (t + (0 - q.X)):=(E.refl t).add ((E.refl 0).sub (E.mod _))
 refine (E.of_eq (by simp)).trans (this.trans (E.of_eq (by grind)))
theorem aIk (t : Int) : ∀ (ps : List Pt) (s : Int),E (aGs t ps s) (s * prF t ps)
  | [],s=>E.of_eq (by simp [aGs,prF])
  | q :: ps,s=>by
    refine (aIk t ps _).trans ?_
    refine (((E.mod _).trans ((E.refl s).mul (fac_E t q))).mul (E.refl _)).trans (E.of_eq ?_)
    rw [prF];grind
theorem atT_E (t : Int) (l : List Pt) (k : Nat) (p : Pt) : E (atT t l k p) (p.Y * (prF t (l.eraseIdx k) * prF p.X (l.eraseIdx k) ^ pe)):=by
 refine (E.mod _).trans ?_
 have h1:=(aIk t (l.eraseIdx k) (p.Y % 1073741789)).trans ((E.mod p.Y).mul (E.refl _))
 have h2 : E (aBl (aIi p.X (l.eraseIdx k) 1)) (prF p.X (l.eraseIdx k) ^ pe):=by
  refine (inv0_E _).trans (E.pow ?_ _)
  exact (aIk p.X (l.eraseIdx k) 1).trans (E.of_eq (by simp))
 exact (h1.mul h2).trans (E.of_eq (by grind))
end Go.Proofs.Ra

namespace Go.Proofs.Ra
open Go.XL
def uN : List Nat → Nat
 | []=>1
 | x :: l=>x * uN l
theorem prodN_perm {l m : List Nat} (h : l.Perm m) : uN l = uN m:=by
 induction h with
 | nil=>rfl
 | cons x _ ih=>simp only [uN,ih]
 | swap x y l=>simp only [uN];rw [Nat.mul_left_comm]
 | trans _ _ h1 h2=>exact h1.trans h2
theorem aAs : ∀ (l1 l2 : List Nat),l1.Nodup → (∀ x ∈ l1,x ∈ l2) → l2.length ≤ l1.length → l1.Perm l2
  | [],l2,_,_,h=>by
    have : l2 = []:=List.length_eq_zero_iff.1 (by simpa using h)
    rw [this]
  | x :: l1,l2,hn,hs,hl=>by
    have hx:=hs x (by simp)
    rw [List.nodup_cons] at hn
    have h2:=aAs l1 (l2.erase x) hn.2 (fun y hy=>(List.mem_erase_of_ne (by rintro rfl;exact hn.1 hy)).2 (hs y (by simp [hy]))) (by rw [List.length_erase_of_mem hx];simp at hl;omega)
    exact (h2.cons x).trans (List.perm_cons_erase hx).symm
def isP (p : Nat) : Prop:=1 < p ∧ ∀ d,d ∣ p → d = 1 ∨ d = p
theorem isP.mul {p a b : Nat} (hp : isP p) (h : p ∣ a * b) : p ∣ a ∨ p ∣ b:=by
 rcases hp.2 (Nat.gcd p a) (Nat.gcd_dvd_left p a) with h1 | h1
 ·exact .inr (Nat.Coprime.dvd_of_dvd_mul_left h1 h)
 exact .inl (h1 ▸ Nat.gcd_dvd_right p a)
theorem aDk (p a : Nat) : ∀ l : List Nat,uN (l.map fun x=>a * x % p) % p = a ^ l.length * uN l % p
  | []=>by simp [uN]
  | x :: l=>by
    simp only [List.map_cons,uN,List.length_cons]
    rw [Nat.mul_mod,aDk p a l,Nat.mod_mod,← Nat.mul_mod,Nat.pow_succ]
    congr 1
    ac_rfl
theorem wP {p : Nat} (hp : isP p) : ∀ l : List Nat,(∀ x ∈ l,¬ p ∣ x) → ¬ p ∣ uN l
  | [],_=>fun h=>by have:=hp.1;have:=Nat.le_of_dvd (by decide) h;simp [uN] at this;omega
  | x :: l,h=>fun hd=>by
    rcases hp.mul hd with h1 | h1
    · exact h x (by simp) h1
    exact wP hp l (fun y hy=>h y (by simp [hy])) h1
theorem aL5 {p a b c : Nat} (hp : isP p) (hc : ¬ p ∣ c) (h : a * c % p = b * c % p) : a % p = b % p:=by
 have key : ∀ a b : Nat,a ≤ b → a * c % p = b * c % p → a % p = b % p:=fun a b hab h=>by
  have h1 : p ∣ (b - a) * c:=by
   rw [Nat.sub_mul]
   exact Nat.dvd_of_mod_eq_zero (Nat.sub_mod_eq_zero_of_mod_eq h.symm)
  rcases hp.mul h1 with h2 | h2
  ·obtain ⟨k,hk⟩:=h2
   have : b = a + p * k:=by omega
   rw [this,Nat.add_mul_mod_self_left]
  exact (hc h2).elim
 rcases Nat.le_total a b with h1 | h1
 ·exact key a b h1 h
 exact (key b a h1 h.symm).symm
theorem fermat {p a : Nat} (hp : isP p) (ha : ¬ p ∣ a) : a ^ (p - 1) % p = 1 % p:=by
 have h1:=hp.1
 let U:=List.range' 1 (p - 1)
 have hU : ∀ x ∈ U,¬ p ∣ x:=fun x hx hd=>by
  have:=List.mem_range'_1.1 hx
  have:=Nat.le_of_dvd (by omega) hd
  omega
 have hmem : ∀ x ∈ U.map (fun x=>a * x % p),x ∈ U:=fun y hy=>by
  obtain ⟨x,hx,rfl⟩:=List.mem_map.1 hy;refine List.mem_range'_1.2 ⟨?_,by have:=Nat.mod_lt (a * x) (show 0 < p by omega);omega⟩
  rcases Nat.eq_zero_or_pos (a * x % p) with h2 | h2
  ·rcases hp.mul (Nat.dvd_of_mod_eq_zero h2) with h3 | h3
   ·exact (ha h3).elim
   exact (hU x hx h3).elim
  exact h2
 have hnd : (U.map (fun x=>a * x % p)).Nodup:=by
  rw [List.Nodup,List.pairwise_map]
  have h2 : U.Pairwise (· ≠ ·):=List.nodup_range'
  refine List.Pairwise.imp_of_mem (fun {x y} hx hy hne e=>hne ?_) h2
  have h3 : x * a % p = y * a % p:=by rw [Nat.mul_comm x,Nat.mul_comm y];exact e
  have h4:=aL5 hp ha h3
  have hx:=List.mem_range'_1.1 hx
  have hy:=List.mem_range'_1.1 hy
  rwa [Nat.mod_eq_of_lt (by omega),Nat.mod_eq_of_lt (by omega)] at h4
 have hperm:=prodN_perm (aAs _ U hnd hmem (by simp))
 have h5:=aDk p a U
 rw [hperm,show U.length = p - 1 by simp [U]] at h5
 refine (aL5 hp (wP hp U hU) ?_).symm
 rw [Nat.one_mul];exact h5
def aJ6 (q : Nat) : Nat → Nat → Bool
 | 0,_=>true
 | f + 1,d=>(Nat.beq (q % d) 0).not && aJ6 q f (d + 1)
theorem aBr {q : Nat} : ∀ {f d : Nat},aJ6 q f d = true → ∀ k,d ≤ k → k < d + f → ¬ k ∣ q
  | 0,d,_,k,h1,h2=>by omega
  | f + 1,d,h,k,h1,h2=>by
    simp only [aJ6,Bool.and_eq_true] at h
    rcases Nat.eq_or_lt_of_le h1 with h3 | h3
    · subst h3
      intro hd
      have:=Nat.mod_eq_zero_of_dvd hd
      rw [this] at h;simp at h
    exact aBr h.2 k h3 (by omega)
theorem isP_of {q r : Nat} (hq : 1 < q) (hr : q < (r + 2) * (r + 2)) (h : aJ6 q r 2 = true) : isP q:=by
 refine ⟨hq,fun d hd=>?_⟩;obtain ⟨e,rfl⟩:=hd
 have hs:=aBr h
 rcases Nat.lt_or_ge d 2 with h1 | h1
 ·rcases Nat.eq_zero_or_pos d with h2 | h2
  ·subst h2;simp at hq
  exact .inl (by omega)
 rcases Nat.lt_or_ge e 2 with h2 | h2
 ·rcases Nat.eq_zero_or_pos e with h3 | h3
  ·subst h3;simp at hq
  obtain rfl : e = 1:=by omega
  exact .inr (by simp)
 exfalso
 rcases Nat.lt_or_ge d (2 + r) with h3 | h3
 ·exact hs d h1 h3 ⟨e,rfl⟩
 rcases Nat.lt_or_ge e (2 + r) with h4 | h4
 ·exact hs e h2 h4 ⟨d,Nat.mul_comm _ _⟩
 have:=Nat.mul_le_mul h3 h4
 rw [Nat.add_comm 2 r] at this
 omega
theorem aIv : isP 1073741789:=isP_of (r:=32768) (by decide) (by decide) (by decide +kernel)
theorem E.dvd {a : Int} (h : E a 0) : (1073741789 : Int) ∣ a:=Int.dvd_of_emod_eq_zero (by simpa [E] using h)
theorem E.of_dvd {a : Int} (h : (1073741789 : Int) ∣ a) : E a 0:=by simpa [E] using Int.emod_eq_zero_of_dvd h
theorem aDs {a b : Int} (h : E (a * b) 0) : E a 0 ∨ E b 0:=by
 have h1:=Int.natAbs_dvd_natAbs.2 h.dvd
 rw [Int.natAbs_mul] at h1
 rcases aIv.mul h1 with h2 | h2
 ·exact .inl (E.of_dvd (Int.natAbs_dvd_natAbs.1 h2))
 exact .inr (E.of_dvd (Int.natAbs_dvd_natAbs.1 h2))
theorem inv_E {a : Int} (h : ¬ E a 0) : E (a * a ^ pe) 1:=by
 have hn : ((a % 1073741789).toNat : Int) = a % 1073741789:=Int.toNat_of_nonneg (rng a).1
 have he : E a ((a % 1073741789).toNat : Int):=by rw [hn];exact (E.mod a).symm
 generalize (a % 1073741789).toNat = n at *
 have hnd : ¬ 1073741789 ∣ n:=fun hd=>h (he.trans (E.of_dvd (Int.natCast_dvd_natCast.2 hd)))
 have hf:=fermat aIv hnd
 have e : (1073741789 - 1 : Nat) = pe + 1:=rfl
 rw [e] at hf
 generalize pe = m at *
 refine (he.mul (he.pow m)).trans ?_
 have h2 : (n : Int) * (n : Int) ^ m = ((n ^ (m + 1) : Nat) : Int):=by rw [Int.natCast_pow,Int.pow_succ,Int.mul_comm]
 rw [h2]
 have h3:=congrArg (fun z : Nat=>(z : Int)) hf
 simpa [E] using h3
end Go.Proofs.Ra

namespace Go.Proofs.Ra
def Po : Nat → (Int → Int) → Prop
 | 0,f=>∀ x,E (f x) 0
 | n + 1,f=>∃ c g,Po n g ∧ ∀ x,E (f x) (c + x * g x)
theorem Po.congr {f g : Int → Int} (h : ∀ x,E (f x) (g x)) : ∀ {n : Nat},Po n f → Po n g
 | 0,k=>fun x=>(h x).symm.trans (k x)
 | n + 1,⟨c,u,hu,k⟩=>⟨c,u,hu,fun x=>(h x).symm.trans (k x)⟩
theorem Po.zero : ∀ n,Po n (fun _=>0)
 | 0=>fun _=>E.refl _
 | n + 1=>⟨0,fun _=>0,Po.zero n,fun x=>E.of_eq (by grind)⟩
theorem Po.succ : ∀ {n : Nat} {f : Int → Int},Po n f → Po (n + 1) f
 | 0,f,h=>⟨0,fun _=>0,Po.zero 0,fun x=>(h x).trans (E.of_eq (by grind))⟩
 | n + 1,f,⟨c,g,hg,h⟩=>⟨c,g,Po.succ hg,h⟩
theorem Po.mono {n m : Nat} {f : Int → Int} (h : Po n f) (hm : n ≤ m) : Po m f:=by
 obtain ⟨k,rfl⟩ : ∃ k,m = n + k:=⟨m - n,by omega⟩
 clear hm
 induction k with
 | zero=>exact h
 | succ k ih=>exact ih.succ
theorem Po.add : ∀ {n : Nat} {f g : Int → Int},Po n f → Po n g → Po n (fun x=>f x + g x)
 | 0,f,g,h,k=>fun x=>((h x).add (k x)).trans (E.of_eq (by grind))
 | n + 1,f,g,⟨c,u,hu,h⟩,⟨d,v,hv,k⟩=>⟨c + d,fun x=>u x + v x,hu.add hv,fun x=>((h x).add (k x)).trans (E.of_eq (by grind))⟩
theorem Po.smul (a : Int) : ∀ {n : Nat} {f : Int → Int},Po n f → Po n (fun x=>a * f x)
 | 0,f,h=>fun x=>((E.refl a).mul (h x)).trans (E.of_eq (by grind))
 | n + 1,f,⟨c,u,hu,h⟩=>⟨a * c,fun x=>a * u x,hu.smul a,fun x=>((E.refl a).mul (h x)).trans (E.of_eq (by grind))⟩
theorem Po.lin (a : Int) {n : Nat} {f : Int → Int} (h : Po n f) : Po (n + 1) (fun x=>(x - a) * f x):=by
 have h1 : Po (n + 1) (fun x=>x * f x):=⟨0,f,h,fun x=>E.of_eq (by grind)⟩
 exact (h1.add (h.smul (-a)).succ).congr fun x=>E.of_eq (by grind)
theorem Po.valR : ∀ cs : List Int,Po cs.length (fun x=>valR x cs)
 | []=>fun x=>E.refl _
 | c :: cs=>⟨c,fun x=>Go.Proofs.Ra.valR x cs,Po.valR cs,fun x=>(E.mod _).trans (((E.mod _).add (E.refl c)).trans (E.of_eq (by grind)))⟩
theorem Po.prF : ∀ ps : List Pt,Po (ps.length + 1) (fun x=>prF x ps)
 | []=>⟨1,fun _=>0,Po.zero 0,fun x=>E.of_eq (by simp [Go.Proofs.Ra.prF])⟩
 | q :: ps=>(Po.prF ps).lin q.X
theorem Po.factor : ∀ {n : Nat} {f : Int → Int},Po (n + 1) f → ∀ r,∃ g,Po n g ∧ ∀ x,E (f x) (f r + (x - r) * g x)
  | 0,f,⟨c,g,hg,h⟩,r=>⟨fun _=>0,Po.zero 0,fun x=>by
      have h1:=(h x).trans ((E.refl c).add ((E.refl x).mul (hg x)))
      have h2:=(h r).trans ((E.refl c).add ((E.refl r).mul (hg r)))
      refine (h1.trans (E.of_eq ?_)).trans ((h2.add (E.refl ((x - r) * 0))).symm)
      grind⟩
  | n + 1,f,⟨c,g,hg,h⟩,r=>by
    obtain ⟨u,hu,k⟩:=Po.factor hg r
    refine ⟨fun x=>g r + x * u x,⟨g r,u,hu,fun x=>E.refl _⟩,fun x=>?_⟩
    have h1:=(h x).trans ((E.refl c).add ((E.refl x).mul (k x)))
    refine (h1.trans (E.of_eq ?_)).trans (((h r).add (E.refl ((x - r) * (g r + x * u x)))).symm)
    grind
theorem vX {a b : Int} : E (a - b) 0 ↔ E a b:=by
 constructor
 ·intro h
  have:=h.add (E.refl b)
  exact (E.of_eq (by grind)).trans (this.trans (E.of_eq (by grind)))
 intro h
 exact (h.sub (E.refl b)).trans (E.of_eq (by grind))
theorem Po.roots : ∀ {n : Nat} {f : Int → Int},Po n f → ∀ xs : List Int,xs.length = n → (xs.map fun x=>x % 1073741789).Nodup → (∀ x ∈ xs,E (f x) 0) → ∀ x,E (f x) 0
  | 0,f,h,_,_,_,_=>h
  | n + 1,f,h,[],hl,_,_=>by simp at hl
  | n + 1,f,h,r :: xs,hl,hn,hr=>by
    obtain ⟨g,hg,k⟩:=h.factor r
    have h0:=hr r (by simp)
    rw [List.map_cons,List.nodup_cons] at hn
    have hg0:=hg.roots xs (by simpa using hl) hn.2 (fun s hs=>by
      have h1 : E ((s - r) * g s) 0:=by
        have h2:=(k s).symm.trans (hr s (by simp [hs]))
        have h3:=h2.sub h0
        exact (E.of_eq (by grind)).trans (h3.trans (E.of_eq (by grind)))
      rcases aDs h1 with h4 | h4
      · exfalso
        refine hn.1 (List.mem_map.2 ⟨s,hs,?_⟩)
        exact vX.1 h4
      exact h4)
    intro x
    exact (k x).trans ((h0.add ((E.refl (x - r)).mul (hg0 x))).trans (E.of_eq (by grind)))
theorem aNi (t : Int) {l : List Pt} {k : Nat} {p : Pt} (h : l[k]? = some p) : E (atF t l (k + 1)) (atF t l k + p.Y * (prF t (l.eraseIdx k) * prF p.X (l.eraseIdx k) ^ pe)):=by
 rw [aHm h]
 exact (E.mod _).trans ((E.of_eq (by simp)).trans ((E.refl (atF t l k)).add (atT_E t l k p)))
theorem Po.atF (l : List Pt) : ∀ k,k ≤ l.length → Po l.length (fun t=>Go.Proofs.Ra.atF t l k)
  | 0,_=>Po.zero _
  | k + 1,h=>by
    have hx : l[k]? = some l[k]:=List.getElem?_eq_getElem (by omega)
    have h1 : Po l.length (fun t=>(l[k].Y * Go.Proofs.Ra.prF l[k].X (l.eraseIdx k) ^ pe) * Go.Proofs.Ra.prF t (l.eraseIdx k)):=by
      refine Po.smul _ ((Po.prF _).mono ?_)
      rw [List.length_eraseIdx_of_lt (by omega)];omega
    exact ((Po.atF l k (by omega)).add h1).congr fun t=>(E.of_eq (by grind)).trans (aNi t hx).symm
theorem aGn {t : Int} : ∀ {ps : List Pt} {q : Pt},q ∈ ps → E t q.X → E (prF t ps) 0
  | p :: ps,q,h,e=>by
    rcases List.mem_cons.1 h with rfl | h
    · exact ((vX.2 e).mul (E.refl _)).trans (E.of_eq (by grind))
    exact ((E.refl (t - p.X)).mul (aGn h e)).trans (E.of_eq (by grind))
theorem aL9 {t : Int} : ∀ {ps : List Pt},(∀ q ∈ ps,¬ E t q.X) → ¬ E (prF t ps) 0
  | [],_=>fun h=>by simp [prF,E] at h
  | p :: ps,h=>fun k=>by
    rcases aDs k with h1 | h1
    · exact h p (by simp) (vX.1 h1)
    exact aL9 (fun q hq=>h q (by simp [hq])) h1
theorem nodup_ne {l : List Pt} (hn : (l.map fun p : Pt=>p.X % 1073741789).Nodup) {i j : Nat} {p q : Pt} (hi : l[i]? = some p) (hj : l[j]? = some q) (e : E p.X q.X) : i = j:=by
 have h:=diff_iff l |>.2 hn
 rcases Nat.lt_trichotomy i j with h1 | h1 | h1
 ·exact (h j i q p h1 hj hi e.symm).elim
 ·exact h1
 exact (h i j p q h1 hi hj e).elim
theorem aGp {l : List Pt} (hn : (l.map fun p : Pt=>p.X % 1073741789).Nodup) {j : Nat} {p : Pt} (hj : l[j]? = some p) : ∀ k,k ≤ l.length → E (atF p.X l k) (if j < k then p.Y else 0)
  | 0,_=>E.refl _
  | k + 1,h=>by
    have hx : l[k]? = some l[k]:=List.getElem?_eq_getElem (by omega)
    refine (aNi p.X hx).trans ?_
    have ih:=aGp hn hj k (by omega)
    by_cases hjk : j = k
    · subst hjk
      rw [hx] at hj;cases hj
      rw [if_neg (by omega)] at ih
      rw [if_pos (by omega)]
      have h1 : ¬ E (prF l[j].X (l.eraseIdx j)) 0:=aL9 fun q hq e=>by
        obtain ⟨i,hi,hq⟩:=List.mem_eraseIdx_iff_getElem?.1 hq
        exact hi (nodup_ne hn hx hq e).symm
      exact (ih.add ((E.refl _).mul (inv_E h1))).trans (E.of_eq (by grind))
    have h1 : E (prF p.X (l.eraseIdx k)) 0:=aGn (List.mem_eraseIdx_iff_getElem?.2 ⟨j,hjk,hj⟩) (E.refl _)
    refine (ih.add ((E.refl _).mul (h1.mul (E.refl _)))).trans (E.of_eq ?_)
    by_cases h2 : j < k
    · rw [if_pos h2,if_pos (by omega)];grind
    rw [if_neg h2,if_neg (by omega)];grind
theorem interp {l : List Pt} (hn : (l.map fun p : Pt=>p.X % 1073741789).Nodup) {f : Int → Int} (hf : Po l.length f) (hv : ∀ p ∈ l,E (f p.X) p.Y) (t : Int) : E (atF t l l.length) (f t):=by
 have h1 : Po l.length (fun x=>atF x l l.length + -1 * f x):=(Po.atF l _ (Nat.le_refl _)).add (hf.smul (-1))
 have h2:=h1.roots (l.map Pt.X) (by simp) (by rw [List.map_map];exact hn) (fun x hx=>by
  obtain ⟨p,hp,rfl⟩:=List.mem_map.1 hx;obtain ⟨j,hj,rfl⟩:=List.getElem_of_mem hp
  have h3:=aGp hn (List.getElem?_eq_getElem hj) l.length (Nat.le_refl _)
  rw [if_pos hj] at h3
  exact (h3.add ((E.refl (-1)).mul (hv _ hp))).trans (E.of_eq (by grind))) t
 exact vX.1 ((E.of_eq (by grind)).trans h2)
theorem aJb (t : Int) (l : List Pt) (k : Nat) : 0 ≤ atF t l k ∧ atF t l k < 1073741789:=by
 cases k with
 | zero=>exact ⟨by simp [atF],by simp [atF]⟩
 | succ k=>exact rng _
theorem aB3 {l : List Pt} (h24 : l.length ≤ 24) (hn : (l.map fun p : Pt=>p.X % 1073741789).Nodup) {f : Int → Int} (hf : Po l.length f) (hv : ∀ p ∈ l,E (f p.X) p.Y) (t : Int) (h0 : 0 ≤ f t) (h1 : f t < 1073741789) : atV t l = (f t,0):=by
 rw [atV,if_neg (by omega),if_neg (not_not_intro hn),(interp hn hf hv t).eq (aJb _ _ _).1 (aJb _ _ _).2 h0 h1]
theorem atV_through {l : List Pt} (h24 : l.length ≤ 24) (hn : (l.map fun p : Pt=>p.X % 1073741789).Nodup) {cs : List Int} (hc : cs.length ≤ l.length) (t : Int) : atV t (l.map fun p=>⟨p.X,valP p.X cs 0 1⟩) = (valP t cs 0 1,0):=by
 have h1:=vI t cs
 rw [valP_eq]
 refine aB3 (by simpa using h24) ?_ ((Po.valR cs).mono (by simpa using hc)) (fun p hp=>?_) t h1.1 h1.2
 ·rw [List.map_map];exact hn
 obtain ⟨q,_,rfl⟩:=List.mem_map.1 hp
 exact E.of_eq (valP_eq _ _).symm
def evl (cs : List Int) (l : List Pt) : List Pt:=l.map fun p=>⟨p.X,valP p.X cs 0 1⟩
def aMf : List Int → List Int → List Int
 | [],bs=>bs.map fun b=>(0 + b) % 1073741789
 | a :: a_s,[]=>a :: a_s
 | a :: a_s,b :: bs=>(a + b) % 1073741789 :: aMf a_s bs
def sumL (a_s bs : List Int) (k : Nat) : List Int:=(aMf a_s bs).take k
def mulL (c : Int) (a_s : List Int) (k : Nat) : List Int:=(a_s.take k).map fun x=>c * x % 1073741789
def Nd (l : List Pt) : Prop:=(l.map fun p : Pt=>p.X % 1073741789).Nodup
end Go.Proofs.Ra

namespace Go.Proofs.Ra
def okPt (p : Pt) : Prop:=1 ≤ p.X ∧ p.X ≤ 24 ∧ 0 ≤ p.Y ∧ p.Y < 1073741789
def Fm (l : List Pt) : Prop:=0 < l.length ∧ l.length ≤ 24 ∧ (∀ p ∈ l,okPt p) ∧ (l.map Pt.X).Nodup
end Go.Proofs.Ra

namespace Go.Proofs.Ra
open Go.XL
end Go.Proofs.Ra

namespace Go.Proofs.Ra
open Go.XL
def dealL (poly : List Int) (n : Nat) : List Pt:=(List.range n).map fun (i : Nat)=>⟨(i : Int) + 1,valP ((i : Int) + 1) poly 0 1⟩
theorem dealL_len (poly : List Int) (n : Nat) : (dealL poly n).length = n:=by simp [dealL]
theorem dealL_get {poly : List Int} {n k : Nat} (h : k < n) : (dealL poly n)[k]? = some ⟨(k : Int) + 1,valP ((k : Int) + 1) poly 0 1⟩:=by
 simp [dealL,h]
theorem dealL_succ (poly : List Int) (k : Nat) : dealL poly (k + 1) = dealL poly k ++ [⟨(k : Int) + 1,valP ((k : Int) + 1) poly 0 1⟩]:=by
 simp [dealL,List.range_succ]
theorem deal_split {poly : List Int} {n k : Nat} (h : k < n) : ∃ post,dealL poly n = dealL poly k ++ ⟨(k : Int) + 1,valP ((k : Int) + 1) poly 0 1⟩ :: post:=by
 refine ⟨(dealL poly n).drop (k + 1),?_⟩
 have h1:=List.take_append_drop k (dealL poly n)
 rw [iT (dealL_get h)] at h1
 refine h1.symm.trans ?_
 congr 1
 refine List.ext_getElem? fun i=>?_
 rw [List.getElem?_take]
 split
 ·rw [dealL_get (by omega),dealL_get (by omega)]
 rw [List.getElem?_eq_none (by rw [dealL_len];omega)]
abbrev DB (s : Int) (more : List Int) (n : Int) : Prop:=s < 0 ∨ 1073741789 ≤ s ∨ n < 1 ∨ 24 < n ∨ n ≤ more.length
def aF5 (s : Int) (more : List Int) (n : Int) : Int:=if DB s more n then 1 else 0
def aCu (s : Int) (more : List Int) (n : Int) : List Pt:=if DB s more n then [] else dealL (s :: more) n.toNat
theorem vF {s : Int} {more : List Int} {n : Int} {H : Hp} (h : DB s more n) :
  ∃ a c,Value.tuple #[.slice none 0 0,.int .i64 1] = .tuple #[.slice a (aCu s more n).length c,.int .i64 (aF5 s more n)] ∧ SlR ptR H a c (aCu s more n):=by
 rw [aCu,aF5,if_pos h,if_pos h]
 exact ⟨none,0,rfl,SlR.nil0 _ _⟩
theorem deal_ok {s : Int} {more : List Int} {n : Nat} (h : ¬ DB s more n) : aF5 s more n = 0 ∧ aCu s more n = dealL (s :: more) n:=by
 rw [aCu,aF5,if_neg h,if_neg h];exact ⟨rfl,by simp⟩
instance (p : Pt) : Decidable (okPt p):=by unfold okPt;infer_instance
instance (l : List Pt) : Decidable (Fm l):=by unfold Fm;infer_instance
def tI (l : List Pt) : Int × Int:=if Fm l then atV 0 l else (0,330)
def aEk (l : List Pt) : List Bool:=l.foldl (fun m p=>m.set p.X.toNat true) (List.replicate 25 false)
theorem aI1 : ∀ (l : List Pt) (m : List Bool) (i : Nat),m.length = 25 → i < 25 → (∀ p ∈ l,okPt p) → (l.foldl (fun m p=>m.set p.X.toNat true) m)[i]? = some (m[i]?.getD false || decide ((i : Int) ∈ l.map Pt.X))
  | [],m,i,hm,hi,_=>by
    have : m[i]? = some m[i]:=List.getElem?_eq_getElem (by omega)
    simp [this]
  | p :: l,m,i,hm,hi,hok=>by
    rw [List.foldl_cons,aI1 l _ i (by simpa using hm) hi (fun q hq=>hok q (by simp [hq]))]
    have h1:=hok p (by simp)
    unfold okPt at h1
    have h2 : m[i]? = some m[i]:=List.getElem?_eq_getElem (by omega)
    rw [List.getElem?_set]
    by_cases h3 : p.X.toNat = i
    · have : p.X = (i : Int):=by omega
      simp [h3,this,hm,hi]
    have : ¬ (i : Int) = p.X:=by omega
    simp [h3,this]
theorem met_len (l : List Pt) : (aEk l).length = 25:=by
 unfold aEk
 have : ∀ (l : List Pt) (m : List Bool),(l.foldl (fun m p=>m.set p.X.toNat true) m).length = m.length:=by
  intro l
  induction l with
  | nil=>intro m;rfl
  | cons p l ih=>intro m;rw [List.foldl_cons,ih];simp
 rw [this];simp
theorem met_get {l : List Pt} {x : Pt} (hok : ∀ p ∈ l,okPt p) (hx : okPt x) : (aEk l)[x.X.toNat]? = some (decide (x.X ∈ l.map Pt.X)):=by
 have h : 1 ≤ x.X ∧ x.X ≤ 24:=⟨hx.1,hx.2.1⟩
 unfold aEk
 rw [aI1 l _ _ (by simp) (by omega) hok,show ((x.X.toNat : Nat) : Int) = x.X by omega,List.getElem?_replicate,if_pos (by omega)]
 rfl
theorem met_succ {l : List Pt} {k : Nat} {x : Pt} (h : l[k]? = some x) : aEk (l.take (k + 1)) = (aEk (l.take k)).set x.X.toNat true:=by
 rw [fP h,aEk,aEk,List.foldl_append];rfl
theorem nodup_snoc {l : List Pt} {k : Nat} {x : Pt} (h : l[k]? = some x) (hn : ((l.take k).map Pt.X).Nodup) (hx : x.X ∉ (l.take k).map Pt.X) : ((l.take (k + 1)).map Pt.X).Nodup:=by
 rw [lN h,List.nodup_append]
 exact ⟨hn,by simp,fun a ha b hb=>by simp at hb;subst hb;exact fun e=>hx (e ▸ ha)⟩
theorem not_fm_dup {l : List Pt} {k : Nat} {x : Pt} (h : l[k]? = some x) (hx : x.X ∈ (l.take k).map Pt.X) : ¬ Fm l:=fun hF=>by
 have h1:=hF.2.2.2
 have h2 : ((l.take (k + 1)).map Pt.X).Nodup:=by
  rw [List.map_take]
  exact (List.take_sublist _ _).nodup h1
 rw [lN h,List.nodup_append] at h2
 exact h2.2.2 _ hx _ (by simp) rfl
theorem aEb {l : List Pt} (hok : ∀ p ∈ l,okPt p) (hn : (l.map Pt.X).Nodup) : l.length ≤ 24:=by
 have h1 : ∀ x ∈ l.map Pt.X,x ∈ (List.range 24).map (fun (i : Nat)=>(i : Int) + 1):=by
  intro x hx
  obtain ⟨p,hp,rfl⟩:=List.mem_map.1 hx
  have:=hok p hp
  unfold okPt at this
  exact List.mem_map.2 ⟨(p.X - 1).toNat,by simp;omega,by omega⟩
 have h2:=(hn.length_le_of_subset h1)
 simpa using h2
theorem not_fm_ex {l : List Pt} (h : ∃ x ∈ l,¬ okPt x) : ¬ Fm l:=fun hF=>by
 obtain ⟨x,hx,hn⟩:=h
 exact hn (hF.2.2.1 x hx)
def Pick (l x : List Pt) (turned : Bool) (most : Int) : Prop:=∃ y : List Pt,y.Sublist l ∧ x = (if turned = true then y.reverse else y) ∧ (x.length : Int) ≤ max most 0
end Go.Proofs.Ra

namespace Go.Proofs.Ra
open Go.XL
def nxtS (l : List Int) (p : Int) (m : List Int) (k : Nat) : List Int :=
 (m.set k ((m.getD k 0 + (0 - l.getD k 0 * p % 1073741789)) % 1073741789)).set (k + 1) (((m.set k ((m.getD k 0 + (0 - l.getD k 0 * p % 1073741789)) % 1073741789)).getD (k + 1) 0 + l.getD k 0) % 1073741789)
def aN7 (l : List Int) (p : Int) : Nat → List Int
 | 0=>List.replicate (l.length + 1) 0
 | k + 1=>nxtS l p (aN7 l p k) k
def aJv (ps : List Int) : Nat → List Int
 | 0=>[1]
 | k + 1=>aN7 (aJv ps k) (ps.getD k 0) (aJv ps k).length
def sm (x : Int) : List Int → Int
 | []=>0
 | c :: l=>sm x l * x + c
def aN1 (c : Int) : List Int → List Int → List Int
 | [],_=>[]
 | m :: ms,[]=>m % 1073741789 :: aN1 c ms []
 | m :: ms,x :: xs=>(m % 1073741789 + c * x % 1073741789) % 1073741789 :: aN1 c ms xs
def othC (s t : Int) (ps : List Int) : Int:=(t - s) * aBl ((aJv ps ps.length).getD 0 0) % 1073741789
def othL (s t : Int) (more ps : List Int) : List Int:=aN1 (othC s t ps) more (aJv ps ps.length).tail
end Go.Proofs.Ra

namespace Go.Proofs.Ra
open Go.XL
instance : DecidableEq Pt:=fun a b=>decidable_of_iff (a.X = b.X ∧ a.Y = b.Y) (by cases a;cases b;simp)
abbrev PickK (l x : List Pt) (turned : Bool) (k : Nat) : Prop:=∃ y : List Pt,y.Sublist (l.take k) ∧ x = (if turned = true then y.reverse else y)
theorem dealL_mem {poly : List Int} {n : Nat} {p : Pt} (h : p ∈ dealL poly n) : ∃ i : Nat,i < n ∧ p = ⟨(i : Int) + 1,valP ((i : Int) + 1) poly 0 1⟩:=by
 simp only [dealL,List.mem_map,List.mem_range] at h
 obtain ⟨i,hi,rfl⟩:=h
 exact ⟨i,hi,rfl⟩
theorem dealL_ok {poly : List Int} {n : Nat} (hn : n ≤ 24) {p : Pt} (h : p ∈ dealL poly n) : okPt p:=by
 obtain ⟨i,hi,rfl⟩:=dealL_mem h
 have:=valP_rng ((i : Int) + 1) poly 0 1 (by decide) (by decide)
 exact ⟨by show 1 ≤ (i : Int) + 1;omega,by show (i : Int) + 1 ≤ 24;omega,this.1,this.2⟩
theorem dealL_nodup (poly : List Int) (n : Nat) : ((dealL poly n).map Pt.X).Nodup:=by
 rw [dealL,List.map_map,List.Nodup,List.pairwise_map]
 refine List.Pairwise.imp ?_ (List.nodup_range (n:=n))
 intro a b h
 simp;omega
theorem okX_nodup {l : List Pt} (hok : ∀ p ∈ l,okPt p) (hn : (l.map Pt.X).Nodup) : Nd l:=by
 show (l.map _).Nodup
 have : (l.map fun p : Pt=>p.X % 1073741789) = l.map Pt.X:=List.map_congr_left fun p hp=>by
  have:=hok p hp
  unfold okPt at this
  exact Int.emod_eq_of_lt (by omega) (by omega)
 rw [this];exact hn
theorem valR_zero {s : Int} (more : List Int) (h0 : 0 ≤ s) (h1 : s < 1073741789) : valR 0 (s :: more) = s:=by
 rw [valR];simp;exact Int.emod_eq_of_lt h0 h1
theorem fm_sub {l x : List Pt} (hok : ∀ p ∈ x,okPt p) (hn : (x.map Pt.X).Nodup) (h : 0 < x.length) : Fm x:=⟨h,aEb hok hn,hok,hn⟩
theorem enough {s : Int} {more : List Int} {n : Nat} {x : List Pt} {turned : Bool} {k : Nat} (h0 : 0 ≤ s) (h1 : s < 1073741789) (hn : n ≤ 24) (hP : PickK (dealL (s :: more) n) x turned k) (hm : more.length < x.length) : tI x = (s,0):=by
 have hmem : ∀ p ∈ x,p ∈ dealL (s :: more) n:=by
  obtain ⟨y,hy,rfl⟩:=hP
  intro p hp
  refine List.mem_of_mem_take (hy.mem ?_)
  split at hp
  ·simpa using hp
  exact hp
 have hnd : (x.map Pt.X).Nodup:=by
  obtain ⟨y,hy,rfl⟩:=hP
  have h1 : (y.map Pt.X).Nodup:=((hy.trans (List.take_sublist _ _)).map Pt.X).nodup (dealL_nodup _ _)
  split
  ·rw [List.map_reverse];rw [List.Nodup,List.pairwise_reverse];exact h1.imp Ne.symm
  exact h1
 have hok : ∀ p ∈ x,okPt p:=fun p hp=>dealL_ok hn (hmem p hp)
 have hF : Fm x:=fm_sub (l:=x) hok hnd (by omega)
 rw [tI,if_pos hF]
 have:=aB3 (l:=x) hF.2.1 (okX_nodup hok hnd) (f:=fun t=>valR t (s :: more)) ((Po.valR (s :: more)).mono (by simp;omega)) (fun p hp=>by
  obtain ⟨i,hi,rfl⟩:=dealL_mem (hmem p hp)
  show E _ (valP _ _ _ _)
  rw [valP_eq];exact E.refl _) 0 (vI _ _).1 (vI _ _).2
 rw [this,valR_zero more h0 h1]
def aNc : List Int → List Int → List Int
 | [],ys=>ys.map fun y=>(0 + y) % 1073741789
 | x :: xs,[]=>x % 1073741789 :: aNc xs []
 | x :: xs,y :: ys=>(x % 1073741789 + y) % 1073741789 :: aNc xs ys
end Go.Proofs.Ra

namespace Go.Proofs.Ra
open Go.XL
theorem aHs : lW Tryz.prog 100 = some [(0,1),(1,1)]:=by kernel_rfl
theorem bf_64 : lW Tryz.prog 64 = some [(0,1),(1,1)]:=by kernel_rfl
theorem aHr : mB Tryz.prog 100 = true:=by kernel_rfl
theorem bk_64 : mB Tryz.prog 64 = true:=by kernel_rfl
theorem aIl : Nat.ble (Tryz.prog.bytesOf 100) 4096 = true:=by kernel_rfl
theorem aLb : Nat.ble (Tryz.prog.bytesOf 3) 4096 = true:=by kernel_rfl
theorem by_4 : Nat.ble (Tryz.prog.bytesOf 4) 4096 = true:=by kernel_rfl
theorem aK1 : Nat.ble (Tryz.prog.bytesOf 64) 4096 = true:=by kernel_rfl
theorem tX : fW Tryz.prog 64 0 = some 0:=by kernel_rfl
theorem yG : fW Tryz.prog 64 1 = some 1:=by kernel_rfl
theorem gZ : tyF Tryz.prog 26 1 false = true:=by kernel_rfl
theorem mU : tyF Tryz.prog 4 1 false = true:=by kernel_rfl
theorem aAt : tyF Tryz.prog 62 1 false = true:=by kernel_rfl
theorem nM : tyF Tryz.prog 64 2 true = true:=by kernel_rfl
theorem aMo : gH Tryz.prog 4 = some [.bool false]:=by kernel_rfl
theorem wN : gH Tryz.prog 64 = some [.int .i64 0,.int .i64 0]:=by kernel_rfl
theorem zG (a : Option Addr) (c n : Nat) (m : Int) (H : Hp) : FnC Tryz.prog 81 #[.slice a n c,.int .i64 m] H [] (bX fun v H _=>∃ b1 b2,v = .func (.func 126) #[] #[.pointer (some ⟨b1,0,none⟩),.pointer (some ⟨b2,0,none⟩)] ∧ PtH H b1 0 [.int .i64 m] ∧ PtH H b2 0 [.slice a n c]):=by
 refine FnC.intro (args:=[.slice a n c,.int .i64 m]) Tryz.func81 rfl rfl Tryz.ntmps81 rfl rfl rfl fun G rest=>?_
 refine aZ (aH (dZ rfl rfl rfl (fun b2=>dZ rfl rfl rfl (fun b3=>bA rfl rfl (aE (aR (aZ (aH (gY rfl rfl (dF 0 rfl rfl rfl (fun HA o1 cD hb1 ho1=>dF 0 rfl rfl rfl (fun HB o2 eM hb2 ho2=>bA rfl rfl (aE (aR (bW ?_)))))))))))))));refine ⟨rfl,_,[],rfl,(by repeat(first|exact sL _|apply sC)),bX.mk ?_⟩
 exact ⟨_,_,rfl,(PtH.of_is hb1 ho1).mono eM,PtH.of_is hb2 ho2⟩
theorem values_seq (a : Option Addr) (c n : Nat) (l : List Int) (H : Hp) (b1 b2 : Nat) (hs : SlR (eO .i64) H a c l) (hl : l.length < 4611686018427387904) (hn : n ≤ 24) (h1 : PtH H b1 0 [.int .i64 (n : Nat)]) (h2 : PtH H b2 0 [.slice a l.length c]) : aLo Tryz.prog 126 [.pointer (some ⟨b1,0,none⟩),.pointer (some ⟨b2,0,none⟩)] H [] (fun p : Pt=>[.agg ⟨[.int .i64 p.X,.int .i64 p.Y]⟩]) (dealL l n):=by
 intro yv J K ownY hy hJ0
 refine FnC.intro (args:=[yv,.pointer (some ⟨b1,0,none⟩),.pointer (some ⟨b2,0,none⟩)]) Tryz.func126 rfl rfl Tryz.ntmps126 rfl rfl rfl fun G rest=>?_
 refine aZ (aH (bA rfl rfl (aE (aR (bT (cE [4,0,1,2] rfl (eE (base:=[(0,_),(1,_),(2,_)]) (fun k : Nat=>[(4,.int .i64 ((k : Nat) + 1))]) (fun k Hl own=>k ≤ n ∧ Le H Hl ∧ ∃ oy,oy ++ rest = own ∧ J (dealL l k) Hl oy) (fun k=>n - k) 0 (aQ rfl (aQ rfl (aQ rfl (aQ rfl bP)))) (List.Sublist.refl _) ⟨Nat.zero_le _,Le.refl _,ownY,rfl,hJ0⟩ ?_)))))));rintro k Hl _ hle ⟨hk,hH,oy,rfl,hJ⟩;replace hs:=hs.mono hH;replace h1:=h1.mono hH;replace h2:=h2.mono hH;refine aZ (aZ (aH (aU rfl rfl (cQ rfl h1 dT rfl rfl rfl (XO.leq rfl rfl rfl (aU rfl rfl (eW rfl rfl rfl rfl (fun g2=>?_) (fun g2=>?_))))))))
 ·have g2p:=of_decide_eq_true g2
  refine aU rfl rfl (bE rfl rfl (g2) rfl (aU rfl rfl (bE rfl rfl (g2) rfl (cQ rfl h2 gZ rfl rfl rfl (bE rfl rfl (g2) rfl (aU rfl rfl (bE rfl rfl (g2) rfl (bR rfl (value_fn _ _ _ _ _ (by assumption) (by omega)) rfl (bE rfl rfl (g2) rfl (fQ bk_64 bf_64 wN rfl rfl rfl (bE rfl rfl (g2) rfl ?_)))))))))));obtain ⟨post,hpost⟩:=deal_split (poly:=l) (show k < n by omega);refine kX [] (lH:=oy) (rst:=rest) rfl trivial rfl (hy _ _ post hpost Hl oy hH hJ) rfl rfl ?_;rintro u HY oy2 hleY hR
  rw [← dealL_succ] at hR
  rcases hR with ⟨rfl,hJ2⟩ | ⟨rfl,hK2⟩
  ·have hH2:=hH.trans hleY
   refine dE rfl (g2) rfl rfl (aE (aR (eY rfl rfl (bS (aR (aZ (bT (bS (dP (aR (aH (aU rfl rfl (dJ rfl rfl (bU (by omega) (by omega)) rfl (bA rfl rfl (aE (cR (k + 1) (by omega) (aQ (aDi rfl (by omega)) (aQ rfl (aQ rfl (aQ rfl bP)))) (⟨by omega,hH2,oy2,rfl,hJ2⟩) (by repeat(first|exact sL _|apply sC)) (hle.trans hleY)))))))))))))))))
  have hH2:=hH.trans hleY
  refine dE rfl (g2) rfl rfl (aE (aR (dY rfl rfl (dX (dA (cZ (dI rfl ?_)))))))
  exact ⟨rfl,_,oy2,rfl,(by repeat(first|exact sL _|apply sC)),bX.mk ⟨rfl,[],oy2,rfl,.inr hK2⟩⟩
 have g2p:=of_decide_eq_false g2
 obtain rfl : k = n:=by omega
 refine bL rfl rfl (g2) rfl rfl (bL rfl rfl (g2) rfl rfl (bL rfl rfl (g2) rfl rfl (bL rfl rfl (g2) rfl rfl (bL rfl rfl (g2) rfl rfl (bL rfl rfl (g2) rfl rfl (dL rfl (g2) rfl rfl (aE (aR (dY rfl rfl (dX (dA (cZ (dI rfl ?_)))))))))))))
 exact ⟨rfl,_,oy,rfl,(by repeat(first|exact sL _|apply sC)),bX.mk ⟨rfl,[],oy,rfl,.inl hJ⟩⟩
theorem appendSeq_fn (f : FuncId) (cap : List Value) (xs : List Pt) (H : Hp) (hseq : aLo Tryz.prog f cap H [] (fun p : Pt=>[.agg ⟨[.int .i64 p.X,.int .i64 p.Y]⟩]) xs) (hx : xs.length ≤ 1073741823) : FnC Tryz.prog 125 #[.slice none 0 0,.func (.func f) #[] cap.toArray] H [] (bX fun v H _=>∃ a c,v = .slice a xs.length c ∧ SlR ptR H a c xs):=by
 refine FnC.intro (args:=[.slice none 0 0,.func (.func f) #[] cap.toArray]) Tryz.func125 rfl rfl Tryz.ntmps125 rfl rfl rfl fun G rest=>?_
 refine aZ (aH (dZ rfl rfl rfl (fun b2=>bA rfl rfl (aE (aR (aZ (aZ (aH (aU rfl rfl (aE (aR (bT (cE [2,6] rfl (iQ 0 (XC.rangeFunc (enc:=fun p : Pt=>[.agg ⟨[.int .i64 p.X,.int .i64 p.Y]⟩]) rfl (hseq) (fun _=>rfl) rfl rfl (fun pre Hl own=>∃ p a c,p :: (b2,.cells 62 [.slice a pre.length c]) :: rest = own ∧ Acc ptR 64 Hl p a c pre) (fun _ _ _=>False) (⟨(0,.nothing),none,0,rfl,Acc.nil _ _ _ _⟩) (.inl rfl) ?_ ?_ ?_)))))))))))))))
 ·rintro G lp hd1 hd2 hrec pre x post hxs Hl ownL hleL ⟨p,a,c,rfl,hacc⟩
  have rF : pre.length + 1 ≤ xs.length:=by rw [hxs];simp
  refine aH (dC wN rfl (fun b5=>bZ 0 rfl rfl rfl rfl nM rfl rfl rfl rfl rfl (aE (aFo (bT (aH (bK 2 rfl rfl aAt rfl rfl rfl (bK 0 rfl rfl nM rfl rfl rfl (dB rfl Tryz.underlying62 nM wN rfl rfl rfl (fun b10=>dF 0 rfl rfl rfl (fun HP10 oP10 hleP10 hbP10 hoP10=>?_)))))))))))
  have hsl10:=SlR.lit (ρ:=ptR) (l:=[⟨_,_⟩]) hbP10 hoP10 (eN.one1 rfl)
  replace hacc:=hacc.mono hleP10;refine fB 1 rfl rfl hacc rfl rfl hsl10 rfl Tryz.underlying62 nM wN rfl aK1 (by simp;omega) rfl (fun p11 a11 c11 hacc11=>bZ 2 rfl rfl rfl rfl aAt rfl rfl rfl rfl rfl (aE (dP ?_)));refine ⟨rfl,(p11 :: (b2,.cells 62 [.slice a11 (pre ++ [x]).length c11]) :: rest),(by repeat(first|exact sL _|apply sC)),?_⟩
  exact ⟨p11,a11,c11,rfl,hacc11⟩
 ·rintro Hl ownL hleL ⟨p,a,c,rfl,hacc⟩;refine dP (aR (aZ (aH (bK 1 rfl rfl aAt rfl rfl rfl (gL 0 rfl hacc rfl (fun HQ2 hleQ2 hsQ2=>bA rfl rfl (aE (aR (bW ?_)))))))));refine ⟨rfl,_,[],rfl,(by repeat(first|exact sL _|apply sC)),bX.mk ?_⟩
  exact ⟨_,_,rfl,(by assumption)⟩
 rintro c Hl ownL hleL hK
 exact hK.elim
theorem collect_fn (f : FuncId) (cap : List Value) (xs : List Pt) (H : Hp) (hseq : aLo Tryz.prog f cap H [] (fun p : Pt=>[.agg ⟨[.int .i64 p.X,.int .i64 p.Y]⟩]) xs) (hx : xs.length ≤ 1073741823) : FnC Tryz.prog 80 #[.func (.func f) #[] cap.toArray] H [] (bX fun v H _=>∃ a c,v = .slice a xs.length c ∧ SlR ptR H a c xs):=by
 refine FnC.intro (args:=[.func (.func f) #[] cap.toArray]) Tryz.func80 rfl rfl Tryz.ntmps80 rfl rfl rfl fun G rest=>?_
 refine aZ (aH (bA rfl rfl (aE (aR (aZ (aH (aU rfl rfl (fI rfl (appendSeq_fn _ _ _ _ hseq hx) rfl ?_))))))));rintro _ HC4 hleC4 ⟨aC4,cC4,rfl,hsC4⟩;refine bA rfl rfl (aE (aR (bW ?_)));refine ⟨rfl,_,[],rfl,(by repeat(first|exact sL _|apply sC)),bX.mk ?_⟩
 exact ⟨_,_,rfl,(by assumption)⟩
theorem deal_fn (s : Int) (a : Option Addr) (c : Nat) (l : List Int) (n : Int) (H : Hp) (hs : SlR (eO .i64) H a c l) : FnC Tryz.prog 30 #[.int .i64 s,.slice a l.length c,.int .i64 n] H [] (bX fun v H _=>∃ a c,v = .tuple #[.slice a (aCu s l n).length c,.int .i64 (aF5 s l n)] ∧ SlR ptR H a c (aCu s l n)):=by
 refine FnC.intro (args:=[.int .i64 s,.slice a l.length c,.int .i64 n]) Tryz.func30 rfl rfl Tryz.ntmps30 rfl rfl rfl fun G rest=>?_
 refine aZ (aH (bA rfl rfl (bA rfl rfl (aE (aR (aZ (aZ (aH (aU rfl rfl (dN rfl rfl rfl (aU rfl rfl (eW rfl rfl rfl rfl (fun g1=>?_) (fun g1=>?_)))))))))))))
 ·have g1p:=of_decide_eq_false g1
  refine aU rfl rfl (bE rfl rfl (g1) rfl (jC rfl rfl rfl (dL rfl (g1) rfl rfl (aU rfl rfl (eW rfl rfl rfl rfl (fun g2=>?_) (fun g2=>?_))))))
  ·have g2p:=of_decide_eq_false g2
   refine aU rfl rfl (bE rfl rfl (g2) rfl (dN rfl rfl rfl (dL rfl (g2) rfl rfl (aU rfl rfl (eW rfl rfl rfl rfl (fun g3=>?_) (fun g3=>?_))))))
   ·have g3p:=of_decide_eq_false g3
    refine aU rfl rfl (bE rfl rfl (g3) rfl (lT rfl rfl rfl (dL rfl (g3) rfl rfl (aU rfl rfl (eW rfl rfl rfl rfl (fun g4=>?_) (fun g4=>?_))))))
    ·have g4p:=of_decide_eq_false g4
     refine aU rfl rfl (bE rfl rfl (g4) rfl (cH (ts:=#[]) rfl Tryz.underlying26 rfl (bE rfl rfl (g4) rfl (aU rfl rfl (bE rfl rfl (g4) rfl (jC rfl rfl rfl (dL rfl (g4) rfl rfl (aE (aR (cW rfl (fun c0_5=>?_) (fun c0_5=>?_)))))))))))
     ·refine aZ (aH (bA rfl rfl (bA rfl rfl (aE (aR (bW (bY ?_)))))));refine ⟨rfl,_,[],rfl,(by repeat(first|exact sL _|apply sC)),bX.mk ?_⟩
      exact vF (s:=s) (more:=l) (n:=n) (by unfold DB;omega)
     obtain ⟨m,rfl⟩ : ∃ m : Nat,n = m:=⟨n.toNat,by omega⟩
     obtain ⟨e1,e2⟩:=deal_ok (s:=s) (more:=l) (n:=m) (by unfold DB;omega);refine bS (aR (aZ (aH (aU rfl rfl (rT (ρ:=(eO .i64)) (l:=[_]) rfl Tryz.underlying26 dT uI rfl rfl rfl (eN.one1 rfl) rfl (fun p30 a30 c30 hacc30=>aU rfl rfl (fB 0 rfl rfl hacc30 rfl rfl hs rfl Tryz.underlying26 dT uI rfl aLb (by simp;omega) rfl (fun p32 a32 c32 hacc32=>bA rfl rfl (aE (aR (aZ (aH (aU rfl rfl (aU rfl rfl (gL 0 rfl hacc32 rfl (fun HQ8 hleQ8 hsQ8=>?_))))))))))))))));replace hs:=hs.mono hleQ8;refine fI rfl (zG _ _ _ _ _) rfl ?_;rintro _ HV nZ ⟨bv1,bv2,rfl,hpv1,hpv2⟩;replace hs:=hs.mono nZ;replace hsQ8:=hsQ8.mono nZ;refine fI rfl (collect_fn _ _ (dealL ([s] ++ l) m) _ (values_seq _ _ _ _ _ _ _ (by assumption) (by simp;omega) (by omega) hpv1 hpv2) (by rw [dealL_len];omega)) rfl ?_;rintro _ HC36 hleC36 ⟨aC36,cC36,rfl,hsC36⟩;replace hs:=hs.mono hleC36;replace hsQ8:=hsQ8.mono hleC36;replace hpv1:=hpv1.mono hleC36;replace hpv2:=hpv2.mono hleC36;refine bA rfl rfl (bA rfl rfl (aE (aR (bW ?_))));refine ⟨rfl,_,[],rfl,(by repeat(first|exact sL _|apply sC)),bX.mk ?_⟩
     rw [e1,e2]
     exact ⟨_,_,rfl,(by assumption)⟩
    have g4p:=of_decide_eq_true g4
    refine bL rfl rfl (g4) rfl rfl (bL rfl rfl (g4) rfl rfl (bL rfl rfl (g4) rfl rfl (dE rfl (g4) rfl rfl (aE (aR (eY rfl rfl (aZ (aH (bA rfl rfl (bA rfl rfl (aE (aR (bW (bY ?_))))))))))))));refine ⟨rfl,_,[],rfl,(by repeat(first|exact sL _|apply sC)),bX.mk ?_⟩
    exact vF (s:=s) (more:=l) (n:=n) (by unfold DB;omega)
   have g3p:=of_decide_eq_true g3
   refine bL rfl rfl (g3) rfl rfl (dE rfl (g3) rfl rfl (aU rfl rfl (bL rfl rfl rfl rfl rfl (bL rfl rfl rfl rfl rfl (bL rfl rfl rfl rfl rfl (bL rfl rfl rfl rfl rfl (dE rfl rfl rfl rfl (aE (aR (eY rfl rfl (aZ (aH (bA rfl rfl (bA rfl rfl (aE (aR (bW (bY ?_))))))))))))))))));refine ⟨rfl,_,[],rfl,(by repeat(first|exact sL _|apply sC)),bX.mk ?_⟩
   exact vF (s:=s) (more:=l) (n:=n) (by unfold DB;omega)
  have g2p:=of_decide_eq_true g2
  refine bL rfl rfl (g2) rfl rfl (dE rfl (g2) rfl rfl (aU rfl rfl (bL rfl rfl rfl rfl rfl (bL rfl rfl rfl rfl rfl (dE rfl rfl rfl rfl (aU rfl rfl (bL rfl rfl rfl rfl rfl (bL rfl rfl rfl rfl rfl (bL rfl rfl rfl rfl rfl (bL rfl rfl rfl rfl rfl (dE rfl rfl rfl rfl (aE (aR (eY rfl rfl (aZ (aH (bA rfl rfl (bA rfl rfl (aE (aR (bW (bY ?_))))))))))))))))))))));refine ⟨rfl,_,[],rfl,(by repeat(first|exact sL _|apply sC)),bX.mk ?_⟩
  exact vF (s:=s) (more:=l) (n:=n) (by unfold DB;omega)
 have g1p:=of_decide_eq_true g1
 refine bL rfl rfl (g1) rfl rfl (dE rfl (g1) rfl rfl (aU rfl rfl (bL rfl rfl rfl rfl rfl (bL rfl rfl rfl rfl rfl (dE rfl rfl rfl rfl (aU rfl rfl (bL rfl rfl rfl rfl rfl (bL rfl rfl rfl rfl rfl (dE rfl rfl rfl rfl (aU rfl rfl (bL rfl rfl rfl rfl rfl (bL rfl rfl rfl rfl rfl (bL rfl rfl rfl rfl rfl (bL rfl rfl rfl rfl rfl (dE rfl rfl rfl rfl (aE (aR (eY rfl rfl (aZ (aH (bA rfl rfl (bA rfl rfl (aE (aR (bW (bY ?_))))))))))))))))))))))))));refine ⟨rfl,_,[],rfl,(by repeat(first|exact sL _|apply sC)),bX.mk ?_⟩
 exact vF (s:=s) (more:=l) (n:=n) (by unfold DB;omega)
theorem odd_fn (p : Pt) (H : Hp) : FnC Tryz.prog 82 #[.agg ⟨[.int .i64 p.X,.int .i64 p.Y]⟩] H [] (bX fun v _ _=>∃ b : Bool,v = .bool b ∧ (b = true ↔ ¬ okPt p)):=by
 refine FnC.intro (args:=[.agg ⟨[.int .i64 p.X,.int .i64 p.Y]⟩]) Tryz.func82 rfl rfl Tryz.ntmps82 rfl rfl rfl fun G rest=>?_
 refine aZ (aH (dZ rfl rfl rfl (fun b1=>bA rfl rfl (aE (aR (aZ (aH (bD rfl tX rfl (bK 0 rfl rfl dT rfl rfl rfl (dN rfl rfl rfl (aU rfl rfl (eW rfl rfl rfl rfl (fun g1=>?_) (fun g1=>?_)))))))))))))
 ·have g1p:=of_decide_eq_false g1
  refine bD rfl tX rfl (bE rfl rfl (g1) rfl (bK 0 rfl rfl dT rfl rfl rfl (bE rfl rfl (g1) rfl (lT rfl rfl rfl (dL rfl (g1) rfl rfl (aU rfl rfl (eW rfl rfl rfl rfl (fun g2=>?_) (fun g2=>?_))))))))
  ·have g2p:=of_decide_eq_false g2
   refine bD rfl yG rfl (bE rfl rfl (g2) rfl (bK 0 rfl rfl dT rfl rfl rfl (bE rfl rfl (g2) rfl (dN rfl rfl rfl (dL rfl (g2) rfl rfl (aU rfl rfl (eW rfl rfl rfl rfl (fun g3=>?_) (fun g3=>?_))))))))
   ·have g3p:=of_decide_eq_false g3
    refine bD rfl yG rfl (bE rfl rfl (g3) rfl (bK 0 rfl rfl dT rfl rfl rfl (bE rfl rfl (g3) rfl (jC rfl rfl rfl (dL rfl (g3) rfl rfl (bA rfl rfl (aE (aR (bW ?_)))))))));refine ⟨rfl,_,[],rfl,(by repeat(first|exact sL _|apply sC)),bX.mk ?_⟩
    exact ⟨_,rfl,by unfold okPt;first | (simp only [true_iff];omega) | (rw [decide_eq_true_iff];omega)⟩
   have g3p:=of_decide_eq_true g3
   refine bL rfl rfl (g3) rfl rfl (bL rfl rfl (g3) rfl rfl (dE rfl (g3) rfl rfl (bA rfl rfl (aE (aR (bW ?_))))));refine ⟨rfl,_,[],rfl,(by repeat(first|exact sL _|apply sC)),bX.mk ?_⟩
   exact ⟨_,rfl,by unfold okPt;first | (simp only [true_iff];omega) | (rw [decide_eq_true_iff];omega)⟩
  have g2p:=of_decide_eq_true g2
  refine bL rfl rfl (g2) rfl rfl (bL rfl rfl (g2) rfl rfl (dE rfl (g2) rfl rfl (aU rfl rfl (bL rfl rfl rfl rfl rfl (bL rfl rfl rfl rfl rfl (bL rfl rfl rfl rfl rfl (dE rfl rfl rfl rfl (bA rfl rfl (aE (aR (bW ?_)))))))))));refine ⟨rfl,_,[],rfl,(by repeat(first|exact sL _|apply sC)),bX.mk ?_⟩
  exact ⟨_,rfl,by unfold okPt;first | (simp only [true_iff];omega) | (rw [decide_eq_true_iff];omega)⟩
 have g1p:=of_decide_eq_true g1
 refine bL rfl rfl (g1) rfl rfl (bL rfl rfl (g1) rfl rfl (dE rfl (g1) rfl rfl (aU rfl rfl (bL rfl rfl rfl rfl rfl (bL rfl rfl rfl rfl rfl (bL rfl rfl rfl rfl rfl (dE rfl rfl rfl rfl (aU rfl rfl (bL rfl rfl rfl rfl rfl (bL rfl rfl rfl rfl rfl (bL rfl rfl rfl rfl rfl (dE rfl rfl rfl rfl (bA rfl rfl (aE (aR (bW ?_))))))))))))))));refine ⟨rfl,_,[],rfl,(by repeat(first|exact sL _|apply sC)),bX.mk ?_⟩
 exact ⟨_,rfl,by unfold okPt;first | (simp only [true_iff];omega) | (rw [decide_eq_true_iff];omega)⟩
theorem aCq (a : Option Addr) (c : Nat) (l : List Pt) (g : Value) (q : Pt → Prop) (H : Hp) (hs : SlR ptR H a c l) (hl : l.length < 4611686018427387904) (hg : ∀ x ∈ l,FnV Tryz.prog g [.agg ⟨[.int .i64 x.X,.int .i64 x.Y]⟩] H [] (bX fun u _ _=>∃ b : Bool,u = .bool b ∧ (b = true ↔ q x))) : FnC Tryz.prog 128 #[.slice a l.length c,g] H [] (bX fun v _ _=>∃ i : Int,v = .int .i64 i ∧ (0 ≤ i ↔ ∃ x ∈ l,q x)):=by
 refine FnC.intro (args:=[.slice a l.length c,g]) Tryz.func128 rfl rfl Tryz.ntmps128 rfl rfl rfl fun G rest=>?_
 refine aZ (aH (bA rfl rfl (aE (aR (aZ (aZ (aH (aU rfl rfl (cH (ts:=#[]) rfl Tryz.underlying62 rfl (aU rfl rfl (aE (aR (bT (cE [8,0,1,7] rfl (eE (base:=[(0,_),(1,_),(7,_)]) (fun ζ : Nat=>[(8,.int .i64 (ζ : Nat))]) (fun ζ Hl own=>ζ ≤ l.length ∧ rest = own ∧ (∀ x ∈ l.take ζ,¬ q x) ∧ (H = Hl)) (fun ζ=>l.length - ζ) 0 (aQ rfl (aQ rfl (aQ rfl (aQ rfl bP)))) (by repeat(first|exact sL _|apply sD|apply sC)) ⟨Nat.zero_le _,rfl,by simp,rfl⟩ ?_)))))))))))))));rintro k Hl0 _ bM ⟨hkk,rfl,hno,hHl⟩;replace hs:=hs.mono bM
 try dsimp only at ⊢
 subst hHl
 refine aZ (aH (dN rfl rfl rfl (aE (aR (aZ (cW rfl (fun gJ=>?_) (fun gJ=>?_)))))))
 ·refine bS (aR (aZ (bT (aZ (aH (aU rfl rfl (bA rfl rfl (aE (aR (aZ (aH (aU rfl rfl (aU rfl rfl (aU rfl rfl (dK rfl hs rfl Tryz.underlying62 nM (by omega) rfl ?_)))))))))))))));rintro eb14 eo14 _ x14 gO rfl gW;refine cQ rfl (by assumption) nM rfl rfl rfl (kE rfl trivial rfl (hg x14 (List.mem_of_getElem? gO)) rfl ?_);rintro _ ⟨bq,rfl,hq⟩;refine aE (aR (gN rfl (fun uB=>?_) (fun uB=>?_)))
  ·refine aZ (aH (aU rfl rfl (bA rfl rfl (aE (aR (bW (dQ (bY (eG (dQ (bY ?_)))))))))));refine ⟨rfl,_,[],rfl,(by repeat(first|exact sL _|apply sC)),bX.mk ?_⟩
   exact ⟨_,rfl,⟨fun _=>⟨x14,List.mem_of_getElem? gO,hq.1 (by assumption)⟩,fun _=>by omega⟩⟩
  refine bS (dP (aR (aH (dJ rfl rfl (bU (by omega) (by omega)) rfl (aU rfl rfl (aE (cR (k + 1) (by show l.length - (k + 1) < l.length - k;omega) (aQ rfl (aQ rfl (aQ rfl (aQ rfl bP)))) (⟨by show k + 1 ≤ l.length;omega,rfl,aCv hno gO (fun h=>by simp_all),rfl⟩) (by repeat(first|exact sL _|apply sD|apply sC)) (bM))))))))
 obtain rfl : k = l.length:=by omega
 rw [List.take_length] at hno
 refine dX (dA (cZ (dI rfl (aR (aZ (aH (bA rfl rfl (aE (aR (bW ?_))))))))));refine ⟨rfl,_,[],rfl,(by repeat(first|exact sL _|apply sC)),bX.mk ?_⟩
 exact ⟨-1,rfl,⟨fun h=>absurd h (by decide),fun ⟨x,hx,hq⟩=>absurd hq (hno x hx)⟩⟩
theorem contains_fn (a : Option Addr) (c : Nat) (l : List Pt) (g : Value) (q : Pt → Prop) (H : Hp) (hs : SlR ptR H a c l) (hl : l.length < 4611686018427387904) (hg : ∀ x ∈ l,FnV Tryz.prog g [.agg ⟨[.int .i64 x.X,.int .i64 x.Y]⟩] H [] (bX fun u _ _=>∃ b : Bool,u = .bool b ∧ (b = true ↔ q x))) : FnC Tryz.prog 83 #[.slice a l.length c,g] H [] (bX fun v _ _=>∃ b : Bool,v = .bool b ∧ (b = true ↔ ∃ x ∈ l,q x)):=by
 refine FnC.intro (args:=[.slice a l.length c,g]) Tryz.func83 rfl rfl Tryz.ntmps83 rfl rfl rfl fun G rest=>?_
 refine aZ (aH (bA rfl rfl (aE (aR (aZ (aH (aU rfl rfl (aU rfl rfl (jO rfl (aCq _ _ _ _ _ _ hs hl hg) rfl ?_)))))))));rintro _ ⟨iX,rfl,hX⟩;refine jC rfl rfl rfl (bA rfl rfl (aE (aR (bW ?_))));refine ⟨rfl,_,[],rfl,(by repeat(first|exact sL _|apply sC)),bX.mk ?_⟩
 exact ⟨_,rfl,by rw [decide_eq_true_iff,← hX]⟩
theorem formed_fn (a0 : Option Addr) (c0 : Nat) (l0 : List Pt) (H : Hp) (hs0 : SlR ptR H a0 c0 l0) (hl : l0.length < 4611686018427387904) : FnC Tryz.prog 31 #[.slice a0 l0.length c0] H [] (bX fun v _ _=>∃ b : Bool,v = .bool b ∧ (b = true ↔ Fm l0)):=by
 refine FnC.intro (args:=[.slice a0 l0.length c0]) Tryz.func31 rfl rfl Tryz.ntmps31 rfl rfl rfl fun G rest=>?_
 refine aZ (aH (bA rfl rfl (aE (aR (XC.scope (aZ (aH (bA rfl rfl (aE (aR (aZ (aZ (aH (aU rfl rfl (cH (ts:=#[]) rfl Tryz.underlying62 rfl (fY rfl rfl rfl (aU rfl rfl (eW rfl rfl rfl rfl (fun g1=>?_) (fun g1=>?_)))))))))))))))))))
 ·have g1p:=of_decide_eq_false g1
  refine aU rfl rfl (bE rfl rfl (g1) rfl (aU rfl rfl (bE rfl rfl (g1) rfl (jO rfl (contains_fn _ _ _ _ (fun x=>¬ okPt x) _ hs0 hl (fun x _=>FnV.of_fn (cap:=[]) (odd_fn x _))) rfl ?_))));rintro _ ⟨bC,rfl,hC⟩;refine dL rfl (g1) rfl rfl (aE (aR (gN rfl (fun c0_3=>?_) (fun c0_3=>?_))))
  ·refine aZ (aH (bA rfl rfl (aE (aR (bW (bY (oE ?_)))))));refine ⟨rfl,_,[],rfl,(by repeat(first|exact sL _|apply sC)),bX.mk ?_⟩
   exact ⟨false,rfl,by simp only [Bool.false_eq_true,false_iff];exact not_fm_ex (hC.1 (by assumption))⟩
  have hok : ∀ p ∈ l0,okPt p:=fun p hp=>Decidable.by_contra fun hn=>by simp_all
  refine bS (aR (aZ (aH (XO.makeRow (ρ:=aCg) (n:=25) false rfl rfl Tryz.underlying111 mU aMo rfl by_4 (by first|decide|omega) rfl rfl (fun p15 c15 hacc15=>bA rfl rfl (aE (aR (aZ (XC.label (aR (aZ (aZ (aH (aU rfl rfl (cH (ts:=#[]) rfl Tryz.underlying62 rfl (aU rfl rfl (aE (aR (bT (cE [18,4,16,17] rfl (eE (base:=[(4,_),(16,_),(17,_)]) (fun ζ : Nat × (Nat × SObj)=>[(18,.int .i64 (ζ.1 : Nat))]) (fun ζ Hl own=>ζ.1 ≤ l0.length ∧ ζ.2 :: rest = own ∧ Acc aCg 4 Hl ζ.2 (some ⟨p15.1,0,none⟩) c15 (aEk (l0.take ζ.1)) ∧ (((l0.take ζ.1).map Pt.X).Nodup)) (fun ζ=>l0.length - ζ.1) (0,p15) (aQ rfl (aQ rfl (aQ rfl (aQ rfl bP)))) (by repeat(first|exact sL _|apply sD|apply sC)) ⟨Nat.zero_le _,rfl,hacc15,by simp⟩ ?_)))))))))))))))))))));rintro ⟨k,pm⟩ Hl0 _ bM ⟨hkk,rfl,haccm,hnd⟩;replace hs0:=hs0.mono bM;replace hacc15:=hacc15.mono bM
  try dsimp only at hkk haccm hnd ⊢
  refine aZ (aH (dN rfl rfl rfl (aE (aR (aZ (cW rfl (fun uB=>?_) (fun uB=>?_)))))))
  ·refine bS (aR (aZ (bT (aZ (aH (dK rfl hs0 rfl Tryz.underlying62 nM (by omega) rfl ?_))))));rintro eb20 eo20 _ x20 hx20 rfl hp20
   have hok20:=hok x20 (List.mem_of_getElem? hx20)
   have hokB : 1 ≤ x20.X ∧ x20.X ≤ 24:=⟨hok20.1,hok20.2.1⟩
   refine cQ rfl (by assumption) nM rfl rfl rfl (dC wN rfl (fun b6=>bZ 0 rfl rfl rfl rfl nM rfl rfl rfl rfl rfl (aE (aR (aZ (aZ (aH (aU rfl rfl (bD rfl tX rfl (bK 0 rfl rfl dT rfl rfl rfl (fG rfl rfl Tryz.underlying111 mU (by omega) (by omega) rfl (aCb 1 rfl rfl haccm (met_get (fun p hp=>hok p (List.mem_of_mem_take hp)) hok20) mU rfl (fun cs7 v7 hR7 hv7=>?_) (fun cs7 hR7=>⟨_,by cases hR7;rfl⟩)))))))))))))
   cases hR7;cases hv7
   refine sE rfl rfl (aE (aR (cW rfl (fun c2_8=>?_) (fun c2_8=>?_))))
   ·refine aZ (aH (aU rfl rfl (bD rfl tX rfl (bK 0 rfl rfl dT rfl rfl rfl (fG rfl rfl Tryz.underlying111 mU (by omega) (by omega) rfl (XO.storeA 1 rfl rfl rfl haccm (by rw [met_len];omega) rfl rfl mU rfl (fun ps10 haccs10=>aE (aR (dX (dA (dI rfl (aR (aH (dJ rfl rfl (bU (by omega) (by omega)) rfl (aU rfl rfl (aE (cR ((k + 1,ps10)) (by show l0.length - (k + 1) < l0.length - k;omega) (aQ rfl (aQ rfl (aQ rfl (aQ rfl bP)))) (⟨by show k + 1 ≤ l0.length;omega,rfl,by first | (exact haccs10) | (rw [met_succ hx20];exact haccs10),nodup_snoc hx20 hnd (by assumption)⟩) (by repeat(first|exact sL _|apply sD|apply sC)) (bM))))))))))))))))))
   refine bS (aR (aZ (aH (bA rfl rfl (aE (aR (bW (dQ (bY (eG (dQ (bY (oE ?_)))))))))))));refine ⟨rfl,_,[],rfl,(by repeat(first|exact sL _|apply sC)),bX.mk ?_⟩
   exact ⟨false,rfl,by simp only [Bool.false_eq_true,false_iff];exact not_fm_dup hx20 (Decidable.not_not.1 (by assumption))⟩
  obtain rfl : k = l0.length:=by omega
  rw [List.take_length] at hnd
  refine dX (dA (cZ (dI rfl (aR (aZ (aH (bA rfl rfl (aE (aR (bW (oE ?_)))))))))));refine ⟨rfl,_,[],rfl,(by repeat(first|exact sL _|apply sC)),bX.mk ?_⟩
  exact ⟨true,rfl,by simp only [true_iff];exact ⟨by omega,aEb hok hnd,hok,hnd⟩⟩
 have g1p:=of_decide_eq_true g1
 refine bL rfl rfl (g1) rfl rfl (bL rfl rfl (g1) rfl rfl (dE rfl (g1) rfl rfl (aE (aR (eY rfl rfl (aZ (aH (bA rfl rfl (aE (aR (bW (bY (oE ?_)))))))))))));refine ⟨rfl,_,[],rfl,(by repeat(first|exact sL _|apply sC)),bX.mk ?_⟩
 exact ⟨false,rfl,by simp only [Bool.false_eq_true,false_iff];intro hF;have:=hF.1;omega⟩
theorem recover_fn (a0 : Option Addr) (c0 : Nat) (l0 : List Pt) (H : Hp) (hs0 : SlR ptR H a0 c0 l0) (hl : l0.length < 4611686018427387904) : FnC Tryz.prog 12 #[.slice a0 l0.length c0] H [] (bX fun v _ _=>v = .tuple #[.int .i64 (tI l0).1,.int .i64 (tI l0).2]):=by
 refine FnC.intro (args:=[.slice a0 l0.length c0]) Tryz.func12 rfl rfl Tryz.ntmps12 rfl rfl rfl fun G rest=>?_
 refine aZ (aH (bA rfl rfl (bA rfl rfl (aE (aR (aZ (aZ (aH (aU rfl rfl (jO rfl (formed_fn _ _ _ _ (by assumption) (by omega)) rfl ?_))))))))));rintro _ ⟨bF,rfl,hF⟩;refine fC rfl rfl (aE (aR (gN rfl (fun nT=>?_) (fun nT=>?_))))
 ·have hFm : ¬ Fm l0:=fun h=>by have:=hF.2 h;simp_all
  refine aZ (aH (bA rfl rfl (bA rfl rfl (aE (aR (bW (bY ?_)))))));refine ⟨rfl,_,[],rfl,(by repeat(first|exact sL _|apply sC)),bX.mk ?_⟩
  show Value.tuple _ = _;rw [tI,if_neg hFm]
 have hFm : Fm l0:=hF.1 (by simp_all)
 have hl24 : l0.length ≤ 24:=hFm.2.1
 refine bS (aR (aZ (aH (bA rfl rfl (aE (aR (aZ (aZ (aH (aU rfl rfl (cH (ts:=#[]) rfl Tryz.underlying62 rfl (aU rfl rfl (aE (aR (bT (cE [4,12,10,11] rfl (iQ 0 (eE (base:=[(10,_),(11,_)]) (fun ζ : Nat × ((Nat × SObj) × Option Addr × Nat)=>[(4,.slice ζ.2.2.1 (l0.take ζ.1).length ζ.2.2.2),(12,.int .i64 (ζ.1 : Nat))]) (fun ζ Hl own=>ζ.1 ≤ l0.length ∧ ζ.2.1 :: rest = own ∧ Acc ptR 100 Hl ζ.2.1 ζ.2.2.1 ζ.2.2.2 (l0.take ζ.1)) (fun ζ=>l0.length - ζ.1) (0,((0,.nothing),none,0)) (aQ rfl (aQ rfl (aQ rfl (aQ rfl bP)))) (by repeat(first|exact sL _|apply sD|apply sC)) ⟨Nat.zero_le _,rfl,Acc.nil _ _ _ _⟩ ?_))))))))))))))))));rintro ⟨k,⟨po,ao,co⟩⟩ Hl0 _ bM ⟨hkk,rfl,hacco⟩;replace hs0:=hs0.mono bM
 try dsimp only at hkk hacco ⊢
 refine aZ (aH (dN rfl rfl rfl (aE (aR (aZ (cW rfl (fun qU=>?_) (fun qU=>?_)))))))
 ·refine bS (aR (aZ (bT (aZ (aH (dK rfl hs0 rfl Tryz.underlying62 nM (by omega) rfl ?_))))));rintro eb14 eo14 _ x14 gO rfl gW;refine cQ rfl (by assumption) nM rfl rfl rfl (dC wN rfl (fun b6=>bZ 0 rfl rfl rfl rfl nM rfl rfl rfl rfl rfl (aE (aR (aH (aU rfl rfl (bD rfl tX rfl (bK 0 rfl rfl dT rfl rfl rfl (bD rfl yG rfl (bK 0 rfl rfl dT rfl rfl rfl (fQ aHr aHs pL rfl rfl rfl (dB rfl Tryz.underlying98 kC pL rfl rfl rfl (fun b22=>dF 0 rfl rfl rfl (fun HP22 oP22 hleP22 hbP22 hoP22=>?_))))))))))))))
  have hsl22:=SlR.lit (ρ:=ptR) (l:=[⟨_,_⟩]) hbP22 hoP22 (eN.one1 rfl)
  replace hs0:=hs0.mono hleP22;replace hacco:=hacco.mono hleP22;replace gW:=gW.mono hleP22;replace bM:=bM.trans hleP22;refine fB 1 rfl rfl hacco rfl rfl hsl22 rfl Tryz.underlying98 kC pL rfl aIl (by simp only [List.length_take];simp;omega) rfl (fun p23 a23 c23 hacc23=>bA rfl rfl (aE (dP (aR (aH (dJ rfl rfl (bU (by omega) (by omega)) rfl (aU rfl rfl (aE (cR ((k + 1,(p23,a23,c23))) (by show l0.length - (k + 1) < l0.length - k;omega) (aQ (by first | rfl | (rw [fP gO];rfl)) (aQ rfl (aQ rfl (aQ rfl bP)))) (⟨by show k + 1 ≤ l0.length;omega,rfl,by first | (exact hacc23) | (rw [fP gO];exact hacc23)⟩) (by repeat(first|exact sL _|apply sD|apply sC)) (bM))))))))))
 obtain rfl : k = l0.length:=by omega
 simp only [List.take_length] at hacco ⊢
 refine dX (dA (cZ (dI rfl (aR (aZ (aH (aU rfl rfl (gL 0 rfl hacco rfl (fun HQ7 hleQ7 hsQ7=>?_)))))))));replace hs0:=hs0.mono hleQ7;replace bM:=bM.trans hleQ7;refine bR rfl (at_fn _ _ l0 _ _ hsQ7) rfl (bV rfl rfl rfl (bV rfl rfl rfl (bA rfl rfl (bA rfl rfl (aE (aR (bW ?_)))))));refine ⟨rfl,_,[],rfl,(by repeat(first|exact sL _|apply sC)),bX.mk ?_⟩
 show Value.tuple _ = _;rw [tI,if_pos hFm]
end Go.Proofs.Ra

namespace Go.Proofs.Ra
open Go.XL
end Go.Proofs.Ra

namespace Go.Proofs
open Go.XL
open Ra (Pt ptR atV)
def pW (j c : Int) (l : List KeySh) : List Pt:=(l.filter fun x=>decide (x.O = j ∧ x.C = c)).map fun x=>⟨x.W + 1,x.V⟩
theorem aAa {j c : Int} {l : List KeySh} {k : Nat} {x : KeySh} (hx : l[k]? = some x) (h1 : x.O = j) (h2 : x.C = c) : pW j c (l.take (k + 1)) = pW j c (l.take k) ++ [⟨x.W + 1,x.V⟩]:=by
 unfold pW
 rw [fP hx,List.filter_append,List.map_append]
 congr 1
 rw [List.filter_cons_of_pos (by simp [h1,h2])]
 rfl
theorem zH {j c : Int} {l : List KeySh} {k : Nat} {x : KeySh} (hx : l[k]? = some x) (h : ¬ (x.O = j ∧ x.C = c)) : pW j c (l.take (k + 1)) = pW j c (l.take k):=by
 unfold pW
 rw [fP hx,List.filter_append,List.filter_cons_of_neg (by simpa using h)]
 simp
theorem aF8 (j c : Int) (l : List KeySh) : (pW j c l).length ≤ l.length:=by
 unfold pW
 rw [List.length_map]
 exact List.length_filter_le _ _
def mI (s : Sess) (j c : Int) : List Pt:=pW j c s.K
def keyB (s : Sess) (j c : Int) : Prop:=s.N.toNat ≤ (mI s j c).length ∧ ∀ p ∈ (mI s j c).drop s.N.toNat,(atV p.X ((mI s j c).take s.N.toNat)).1 = p.Y
open Classical in
noncomputable def kyV (s : Sess) (j c : Int) : Int × Bool:=if keyB s j c then ((atV 0 ((mI s j c).take s.N.toNat)).1,true) else (0,false)
theorem aK4 {s : Sess} {j c : Int} (h : ¬ s.N.toNat ≤ (mI s j c).length) : kyV s j c = (0,false):=if_neg fun hb=>h hb.1
theorem key_1 {s : Sess} {j c : Int} {p : Pt} {k : Nat} (hp : ((mI s j c).drop s.N.toNat)[k]? = some p) (h : ¬ (atV p.X ((mI s j c).take s.N.toNat)).1 = p.Y) : kyV s j c = (0,false):=if_neg fun hb=>h (hb.2 p (List.mem_of_getElem? hp))
theorem aNg {s : Sess} {j c : Int} (h : s.N.toNat ≤ (mI s j c).length) (h2 : ∀ p ∈ (mI s j c).drop s.N.toNat,(atV p.X ((mI s j c).take s.N.toNat)).1 = p.Y) : kyV s j c = ((atV 0 ((mI s j c).take s.N.toNat)).1,true):=if_pos ⟨h,h2⟩
theorem aEc {s : Sess} {j c : Int} {x : Int} {b : Bool} (h : kyV s j c = (x,b)) : Value.tuple #[.int .i64 x,.bool b] = .tuple #[.int .i64 (kyV s j c).1,.bool (kyV s j c).2]:=by rw [h]
def opR : Rep (Int × List Int) where
 sz:=2
 R:=fun H cs x=>∃ a c,cs = [.int .i64 x.1,.slice a x.2.length c] ∧ SlR (eO .i64) H a c x.2
 len:=fun ⟨_,_,h,_⟩=>by rw [h];rfl
 one:=fun ⟨_,_,h,_⟩=>by rw [h];rfl
 mono:=fun hle ⟨a,c,h1,h2⟩=>⟨a,c,h1,h2.mono hle⟩
def OpY (x : Int × List Int) (H : Hp) (v : Value) : Prop:=∃ a c,v = .tuple #[.agg ⟨[.int .i64 x.1,.slice a x.2.length c]⟩,.bool true] ∧ SlR (eO .i64) H a c x.2
def OpN (H : Hp) (v : Value) : Prop:=∃ h : Int,v = .tuple #[.agg ⟨[.int .i64 h,.slice none 0 0]⟩,.bool false]
def OpV (o : Option (Int × List Int)) (H : Hp) (v : Value) : Prop:=match o with | some x=>OpY x H v | none=>OpN H v
def TrU (l : List Int) (H : Hp) (v : Value) : Prop:=∃ a c,v = .tuple #[.slice a l.length c,.bool true,.int .i64 0] ∧ SlR (eO .i64) H a c l
theorem aGu (l : List Int) : ∀ v H H',Le H H' → TrU l H v → TrU l H' v:=fun _ _ _ hle ⟨a,c,h1,h2⟩=>⟨a,c,h1,h2.mono hle⟩
theorem strX_y {s : Card} {k : List Int} (h : aC7 s k) : aMa s k = jB s k:=if_pos h
theorem strE_y {s : Card} {k : List Int} (h : aC7 s k) : aMp s k = 0:=if_pos h
def aE9 : List (Option (Int × List Int)) → Int × List Int
 | []=>(0,[])
 | some x :: _=>x
 | none :: r=>aE9 r
theorem aD8 : ∀ {os : List (Option (Int × List Int))} {k : Nat} {x : Int × List Int},(∀ i o,i < k → os[i]? = some o → o = none) → os[k]? = some (some x) → aE9 os = x
  | [],k,x,_,h=>by simp at h
  | o :: r,0,x,_,h=>by simp at h;subst h;rfl
  | o :: r,k + 1,x,hn,h=>by
    obtain rfl:=hn 0 o (by omega) rfl
    exact aD8 (os:=r) (k:=k) (fun i o hi ho=>hn (i + 1) o (by omega) (by simpa using ho)) (by simpa using h)
theorem aDr : ∀ {os : List (Option (Int × List Int))},(∀ o ∈ os,o = none) → aE9 os = (0,[])
  | [],_=>rfl
  | o :: r,h=>by
    obtain rfl:=h o (by simp)
    exact aDr (os:=r) (fun o ho=>h o (by simp [ho]))
theorem aJ7 {l : List Int} {k : Nat} (h : k < l.length) : l[k]? = some (l.getD k 0):=by rw [List.getD_eq_getElem?_getD,List.getElem?_eq_getElem h];rfl
theorem uZ {α : Type} {l : List α} {k : Nat} {d : α} (h : k < l.length) : l[k]? = some (l.getD k d):=by rw [List.getD_eq_getElem?_getD,List.getElem?_eq_getElem h];rfl
theorem no_step {os : List (Option (Int × List Int))} {k : Nat} (hn : ∀ i o,i < k → os[i]? = some o → o = none) (h : os.getD k none = none) : ∀ i o,i < k + 1 → os[i]? = some o → o = none:=by
 intro i o hi ho
 rcases Nat.lt_or_ge i k with h1 | h1
 ·exact hn i o h1 ho
 obtain rfl : i = k:=by omega
 rw [List.getD_eq_getElem?_getD,ho] at h
 exact h
theorem all_none {os : List (Option (Int × List Int))} (hn : ∀ i o,i < os.length → os[i]? = some o → o = none) : ∀ o ∈ os,o = none:=by
 intro o ho
 obtain ⟨i,hi⟩:=List.mem_iff_getElem?.1 ho
 exact hn i o (List.getElem?_eq_some_iff.1 hi).1 hi
def OpO (x : Int × List Int) (H : Hp) (v : Value) : Prop:=∃ a c,v = .agg ⟨[.int .i64 x.1,.slice a x.2.length c]⟩ ∧ SlR (eO .i64) H a c x.2
end Go.Proofs

namespace Go.Proofs
open Go.XL
theorem aHs : lW Tryz.prog 100 = some [(0,1),(1,1)]:=by kernel_rfl
theorem aB5 : lW Tryz.prog 47 = some [(0,1),(1,1)]:=by kernel_rfl
theorem aHr : mB Tryz.prog 100 = true:=by kernel_rfl
theorem aBm : mB Tryz.prog 47 = true:=by kernel_rfl
theorem aIl : Nat.ble (Tryz.prog.bytesOf 100) 4096 = true:=by kernel_rfl
theorem sR : fW Tryz.prog 100 0 = some 0:=by kernel_rfl
theorem aC2 : fW Tryz.prog 100 1 = some 1:=by kernel_rfl
theorem kC : tyF Tryz.prog 100 2 true = true:=by kernel_rfl
theorem gK : tyF Tryz.prog 47 2 true = true:=by kernel_rfl
theorem pL : gH Tryz.prog 100 = some [.int .i64 0,.int .i64 0]:=by kernel_rfl
theorem kO : gH Tryz.prog 47 = some [.int .i64 0,.slice none 0 0]:=by kernel_rfl
set_option maxRecDepth 100000 in
set_option maxHeartbeats 1600000 in
theorem aJx (s : Sess) (aJ aS aK aX : Option Addr) (cJ cS cK cX : Nat) (H : Hp) (hJ : SlR (eO .i64) H aJ cJ s.J) (hS : SlR eV H aS cS s.S) (hK : SlR iY H aK cK s.K) (hX : SlR iZ H aX cX s.X) (j c : Int) (hlK : s.K.length ≤ 1000000) (hN : 0 ≤ s.N ∧ s.N ≤ 1000) (hW : ∀ x ∈ s.K,0 ≤ x.W ∧ x.W ≤ 1000) : FnC Tryz.prog 111 #[.agg ⟨eR s aJ aS aK aX cJ cS cK cX⟩,.int .i64 j,.int .i64 c] H [] (bX (fun v _ _=>v = .tuple #[.int .i64 (kyV s j c).1,.bool (kyV s j c).2])):=by
 refine FnC.intro (args:=[.agg ⟨eR s aJ aS aK aX cJ cS cK cX⟩,.int .i64 j,.int .i64 c]) Tryz.func111 rfl rfl Tryz.ntmps111 rfl rfl rfl fun G rest=>?_
 refine aZ (aH (dZ rfl rfl rfl (fun b3=>bA rfl rfl (bA rfl rfl (aE (aR (aZ (aH (bA rfl rfl (aE (aR (aZ (aZ (aH (bD rfl eQ rfl (bD rfl vW rfl (bK 0 rfl rfl aD4 rfl rfl rfl (cH (ts:=#[]) rfl Tryz.underlying28 rfl (aU rfl rfl (aE (aR (bT (cE [8,19,1,2,3,17,18] rfl (iQ 0 (eE (base:=[(1,_),(2,_),(3,_),(17,_),(18,_)]) (fun ζ : Nat × ((Nat × SObj) × Option Addr × Nat)=>[(8,.slice ζ.2.2.1 ((pW j c (s.K.take (ζ.1)))).length ζ.2.2.2),(19,.int .i64 (ζ.1 : Nat))]) (fun ζ Hl own=>ζ.1 ≤ s.K.length ∧ ζ.2.1 :: (b3,.cells 71 (eR s aJ aS aK aX cJ cS cK cX)) :: rest = own ∧ Acc Ra.ptR 100 Hl ζ.2.1 ζ.2.2.1 ζ.2.2.2 ((pW j c (s.K.take (ζ.1))))) (fun ζ=>s.K.length - ζ.1) (0,((0,.nothing),none,0)) (aQ rfl (aQ rfl (aQ rfl (aQ rfl (aQ rfl (aQ rfl (aQ rfl bP))))))) (by repeat(first|exact sL _|apply sD|apply sC)) ⟨Nat.zero_le _,rfl,Acc.nil _ _ _ _⟩ ?_)))))))))))))))))))))))));rintro ⟨k,⟨pw,aw,cw⟩⟩ Hl0 _ bM ⟨hkk,rfl,haccw⟩;replace hJ:=hJ.mono bM;replace hS:=hS.mono bM;replace hK:=hK.mono bM;replace hX:=hX.mono bM
 try dsimp only at hkk haccw ⊢
 refine aZ (aH (dN rfl rfl rfl (aE (aR (aZ (cW rfl (fun gJ=>?_) (fun gJ=>?_)))))))
 ·refine bS (aR (aZ (bT (aZ (aH ?_)))))
  skip
  refine dK rfl hK rfl Tryz.underlying28 mH (by omega) rfl ?_;rintro eb21 eo21 _ x21 qD rfl hp21;refine cQ rfl (by assumption) mH rfl rfl rfl (dC aDd rfl (fun b10=>bZ 0 rfl rfl rfl rfl mH rfl rfl rfl rfl rfl (aE (aR (aZ (aH (bD rfl yR rfl (bK 0 rfl rfl dT rfl rfl rfl (aU rfl rfl (fY rfl rfl rfl (aU rfl rfl (eW rfl rfl rfl rfl (fun g3=>?_) (fun g3=>?_)))))))))))))
  ·have g3p:=of_decide_eq_true g3
   refine bD rfl aA9 rfl (bE rfl rfl (g3) rfl (bK 0 rfl rfl dT rfl rfl rfl (bE rfl rfl (g3) rfl (aU rfl rfl (bE rfl rfl (g3) rfl (fY rfl rfl rfl (dE rfl (g3) rfl rfl (aE (aR (cW rfl (fun uB=>?_) (fun uB=>?_)))))))))))
   ·refine aH (aU rfl rfl (bD rfl yT rfl (bK 0 rfl rfl dT rfl rfl rfl ?_)))
    have hWx:=hW x21 (List.mem_of_getElem? qD)
    refine dJ rfl rfl (bU (by omega) (by omega)) rfl (bD rfl aJw rfl (bK 0 rfl rfl dT rfl rfl rfl (fQ aHr aHs pL rfl rfl rfl (dB rfl Tryz.underlying98 kC pL rfl rfl rfl (fun b40=>dF 0 rfl rfl rfl (fun HP40 oP40 hleP40 hbP40 hoP40=>?_))))))
    have hsl40:=SlR.lit (ρ:=Ra.ptR) (l:=[(⟨x21.W + 1,x21.V⟩ : Ra.Pt)]) hbP40 hoP40 (eN.one1 rfl)
    replace hJ:=hJ.mono hleP40;replace hS:=hS.mono hleP40;replace hK:=hK.mono hleP40;replace hX:=hX.mono hleP40;replace haccw:=haccw.mono hleP40;replace hp21:=hp21.mono hleP40;replace bM:=bM.trans hleP40;refine fB 1 rfl rfl haccw rfl rfl hsl40 rfl Tryz.underlying98 kC pL rfl aIl (by have:=aF8 j c (s.K.take k);rw [List.length_take] at this;simp;omega) rfl (fun p41 a41 c41 hacc41=>bA rfl rfl (aE (dP (aR (aH (dJ rfl rfl (bU (by omega) (by omega)) rfl (aU rfl rfl (aE (cR ((k + 1,(p41,a41,c41))) (by show s.K.length - (k + 1) < s.K.length - k;omega) (aQ (by first | rfl | (rw [aAa qD (by assumption) (by assumption)];rfl) | (rw [zH qD (fun h=>by first | exact absurd h.1 (by assumption) | exact absurd h.2 (by assumption))];rfl)) (aQ rfl (aQ rfl (aQ rfl (aQ rfl (aQ rfl (aQ rfl bP))))))) (⟨by show k + 1 ≤ s.K.length;omega,rfl,by first | (exact hacc41) | (rw [aAa qD (by assumption) (by assumption)];exact hacc41) | (rw [zH qD (fun h=>by first | exact absurd h.1 (by assumption) | exact absurd h.2 (by assumption))];exact hacc41)⟩) (by repeat(first|exact sL _|apply sD|apply sC)) (bM))))))))))
   refine bS (dP (aR (aH (dJ rfl rfl (bU (by omega) (by omega)) rfl (aU rfl rfl (aE (cR ((k + 1,(pw,aw,cw))) (by show s.K.length - (k + 1) < s.K.length - k;omega) (aQ (by first | rfl | (rw [aAa qD (by assumption) (by assumption)];rfl) | (rw [zH qD (fun h=>by first | exact absurd h.1 (by assumption) | exact absurd h.2 (by assumption))];rfl)) (aQ rfl (aQ rfl (aQ rfl (aQ rfl (aQ rfl (aQ rfl bP))))))) (⟨by show k + 1 ≤ s.K.length;omega,rfl,by first | (exact haccw) | (rw [aAa qD (by assumption) (by assumption)];exact haccw) | (rw [zH qD (fun h=>by first | exact absurd h.1 (by assumption) | exact absurd h.2 (by assumption))];exact haccw)⟩) (by repeat(first|exact sL _|apply sD|apply sC)) (bM))))))))
  have g3p:=of_decide_eq_false g3
  refine bL rfl rfl (g3) rfl rfl (bL rfl rfl (g3) rfl rfl (bL rfl rfl (g3) rfl rfl (dL rfl (g3) rfl rfl (aE (aR (dY rfl rfl (bS (dP (aR (aH (dJ rfl rfl (bU (by omega) (by omega)) rfl (aU rfl rfl (aE (cR ((k + 1,(pw,aw,cw))) (by show s.K.length - (k + 1) < s.K.length - k;omega) (aQ (by first | rfl | (rw [aAa qD (by assumption) (by assumption)];rfl) | (rw [zH qD (fun h=>by first | exact absurd h.1 (by assumption) | exact absurd h.2 (by assumption))];rfl)) (aQ rfl (aQ rfl (aQ rfl (aQ rfl (aQ rfl (aQ rfl bP))))))) (⟨by show k + 1 ≤ s.K.length;omega,rfl,by first | (exact haccw) | (rw [aAa qD (by assumption) (by assumption)];exact haccw) | (rw [zH qD (fun h=>by first | exact absurd h.1 (by assumption) | exact absurd h.2 (by assumption))];exact haccw)⟩) (by repeat(first|exact sL _|apply sD|apply sC)) (bM)))))))))))))))
 obtain rfl : k = s.K.length:=by omega
 rw [List.take_length] at haccw ⊢
 change Acc Ra.ptR 100 _ pw aw cw (mI s j c) at haccw
 rw [show pW j c s.K = (mI s j c) from rfl]
 refine dX (dA (cZ (dI rfl (aR (aZ (aZ (aH (gL 0 rfl haccw rfl (fun HQ6 kH nV=>?_)))))))));replace hJ:=hJ.mono kH;replace hS:=hS.mono kH;replace hK:=hK.mono kH;replace hX:=hX.mono kH;replace bM:=bM.trans kH;refine aU rfl rfl (cH (ts:=#[]) rfl Tryz.underlying98 rfl (bD rfl eQ rfl (bD rfl vN rfl (bK 0 rfl rfl dT rfl rfl rfl (dN rfl rfl rfl (aE (aR (cW rfl (fun c2_7=>?_) (fun c2_7=>?_)))))))))
 ·refine aZ (aH (bA rfl rfl (bA rfl rfl (aE (aR (bW (bY ?_)))))));refine ⟨rfl,_,[],rfl,(by repeat(first|exact sL _|apply sC)),bX.mk ?_⟩
  exact aEc (aK4 (by omega))
 refine bS (aR (aZ (aZ (aH (aU rfl rfl (bD rfl eQ rfl (bD rfl vN rfl (bK 0 rfl rfl dT rfl rfl rfl ?_))))))))
 have hcap:=nV.le
 refine iP (lo':=s.N) (hi':=(((mI s j c).length : Nat) : Int)) (m':=((cw : Nat) : Int)) rfl nV (fT rfl) fF fF (by simp) (by omega) (by omega) (by omega) (by omega) (by omega) Tryz.underlying98 kC rfl (fun as53 ls53 hls53 hss53=>?_)
 obtain rfl : ls53 = (mI s j c).drop s.N.toNat:=by rw [hls53];rw [Int.toNat_natCast];exact List.take_of_length_le (by rw [List.length_drop];exact Nat.le_refl _)
 refine cH (ts:=#[]) rfl Tryz.underlying98 rfl (aU rfl rfl (aE (aR (bT (cE [55,3,8,53,54] rfl (eE (base:=[(3,_),(8,_),(53,_),(54,_)]) (fun ζ : Nat=>[(55,.int .i64 (ζ : Nat))]) (fun ζ Hl own=>ζ ≤ ((mI s j c).drop s.N.toNat).length ∧ (b3,.cells 71 (eR s aJ aS aK aX cJ cS cK cX)) :: rest = own ∧ (∀ p ∈ ((mI s j c).drop s.N.toNat).take (ζ),(Ra.atV p.X ((mI s j c).take s.N.toNat)).1 = p.Y)) (fun ζ=>((mI s j c).drop s.N.toNat).length - ζ) 0 (aQ rfl (aQ rfl (aQ rfl (aQ rfl (aQ rfl bP))))) (by repeat(first|exact sL _|apply sD|apply sC)) ⟨Nat.zero_le _,rfl,by simp⟩ ?_))))));rintro q Hl1 _ cD ⟨hkq,rfl,hev⟩;replace hJ:=hJ.mono cD;replace hS:=hS.mono cD;replace hK:=hK.mono cD;replace hX:=hX.mono cD;replace nV:=nV.mono cD;replace hss53:=hss53.mono cD;replace bM:=bM.trans cD
 try dsimp only at ⊢
 have hbq : ((mI s j c).drop s.N.toNat).length ≤ 1000000:=by
  rw [List.length_drop]
  have h1:=aF8 j c s.K
  have h2 : (mI s j c).length = (pW j c s.K).length:=rfl
  omega
 refine aZ (aH (dN rfl rfl rfl (aE (aR (aZ (cW rfl (fun c3_8=>?_) (fun c3_8=>?_)))))))
 ·refine bS (aR (aZ (bT (aZ (aH (dK rfl hss53 rfl Tryz.underlying98 kC (by omega) rfl ?_))))));rintro eb57 eo57 _ x57 hx57 rfl hp57;refine cQ rfl (by assumption) kC rfl rfl rfl (dC pL rfl (fun b12=>bZ 0 rfl rfl rfl rfl kC rfl rfl rfl rfl rfl (aE (aR (aZ (cE [3,8,12,53,54,55] rfl ?_))))))
  apply jR 12 [eqF _,eqF _,eqF _,eqF _,slG Ra.ptR ((mI s j c).take s.N.toNat),eqF _,eqF _,eqF _,eqF _,eqF _,eqF _,eqF _] follows (by kernel_rfl) (by kernel_rfl) ⟨bB _,bB _,bB _,bB _,lD _ _,bB _,bB _,bB _,bB _,bB _,bB _,bB _,trivial⟩ ?steps10 ?tail10
  case steps10 =>
   refine bO rfl ?_ ?_
   ·intro X
    refine aW rfl (aU rfl rfl (aE ?_))
    exact bH rfl rfl
   refine bO rfl ?_ ?_
   ·intro X
    refine aW rfl (bD rfl eQ rfl (aE ?_))
    exact bH rfl rfl
   refine bO rfl ?_ ?_
   ·intro X
    refine wPq rfl rfl rfl (aW rfl (bD rfl vN rfl (aE ?_)))
    exact bH rfl rfl
   refine bO rfl ?_ ?_
   ·intro X
    refine wPq rfl rfl rfl (aW rfl (bK 1 rfl rfl dT rfl rfl rfl (aE ?_)))
    exact bH rfl rfl
   refine bO rfl ?_ ?_
   ·intro X
    refine wPq rfl rfl rfl (wPq rfl rfl rfl (aW rfl ?_))
    have hcap:=nV.le
    refine iP (lo':=0) (hi':=s.N) (m':=((cw : Nat) : Int)) rfl nV fF (fT rfl) fF (by simp) (by omega) (by omega) (by omega) (by omega) (by omega) Tryz.underlying98 kC rfl (fun as64 ls64 hls64 hss64=>?_)
    obtain rfl : ls64 = (mI s j c).take s.N.toNat:=by rw [hls64];simp only [Int.toNat_zero,List.drop_zero,Nat.sub_zero]
    refine aE ?_
    exact bH rfl (⟨_,_,rfl,hss64⟩)
   refine bO rfl ?_ ?_
   ·intro X
    refine aW rfl (bD rfl sR rfl (aE ?_))
    exact bH rfl rfl
   refine bO rfl ?_ ?_
   ·intro X
    refine wPq rfl rfl rfl (aW rfl (bK 0 rfl rfl dT rfl rfl rfl (aE ?_)))
    exact bH rfl rfl
   refine bO rfl ?_ ?_
   ·intro X
    refine cU rfl rfl ?_;rintro _ ⟨aT,cT,rfl,hslT⟩;refine wPq rfl rfl rfl (aW rfl (bR rfl (Ra.at_fn _ _ ((mI s j c).take s.N.toNat) x57.X _ hslT) rfl (aE ?_)))
    exact bH rfl rfl
   refine bO rfl ?_ ?_
   ·intro X
    refine wPq rfl rfl rfl (aW rfl (aU rfl rfl (aE ?_)))
    exact bH rfl rfl
   refine bO rfl ?_ ?_
   ·intro X
    refine wPq rfl rfl rfl (aW rfl (bV rfl rfl rfl (aE ?_)))
    exact bH rfl rfl
   refine bO rfl ?_ ?_
   ·intro X
    refine wPq rfl rfl rfl (aW rfl (bV rfl rfl rfl (aE ?_)))
    exact bH rfl rfl
   refine bO rfl ?_ ?_
   ·intro X
    refine wPq rfl rfl rfl (aW rfl (bA rfl rfl (aE ?_)))
    exact bH rfl rfl
   exact eU rfl
  case tail10 =>
   refine wPq rfl rfl rfl (wPq rfl rfl rfl (wPq rfl rfl rfl (wPq rfl rfl rfl (cU rfl rfl ?_))));rintro _ ⟨aT,cT,rfl,hslT⟩;refine wPq rfl rfl rfl (wPq rfl rfl rfl (wPq rfl rfl rfl (wPq rfl rfl rfl (wPq rfl rfl rfl (wPq rfl rfl rfl (wPq rfl rfl rfl (aW rfl (bA rfl rfl (aE (aR (aZ (aH (aU rfl rfl (bD rfl aC2 rfl (bK 0 rfl rfl dT rfl rfl rfl (fZ rfl rfl rfl (aE (aR (cW rfl (fun c4_12=>?_) (fun c4_12=>?_))))))))))))))))))))
   ·refine aZ (aH (bA rfl rfl (bA rfl rfl (aE (aR (bW (dQ (bY (eG (dQ (bY ?_)))))))))));refine ⟨rfl,_,[],rfl,(by repeat(first|exact sL _|apply sC)),bX.mk ?_⟩
    exact aEc (key_1 hx57 (by omega))
   refine bS (dP (aR (aH (dJ rfl rfl (bU (by omega) (by omega)) rfl (aU rfl rfl (aE (cR (q + 1) (by show ((mI s j c).drop s.N.toNat).length - (q + 1) < ((mI s j c).drop s.N.toNat).length - q;omega) (aQ rfl (aQ rfl (aQ rfl (aQ rfl (aQ rfl bP))))) (⟨by show q + 1 ≤ ((mI s j c).drop s.N.toNat).length;omega,rfl,lP (p:=fun p : Ra.Pt=>(Ra.atV p.X ((mI s j c).take s.N.toNat)).1 = p.Y) hev hx57 (by omega)⟩) (by repeat(first|exact sL _|apply sD|apply sC)) (cD))))))))
 obtain rfl : q = ((mI s j c).drop s.N.toNat).length:=by omega
 rw [List.take_length] at hev
 refine dX (dA (cZ (dI rfl (aR (aZ (aH (aU rfl rfl (bD rfl eQ rfl (bD rfl vN rfl (bK 0 rfl rfl dT rfl rfl rfl ?_))))))))))
 have hcap:=nV.le
 refine iP (lo':=0) (hi':=s.N) (m':=((cw : Nat) : Int)) rfl nV fF (fT rfl) fF (by simp) (by omega) (by omega) (by omega) (by omega) (by omega) Tryz.underlying98 kC rfl (fun as80 ls80 hls80 hss80=>?_)
 obtain rfl : ls80 = (mI s j c).take s.N.toNat:=by rw [hls80];simp only [Int.toNat_zero,List.drop_zero,Nat.sub_zero]
 refine bR rfl (Ra.at_fn _ _ ((mI s j c).take s.N.toNat) 0 _ hss80) rfl (aU rfl rfl (bV rfl rfl rfl (bV rfl rfl rfl (bA rfl rfl (aE (aR (aZ (aH (aU rfl rfl (bA rfl rfl (bA rfl rfl (aE (aR (bW ?_))))))))))))));refine ⟨rfl,_,[],rfl,(by repeat(first|exact sL _|apply sC)),bX.mk ?_⟩
 exact aEc (aNg (by omega) hev)
theorem shared_y (s : Sess) (aJ aS aK aX : Option Addr) (cJ cS cK cX : Nat) (H : Hp) (hJ : SlR (eO .i64) H aJ cJ s.J) (hS : SlR eV H aS cS s.S) (hK : SlR iY H aK cK s.K) (hX : SlR iZ H aX cX s.X) (cd : Card) (ac : Option Addr) (cc : Nat) (hcd : SlR (eO .i64) H ac cc cd.C) (hDc : cd.D.length = 32) (hlK : s.K.length ≤ 1000000) (hN : 0 ≤ s.N ∧ s.N ≤ 1000) (hW : ∀ x ∈ s.K,0 ≤ x.W ∧ x.W ≤ 1000) (keys : List Int) (hC : (keys.length : Int) = s.C) (hkl : keys.length ≤ 1000) (hkv : ∀ k,k < keys.length → kyV s cd.J (k : Nat) = (keys.getD k 0,true)) (hst : aC7 cd keys) : FnC Tryz.prog 67 #[.agg ⟨eR s aJ aS aK aX cJ cS cK cX⟩,.agg ⟨fA cd.R cd.E cd.J cd.C.length cd.D ac cc⟩] H [] (bX (fun v H2 _=>OpY (2,jB cd keys) H2 v)):=by
 refine FnC.introC (args:=[.agg ⟨eR s aJ aS aK aX cJ cS cK cX⟩,.agg ⟨fA cd.R cd.E cd.J cd.C.length cd.D ac cc⟩]) Tryz.func67 rfl rfl Tryz.ntmps67 rfl rfl rfl fun G rest=>?_
 refine aZ (aH (dZ rfl rfl rfl (fun b2=>dZ rfl rfl rfl (fun b3=>dC kO rfl (fun b4=>bA rfl rfl (aE (aR (aZ (aH (bA rfl rfl (aE (aR (aZ (aZ (aH (bD rfl eQ rfl (bD rfl vR rfl (bK 2 rfl rfl dT rfl rfl rfl (aU rfl rfl (aE (aR (bT (cE [6,15,2,3,4,14] rfl (iQ 0 (eE (base:=[(2,_),(3,_),(4,_),(14,_)]) (fun ζ : Nat × ((Nat × SObj) × Option Addr × Nat)=>[(6,.slice ζ.2.2.1 ((keys.take (ζ.1))).length ζ.2.2.2),(15,.int .i64 (ζ.1 : Nat))]) (fun ζ Hl own=>ζ.1 ≤ keys.length ∧ ζ.2.1 :: (b4,.cells 47 [.int .i64 0,.slice none 0 0]) :: (b3,.cells 49 (fA cd.R cd.E cd.J cd.C.length cd.D ac cc)) :: (b2,.cells 71 (eR s aJ aS aK aX cJ cS cK cX)) :: rest = own ∧ Acc (eO .i64) 3 Hl ζ.2.1 ζ.2.2.1 ζ.2.2.2 ((keys.take (ζ.1)))) (fun ζ=>keys.length - ζ.1) (0,((0,.nothing),none,0)) (aQ rfl (aQ rfl (aQ rfl (aQ rfl (aQ rfl (aQ rfl bP)))))) (by repeat(first|exact sL _|apply sD|apply sC)) ⟨Nat.zero_le _,rfl,Acc.nil _ _ _ _⟩ ?_)))))))))))))))))))))))));rintro ⟨k,⟨pw,aw,cw⟩⟩ Hl0 _ bM ⟨hkk,rfl,haccw⟩;replace hJ:=hJ.mono bM;replace hS:=hS.mono bM;replace hK:=hK.mono bM;replace hX:=hX.mono bM;replace hcd:=hcd.mono bM
 try dsimp only at hkk haccw ⊢
 refine aZ (aH (dN rfl rfl rfl (aE (aR (aZ (cW rfl (fun gJ=>?_) (fun gJ=>?_)))))))
 ·refine bS (aR (aZ (bT (aZ (aH (aU rfl rfl (bA rfl rfl (aE (aR (aZ (aH (bK 3 rfl rfl mA rfl rfl rfl (bD rfl lB rfl (bK 2 rfl rfl dT rfl rfl rfl (aU rfl rfl ?_)))))))))))))))
  have hcall:=aJx s aJ aS aK aX cJ cS cK cX _ hJ hS hK hX cd.J ((k : Nat) : Int) hlK hN hW
  rw [hkv k (by omega)] at hcall
  refine bR rfl hcall rfl (aU rfl rfl (bV rfl rfl rfl (bV rfl rfl rfl (bA rfl rfl (bA rfl rfl (aE (aR (aZ (aZ (aH (aU rfl rfl (fC rfl rfl (aE (aR (dY rfl rfl (bS (aR (aH (aU rfl rfl (aU rfl rfl (dB rfl Tryz.underlying26 dT uI rfl rfl rfl (fun b31=>dF 0 rfl rfl rfl (fun HP31 oP31 hleP31 hbP31 hoP31=>?_)))))))))))))))))))))))
  have hsl31:=SlR.lit (ρ:=(eO .i64)) (l:=[keys.getD k 0]) hbP31 hoP31 (eN.one1 rfl)
  replace hJ:=hJ.mono hleP31;replace hS:=hS.mono hleP31;replace hK:=hK.mono hleP31;replace hX:=hX.mono hleP31;replace hcd:=hcd.mono hleP31;replace haccw:=haccw.mono hleP31;replace bM:=bM.trans hleP31;refine fB 0 rfl rfl haccw rfl rfl hsl31 rfl Tryz.underlying26 dT uI rfl aLb (by simp;omega) rfl (fun p32 a32 c32 hacc32=>bA rfl rfl (aE (dP (aR (aH (dJ rfl rfl (bU (by omega) (by omega)) rfl (aU rfl rfl (aE (cR ((k + 1,(p32,a32,c32))) (by show keys.length - (k + 1) < keys.length - k;omega) (aQ (by first | rfl | (rw [fP (aJ7 (by omega))];rfl)) (aQ rfl (aQ rfl (aQ rfl (aQ rfl (aQ rfl bP)))))) (⟨by show k + 1 ≤ keys.length;omega,rfl,by first | (exact hacc32) | (rw [fP (aJ7 (by omega))];exact hacc32)⟩) (by repeat(first|exact sL _|apply sD|apply sC)) (bM))))))))))
 obtain rfl : k = keys.length:=by omega
 rw [List.take_length] at haccw ⊢
 refine dX (dA (cZ (dI rfl (aR (aZ (aH (bK 2 rfl rfl eI rfl rfl rfl (aU rfl rfl (gL 0 rfl haccw rfl (fun HQ5 hleQ5 hsQ5=>?_))))))))));replace hJ:=hJ.mono hleQ5;replace hS:=hS.mono hleQ5;replace hK:=hK.mono hleQ5;replace hX:=hX.mono hleQ5;replace hcd:=hcd.mono hleQ5;replace bM:=bM.trans hleQ5;refine lE (lH:=[]) rfl (strip0_fn cd _ _ _ hcd hDc _ _ keys hsQ5 (by have:=hst.1.1.1.2.1;omega) (by omega)) rfl rfl ?_;rintro _ HN37 _ hleN37 ⟨rfl,aN37,cN37,rfl,hN37⟩
 rw [strX_y hst] at hN37 ⊢
 rw [strE_y hst]
 simp only [List.nil_append]
 replace hJ:=hJ.mono hleN37;replace hS:=hS.mono hleN37;replace hK:=hK.mono hleN37;replace hX:=hX.mono hleN37;replace hcd:=hcd.mono hleN37;replace hsQ5:=hsQ5.mono hleN37;replace bM:=bM.trans hleN37;refine aU rfl rfl (bV rfl rfl rfl (bV rfl rfl rfl (bA rfl rfl (bA rfl rfl (aE (aR (aZ (aH (aU rfl rfl (fQ aBm aB5 kO rfl rfl rfl (aU rfl rfl (fY rfl rfl rfl (bZ 0 rfl rfl rfl rfl gK rfl rfl rfl rfl rfl (bA rfl rfl (aE (aR (bW ?_)))))))))))))))));refine ⟨rfl,_,[],(fH 0 rfl rfl gK rfl rfl (iK rfl gB)),(by repeat(first|exact sL _|apply sC)),bX.mk ?_⟩
 exact ⟨_,_,rfl,hN37⟩
theorem aGr (s : Sess) (aJ aS aK aX : Option Addr) (cJ cS cK cX : Nat) (H : Hp) (hJ : SlR (eO .i64) H aJ cJ s.J) (hS : SlR eV H aS cS s.S) (hK : SlR iY H aK cK s.K) (hX : SlR iZ H aX cX s.X) (cd : Card) (ac : Option Addr) (cc : Nat) (hcd : SlR (eO .i64) H ac cc cd.C) (hDc : cd.D.length = 32) (hlK : s.K.length ≤ 1000000) (hN : 0 ≤ s.N ∧ s.N ≤ 1000) (hW : ∀ x ∈ s.K,0 ≤ x.W ∧ x.W ≤ 1000) (hC : 0 < s.C) (hkv : kyV s cd.J 0 = (0,false)) : FnC Tryz.prog 67 #[.agg ⟨eR s aJ aS aK aX cJ cS cK cX⟩,.agg ⟨fA cd.R cd.E cd.J cd.C.length cd.D ac cc⟩] H [] (bX (fun v H2 _=>OpN H2 v)):=by
 refine FnC.introC (args:=[.agg ⟨eR s aJ aS aK aX cJ cS cK cX⟩,.agg ⟨fA cd.R cd.E cd.J cd.C.length cd.D ac cc⟩]) Tryz.func67 rfl rfl Tryz.ntmps67 rfl rfl rfl fun G rest=>?_
 refine aZ (aH (dZ rfl rfl rfl (fun b2=>dZ rfl rfl rfl (fun b3=>dC kO rfl (fun b4=>bA rfl rfl (aE (aR (aZ (aH (bA rfl rfl (aE (aR (aZ (aZ (aH (bD rfl eQ rfl (bD rfl vR rfl (bK 2 rfl rfl dT rfl rfl rfl (aU rfl rfl (aE (aR (bT (cE [6,15,2,3,4,14] rfl (iQ 0 (eE (base:=[(2,_),(3,_),(4,_),(14,_)]) (fun ζ : Nat × ((Nat × SObj) × Option Addr × Nat)=>[(6,.slice ζ.2.2.1 (([] : List Int)).length ζ.2.2.2),(15,.int .i64 (ζ.1 : Nat))]) (fun ζ Hl own=>ζ.1 ≤ 1 ∧ ζ.2.1 :: (b4,.cells 47 [.int .i64 0,.slice none 0 0]) :: (b3,.cells 49 (fA cd.R cd.E cd.J cd.C.length cd.D ac cc)) :: (b2,.cells 71 (eR s aJ aS aK aX cJ cS cK cX)) :: rest = own ∧ Acc (eO .i64) 3 Hl ζ.2.1 ζ.2.2.1 ζ.2.2.2 (([] : List Int)) ∧ ((ζ.1) = 0)) (fun ζ=>1 - ζ.1) (0,((0,.nothing),none,0)) (aQ rfl (aQ rfl (aQ rfl (aQ rfl (aQ rfl (aQ rfl bP)))))) (by repeat(first|exact sL _|apply sD|apply sC)) ⟨Nat.zero_le _,rfl,Acc.nil _ _ _ _,rfl⟩ ?_)))))))))))))))))))))))));rintro ⟨k,⟨pw,aw,cw⟩⟩ Hl0 _ bM ⟨hkk,rfl,haccw,hk0⟩;replace hJ:=hJ.mono bM;replace hS:=hS.mono bM;replace hK:=hK.mono bM;replace hX:=hX.mono bM;replace hcd:=hcd.mono bM
 try dsimp only at hkk haccw hk0 ⊢
 refine aZ (aH (dN rfl rfl rfl (aE (aR (aZ (cW rfl (fun gJ=>?_) (fun gJ=>?_)))))))
 ·refine bS (aR (aZ (bT (aZ (aH (aU rfl rfl (bA rfl rfl (aE (aR (aZ (aH (bK 3 rfl rfl mA rfl rfl rfl (bD rfl lB rfl (bK 2 rfl rfl dT rfl rfl rfl (aU rfl rfl ?_)))))))))))))))
  have hcall:=aJx s aJ aS aK aX cJ cS cK cX _ hJ hS hK hX cd.J ((k : Nat) : Int) hlK hN hW
  rw [hk0] at hcall
  rw [show (((0 : Nat) : Nat) : Int) = 0 from rfl,hkv] at hcall
  subst hk0
  refine bR rfl hcall rfl (aU rfl rfl (bV rfl rfl rfl (bV rfl rfl rfl (bA rfl rfl (bA rfl rfl (aE (aR (aZ (aZ (aH (aU rfl rfl (fC rfl rfl (aE (aR (eY rfl rfl (aZ (aH (bK 1 rfl rfl gK rfl rfl rfl (bZ 1 rfl rfl rfl rfl gK rfl rfl rfl rfl rfl (bA rfl rfl (aE (aR (bW (bY (dQ (bY (eG (dQ (bY ?_)))))))))))))))))))))))))))));refine ⟨rfl,_,[],(fH 1 rfl rfl gK rfl rfl (iK rfl gB)),(by repeat(first|exact sL _|apply sC)),bX.mk ?_⟩
  exact ⟨_,rfl⟩
 exfalso;omega
theorem shown_y (tb : List Int × List Int) (s : Sess) (aJ aS aK aX : Option Addr) (cJ cS cK cX : Nat) (H : Hp) (hJ : SlR (eO .i64) H aJ cJ s.J) (hS : SlR eV H aS cS s.S) (hK : SlR iY H aK cK s.K) (hX : SlR iZ H aX cX s.X) (cd : Card) (ac : Option Addr) (cc : Nat) (hcd : SlR (eO .i64) H ac cc cd.C) (hDc : cd.D.length = 32) (hT : TB H tb) (hr : sO Shwn.J s.X) (hlX : s.X.length ≤ 1000000) (sh : Shwn) (hsh : sh ∈ s.X) (hshJ : sh.J = cd.J) (hop : aKp tb cd sh.K sh.D) : FnC Tryz.prog 66 #[.agg ⟨eR s aJ aS aK aX cJ cS cK cX⟩,.agg ⟨fA cd.R cd.E cd.J cd.C.length cd.D ac cc⟩] H [] (bX (fun v H2 _=>OpY (1,jB cd sh.K) H2 v)):=by
 refine FnC.introC (args:=[.agg ⟨eR s aJ aS aK aX cJ cS cK cX⟩,.agg ⟨fA cd.R cd.E cd.J cd.C.length cd.D ac cc⟩]) Tryz.func66 rfl rfl Tryz.ntmps66 rfl rfl rfl fun G rest=>?_
 refine aZ (aH (dZ rfl rfl rfl (fun b2=>dZ rfl rfl rfl (fun b3=>dC kO rfl (fun b4=>bA rfl rfl (aE (aR (aZ (aH (bD rfl eQ rfl (bD rfl pQ rfl (bK 2 rfl rfl zB rfl rfl rfl (bD rfl lB rfl (bK 1 rfl rfl dT rfl rfl rfl (jO rfl (aBs _ _ s.X _ hX hlX cd.J hr) rfl ?_)))))))))))))));rintro _ ⟨i0,rfl,hi0⟩
 have hix:=hi0 sh hsh hshJ
 have hil:=(List.getElem?_eq_some_iff.1 hix).1
 refine aU rfl rfl (bV rfl rfl rfl (bV rfl rfl rfl (bA rfl rfl (bA rfl rfl (aE (aR (aZ (aZ (aH (aU rfl rfl (sE rfl rfl (aE (aR (dY rfl (decide_eq_false (fun h=>h ⟨sh,hsh,hshJ⟩)) (bS (aR (aZ (cE [2,3,4,6] rfl ?_))))))))))))))))));obtain ⟨bEY,oEY,rfl⟩:=hX.addr (by omega);obtain ⟨_,xY,hxY,⟨axY,cxY,rfl,hdY,hDY⟩,hpY⟩:=hX.elem (i0) (by omega);obtain rfl:=Option.some.inj (hix.symm.trans hxY)
 apply iJ (fun _=>True) trivial 22 [eqF _,eqF _,eqF _,eqF _,eqF _,eqF _,eqF _,eqF _,eqF _,eqF _,eqF _,eqF _,eqF _,eqF _,eqF _,fun v H=>TrU (jB cd sh.K) H v,fun v H=>TrU (jB cd sh.K) H v,fun v H=>SlU (eO .i64) (jB cd sh.K) H v,eqF _,eqF _,fun v H=>SlU (eO .i64) (jB cd sh.K) H v,eqF _] follows (by kernel_rfl) (by kernel_rfl) ⟨bB _,bB _,bB _,bB _,bB _,bB _,bB _,bB _,bB _,bB _,bB _,bB _,bB _,bB _,bB _,aGu _,aGu _,qR _ _,bB _,bB _,qR _ _,bB _,trivial⟩ ?steps2 ?tail2
 case steps2 =>
  refine bI rfl ?_ ?_
  ·intro X HD aD _
   replace hJ:=hJ.mono aD;replace hS:=hS.mono aD;replace hK:=hK.mono aD;replace hX:=hX.mono aD;replace hcd:=hcd.mono aD;replace hT:=hT.mono aD;replace hpY:=hpY.mono aD;replace hdY:=hdY.mono aD;refine aW rfl (bK 1 rfl rfl eI rfl rfl rfl (aE ?_))
   exact bH trivial rfl
  refine bI rfl ?_ ?_
  ·intro X HD aD _
   replace hJ:=hJ.mono aD;replace hS:=hS.mono aD;replace hK:=hK.mono aD;replace hX:=hX.mono aD;replace hcd:=hcd.mono aD;replace hT:=hT.mono aD;replace hpY:=hpY.mono aD;replace hdY:=hdY.mono aD;refine aW rfl (bD rfl eQ rfl (aE ?_))
   exact bH trivial rfl
  refine bI rfl ?_ ?_
  ·intro X HD aD _
   replace hJ:=hJ.mono aD;replace hS:=hS.mono aD;replace hK:=hK.mono aD;replace hX:=hX.mono aD;replace hcd:=hcd.mono aD;replace hT:=hT.mono aD;replace hpY:=hpY.mono aD;replace hdY:=hdY.mono aD;refine wPq rfl rfl rfl (aW rfl (bD rfl pQ rfl (aE ?_)))
   exact bH trivial rfl
  refine bI rfl ?_ ?_
  ·intro X HD aD _
   replace hJ:=hJ.mono aD;replace hS:=hS.mono aD;replace hK:=hK.mono aD;replace hX:=hX.mono aD;replace hcd:=hcd.mono aD;replace hT:=hT.mono aD;replace hpY:=hpY.mono aD;replace hdY:=hdY.mono aD;refine wPq rfl rfl rfl (aW rfl (bK 2 rfl rfl zB rfl rfl rfl (aE ?_)))
   exact bH trivial rfl
  refine bI rfl ?_ ?_
  ·intro X HD aD _
   replace hJ:=hJ.mono aD;replace hS:=hS.mono aD;replace hK:=hK.mono aD;replace hX:=hX.mono aD;replace hcd:=hcd.mono aD;replace hT:=hT.mono aD;replace hpY:=hpY.mono aD;replace hdY:=hdY.mono aD;refine aW rfl (aU rfl rfl (aE ?_))
   exact bH trivial rfl
  refine bI rfl ?_ ?_
  ·intro X HD aD _
   replace hJ:=hJ.mono aD;replace hS:=hS.mono aD;replace hK:=hK.mono aD;replace hX:=hX.mono aD;replace hcd:=hcd.mono aD;replace hT:=hT.mono aD;replace hpY:=hpY.mono aD;replace hdY:=hdY.mono aD;refine wPq rfl rfl rfl (wPq rfl rfl rfl (aW rfl (fG rfl rfl Tryz.underlying29 lG (by omega) (by omega) rfl (aE ?_))))
   exact bH trivial rfl
  refine bI rfl ?_ ?_
  ·intro X HD aD _
   replace hJ:=hJ.mono aD;replace hS:=hS.mono aD;replace hK:=hK.mono aD;replace hX:=hX.mono aD;replace hcd:=hcd.mono aD;replace hT:=hT.mono aD;replace hpY:=hpY.mono aD;replace hdY:=hdY.mono aD;refine wPq rfl rfl rfl (aW rfl (bD rfl aJf rfl (aE ?_)))
   exact bH trivial rfl
  refine bI rfl ?_ ?_
  ·intro X HD aD _
   replace hJ:=hJ.mono aD;replace hS:=hS.mono aD;replace hK:=hK.mono aD;replace hX:=hX.mono aD;replace hcd:=hcd.mono aD;replace hT:=hT.mono aD;replace hpY:=hpY.mono aD;replace hdY:=hdY.mono aD;refine wPq rfl rfl rfl (aW rfl (gG rfl (by assumption) gZ rfl rfl rfl (aE ?_)))
   exact bH trivial rfl
  refine bI rfl ?_ ?_
  ·intro X HD aD _
   replace hJ:=hJ.mono aD;replace hS:=hS.mono aD;replace hK:=hK.mono aD;replace hX:=hX.mono aD;replace hcd:=hcd.mono aD;replace hT:=hT.mono aD;replace hpY:=hpY.mono aD;replace hdY:=hdY.mono aD;refine aW rfl (bD rfl eQ rfl (aE ?_))
   exact bH trivial rfl
  refine bI rfl ?_ ?_
  ·intro X HD aD _
   replace hJ:=hJ.mono aD;replace hS:=hS.mono aD;replace hK:=hK.mono aD;replace hX:=hX.mono aD;replace hcd:=hcd.mono aD;replace hT:=hT.mono aD;replace hpY:=hpY.mono aD;replace hdY:=hdY.mono aD;refine wPq rfl rfl rfl (aW rfl (bD rfl pQ rfl (aE ?_)))
   exact bH trivial rfl
  refine bI rfl ?_ ?_
  ·intro X HD aD _
   replace hJ:=hJ.mono aD;replace hS:=hS.mono aD;replace hK:=hK.mono aD;replace hX:=hX.mono aD;replace hcd:=hcd.mono aD;replace hT:=hT.mono aD;replace hpY:=hpY.mono aD;replace hdY:=hdY.mono aD;refine wPq rfl rfl rfl (aW rfl (bK 2 rfl rfl zB rfl rfl rfl (aE ?_)))
   exact bH trivial rfl
  refine bI rfl ?_ ?_
  ·intro X HD aD _
   replace hJ:=hJ.mono aD;replace hS:=hS.mono aD;replace hK:=hK.mono aD;replace hX:=hX.mono aD;replace hcd:=hcd.mono aD;replace hT:=hT.mono aD;replace hpY:=hpY.mono aD;replace hdY:=hdY.mono aD;refine aW rfl (aU rfl rfl (aE ?_))
   exact bH trivial rfl
  refine bI rfl ?_ ?_
  ·intro X HD aD _
   replace hJ:=hJ.mono aD;replace hS:=hS.mono aD;replace hK:=hK.mono aD;replace hX:=hX.mono aD;replace hcd:=hcd.mono aD;replace hT:=hT.mono aD;replace hpY:=hpY.mono aD;replace hdY:=hdY.mono aD;refine wPq rfl rfl rfl (wPq rfl rfl rfl (aW rfl (fG rfl rfl Tryz.underlying29 lG (by omega) (by omega) rfl (aE ?_))))
   exact bH trivial rfl
  refine bI rfl ?_ ?_
  ·intro X HD aD _
   replace hJ:=hJ.mono aD;replace hS:=hS.mono aD;replace hK:=hK.mono aD;replace hX:=hX.mono aD;replace hcd:=hcd.mono aD;replace hT:=hT.mono aD;replace hpY:=hpY.mono aD;replace hdY:=hdY.mono aD;refine wPq rfl rfl rfl (aW rfl (bD rfl aI0 rfl (aE ?_)))
   exact bH trivial rfl
  refine bI rfl ?_ ?_
  ·intro X HD aD _
   replace hJ:=hJ.mono aD;replace hS:=hS.mono aD;replace hK:=hK.mono aD;replace hX:=hX.mono aD;replace hcd:=hcd.mono aD;replace hT:=hT.mono aD;replace hpY:=hpY.mono aD;replace hdY:=hdY.mono aD;refine wPq rfl rfl rfl (aW rfl (gG rfl (by assumption) oA rfl rfl rfl (aE ?_)))
   exact bH trivial rfl
  refine bI rfl ?_ ?_
  ·intro X HD aD _
   replace hJ:=hJ.mono aD;replace hS:=hS.mono aD;replace hK:=hK.mono aD;replace hX:=hX.mono aD;replace hcd:=hcd.mono aD;replace hT:=hT.mono aD;replace hpY:=hpY.mono aD;replace hdY:=hdY.mono aD;refine wPq rfl rfl rfl (wPq rfl rfl rfl (wPq rfl rfl rfl (aW rfl (lE (lH:=[]) rfl (aJe tb _ hT cd _ _ hcd hDc _ _ sh.K sh.D hdY hDY hop) rfl rfl ?_))));rintro _ HO _ uD ⟨rfl,aO,cO,rfl,hO⟩
   simp only [List.nil_append]
   replace hJ:=hJ.mono uD;replace hS:=hS.mono uD;replace hK:=hK.mono uD;replace hX:=hX.mono uD;replace hcd:=hcd.mono uD;replace hT:=hT.mono uD;replace hpY:=hpY.mono uD;replace hdY:=hdY.mono uD;refine aE ?_
   exact bH trivial (⟨_,_,rfl,hO⟩)
  refine bI rfl ?_ ?_
  ·intro X HD aD _
   replace hJ:=hJ.mono aD;replace hS:=hS.mono aD;replace hK:=hK.mono aD;replace hX:=hX.mono aD;replace hcd:=hcd.mono aD;replace hT:=hT.mono aD;replace hpY:=hpY.mono aD;replace hdY:=hdY.mono aD;refine cU rfl rfl ?_;rintro _ ⟨a15,c15,rfl,h15⟩;refine aW rfl (aU rfl rfl (aE ?_))
   exact bH trivial (⟨_,_,rfl,h15⟩)
  refine bI rfl ?_ ?_
  ·intro X HD aD _
   replace hJ:=hJ.mono aD;replace hS:=hS.mono aD;replace hK:=hK.mono aD;replace hX:=hX.mono aD;replace hcd:=hcd.mono aD;replace hT:=hT.mono aD;replace hpY:=hpY.mono aD;replace hdY:=hdY.mono aD;refine cU rfl rfl ?_;rintro _ ⟨a16,c16,rfl,h16⟩;refine aW rfl (bV rfl rfl rfl (aE ?_))
   exact bH trivial (⟨_,_,rfl,h16⟩)
  refine bI rfl ?_ ?_
  ·intro X HD aD _
   replace hJ:=hJ.mono aD;replace hS:=hS.mono aD;replace hK:=hK.mono aD;replace hX:=hX.mono aD;replace hcd:=hcd.mono aD;replace hT:=hT.mono aD;replace hpY:=hpY.mono aD;replace hdY:=hdY.mono aD;refine cU rfl rfl ?_;rintro _ ⟨a16,c16,rfl,h16⟩;refine aW rfl (bV rfl rfl rfl (aE ?_))
   exact bH trivial rfl
  refine bI rfl ?_ ?_
  ·intro X HD aD _
   replace hJ:=hJ.mono aD;replace hS:=hS.mono aD;replace hK:=hK.mono aD;replace hX:=hX.mono aD;replace hcd:=hcd.mono aD;replace hT:=hT.mono aD;replace hpY:=hpY.mono aD;replace hdY:=hdY.mono aD;refine cU rfl rfl ?_;rintro _ ⟨a16,c16,rfl,h16⟩;refine aW rfl (bV rfl rfl rfl (aE ?_))
   exact bH trivial rfl
  refine bI rfl ?_ ?_
  ·intro X HD aD _
   replace hJ:=hJ.mono aD;replace hS:=hS.mono aD;replace hK:=hK.mono aD;replace hX:=hX.mono aD;replace hcd:=hcd.mono aD;replace hT:=hT.mono aD;replace hpY:=hpY.mono aD;replace hdY:=hdY.mono aD;refine cU rfl rfl ?_;rintro _ ⟨a17,c17,rfl,h17⟩;refine aW rfl (bA rfl rfl (aE ?_))
   exact bH trivial (⟨_,_,rfl,h17⟩)
  refine bI rfl ?_ ?_
  ·intro X HD aD _
   replace hJ:=hJ.mono aD;replace hS:=hS.mono aD;replace hK:=hK.mono aD;replace hX:=hX.mono aD;replace hcd:=hcd.mono aD;replace hT:=hT.mono aD;replace hpY:=hpY.mono aD;replace hdY:=hdY.mono aD;refine wPq rfl rfl rfl (aW rfl (bA rfl rfl (aE ?_)))
   exact bH trivial rfl
  exact eU rfl
 case tail2 =>
  intro HD aD _
  replace hJ:=hJ.mono aD;replace hS:=hS.mono aD;replace hK:=hK.mono aD;replace hX:=hX.mono aD;replace hcd:=hcd.mono aD;replace hT:=hT.mono aD;replace hpY:=hpY.mono aD;replace hdY:=hdY.mono aD;refine wPq rfl rfl rfl (wPq rfl rfl rfl (wPq rfl rfl rfl (wPq rfl rfl rfl (wPq rfl rfl rfl (wPq rfl rfl rfl (wPq rfl rfl rfl (wPq rfl rfl rfl (wPq rfl rfl rfl (wPq rfl rfl rfl (wPq rfl rfl rfl (wPq rfl rfl rfl (wPq rfl rfl rfl (wPq rfl rfl rfl (wPq rfl rfl rfl (cU rfl rfl ?_)))))))))))))));rintro _ ⟨a15,c15,rfl,h15⟩;refine cU rfl rfl ?_;rintro _ ⟨a16,c16,rfl,h16⟩;refine cU rfl rfl ?_;rintro _ ⟨a17,c17,rfl,h17⟩;refine wPq rfl rfl rfl (wPq rfl rfl rfl (cU rfl rfl ?_));rintro _ ⟨a20,c20,rfl,h20⟩;refine wPq rfl rfl rfl (aW rfl (bA rfl rfl (aE (aR (aZ (aH (aU rfl rfl (fQ aBm aB5 kO rfl rfl rfl (bZ 0 rfl rfl rfl rfl gK rfl rfl rfl rfl rfl (bA rfl rfl (aE (aR (bW ?_)))))))))))));refine ⟨rfl,_,[],(fH 0 rfl rfl gK rfl rfl (iK rfl gB)),(by repeat(first|exact sL _|apply sC)),bX.mk ?_⟩
  exact ⟨_,_,rfl,h20⟩
theorem shown_n (s : Sess) (aJ aS aK aX : Option Addr) (cJ cS cK cX : Nat) (H : Hp) (hJ : SlR (eO .i64) H aJ cJ s.J) (hS : SlR eV H aS cS s.S) (hK : SlR iY H aK cK s.K) (hX : SlR iZ H aX cX s.X) (cd : Card) (ac : Option Addr) (cc : Nat) (hcd : SlR (eO .i64) H ac cc cd.C) (hDc : cd.D.length = 32) (hr : sO Shwn.J s.X) (hlX : s.X.length ≤ 1000000) (hno : ∀ sh ∈ s.X,sh.J ≠ cd.J) : FnC Tryz.prog 66 #[.agg ⟨eR s aJ aS aK aX cJ cS cK cX⟩,.agg ⟨fA cd.R cd.E cd.J cd.C.length cd.D ac cc⟩] H [] (bX (fun v H2 _=>OpN H2 v)):=by
 refine FnC.introC (args:=[.agg ⟨eR s aJ aS aK aX cJ cS cK cX⟩,.agg ⟨fA cd.R cd.E cd.J cd.C.length cd.D ac cc⟩]) Tryz.func66 rfl rfl Tryz.ntmps66 rfl rfl rfl fun G rest=>?_
 refine aZ (aH (dZ rfl rfl rfl (fun b2=>dZ rfl rfl rfl (fun b3=>dC kO rfl (fun b4=>bA rfl rfl (aE (aR (aZ (aH (bD rfl eQ rfl (bD rfl pQ rfl (bK 2 rfl rfl zB rfl rfl rfl (bD rfl lB rfl (bK 1 rfl rfl dT rfl rfl rfl (jO rfl (aBs _ _ s.X _ hX hlX cd.J hr) rfl ?_)))))))))))))));rintro _ ⟨i0,rfl,hi0⟩;refine aU rfl rfl (bV rfl rfl rfl (bV rfl rfl rfl (bA rfl rfl (bA rfl rfl (aE (aR (aZ (aZ (aH (aU rfl rfl (sE rfl rfl (aE (aR (eY rfl (decide_eq_true (fun ⟨x,h1,h2⟩=>hno x h1 h2)) (aZ (aH (bK 0 rfl rfl gK rfl rfl rfl (bZ 0 rfl rfl rfl rfl gK rfl rfl rfl rfl rfl (bA rfl rfl (aE (aR (bW (bY ?_)))))))))))))))))))))));refine ⟨rfl,_,[],(fH 0 rfl rfl gK rfl rfl (iK rfl gB)),(by repeat(first|exact sL _|apply sC)),bX.mk ?_⟩
 exact ⟨_,rfl⟩
theorem late_fn (s : Sess) (aJ aS aK aX : Option Addr) (cJ cS cK cX : Nat) (H : Hp) (hJ : SlR (eO .i64) H aJ cJ s.J) (hS : SlR eV H aS cS s.S) (hK : SlR iY H aK cK s.K) (hX : SlR iZ H aX cX s.X) (cd : Card) (ac : Option Addr) (cc : Nat) (hcd : SlR (eO .i64) H ac cc cd.C) (hDc : cd.D.length = 32) (hL : 0 ≤ s.L ∧ s.L < 2097152) : FnC Tryz.prog 68 #[.agg ⟨eR s aJ aS aK aX cJ cS cK cX⟩,.agg ⟨fA cd.R cd.E cd.J cd.C.length cd.D ac cc⟩] H [] (bX (fun v H2 _=>OpV (if s.T ≥ s.L + 1440 then some (3,[]) else none) H2 v)):=by
 refine FnC.introC (args:=[.agg ⟨eR s aJ aS aK aX cJ cS cK cX⟩,.agg ⟨fA cd.R cd.E cd.J cd.C.length cd.D ac cc⟩]) Tryz.func68 rfl rfl Tryz.ntmps68 rfl rfl rfl fun G rest=>?_
 refine aZ (aH (dZ rfl rfl rfl (fun b2=>dZ rfl rfl rfl (fun b3=>dC kO rfl (fun b4=>bA rfl rfl (aE (aR (aZ (cE [2,4] rfl ?_)))))))))
 apply aB4 (fun _=>True) trivial 9 (fun p _=>p = (b4,.cells 47 [.int .i64 0,.slice none 0 0])) (fun p _=>p = (b4,.cells 47 [.int .i64 3,.slice none 0 0]) ∧ True) (fun _ _ _ _ h=>h) (fun _ _ _ _ h=>h) 10 [eqF _,eqF _,eqF _,eqF _,eqF _,eqF _,eqF _,eqF _,eqF _,rC] follows (by kernel_rfl) ⟨bB _,bB _,bB _,bB _,bB _,bB _,bB _,bB _,bB _,gR,trivial⟩ rfl rfl ?steps1 ?tail1
 case steps1 =>
  refine eZ rfl ?_ ?_
  ·intro X e HD aD _ hfa
   replace hJ:=hJ.mono aD;replace hS:=hS.mono aD;replace hK:=hK.mono aD;replace hX:=hX.mono aD;replace hcd:=hcd.mono aD;refine bG rfl (fQ aBm aB5 kO rfl rfl rfl (aE ?_))
   exact eH trivial rfl (by unfold foS;rw [if_neg (by decide)])
  refine eZ rfl ?_ ?_
  ·intro X e HD aD _ hfa
   replace hJ:=hJ.mono aD;replace hS:=hS.mono aD;replace hK:=hK.mono aD;replace hX:=hX.mono aD;replace hcd:=hcd.mono aD;refine bG rfl (bD rfl eQ rfl (aE ?_))
   exact eH trivial rfl (by unfold foS;rw [if_neg (by decide)])
  refine eZ rfl ?_ ?_
  ·intro X e HD aD _ hfa
   replace hJ:=hJ.mono aD;replace hS:=hS.mono aD;replace hK:=hK.mono aD;replace hX:=hX.mono aD;replace hcd:=hcd.mono aD;refine wQq rfl rfl rfl (bG rfl (bD rfl wA rfl (aE ?_)))
   exact eH trivial rfl (by unfold foS;rw [if_neg (by decide)])
  refine eZ rfl ?_ ?_
  ·intro X e HD aD _ hfa
   replace hJ:=hJ.mono aD;replace hS:=hS.mono aD;replace hK:=hK.mono aD;replace hX:=hX.mono aD;replace hcd:=hcd.mono aD;refine wQq rfl rfl rfl (bG rfl (bK 2 rfl rfl dT rfl rfl rfl (aE ?_)))
   exact eH trivial rfl (by unfold foS;rw [if_neg (by decide)])
  refine eZ rfl ?_ ?_
  ·intro X e HD aD _ hfa
   replace hJ:=hJ.mono aD;replace hS:=hS.mono aD;replace hK:=hK.mono aD;replace hX:=hX.mono aD;replace hcd:=hcd.mono aD;refine bG rfl (bD rfl eQ rfl (aE ?_))
   exact eH trivial rfl (by unfold foS;rw [if_neg (by decide)])
  refine eZ rfl ?_ ?_
  ·intro X e HD aD _ hfa
   replace hJ:=hJ.mono aD;replace hS:=hS.mono aD;replace hK:=hK.mono aD;replace hX:=hX.mono aD;replace hcd:=hcd.mono aD;refine wQq rfl rfl rfl (bG rfl (bD rfl aBg rfl (aE ?_)))
   exact eH trivial rfl (by unfold foS;rw [if_neg (by decide)])
  refine eZ rfl ?_ ?_
  ·intro X e HD aD _ hfa
   replace hJ:=hJ.mono aD;replace hS:=hS.mono aD;replace hK:=hK.mono aD;replace hX:=hX.mono aD;replace hcd:=hcd.mono aD;refine wQq rfl rfl rfl (bG rfl (bK 2 rfl rfl dT rfl rfl rfl (aE ?_)))
   exact eH trivial rfl (by unfold foS;rw [if_neg (by decide)])
  refine eZ rfl ?_ ?_
  ·intro X e HD aD _ hfa
   replace hJ:=hJ.mono aD;replace hS:=hS.mono aD;replace hK:=hK.mono aD;replace hX:=hX.mono aD;replace hcd:=hcd.mono aD;refine wQq rfl rfl rfl (bG rfl (dJ rfl rfl (bU (by omega) (by omega)) rfl (aE ?_)))
   exact eH trivial rfl (by unfold foS;rw [if_neg (by decide)])
  refine eZ rfl ?_ ?_
  ·intro X e HD aD _ hfa
   replace hJ:=hJ.mono aD;replace hS:=hS.mono aD;replace hK:=hK.mono aD;replace hX:=hX.mono aD;replace hcd:=hcd.mono aD;refine wQq rfl rfl rfl (wQq rfl rfl rfl (bG rfl (jC rfl rfl rfl (aE ?_))))
   exact eH trivial rfl (by unfold foS;rw [if_neg (by decide)])
  refine eZ rfl ?_ ?_
  ·intro X e HD aD _ hfa
   replace hJ:=hJ.mono aD;replace hS:=hS.mono aD;replace hK:=hK.mono aD;replace hX:=hX.mono aD;replace hcd:=hcd.mono aD;refine wQq rfl rfl rfl (bG rfl ?_);replace hfa:=hfa (Or.inl rfl)
   subst hfa
   refine bZ 0 rfl rfl rfl rfl gK rfl rfl rfl rfl rfl (aE ?_)
   exact eH trivial (trivial) (by unfold foS;rw [if_pos rfl];exact ⟨rfl,trivial⟩)
  exact xG rfl
 case tail1 =>
  intro HD aD _
  replace hJ:=hJ.mono aD;replace hS:=hS.mono aD;replace hK:=hK.mono aD;replace hX:=hX.mono aD;replace hcd:=hcd.mono aD;refine wQq rfl rfl rfl (wQq rfl rfl rfl (wQq rfl rfl rfl (wQq rfl rfl rfl (wQq rfl rfl rfl (wQq rfl rfl rfl (wQq rfl rfl rfl (wQq rfl rfl rfl (wQq rfl rfl rfl (oT rfl rfl (bG rfl ?_))))))))))
  intro e he
  obtain ⟨rfl,_⟩:=he;refine bA rfl rfl (aE (aR (bW ?_)));refine ⟨rfl,_,[],(fH 0 rfl rfl gK rfl rfl (iK rfl gB)),(by repeat(first|exact sL _|apply sC)),bX.mk ?_⟩
  by_cases hl : s.T ≥ s.L + 1440
  ·rw [if_pos hl,decide_eq_true hl];exact ⟨none,0,rfl,SlR.nil0 _ _⟩
  rw [if_neg hl,decide_eq_false hl];exact ⟨_,rfl⟩
end Go.Proofs

namespace Go.Proofs
open Go.XL
theorem by_47 : Nat.ble (Tryz.prog.bytesOf 47) 4096 = true:=by kernel_rfl
theorem yF : fW Tryz.prog 47 0 = some 0:=by kernel_rfl
theorem aEt : fW Tryz.prog 47 1 = some 1:=by kernel_rfl
theorem aHv : tyF Tryz.prog 130 1 false = true:=by kernel_rfl
theorem ze_130 : gH Tryz.prog 130 = some [.nilFunc]:=by kernel_rfl
theorem known_n (s : Sess) (aJ aS aK aX : Option Addr) (cJ cS cK cX : Nat) (H : Hp) (hJ : SlR (eO .i64) H aJ cJ s.J) (hS : SlR eV H aS cS s.S) (hK : SlR iY H aK cK s.K) (hX : SlR iZ H aX cX s.X) (j : Int) (hno : ¬ nO s) : FnC Tryz.prog 21 #[.agg ⟨eR s aJ aS aK aX cJ cS cK cX⟩,.int .i64 j] H [] (bX (fun v H2 _=>OpO (0,[]) H2 v)):=by
 refine FnC.introC (args:=[.agg ⟨eR s aJ aS aK aX cJ cS cK cX⟩,.int .i64 j]) Tryz.func21 rfl rfl Tryz.ntmps21 rfl rfl rfl fun G rest=>?_
 refine aZ (aH (dZ rfl rfl rfl (fun b2=>dC kO rfl (fun b4=>aE (aR (aZ (aZ (aH (bK 1 rfl rfl mA rfl rfl rfl (bR rfl (vO s aJ aS aK aX cJ cS cK cX _ hJ hS hK hX) rfl (sE rfl rfl (aE (aR (eY rfl (decide_eq_true hno) (aZ (aH (bK 0 rfl rfl gK rfl rfl rfl (bZ 0 rfl rfl rfl rfl gK rfl rfl rfl rfl rfl (aE (aR (bW (bY ?_))))))))))))))))))))));refine ⟨rfl,_,[],(fH 0 rfl rfl gK rfl rfl gB),(by repeat(first|exact sL _|apply sC)),bX.mk ?_⟩
 exact ⟨_,_,rfl,SlR.nil0 _ _⟩
theorem aFf (s : Sess) (aJ aS aK aX : Option Addr) (cJ cS cK cX : Nat) (H : Hp) (hJ : SlR (eO .i64) H aJ cJ s.J) (hS : SlR eV H aS cS s.S) (hK : SlR iY H aK cK s.K) (hX : SlR iZ H aX cX s.X) (j : Int) (hop : nO s) (i : Nat) (cd : Card) (hi : s.S[i]? = some cd) (hcj : cd.J = j) (hr : sO Card.J s.S) (hlS : s.S.length ≤ 1000000) (o1 o2 o3 : Option (Int × List Int)) (h1 : ∀ (ac : Option Addr) (cc : Nat) (H2 : Hp),LeW H H2 → SlR (eO .i64) H2 ac cc cd.C → FnC Tryz.prog 66 #[.agg ⟨eR s aJ aS aK aX cJ cS cK cX⟩,.agg ⟨fA cd.R cd.E cd.J cd.C.length cd.D ac cc⟩] H2 [] (bX fun v H3 _=>OpV o1 H3 v)) (h2 : ∀ (ac : Option Addr) (cc : Nat) (H2 : Hp),LeW H H2 → SlR (eO .i64) H2 ac cc cd.C → FnC Tryz.prog 67 #[.agg ⟨eR s aJ aS aK aX cJ cS cK cX⟩,.agg ⟨fA cd.R cd.E cd.J cd.C.length cd.D ac cc⟩] H2 [] (bX fun v H3 _=>OpV o2 H3 v)) (h3 : ∀ (ac : Option Addr) (cc : Nat) (H2 : Hp),LeW H H2 → SlR (eO .i64) H2 ac cc cd.C → FnC Tryz.prog 68 #[.agg ⟨eR s aJ aS aK aX cJ cS cK cX⟩,.agg ⟨fA cd.R cd.E cd.J cd.C.length cd.D ac cc⟩] H2 [] (bX fun v H3 _=>OpV o3 H3 v)) : FnC Tryz.prog 21 #[.agg ⟨eR s aJ aS aK aX cJ cS cK cX⟩,.int .i64 j] H [] (bX (fun v H2 _=>OpO (aE9 [o1,o2,o3]) H2 v)):=by
 refine FnC.introC (args:=[.agg ⟨eR s aJ aS aK aX cJ cS cK cX⟩,.int .i64 j]) Tryz.func21 rfl rfl Tryz.ntmps21 rfl rfl rfl fun G rest=>?_
 have uE : LeW H H:=Le.refl _
 refine aZ (aH (dZ rfl rfl rfl (fun b2=>dC kO rfl (fun b4=>aE (aR (aZ (aZ (aH (bK 1 rfl rfl mA rfl rfl rfl (bR rfl (vO s aJ aS aK aX cJ cS cK cX _ hJ hS hK hX) rfl (sE rfl rfl (aE (aR (dY rfl (decide_eq_false (fun h=>h hop)) (bS (aR (aZ (aH (bK 1 rfl rfl mA rfl rfl rfl (aU rfl rfl (fI rfl (aI2 s aJ aS aK aX cJ cS cK cX _ hJ hS hK hX j i cd hi hcj hr hlS) rfl ?_)))))))))))))))))))));rintro _ HN18 hleN18 ⟨aD18,cD18,rfl,hdD18,hDD18⟩;replace hJ:=hJ.mono hleN18;replace hS:=hS.mono hleN18;replace hK:=hK.mono hleN18;replace hX:=hX.mono hleN18;replace uE:=uE.mono hleN18;refine aU rfl rfl (bV rfl rfl rfl (bV rfl rfl rfl (dC lY rfl (fun b5=>bZ 0 rfl rfl rfl rfl eI rfl rfl rfl rfl rfl (bA rfl rfl (aE (aR (aZ (aZ (aH (aU rfl rfl (fC rfl rfl (aE (aR (dY rfl rfl (bS (aR (aZ (aZ (aH (bK 2 rfl rfl mA rfl rfl rfl (kZ rfl rfl rfl (bK 2 rfl rfl mA rfl rfl rfl (kZ rfl rfl rfl (bK 2 rfl rfl mA rfl rfl rfl (kZ rfl rfl rfl (dB rfl Tryz.underlying131 aHv ze_130 rfl rfl rfl (fun b30=>dF 0 rfl rfl rfl (fun HP30 oP30 hleP30 hbP30 hoP30=>?_)))))))))))))))))))))))))))));replace hJ:=hJ.mono hleP30;replace hS:=hS.mono hleP30;replace hK:=hK.mono hleP30;replace hX:=hX.mono hleP30;replace uE:=uE.mono hleP30;replace hdD18:=hdD18.mono hleP30
 have hsl30:=SlR.lit (ρ:=fnR) (l:=[.func (.func 66) #[.agg ⟨eR s aJ aS aK aX cJ cS cK cX⟩] #[],.func (.func 67) #[.agg ⟨eR s aJ aS aK aX cJ cS cK cX⟩] #[],.func (.func 68) #[.agg ⟨eR s aJ aS aK aX cJ cS cK cX⟩] #[]]) hbP30 hoP30 (eN.cons1 (cs:=[_]) ⟨rfl,rfl⟩ (eN.cons1 (cs:=[_]) ⟨rfl,rfl⟩ (eN.one1 ⟨rfl,rfl⟩)))
 refine cH (ts:=#[]) rfl Tryz.underlying131 rfl (aU rfl rfl (aE (aR (bT (cE [32,4,5,30,31] rfl ?_)))))
 have hfs : ∀ (k : Nat) (g : Value),([.func (.func 66) #[.agg ⟨eR s aJ aS aK aX cJ cS cK cX⟩] #[],.func (.func 67) #[.agg ⟨eR s aJ aS aK aX cJ cS cK cX⟩] #[],.func (.func 68) #[.agg ⟨eR s aJ aS aK aX cJ cS cK cX⟩] #[]] : List Value)[k]? = some g → ∀ (ac : Option Addr) (cc : Nat) (H2 : Hp),LeW H H2 → SlR (eO .i64) H2 ac cc cd.C → FnV Tryz.prog g [.agg ⟨fA cd.R cd.E cd.J cd.C.length cd.D ac cc⟩] H2 [] (bX fun v H3 _=>OpV (([o1,o2,o3] : List (Option (Int × List Int))).getD k none) H3 v):=by
  intro k g hk ac cc H2 hle hc
  match k,hk with
  | 0,hk=>cases hk;exact FnV.of_first (fst:=[.agg ⟨eR s aJ aS aK aX cJ cS cK cX⟩]) (cap:=[]) (args:=[_]) (h1 ac cc H2 hle hc)
  | 1,hk=>cases hk;exact FnV.of_first (fst:=[.agg ⟨eR s aJ aS aK aX cJ cS cK cX⟩]) (cap:=[]) (args:=[_]) (h2 ac cc H2 hle hc)
  | 2,hk=>cases hk;exact FnV.of_first (fst:=[.agg ⟨eR s aJ aS aK aX cJ cS cK cX⟩]) (cap:=[]) (args:=[_]) (h3 ac cc H2 hle hc)
 refine eE (base:=[(4,_),(5,_),(30,_),(31,_)]) (fun ζ : Nat=>[(32,.int .i64 (ζ : Nat))]) (fun ζ Hl own=>ζ ≤ 3 ∧ (b5,.cells 49 (fA cd.R cd.E cd.J cd.C.length cd.D aD18 cD18)) :: (b4,.cells 47 [.int .i64 0,.slice none 0 0]) :: rest = own ∧ (∀ i o,i < (ζ) → ([o1,o2,o3] : List (Option (Int × List Int)))[i]? = some o → o = none)) (fun ζ=>3 - ζ) 0 (aQ rfl (aQ rfl (aQ rfl (aQ rfl (aQ rfl bP))))) (by repeat(first|exact sL _|apply sD|apply sC)) ⟨Nat.zero_le _,rfl,(fun i o h=>by omega)⟩ ?_;rintro k Hl0 _ bM ⟨hkk,rfl,hno⟩;replace hJ:=hJ.mono bM;replace hS:=hS.mono bM;replace hK:=hK.mono bM;replace hX:=hX.mono bM;replace uE:=uE.mono bM;replace hdD18:=hdD18.mono bM;replace hsl30:=hsl30.mono bM
 try dsimp only at ⊢
 refine aZ (aH (dN rfl rfl rfl (aE (aR (aZ (cW rfl (fun c2_3=>?_) (fun c2_3=>?_)))))))
 ·change ((k : Nat) : Int) < ((3 : Nat) : Int) at c2_3
  refine bS (aR (aZ (bT (aZ (aH (dK rfl hsl30 rfl Tryz.underlying131 aHv (by show k < 3;omega) rfl ?_))))));rintro eb34 eo34 _ x34 hx34 ⟨rfl,ho34⟩ hp34;refine cQ rfl (by assumption) aHv rfl rfl rfl (bA rfl rfl (aE (aR (aZ (aH (aU rfl rfl (bK 0 rfl rfl eI rfl rfl rfl (iI rfl trivial rfl (hfs k x34 hx34 _ _ _ uE hdD18) rfl ?_))))))));rintro _ HN oN fO hOV;replace hJ:=hJ.mono fO;replace hS:=hS.mono fO;replace hK:=hK.mono fO;replace hX:=hX.mono fO;replace uE:=uE.mono fO;replace hdD18:=hdD18.mono fO;replace hsl30:=hsl30.mono fO;replace hp34:=hp34.mono fO;replace bM:=bM.trans fO
  rcases ho : ([o1,o2,o3] : List (Option (Int × List Int))).getD k none with _ | xo
  ·rw [ho] at hOV
   obtain ⟨hh,rfl⟩:=hOV;refine aU rfl rfl (bV rfl rfl rfl (bV rfl rfl rfl (dC kO rfl (fun b9=>bZ 0 rfl rfl rfl rfl gK rfl rfl rfl rfl rfl (bA rfl rfl (aE (aR (aZ (aH (aU rfl rfl (aE (aR (dY rfl rfl (bS (dP (aR (aH (dJ rfl rfl (bU (by omega) (by omega)) rfl (aU rfl rfl (aE (cR (k + 1) (by show 3 - (k + 1) < 3 - k;omega) (aQ rfl (aQ rfl (aQ rfl (aQ rfl (aQ rfl bP))))) (⟨by show k + 1 ≤ 3;omega,rfl,no_step hno ho⟩) (by repeat(first|exact sL _|apply sD|apply sC)) (bM))))))))))))))))))))))
  rw [ho] at hOV
  obtain ⟨aV,cV,rfl,hV⟩:=hOV;refine aU rfl rfl (bV rfl rfl rfl (bV rfl rfl rfl (dC kO rfl (fun b9=>bZ 0 rfl rfl rfl rfl gK rfl rfl rfl rfl rfl (bA rfl rfl (aE (aR (aZ (aH (aU rfl rfl (aE (aR (eY rfl rfl (aZ (aH (bK 0 rfl rfl gK rfl rfl rfl (bZ 2 rfl rfl rfl rfl gK rfl rfl rfl rfl rfl (aE (aR (bW (dQ (bY (eG (dQ (bY ?_)))))))))))))))))))))))));refine ⟨rfl,_,[],(fH 2 rfl rfl gK rfl rfl gB),(by repeat(first|exact sL _|apply sC)),bX.mk ?_⟩
  rw [aD8 (os:=([o1,o2,o3] : List (Option (Int × List Int)))) hno (by rw [uZ (d:=none) (show k < 3 by omega),ho])];exact ⟨_,_,rfl,hV⟩
 change ¬ ((k : Nat) : Int) < ((3 : Nat) : Int) at c2_3
 refine dX (dA (cZ (dI rfl (aR (aZ (aH (bK 1 rfl rfl gK rfl rfl rfl (bZ 1 rfl rfl rfl rfl gK rfl rfl rfl rfl rfl (aE (aR (bW ?_)))))))))));refine ⟨rfl,_,[],(fH 1 rfl rfl gK rfl rfl gB),(by repeat(first|exact sL _|apply sC)),bX.mk ?_⟩
 rw [aDr (os:=([o1,o2,o3] : List (Option (Int × List Int)))) (all_none (fun i o h=>hno i o (by have : ([o1,o2,o3] : List (Option (Int × List Int))).length = 3:=rfl;omega)))];exact ⟨_,_,rfl,SlR.nil0 _ _⟩
theorem aAd (tb : List Int × List Int) (s : Sess) (aJ aS aK aX : Option Addr) (cJ cS cK cX : Nat) (H : Hp) (hJ : SlR (eO .i64) H aJ cJ s.J) (hS : SlR eV H aS cS s.S) (hK : SlR iY H aK cK s.K) (hX : SlR iZ H aX cX s.X) (hT : TB H tb) (hg : GoodS tb s) (outs : List (Int × List Int)) (ho : outs.length = s.J.length) (hk : ∀ (i : Nat) (j : Int),s.J[i]? = some j → ∀ (H2 : Hp),LeW H H2 → FnC Tryz.prog 21 #[.agg ⟨eR s aJ aS aK aX cJ cS cK cX⟩,.int .i64 j] H2 [] (bX fun v H3 _=>OpO (outs.getD i (0,[])) H3 v)) : FnC Tryz.prog 8 #[.agg ⟨eR s aJ aS aK aX cJ cS cK cX⟩] H [] (bX (fun v H2 _=>∃ a c,v = .tuple #[.slice a outs.length c,.int .i64 0] ∧ SlR opR H2 a c outs)):=by
 refine FnC.intro (args:=[.agg ⟨eR s aJ aS aK aX cJ cS cK cX⟩]) Tryz.func8 rfl rfl Tryz.ntmps8 rfl rfl rfl fun G rest=>?_
 have uE : LeW H H:=Le.refl _
 have hjl:=hg.j
 refine aZ (aH (dZ rfl rfl rfl (fun b1=>bA rfl rfl (bA rfl rfl (aE (aR (aZ (aZ (aH (bK 0 rfl rfl gV rfl rfl rfl (bR rfl (sZ tb s aJ aS aK aX cJ cS cK cX _ hJ hS hK hX hT hg) rfl (bA rfl rfl (aE (aR (aZ (aH (aU rfl rfl (fZ rfl rfl rfl (aE (aR (dY rfl (decide_eq_false (by decide)) (bS (aR (aZ (aZ (aH (bD rfl pY rfl (bK 0 rfl rfl gZ rfl rfl rfl (cH (ts:=#[]) rfl Tryz.underlying26 rfl (aU rfl rfl ?_))))))))))))))))))))))))))))));refine aE (aR (bT (cE [2,14,1,12,13] rfl (iQ 0 (eE (base:=[(1,_),(12,_),(13,_)]) (fun ζ : Nat × ((Nat × SObj) × Option Addr × Nat)=>[(2,.slice ζ.2.2.1 ((outs.take (ζ.1))).length ζ.2.2.2),(14,.int .i64 (ζ.1 : Nat))]) (fun ζ Hl own=>ζ.1 ≤ s.J.length ∧ ζ.2.1 :: (b1,.cells 31 (eR s aJ aS aK aX cJ cS cK cX)) :: rest = own ∧ Acc opR 47 Hl ζ.2.1 ζ.2.2.1 ζ.2.2.2 ((outs.take (ζ.1)))) (fun ζ=>s.J.length - ζ.1) (0,((0,.nothing),none,0)) (aQ rfl (aQ rfl (aQ rfl (aQ rfl (aQ rfl bP))))) (by repeat(first|exact sL _|apply sD|apply sC)) ⟨Nat.zero_le _,rfl,Acc.nil _ _ _ _⟩ ?_)))));rintro ⟨k,⟨pw,aw,cw⟩⟩ Hl0 _ bM ⟨hkk,rfl,haccw⟩;replace hJ:=hJ.mono bM;replace hS:=hS.mono bM;replace hK:=hK.mono bM;replace hX:=hX.mono bM;replace hT:=hT.mono bM;replace uE:=uE.mono bM
 try dsimp only at hkk haccw ⊢
 refine aZ (aH (dN rfl rfl rfl (aE (aR (aZ (cW rfl (fun c1_2=>?_) (fun c1_2=>?_)))))))
 ·refine bS (aR (aZ (bT (aZ (aH (dK rfl hJ rfl Tryz.underlying26 dT (by omega) rfl ?_))))));rintro eb16 eo16 _ x16 pM rfl kI;refine cQ rfl (by assumption) dT rfl rfl rfl (bA rfl rfl (aE (aR (aH (aU rfl rfl (bK 1 rfl rfl gV rfl rfl rfl (fQ aAo aAp zC rfl rfl rfl (aU rfl rfl (fI rfl (hk k x16 pM _ uE) rfl ?_)))))))));rintro _ HN22 hleN22 ⟨aN22,cN22,rfl,hN22⟩;replace hJ:=hJ.mono hleN22;replace hS:=hS.mono hleN22;replace hK:=hK.mono hleN22;replace hX:=hX.mono hleN22;replace hT:=hT.mono hleN22;replace uE:=uE.mono hleN22;replace haccw:=haccw.mono hleN22;replace kI:=kI.mono hleN22;replace bM:=bM.trans hleN22;refine dB rfl Tryz.underlying43 gK kO rfl rfl rfl (fun b23=>dF 0 rfl rfl rfl (fun HP23 oP23 hleP23 hbP23 hoP23=>?_));replace hJ:=hJ.mono hleP23;replace hS:=hS.mono hleP23;replace hK:=hK.mono hleP23;replace hX:=hX.mono hleP23;replace hT:=hT.mono hleP23;replace uE:=uE.mono hleP23;replace haccw:=haccw.mono hleP23;replace kI:=kI.mono hleP23;replace hN22:=hN22.mono hleP23;replace bM:=bM.trans hleP23
  have hsl23:=SlR.lit (ρ:=opR) (l:=[outs.getD k (0,[])]) hbP23 hoP23 (eN.one1 ⟨_,_,rfl,hN22⟩)
  refine fB 0 rfl rfl haccw rfl rfl hsl23 rfl Tryz.underlying43 gK kO rfl by_47 (by simp;omega) rfl (fun p24 a24 c24 hacc24=>bA rfl rfl (aE (dP (aR (aH (dJ rfl rfl (bU (by omega) (by omega)) rfl (aU rfl rfl (aE (cR ((k + 1,(p24,a24,c24))) (by show s.J.length - (k + 1) < s.J.length - k;omega) (aQ (by first | rfl | (rw [fP (uZ (d:=(0,[])) (by omega))];rfl)) (aQ rfl (aQ rfl (aQ rfl (aQ rfl bP))))) (⟨by show k + 1 ≤ s.J.length;omega,rfl,by first | (exact hacc24) | (rw [fP (uZ (d:=(0,[])) (by omega))];exact hacc24)⟩) (by repeat(first|exact sL _|apply sD|apply sC)) (bM))))))))))
 rw [List.take_of_length_le (by omega)] at haccw ⊢
 refine dX (dA (cZ (dI rfl (aR (aZ (aH (aU rfl rfl (bA rfl rfl (bA rfl rfl (aE (aR (mE 0 rfl haccw rfl (fun HQ6 kH nV=>?_)))))))))))));replace hJ:=hJ.mono kH;replace hS:=hS.mono kH;replace hK:=hK.mono kH;replace hX:=hX.mono kH;replace hT:=hT.mono kH;replace uE:=uE.mono kH;replace bM:=bM.trans kH;refine bW ?_;refine ⟨rfl,_,[],rfl,(by repeat(first|exact sL _|apply sC)),bX.mk ?_⟩
 exact ⟨_,_,rfl,by assumption⟩
theorem aAy (a b : Option Addr) (c d : Nat) (l m : List Int) (H : Hp) (hs : SlR (eO .i64) H a c l) (ht : SlR (eO .i64) H b d m) (hl : l.length < 9223372036854775808) (hm : m.length < 9223372036854775808) : FnC Tryz.prog 33 #[.slice a l.length c,.slice b m.length d] H [] (bX (fun v _ _=>v = .bool (decide (l = m)))):=by
 refine FnC.intro (args:=[.slice a l.length c,.slice b m.length d]) Tryz.func33 rfl rfl Tryz.ntmps33 rfl rfl rfl fun G rest=>?_
 refine aZ (aH (bA rfl rfl (aE (aR (aZ (aZ (aH (aU rfl rfl (cH (ts:=#[]) rfl Tryz.underlying26 rfl (aU rfl rfl (cH (ts:=#[]) rfl Tryz.underlying26 rfl (fZ rfl rfl rfl (aE (aR (cW rfl (fun gJ=>?_) (fun gJ=>?_))))))))))))))))
 ·refine aZ (aH (bA rfl rfl (aE (aR (bW (bY ?_))))));refine ⟨rfl,_,[],rfl,(by repeat(first|exact sL _|apply sC)),bX.mk ?_⟩
  first | exact congrArg Value.bool (decide_eq_false (fun h=>by have:=congrArg List.length h;omega)).symm | exact congrArg Value.bool (decide_eq_false (fun h=>by subst h;exact absurd (Option.some.inj (hxX.symm.trans hxY)) (by assumption))).symm | exact congrArg Value.bool (decide_eq_true (heq.trans (List.take_of_length_le (by omega)))).symm
 refine bS (aR (aZ (aZ (aH (bA rfl rfl (aE (aR (bT (cE [5,0,1] rfl (eE (base:=[(0,_),(1,_)]) (fun ζ : Nat=>[(5,.int .i64 (ζ : Nat))]) (fun ζ Hl own=>ζ ≤ l.length ∧ rest = own ∧ (l.take (ζ) = m.take (ζ))) (fun ζ=>l.length - ζ) 0 (aQ rfl (aQ rfl (aQ rfl bP))) (by repeat(first|exact sL _|apply sD|apply sC)) ⟨Nat.zero_le _,rfl,by simp⟩ ?_))))))))));rintro k Hl0 _ bM ⟨hkk,rfl,heq⟩;replace hs:=hs.mono bM;replace ht:=ht.mono bM
 try dsimp only at ⊢
 refine aZ (aZ (aH (aU rfl rfl (aU rfl rfl (cH (ts:=#[]) rfl Tryz.underlying26 rfl (dN rfl rfl rfl (aE (aR (cW rfl (fun c1_2=>?_) (fun c1_2=>?_))))))))))
 ·refine bS (aR (aZ (bT (aZ (cE [0,1,5] rfl ?_)))));obtain ⟨bEX,oEX,rfl⟩:=hs.addr (by omega);obtain ⟨_,xX,hxX,rfl,hpX⟩:=hs.elem (k) (by omega);obtain ⟨bEY,oEY,rfl⟩:=ht.addr (by omega);obtain ⟨_,xY,hxY,rfl,hpY⟩:=ht.elem (k) (by omega)
  apply jR 8 [eqF _,eqF _,eqF _,eqF _,eqF _,eqF _,eqF _,eqF _] follows (by kernel_rfl) (by kernel_rfl) ⟨bB _,bB _,bB _,bB _,bB _,bB _,bB _,bB _,trivial⟩ ?steps3 ?tail3
  case steps3 =>
   refine bO rfl ?_ ?_
   ·intro X
    refine aW rfl (aU rfl rfl (aE ?_))
    exact bH rfl rfl
   refine bO rfl ?_ ?_
   ·intro X
    refine aW rfl (aU rfl rfl (aE ?_))
    exact bH rfl rfl
   refine bO rfl ?_ ?_
   ·intro X
    refine wPq rfl rfl rfl (wPq rfl rfl rfl (aW rfl (fG rfl rfl Tryz.underlying26 dT (by omega) (by omega) rfl (aE ?_))))
    exact bH rfl rfl
   refine bO rfl ?_ ?_
   ·intro X
    refine wPq rfl rfl rfl (aW rfl (cQ rfl (by assumption) dT rfl rfl rfl (aE ?_)))
    exact bH rfl rfl
   refine bO rfl ?_ ?_
   ·intro X
    refine aW rfl (aU rfl rfl (aE ?_))
    exact bH rfl rfl
   refine bO rfl ?_ ?_
   ·intro X
    refine aW rfl (aU rfl rfl (aE ?_))
    exact bH rfl rfl
   refine bO rfl ?_ ?_
   ·intro X
    refine wPq rfl rfl rfl (wPq rfl rfl rfl (aW rfl (fG rfl rfl Tryz.underlying26 dT (by omega) (by omega) rfl (aE ?_))))
    exact bH rfl rfl
   refine bO rfl ?_ ?_
   ·intro X
    refine wPq rfl rfl rfl (aW rfl (cQ rfl (by assumption) dT rfl rfl rfl (aE ?_)))
    exact bH rfl rfl
   exact eU rfl
  case tail3 =>
   refine wPq rfl rfl rfl (wPq rfl rfl rfl (wPq rfl rfl rfl (wPq rfl rfl rfl (wPq rfl rfl rfl (wPq rfl rfl rfl (wPq rfl rfl rfl (wPq rfl rfl rfl (aW rfl (fZ rfl rfl rfl (aE (aR (cW rfl (fun c2_6=>?_) (fun c2_6=>?_)))))))))))))
   ·refine aZ (aH (bA rfl rfl (aE (aR (bW (dQ (bY (eG (dQ (bY ?_))))))))));refine ⟨rfl,_,[],rfl,(by repeat(first|exact sL _|apply sC)),bX.mk ?_⟩
    first | exact congrArg Value.bool (decide_eq_false (fun h=>by have:=congrArg List.length h;omega)).symm | exact congrArg Value.bool (decide_eq_false (fun h=>by subst h;exact absurd (Option.some.inj (hxX.symm.trans hxY)) (by assumption))).symm | exact congrArg Value.bool (decide_eq_true (heq.trans (List.take_of_length_le (by omega)))).symm
   refine bS (dP (aR (aH (aU rfl rfl (dJ rfl rfl (bU (by omega) (by omega)) rfl (bA rfl rfl (aE (cR (k + 1) (by show l.length - (k + 1) < l.length - k;omega) (aQ rfl (aQ rfl (aQ rfl bP))) (⟨by show k + 1 ≤ l.length;omega,rfl,by rw [fP hxX,fP hxY,heq,show xX = xY from Decidable.not_not.1 (by assumption)]⟩) (by repeat(first|exact sL _|apply sD|apply sC)) (bM)))))))))
 obtain rfl : k = l.length:=by omega
 rw [List.take_length] at heq
 refine dX (dA (cZ (dI rfl (aR (aZ (aH (bA rfl rfl (aE (aR (bW ?_))))))))));refine ⟨rfl,_,[],rfl,(by repeat(first|exact sL _|apply sC)),bX.mk ?_⟩
 first | exact congrArg Value.bool (decide_eq_false (fun h=>by have:=congrArg List.length h;omega)).symm | exact congrArg Value.bool (decide_eq_false (fun h=>by subst h;exact absurd (Option.some.inj (hxX.symm.trans hxY)) (by assumption))).symm | exact congrArg Value.bool (decide_eq_true (heq.trans (List.take_of_length_le (by omega)))).symm
theorem sameSealed_y (s : Card) (a b : Option Addr) (c d : Nat) (H : Hp) (hs : SlR (eO .i64) H a c s.C) (ht : SlR (eO .i64) H b d s.C) (hl : s.C.length < 9223372036854775808) : FnC Tryz.prog 19 #[.agg ⟨fA s.R s.E s.J s.C.length s.D a c⟩,.agg ⟨fA s.R s.E s.J s.C.length s.D b d⟩] H [] (bX (fun v _ _=>v = .bool true)):=by
 refine FnC.intro (args:=[.agg ⟨fA s.R s.E s.J s.C.length s.D a c⟩,.agg ⟨fA s.R s.E s.J s.C.length s.D b d⟩]) Tryz.func19 rfl rfl Tryz.ntmps19 rfl rfl rfl fun G rest=>?_
 refine aZ (aH (dZ rfl rfl rfl (fun b2=>dZ rfl rfl rfl (fun b3=>bA rfl rfl (aE (aR (aZ (aH (bD rfl rX rfl (bK 1 rfl rfl dT rfl rfl rfl (bD rfl rX rfl (bK 0 rfl rfl dT rfl rfl rfl (fY rfl rfl rfl (aU rfl rfl (bE rfl rfl (decide_eq_true rfl) rfl (bD rfl rM rfl (bE rfl rfl (decide_eq_true rfl) rfl (bK 1 rfl rfl dT rfl rfl rfl (bE rfl rfl (decide_eq_true rfl) rfl (bD rfl rM rfl (bE rfl rfl (decide_eq_true rfl) rfl (bK 0 rfl rfl dT rfl rfl rfl (bE rfl rfl (decide_eq_true rfl) rfl (fY rfl rfl rfl (dE rfl (decide_eq_true rfl) rfl rfl (aU rfl rfl (bE rfl rfl (decide_eq_true rfl) rfl (bD rfl lB rfl (bE rfl rfl (decide_eq_true rfl) rfl (bK 1 rfl rfl dT rfl rfl rfl ?_))))))))))))))))))))))))))))));refine bE rfl rfl (decide_eq_true rfl) rfl (bD rfl lB rfl (bE rfl rfl (decide_eq_true rfl) rfl (bK 0 rfl rfl dT rfl rfl rfl (bE rfl rfl (decide_eq_true rfl) rfl (fY rfl rfl rfl (dE rfl (decide_eq_true rfl) rfl rfl (aU rfl rfl (bE rfl rfl (decide_eq_true rfl) rfl (bD rfl pR rfl (bE rfl rfl (decide_eq_true rfl) rfl (bK 1 rfl rfl gZ rfl rfl rfl (bE rfl rfl (decide_eq_true rfl) rfl (bD rfl pR rfl (bE rfl rfl (decide_eq_true rfl) rfl (bK 0 rfl rfl gZ rfl rfl rfl (bE rfl rfl (decide_eq_true rfl) rfl (bR rfl (aAy _ _ _ _ s.C s.C _ hs ht hl hl) rfl (dE rfl (decide_eq_true rfl) rfl rfl (aU rfl rfl (bE rfl rfl (decide_eq_true rfl) rfl (bD rfl yW rfl (bE rfl rfl (decide_eq_true rfl) rfl (bK 1 rfl rfl oA rfl rfl rfl (bE rfl rfl (decide_eq_true rfl) rfl (bD rfl yW rfl (bE rfl rfl (decide_eq_true rfl) rfl (bK 0 rfl rfl oA rfl rfl rfl (bE rfl rfl (decide_eq_true rfl) rfl (aCm (l:=n32 s.D) (m:=n32 s.D) rfl rfl rfl rfl rfl rfl Tryz.underlying34 aNd Tryz.underlying5 lR rfl (dE rfl (decide_eq_true rfl) rfl rfl ?_))))))))))))))))))))))))))))));refine bA rfl rfl (aE (aR (bW ?_)));refine ⟨rfl,_,[],rfl,(by repeat(first|exact sL _|apply sC)),bX.mk ?_⟩
 exact congrArg Value.bool (decide_eq_true rfl)
theorem nJ (a b : Option Addr) (c d : Nat) (x : Int × List Int) (H : Hp) (hs : SlR opR H a c [x]) (ht : SlR opR H b d [x]) (hl : x.2.length < 9223372036854775808) : FnC Tryz.prog 13 #[.slice a 1 c,.slice b 1 d] H [] (bX (fun v _ _=>v = .bool true)):=by
 refine FnC.intro (args:=[.slice a 1 c,.slice b 1 d]) Tryz.func13 rfl rfl Tryz.ntmps13 rfl rfl rfl fun G rest=>?_
 refine aZ (aH (bA rfl rfl (aE (aR (aZ (aZ (aH (aU rfl rfl (cH (ts:=#[]) rfl Tryz.underlying43 rfl (aU rfl rfl (cH (ts:=#[]) rfl Tryz.underlying43 rfl (fZ rfl rfl rfl (aE (aR (dY rfl (decide_eq_false (by simp)) (bS (aR (aZ (aZ (aH (bA rfl rfl (aE (aR (bT (cE [5,0,1] rfl (eE (base:=[(0,_),(1,_)]) (fun ζ : Nat=>[(5,.int .i64 (ζ : Nat))]) (fun ζ Hl own=>ζ ≤ 1 ∧ rest = own) (fun ζ=>1 - ζ) 0 (aQ rfl (aQ rfl (aQ rfl bP))) (by repeat(first|exact sL _|apply sD|apply sC)) ⟨Nat.zero_le _,rfl⟩ ?_))))))))))))))))))))))))));rintro k Hl0 _ bM ⟨hkk,rfl⟩;replace hs:=hs.mono bM;replace ht:=ht.mono bM
 try dsimp only at ⊢
 refine aZ (aZ (aH (aU rfl rfl (aU rfl rfl (cH (ts:=#[]) rfl Tryz.underlying43 rfl (dN rfl rfl rfl (aE (aR (cW rfl (fun c1_1=>?_) (fun c1_1=>?_))))))))))
 ·change ((k : Nat) : Int) < ((1 : Nat) : Int) at c1_1
  have hk0 : k = 0:=by omega
  refine bS (aR (aZ (bT (aZ (cE [0,1,5] rfl ?_)))))
  have e1 : ([x] : List (Int × List Int)).length = 1:=rfl
  obtain ⟨bEX,oEX,rfl⟩:=hs.addr (by omega);obtain ⟨_,xX,hxX,⟨axX,cxX,rfl,hdX⟩,hpX⟩:=hs.elem (k) (by omega);obtain ⟨bEY,oEY,rfl⟩:=ht.addr (by omega);obtain ⟨_,xY,hxY,⟨axY,cxY,rfl,hdY⟩,hpY⟩:=ht.elem (k) (by omega);obtain rfl:=Option.some.inj (hxX.symm.trans hxY)
  have hxX0 : x = xX:=by rw [hk0] at hxX;exact Option.some.inj hxX
  subst hxX0
  apply iG (fun _=>True) trivial [] (by decide) (fun _ _ _ _=>True) (fun _ _ _ _ _ _ h=>h) 22 [eqF _,eqF _,eqF _,eqF _,eqF _,eqF _,eqF _,eqF _,eqF _,eqF _,eqF _,eqF _,eqF _,eqF _,eqF _,eqF _,eqF _,eqF _,eqF _,eqF _,eqF _,eqF _] follows (by kernel_rfl) ⟨bB _,bB _,bB _,bB _,bB _,bB _,bB _,bB _,bB _,bB _,bB _,bB _,bB _,bB _,bB _,bB _,bB _,bB _,bB _,bB _,bB _,bB _,trivial⟩ (by decide) ?steps2 ?tail2
  case steps2 =>
   refine bJ rfl ?_ ?_
   ·intro X ext HD aD _
    replace hs:=hs.mono aD;replace ht:=ht.mono aD;replace hpX:=hpX.mono aD;replace hdX:=hdX.mono aD;replace hpY:=hpY.mono aD;replace hdY:=hdY.mono aD;replace bM:=bM.trans aD;exact bG rfl (aU rfl rfl (aE (bN rfl trivial rfl)))
   refine bJ rfl ?_ ?_
   ·intro X ext HD aD _
    replace hs:=hs.mono aD;replace ht:=ht.mono aD;replace hpX:=hpX.mono aD;replace hdX:=hdX.mono aD;replace hpY:=hpY.mono aD;replace hdY:=hdY.mono aD;replace bM:=bM.trans aD;exact bG rfl (aU rfl rfl (aE (bN rfl trivial rfl)))
   refine bJ rfl ?_ ?_
   ·intro X ext HD aD _
    replace hs:=hs.mono aD;replace ht:=ht.mono aD;replace hpX:=hpX.mono aD;replace hdX:=hdX.mono aD;replace hpY:=hpY.mono aD;replace hdY:=hdY.mono aD;replace bM:=bM.trans aD;exact wQq rfl rfl rfl (wQq rfl rfl rfl (bG rfl (fG rfl rfl Tryz.underlying43 gK (by omega) (by omega) rfl (aE (bN rfl trivial rfl)))))
   refine bJ rfl ?_ ?_
   ·intro X ext HD aD _
    replace hs:=hs.mono aD;replace ht:=ht.mono aD;replace hpX:=hpX.mono aD;replace hdX:=hdX.mono aD;replace hpY:=hpY.mono aD;replace hdY:=hdY.mono aD;replace bM:=bM.trans aD;exact wQq rfl rfl rfl (bG rfl (bD rfl yF rfl (aE (bN rfl trivial rfl))))
   refine bJ rfl ?_ ?_
   ·intro X ext HD aD _
    replace hs:=hs.mono aD;replace ht:=ht.mono aD;replace hpX:=hpX.mono aD;replace hdX:=hdX.mono aD;replace hpY:=hpY.mono aD;replace hdY:=hdY.mono aD;replace bM:=bM.trans aD;exact wQq rfl rfl rfl (bG rfl (gG rfl (by assumption) dT rfl rfl rfl (aE (bN rfl trivial rfl))))
   refine bJ rfl ?_ ?_
   ·intro X ext HD aD _
    replace hs:=hs.mono aD;replace ht:=ht.mono aD;replace hpX:=hpX.mono aD;replace hdX:=hdX.mono aD;replace hpY:=hpY.mono aD;replace hdY:=hdY.mono aD;replace bM:=bM.trans aD;exact bG rfl (aU rfl rfl (aE (bN rfl trivial rfl)))
   refine bJ rfl ?_ ?_
   ·intro X ext HD aD _
    replace hs:=hs.mono aD;replace ht:=ht.mono aD;replace hpX:=hpX.mono aD;replace hdX:=hdX.mono aD;replace hpY:=hpY.mono aD;replace hdY:=hdY.mono aD;replace bM:=bM.trans aD;exact bG rfl (aU rfl rfl (aE (bN rfl trivial rfl)))
   refine bJ rfl ?_ ?_
   ·intro X ext HD aD _
    replace hs:=hs.mono aD;replace ht:=ht.mono aD;replace hpX:=hpX.mono aD;replace hdX:=hdX.mono aD;replace hpY:=hpY.mono aD;replace hdY:=hdY.mono aD;replace bM:=bM.trans aD;exact wQq rfl rfl rfl (wQq rfl rfl rfl (bG rfl (fG rfl rfl Tryz.underlying43 gK (by omega) (by omega) rfl (aE (bN rfl trivial rfl)))))
   refine bJ rfl ?_ ?_
   ·intro X ext HD aD _
    replace hs:=hs.mono aD;replace ht:=ht.mono aD;replace hpX:=hpX.mono aD;replace hdX:=hdX.mono aD;replace hpY:=hpY.mono aD;replace hdY:=hdY.mono aD;replace bM:=bM.trans aD;exact wQq rfl rfl rfl (bG rfl (bD rfl yF rfl (aE (bN rfl trivial rfl))))
   refine bJ rfl ?_ ?_
   ·intro X ext HD aD _
    replace hs:=hs.mono aD;replace ht:=ht.mono aD;replace hpX:=hpX.mono aD;replace hdX:=hdX.mono aD;replace hpY:=hpY.mono aD;replace hdY:=hdY.mono aD;replace bM:=bM.trans aD;exact wQq rfl rfl rfl (bG rfl (gG rfl (by assumption) dT rfl rfl rfl (aE (bN rfl trivial rfl))))
   refine bJ rfl ?_ ?_
   ·intro X ext HD aD _
    replace hs:=hs.mono aD;replace ht:=ht.mono aD;replace hpX:=hpX.mono aD;replace hdX:=hdX.mono aD;replace hpY:=hpY.mono aD;replace hdY:=hdY.mono aD;replace bM:=bM.trans aD;exact wQq rfl rfl rfl (wQq rfl rfl rfl (bG rfl (fZ rfl rfl rfl (aE (bN rfl trivial rfl)))))
   refine bJ rfl ?_ ?_
   ·intro X ext HD aD _
    replace hs:=hs.mono aD;replace ht:=ht.mono aD;replace hpX:=hpX.mono aD;replace hdX:=hdX.mono aD;replace hpY:=hpY.mono aD;replace hdY:=hdY.mono aD;replace bM:=bM.trans aD;exact wQq rfl rfl rfl (bG rfl (aU rfl rfl (aE (bN rfl trivial rfl))))
   refine bJ rfl ?_ ?_
   ·intro X ext HD aD _
    replace hs:=hs.mono aD;replace ht:=ht.mono aD;replace hpX:=hpX.mono aD;replace hdX:=hdX.mono aD;replace hpY:=hpY.mono aD;replace hdY:=hdY.mono aD;replace bM:=bM.trans aD;exact wQq rfl rfl rfl (bG rfl (bE rfl rfl (decide_eq_false (by simp)) rfl (aU rfl rfl (aE (bN rfl trivial rfl)))))
   refine bJ rfl ?_ ?_
   ·intro X ext HD aD _
    replace hs:=hs.mono aD;replace ht:=ht.mono aD;replace hpX:=hpX.mono aD;replace hdX:=hdX.mono aD;replace hpY:=hpY.mono aD;replace hdY:=hdY.mono aD;replace bM:=bM.trans aD;exact wQq rfl rfl rfl (bG rfl (bE rfl rfl (decide_eq_false (by simp)) rfl (aU rfl rfl (aE (bN rfl trivial rfl)))))
   refine bJ rfl ?_ ?_
   ·intro X ext HD aD _
    replace hs:=hs.mono aD;replace ht:=ht.mono aD;replace hpX:=hpX.mono aD;replace hdX:=hdX.mono aD;replace hpY:=hpY.mono aD;replace hdY:=hdY.mono aD;replace bM:=bM.trans aD;exact wQq rfl rfl rfl (wQq rfl rfl rfl (wQq rfl rfl rfl (bG rfl (bE rfl rfl (decide_eq_false (by simp)) rfl (fG rfl rfl Tryz.underlying43 gK (by omega) (by omega) rfl (aE (bN rfl trivial rfl)))))))
   refine bJ rfl ?_ ?_
   ·intro X ext HD aD _
    replace hs:=hs.mono aD;replace ht:=ht.mono aD;replace hpX:=hpX.mono aD;replace hdX:=hdX.mono aD;replace hpY:=hpY.mono aD;replace hdY:=hdY.mono aD;replace bM:=bM.trans aD;exact wQq rfl rfl rfl (wQq rfl rfl rfl (bG rfl (bE rfl rfl (decide_eq_false (by simp)) rfl (bD rfl aEt rfl (aE (bN rfl trivial rfl))))))
   refine bJ rfl ?_ ?_
   ·intro X ext HD aD _
    replace hs:=hs.mono aD;replace ht:=ht.mono aD;replace hpX:=hpX.mono aD;replace hdX:=hdX.mono aD;replace hpY:=hpY.mono aD;replace hdY:=hdY.mono aD;replace bM:=bM.trans aD;exact wQq rfl rfl rfl (wQq rfl rfl rfl (bG rfl (bE rfl rfl (decide_eq_false (by simp)) rfl (gG rfl (by assumption) gZ rfl rfl rfl (aE (bN rfl trivial rfl))))))
   refine bJ rfl ?_ ?_
   ·intro X ext HD aD _
    replace hs:=hs.mono aD;replace ht:=ht.mono aD;replace hpX:=hpX.mono aD;replace hdX:=hdX.mono aD;replace hpY:=hpY.mono aD;replace hdY:=hdY.mono aD;replace bM:=bM.trans aD;exact wQq rfl rfl rfl (bG rfl (bE rfl rfl (decide_eq_false (by simp)) rfl (aU rfl rfl (aE (bN rfl trivial rfl)))))
   refine bJ rfl ?_ ?_
   ·intro X ext HD aD _
    replace hs:=hs.mono aD;replace ht:=ht.mono aD;replace hpX:=hpX.mono aD;replace hdX:=hdX.mono aD;replace hpY:=hpY.mono aD;replace hdY:=hdY.mono aD;replace bM:=bM.trans aD;exact wQq rfl rfl rfl (bG rfl (bE rfl rfl (decide_eq_false (by simp)) rfl (aU rfl rfl (aE (bN rfl trivial rfl)))))
   refine bJ rfl ?_ ?_
   ·intro X ext HD aD _
    replace hs:=hs.mono aD;replace ht:=ht.mono aD;replace hpX:=hpX.mono aD;replace hdX:=hdX.mono aD;replace hpY:=hpY.mono aD;replace hdY:=hdY.mono aD;replace bM:=bM.trans aD;exact wQq rfl rfl rfl (wQq rfl rfl rfl (wQq rfl rfl rfl (bG rfl (bE rfl rfl (decide_eq_false (by simp)) rfl (fG rfl rfl Tryz.underlying43 gK (by omega) (by omega) rfl (aE (bN rfl trivial rfl)))))))
   refine bJ rfl ?_ ?_
   ·intro X ext HD aD _
    replace hs:=hs.mono aD;replace ht:=ht.mono aD;replace hpX:=hpX.mono aD;replace hdX:=hdX.mono aD;replace hpY:=hpY.mono aD;replace hdY:=hdY.mono aD;replace bM:=bM.trans aD;exact wQq rfl rfl rfl (wQq rfl rfl rfl (bG rfl (bE rfl rfl (decide_eq_false (by simp)) rfl (bD rfl aEt rfl (aE (bN rfl trivial rfl))))))
   refine bJ rfl ?_ ?_
   ·intro X ext HD aD _
    replace hs:=hs.mono aD;replace ht:=ht.mono aD;replace hpX:=hpX.mono aD;replace hdX:=hdX.mono aD;replace hpY:=hpY.mono aD;replace hdY:=hdY.mono aD;replace bM:=bM.trans aD;exact wQq rfl rfl rfl (wQq rfl rfl rfl (bG rfl (bE rfl rfl (decide_eq_false (by simp)) rfl (gG rfl (by assumption) gZ rfl rfl rfl (aE (bN rfl trivial rfl))))))
   exact gI rfl
  case tail2 =>
   intro HD aD _
   replace hs:=hs.mono aD;replace ht:=ht.mono aD;replace hpX:=hpX.mono aD;replace hdX:=hdX.mono aD;replace hpY:=hpY.mono aD;replace hdY:=hdY.mono aD;replace bM:=bM.trans aD;refine wQq rfl rfl rfl (wQq rfl rfl rfl (wQq rfl rfl rfl (wQq rfl rfl rfl (wQq rfl rfl rfl (wQq rfl rfl rfl (wQq rfl rfl rfl (wQq rfl rfl rfl (wQq rfl rfl rfl (wQq rfl rfl rfl (wQq rfl rfl rfl (wQq rfl rfl rfl (wQq rfl rfl rfl (wQq rfl rfl rfl (wQq rfl rfl rfl (wQq rfl rfl rfl (wQq rfl rfl rfl (wQq rfl rfl rfl (wQq rfl rfl rfl (wQq rfl rfl rfl (wQq rfl rfl rfl (wQq rfl rfl rfl (bG rfl (fL (bE rfl rfl (decide_eq_false (by simp)) rfl (bR rfl (aAy _ _ _ _ x.2 x.2 _ hdX hdY hl hl) rfl (bE rfl rfl (decide_eq_false (by simp)) rfl (sE rfl rfl (dL rfl (decide_eq_false (by simp)) rfl rfl (aE (aR ?_))))))))))))))))))))))))))))));refine dY rfl (decide_eq_false (fun h=>h rfl)) (bS (dP (aR (aH (aU rfl rfl (dJ rfl rfl (bU (by omega) (by omega)) rfl (bA rfl rfl (aE (cR (k + 1) (by show 1 - (k + 1) < 1 - k;omega) (aQ rfl (aQ rfl (aQ rfl bP))) (⟨by show k + 1 ≤ 1;omega,rfl⟩) (by repeat(first|exact sL _|apply sD|apply sC)) (bM))))))))))
 refine dX (dA (cZ (dI rfl (aR (aZ (aH (bA rfl rfl (aE (aR (bW ?_))))))))));refine ⟨rfl,_,[],rfl,(by repeat(first|exact sL _|apply sC)),bX.mk ?_⟩
 rfl
end Go.Proofs
