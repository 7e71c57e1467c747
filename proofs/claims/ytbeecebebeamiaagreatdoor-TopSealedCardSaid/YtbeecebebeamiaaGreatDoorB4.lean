/- Walks that are alike in other seats,in this seat's numbers. -/
import Derived.Test.YtbeecebebeamiaaGreatDoorB3
set_option autoImplicit false
set_option linter.unusedVariables false
set_option linter.unusedSimpArgs false
namespace Go.Proofs
open Go.XL
theorem aKt (x : Int) (H : Hp) : FnC Tryz.prog 96 #[.int .i64 x] H [] (bX (fun v _ _=>v = .bool false)):=by
 refine FnC.intro (args:=[.int .i64 x]) Tryz.func96 rfl rfl Tryz.ntmps96 rfl rfl rfl fun G rest=>?_
 refine aZ (aH (bA rfl rfl (aE (aR (aZ (aH (aU rfl rfl (aU rfl rfl (fZ rfl rfl rfl (bA rfl rfl (aE (aR (bW ?_)))))))))))));refine ⟨rfl,_,[],rfl,(by repeat(first|exact sL _|apply sC)),bX.mk ?_⟩
 exact congrArg Value.bool (decide_eq_false (fun h=>h rfl))
theorem tQ (x y : Int) (H : Hp) : FnC Tryz.prog 46 #[.int .i64 x,.int .i64 y] H [] (bX (fun v _ _=>v = .int .i64 (sgn x y))):=by
 refine FnC.intro (args:=[.int .i64 x,.int .i64 y]) Tryz.func46 rfl rfl Tryz.ntmps46 rfl rfl rfl fun G rest=>?_
 refine aZ (aH (bA rfl rfl (aE (aR (aZ (aH (aU rfl rfl (bR rfl (aKt x _) rfl (bA rfl rfl (aE (aR (aZ (aH (aU rfl rfl (bR rfl (aKt y _) rfl (bA rfl rfl (aE (aR (aZ (aZ (aH (aU rfl rfl (aE (aR (dY rfl rfl (bS (aR (aZ (aZ (aH ?_))))))))))))))))))))))))))))));refine aU rfl rfl (aE (aR (dY rfl rfl (bS (aR (aZ (aZ (aH (aU rfl rfl (aU rfl rfl (dN rfl rfl rfl (aE (aR (cW rfl (fun c3_3=>?_) (fun c3_3=>?_)))))))))))))))
 ·refine aZ (aH (bA rfl rfl (aE (aR (bW (bY ?_))))));refine ⟨rfl,_,[],rfl,(by repeat(first|exact sL _|apply sC)),bX.mk ?_⟩
  first | exact congrArg (Value.int .i64) (uK (by assumption)).symm | exact congrArg (Value.int .i64) (aEo (by assumption)).symm | exact congrArg (Value.int .i64) (aFd (by assumption) (by assumption)).symm
 refine bS (aR (aZ (aZ (aH (aU rfl rfl (aU rfl rfl (lT rfl rfl rfl (aE (aR (cW rfl (fun c4_4=>?_) (fun c4_4=>?_)))))))))))
 ·refine aZ (aH (bA rfl rfl (aE (aR (bW (bY ?_))))));refine ⟨rfl,_,[],rfl,(by repeat(first|exact sL _|apply sC)),bX.mk ?_⟩
  first | exact congrArg (Value.int .i64) (uK (by assumption)).symm | exact congrArg (Value.int .i64) (aEo (by assumption)).symm | exact congrArg (Value.int .i64) (aFd (by assumption) (by assumption)).symm
 refine bS (aR (aZ (aH (bA rfl rfl (aE (aR (bW ?_)))))));refine ⟨rfl,_,[],rfl,(by repeat(first|exact sL _|apply sC)),bX.mk ?_⟩
 first | exact congrArg (Value.int .i64) (uK (by assumption)).symm | exact congrArg (Value.int .i64) (aEo (by assumption)).symm | exact congrArg (Value.int .i64) (aFd (by assumption) (by assumption)).symm
theorem aCt (a b : Option Addr) (c d : Nat) (l m : List Int) (H : Hp) (hs : SlR (eO .i64) H a c l) (ht : SlR (eO .i64) H b d m) (hl : l.length < 9223372036854775808) (hm : m.length < 9223372036854775808) : FnC Tryz.prog 73 #[.slice a l.length c,.slice b m.length d] H [] (bX (fun v _ _=>v = .int .i64 (iD l m))):=by
 refine FnC.intro (args:=[.slice a l.length c,.slice b m.length d]) Tryz.func73 rfl rfl Tryz.ntmps73 rfl rfl rfl fun G rest=>?_
 refine aZ (aH (bA rfl rfl (aE (aR (aZ (aZ (aH (aU rfl rfl (cH (ts:=#[]) rfl Tryz.underlying26 rfl (aU rfl rfl (aE (aR (bT (cE [11,0,1,9,10] rfl (eE (base:=[(0,_),(1,_),(9,_),(10,_)]) (fun ζ : Nat=>[(11,.int .i64 (ζ : Nat))]) (fun ζ Hl own=>ζ ≤ l.length ∧ rest = own ∧ (iD l m = iD (l.drop (ζ)) (m.drop (ζ)))) (fun ζ=>l.length - ζ) 0 (aQ rfl (aQ rfl (aQ rfl (aQ rfl (aQ rfl bP))))) (by repeat(first|exact sL _|apply sD|apply sC)) ⟨Nat.zero_le _,rfl,rfl⟩ ?_)))))))))))))));rintro k Hl0 _ bM ⟨hkk,rfl,hc⟩;replace hs:=hs.mono bM;replace ht:=ht.mono bM
 try dsimp only at ⊢
 refine aZ (aH (dN rfl rfl rfl (aE (aR (aZ (cW rfl (fun gJ=>?_) (fun gJ=>?_)))))))
 ·refine bS (aR (aZ (bT (aZ (aH (aU rfl rfl (dK rfl hs rfl Tryz.underlying26 dT (by omega) rfl ?_)))))));rintro eb14 eo14 _ x14 gO rfl gW;refine cQ rfl (by assumption) dT rfl rfl rfl (bA rfl rfl (bA rfl rfl (aE (aR (aZ (aZ (aH (aU rfl rfl (aU rfl rfl (cH (ts:=#[]) rfl Tryz.underlying26 rfl (jC rfl rfl rfl (aE (aR (cW rfl (fun qU=>?_) (fun qU=>?_)))))))))))))))
  ·refine aZ (aH (bA rfl rfl (aE (aR (bW (bY (dQ (bY (eG (dQ (bY ?_)))))))))));refine ⟨rfl,_,[],rfl,(by repeat(first|exact sL _|apply sC)),bX.mk ?_⟩
   first | exact congrArg (Value.int .i64) (yE hc gO (by omega)) | exact congrArg (Value.int .i64) (aFa hc gO hx22 (by assumption)) | exact congrArg (Value.int .i64) (by rw [hce,if_pos (by omega)]) | exact congrArg (Value.int .i64) (by rw [hce,if_neg (by omega)])
  refine bS (aR (aZ (aH (aU rfl rfl (aU rfl rfl (dK rfl ht rfl Tryz.underlying26 dT (by omega) rfl ?_))))));rintro eb22 eo22 _ x22 hx22 rfl hp22;refine cQ rfl (by assumption) dT rfl rfl rfl (bA rfl rfl (aE (aR (aZ (aH (aU rfl rfl (aU rfl rfl (bR rfl (tQ x14 x22 _) rfl (bA rfl rfl (aE (aR (aZ (aH (aU rfl rfl (fZ rfl rfl rfl (aE (aR (cW rfl (fun c2_6=>?_) (fun c2_6=>?_)))))))))))))))))))
  ·refine aZ (aH (aU rfl rfl (bA rfl rfl (aE (aR (bW (dQ (bY (eG (dQ (bY ?_)))))))))));refine ⟨rfl,_,[],rfl,(by repeat(first|exact sL _|apply sC)),bX.mk ?_⟩
   first | exact congrArg (Value.int .i64) (yE hc gO (by omega)) | exact congrArg (Value.int .i64) (aFa hc gO hx22 (by assumption)) | exact congrArg (Value.int .i64) (by rw [hce,if_pos (by omega)]) | exact congrArg (Value.int .i64) (by rw [hce,if_neg (by omega)])
  refine bS (dP (aR (aH (dJ rfl rfl (bU (by omega) (by omega)) rfl (aU rfl rfl (aE (cR (k + 1) (by show l.length - (k + 1) < l.length - k;omega) (aQ rfl (aQ rfl (aQ rfl (aQ rfl (aQ rfl bP))))) (⟨by show k + 1 ≤ l.length;omega,rfl,cmp_eq hc gO hx22 (by omega)⟩) (by repeat(first|exact sL _|apply sD|apply sC)) (bM))))))))
 obtain rfl : k = l.length:=by omega
 have hce:=cmp_end hc (Nat.le_refl _)
 refine dX (dA (cZ (dI rfl (aR (aZ (aZ (aH (aU rfl rfl (cH (ts:=#[]) rfl Tryz.underlying26 rfl (aU rfl rfl (cH (ts:=#[]) rfl Tryz.underlying26 rfl (dN rfl rfl rfl (aE (aR (cW rfl (fun c3_7=>?_) (fun c3_7=>?_))))))))))))))))
 ·refine aZ (aH (bA rfl rfl (aE (aR (bW (bY ?_))))));refine ⟨rfl,_,[],rfl,(by repeat(first|exact sL _|apply sC)),bX.mk ?_⟩
  first | exact congrArg (Value.int .i64) (yE hc gO (by omega)) | exact congrArg (Value.int .i64) (aFa hc gO hx22 (by assumption)) | exact congrArg (Value.int .i64) (by rw [hce,if_pos (by omega)]) | exact congrArg (Value.int .i64) (by rw [hce,if_neg (by omega)])
 refine bS (aR (aZ (aH (bA rfl rfl (aE (aR (bW ?_)))))));refine ⟨rfl,_,[],rfl,(by repeat(first|exact sL _|apply sC)),bX.mk ?_⟩
 first | exact congrArg (Value.int .i64) (yE hc gO (by omega)) | exact congrArg (Value.int .i64) (aFa hc gO hx22 (by assumption)) | exact congrArg (Value.int .i64) (by rw [hce,if_pos (by omega)]) | exact congrArg (Value.int .i64) (by rw [hce,if_neg (by omega)])
end Go.Proofs

namespace Go.Proofs
open Go.XL
theorem aNa (a : Option Addr) (c : Nat) (l : List Int) (H : Hp) (hs : SlR (eO .i64) H a c l) (hl : l.length < 9223372036854775808) : FnC Tryz.prog 101 #[.slice a l.length c] H [] (bX (fun v _ _=>v = .int .i64 (orL l))):=by
 refine FnC.intro (args:=[.slice a l.length c]) Tryz.func101 rfl rfl Tryz.ntmps101 rfl rfl rfl fun G rest=>?_
 refine aZ (aH (bA rfl rfl (aE (aR (aZ (aH (bA rfl rfl (aE (aR (aZ (aZ (aH (aU rfl rfl (cH (ts:=#[]) rfl Tryz.underlying26 rfl (aU rfl rfl (aE (aR (bT (cE [8,3,6,7] rfl (eE (base:=[(3,_),(6,_),(7,_)]) (fun ζ : Nat=>[(8,.int .i64 (ζ : Nat))]) (fun ζ Hl own=>ζ ≤ l.length ∧ rest = own ∧ (∀ y ∈ l.take ζ,¬ (y ≠ 0))) (fun ζ=>l.length - ζ) 0 (aQ rfl (aQ rfl (aQ rfl (aQ rfl bP)))) (by repeat(first|exact sL _|apply sD|apply sC)) ⟨Nat.zero_le _,rfl,by simp⟩ ?_))))))))))))))))))));rintro k Hl0 _ bM ⟨hkk,rfl,hno⟩;replace hs:=hs.mono bM
 try dsimp only at ⊢
 refine aZ (aH (dN rfl rfl rfl (aE (aR (aZ (cW rfl (fun gJ=>?_) (fun gJ=>?_)))))))
 ·refine bS (aR (aZ (bT (aZ (aH (dK rfl hs rfl Tryz.underlying26 dT (by omega) rfl ?_))))));rintro eb10 eo10 _ x10 hx10 rfl hp10;refine cQ rfl (by assumption) dT rfl rfl rfl (bA rfl rfl (aE (aR (aZ (aH (aU rfl rfl (aU rfl rfl (fZ rfl rfl rfl (aE (aR (cW rfl (fun qU=>?_) (fun qU=>?_))))))))))))
  ·refine aZ (aH (aU rfl rfl (bA rfl rfl (aE (aR (bW (dQ (bY (eG (dQ (bY ?_)))))))))));refine ⟨rfl,_,[],rfl,(by repeat(first|exact sL _|apply sC)),bX.mk ?_⟩
   first | exact congrArg (Value.int .i64) (aNr hno hx10 (by omega)) | exact congrArg (Value.int .i64) (aM7 hno)
  refine bS (dP (aR (aH (dJ rfl rfl (bU (by omega) (by omega)) rfl (aU rfl rfl (aE (cR (k + 1) (by show l.length - (k + 1) < l.length - k;omega) (aQ rfl (aQ rfl (aQ rfl (aQ rfl bP)))) (⟨by show k + 1 ≤ l.length;omega,rfl,aCv hno hx10 (by omega)⟩) (by repeat(first|exact sL _|apply sD|apply sC)) (bM))))))))
 obtain rfl : k = l.length:=by omega
 rw [List.take_length] at hno
 refine dX (dA (cZ (dI rfl (aR (aZ (aH (aU rfl rfl (bA rfl rfl (aE (aR (bW ?_)))))))))));refine ⟨rfl,_,[],rfl,(by repeat(first|exact sL _|apply sC)),bX.mk ?_⟩
 first | exact congrArg (Value.int .i64) (aNr hno hx10 (by omega)) | exact congrArg (Value.int .i64) (aM7 hno)
theorem aCq (a : Option Addr) (c : Nat) (l : List Int) (g : Value) (q : Int → Prop) (H : Hp) (hs : SlR (eO .i64) H a c l) (hl : l.length < 9223372036854775808) (hg : ∀ x ∈ l,FnV Tryz.prog g [.int .i64 x] H [] (bX fun u _ _=>∃ b : Bool,u = .bool b ∧ (b = true ↔ q x))) : FnC Tryz.prog 130 #[.slice a l.length c,g] H [] (bX (fun v _ _=>∃ i : Int,v = .int .i64 i ∧ (0 ≤ i ↔ ∃ x ∈ l,q x))):=by
 refine FnC.intro (args:=[.slice a l.length c,g]) Tryz.func130 rfl rfl Tryz.ntmps130 rfl rfl rfl fun G rest=>?_
 refine aZ (aH (bA rfl rfl (aE (aR (aZ (aZ (aH (aU rfl rfl (cH (ts:=#[]) rfl Tryz.underlying26 rfl (aU rfl rfl (aE (aR (bT (cE [8,0,1,7] rfl (eE (base:=[(0,_),(1,_),(7,_)]) (fun ζ : Nat=>[(8,.int .i64 (ζ : Nat))]) (fun ζ Hl own=>ζ ≤ l.length ∧ rest = own ∧ (∀ x ∈ l.take ζ,¬ q x) ∧ (H = Hl)) (fun ζ=>l.length - ζ) 0 (aQ rfl (aQ rfl (aQ rfl (aQ rfl bP)))) (by repeat(first|exact sL _|apply sD|apply sC)) ⟨Nat.zero_le _,rfl,by simp,rfl⟩ ?_)))))))))))))));rintro k Hl0 _ bM ⟨hkk,rfl,hno,hHl⟩;replace hs:=hs.mono bM
 try dsimp only at ⊢
 subst hHl
 refine aZ (aH (dN rfl rfl rfl (aE (aR (aZ (cW rfl (fun gJ=>?_) (fun gJ=>?_)))))))
 ·refine bS (aR (aZ (bT (aZ (aH (aU rfl rfl (bA rfl rfl (aE (aR (aZ (aH (aU rfl rfl (aU rfl rfl (aU rfl rfl (dK rfl hs rfl Tryz.underlying26 dT (by omega) rfl ?_)))))))))))))));rintro eb14 eo14 _ x14 gO rfl gW;refine cQ rfl (by assumption) dT rfl rfl rfl (kE rfl trivial rfl (hg x14 (List.mem_of_getElem? gO)) rfl ?_);rintro _ ⟨bq,rfl,hqq⟩;refine aE (aR (gN rfl (fun uB=>?_) (fun uB=>?_)))
  ·refine aZ (aH (aU rfl rfl (bA rfl rfl (aE (aR (bW (dQ (bY (eG (dQ (bY ?_)))))))))));refine ⟨rfl,_,[],rfl,(by repeat(first|exact sL _|apply sC)),bX.mk ?_⟩
   exact ⟨_,rfl,⟨fun _=>⟨x14,List.mem_of_getElem? gO,hqq.1 (by assumption)⟩,fun _=>by omega⟩⟩
  refine bS (dP (aR (aH (dJ rfl rfl (bU (by omega) (by omega)) rfl (aU rfl rfl (aE (cR (k + 1) (by show l.length - (k + 1) < l.length - k;omega) (aQ rfl (aQ rfl (aQ rfl (aQ rfl bP)))) (⟨by show k + 1 ≤ l.length;omega,rfl,aCv hno gO (fun h=>by simp_all),rfl⟩) (by repeat(first|exact sL _|apply sD|apply sC)) (bM))))))))
 obtain rfl : k = l.length:=by omega
 rw [List.take_length] at hno
 refine dX (dA (cZ (dI rfl (aR (aZ (aH (bA rfl rfl (aE (aR (bW ?_))))))))));refine ⟨rfl,_,[],rfl,(by repeat(first|exact sL _|apply sC)),bX.mk ?_⟩
 exact ⟨-1,rfl,⟨fun h=>absurd h (by decide),fun ⟨x,hx,hq⟩=>absurd hq (hno x hx)⟩⟩
theorem yY (a : Option Addr) (c : Nat) (l : List Int) (g : Value) (q : Int → Prop) (H : Hp) (hs : SlR (eO .i64) H a c l) (hl : l.length < 9223372036854775808) (hg : ∀ x ∈ l,FnV Tryz.prog g [.int .i64 x] H [] (bX fun u _ _=>∃ b : Bool,u = .bool b ∧ (b = true ↔ q x))) : FnC Tryz.prog 91 #[.slice a l.length c,g] H [] (bX (fun v _ _=>∃ b : Bool,v = .bool b ∧ (b = true ↔ ∃ x ∈ l,q x))):=by
 refine FnC.intro (args:=[.slice a l.length c,g]) Tryz.func91 rfl rfl Tryz.ntmps91 rfl rfl rfl fun G rest=>?_
 refine aZ (aH (bA rfl rfl (aE (aR (aZ (aH (aU rfl rfl (aU rfl rfl (jO rfl (aCq _ _ _ _ _ _ hs hl hg) rfl ?_)))))))));rintro _ ⟨iX,rfl,hX⟩;refine jC rfl rfl rfl (bA rfl rfl (aE (aR (bW ?_))));refine ⟨rfl,_,[],rfl,(by repeat(first|exact sL _|apply sC)),bX.mk ?_⟩
 exact ⟨_,rfl,by rw [decide_eq_true_iff];exact hX⟩
end Go.Proofs

namespace Go.XL
section
variable {C : Ctx} {ops : Array Oper} {Q : Exit → St → Prop} {rest : List Oper} {env : Env} {df : List Deferred} {H : Hp} {own : Own} {dst : Option Tmp} {ty : TypeId} {pos : String} {af : Array Edge}
theorem XO.eqlNilI {x : Operand} {t : TypeId} {v : Value} {ms : Array (String × TypeId)} {b : Bool} (hx : ev env x = some v) (hv : (v = .nilIface ∧ b = true) ∨ (∃ t2 u,v = .iface t2 u ∧ b = false)) (ht : C.P.underlying t = some (.interface ms)) (hd : eP C.N dst = true) (h : XO C ops Q rest ⟨fJ dst (.bool b) env,df,H,own⟩) {yt : TypeId} :
  XO C ops Q (⟨dst,.binOp .eql t x (.const .nilIface) yt,ty,pos,af,none⟩ :: rest) ⟨env,df,H,own⟩:=by
 refine fN rfl rfl hd (fun ρ ha w=>?_) h
 have hy : ρ (.const .nilIface) = .nilIface:=ha (.const .nilIface) _ rfl
 have hgd : ∀ w,(eqGuard .eql t x (.const .nilIface) v .nilIface).run C.P w = .ok () w:=by
  intro w
  rcases hv with ⟨rfl,rfl⟩ | ⟨t2,u,rfl,rfl⟩
  ·cases x <;> rfl
  rfl
 have hbin : (binOp .eql t v .nilIface).run C.P w = .ok (.bool b) w:=by
  have e1 : binOp .eql t v .nilIface = (do Pure.pure (Value.bool (← Op.equal t v .nilIface)) : Sem Value):=by
   rcases hv with ⟨rfl,rfl⟩ | ⟨t2,u,rfl,rfl⟩ <;> rfl
  have hv2 : (v = .nilIface ∧ (!b) = false) ∨ (∃ t2 u,v = .iface t2 u ∧ (!b) = true):=by
   rcases hv with ⟨h1,rfl⟩ | ⟨t2,u,h1,rfl⟩
   ·exact .inl ⟨h1,rfl⟩
   exact .inr ⟨t2,u,h1,rfl⟩
  rw [e1,Sem.run_bind,aCa hv2 ht]
  cases b <;> rfl
 simp only [execOp,ha _ _ hx,hy,Sem.run_bind,hgd]
 simp only [Result.andThen,hbin]
 rfl
theorem iI {x : Operand} {xs : List Operand} {ts : Array TypeId} {v : Value} {vs : List Value} {R : Value → Hp → Own → Prop} (hx : ev env x = some v) (hnf : match x with | .func _=>False | _=>True)
  (hxs : evs env xs = some vs) (hf : FnV C.P v vs H [] (bX R)) (hd : eP C.N dst = true)
  (h : ∀ u H' o,Le H H' → R u H' o → XO C ops Q rest ⟨fJ dst u env,df,H',own⟩) :
  XO C ops Q (⟨dst,.call { callee:=.value x,args:=xs.toArray,argTypes:=ts },ty,pos,af,none⟩ :: rest) ⟨env,df,H,own⟩ :=
 rL (l:=[]) (lH:=[]) (rst:=own) hx hnf hxs hf hd rfl (fun u H' own' hle hR=>⟨H',own,hle,Le.refl _,by simp,h u H' own' hle hR⟩) (fun _ _ _ _ hR=>hR.elim)
end
end Go.XL

namespace Go.Proofs
open Go.XL
abbrev PN : List PanicEntry:=[{ v:=.iface 23 (.int .i64 340),recovered:=false }]
theorem aMt {l : List Int} {m : Int} {b : Bool} (h : 1 ≤ l.length ∧ l.length ≤ 64) (hq : b = true ↔ ∃ x ∈ l,¬ (0 ≤ x ∧ x ≤ m)) : (!b) = decide (nB l m):=by
  cases b with
  | true =>
    obtain ⟨x,hx,hn⟩:=hq.1 rfl
    exact (decide_eq_false fun h2=>hn (h2.2 x hx)).symm
  | false =>
    refine (decide_eq_true ⟨h,fun x hx=>Decidable.byContradiction fun hn=>?_⟩).symm
    exact Bool.noConfusion (hq.2 ⟨x,hx,hn⟩)
theorem aMu {l : List Int} {m : Int} (h : ¬ (1 ≤ l.length ∧ l.length ≤ 64)) : false = decide (nB l m):=(decide_eq_false fun h2=>h h2.1).symm
theorem sel_ok {s : Card} (h : okC s) : (0 : Int) = aKj s:=(if_pos h).symm
theorem aLd {s : Card} (h : ¬ okC s) : (340 : Int) = aKj s:=(if_neg h).symm
def fU (s : Card) : List Int:=[s.R,s.E,s.J]
theorem aF9 (n : Int) : gD (iB n) = true:=aE5.2 ⟨rfl,rfl⟩
theorem aD3 : ∀ l : List Int,kN (l.map iB) = true
 | []=>rfl
 | x :: l=>by rw [List.map_cons,kN,aF9,aD3 l];rfl
theorem aGc : ∀ l : List Int,kR (l.map iB) = 0
 | []=>rfl
 | x :: l=>by rw [List.map_cons,kR,aGc l];rfl
theorem xI (s : Card) : gD (uH s) = true:=by
 unfold uH
 refine wH.2 ⟨⟨rfl,rfl⟩,?_⟩
 have h1 : gD (.mk 3 0 [] (s.C.map iB)) = true:=wH.2 ⟨⟨rfl,rfl⟩,aD3 _⟩
 have h2 : gD (.mk 2 0 s.D []) = true:=aEz.2 ⟨rfl,rfl⟩
 simp only [kN,aF9,h1,h2,Bool.and_self]
theorem aAi (s : Card) : jU (uH s) = 2:=by
 have h0:=aGc s.C
 have e1 : ∀ n,jU (iB n) = 0:=fun n=>rfl
 unfold uH
 simp only [jU,kR,if_true,e1,h0]
 rfl
theorem aJu (s : Card) : uT (uH s) = 0:=aM8 (xI s) (by rw [aAi];decide)
theorem aB6 : ∀ l : List Int,pI (l.map iB) = 20 * l.length
  | []=>rfl
  | x :: l=>by
    rw [List.map_cons,pI,aB6 l,List.length_cons]
    have : mK (iB x) = 20:=rfl
    omega
theorem val_wsz {s : Card} (h : s.C.length ≤ 64) (hD : s.D.length = 32) : mK (uH s) ≤ 1000000:=by
 unfold uH
 have e1 : ∀ n,mK (iB n) = 20:=fun n=>rfl
 have e2:=aB6 s.C
 simp only [mK,pI,e1,e2,List.length_nil,hD]
 omega
theorem yL {s : Card} (h : okC s) : (0 ≤ s.R ∧ s.R ≤ 7) ∧ (0 ≤ s.E ∧ s.E ≤ 4095) ∧ (0 ≤ s.J ∧ s.J ≤ 255) ∧ (1 ≤ s.C.length ∧ s.C.length ≤ 64) ∧ ∀ x ∈ s.C,0 ≤ x ∧ x ≤ 1073741788:=⟨h.1.1.1,h.1.1.2,h.1.2,h.2.1,h.2.2⟩
theorem rZ {n : Int} (h : -9223372036854775808 ≤ n ∧ n ≤ 9223372036854775807) : Fit (iB n):=.mk _ _ _ _ h (by decide) (by decide) (fun x hx=>by cases hx)
theorem aFl {s : Card} (h : okC s) (hD : s.D.length = 32) : Fit (uH s):=by
 obtain ⟨h1,h2,h3,h4,h5⟩:=yL h
 refine .mk _ _ _ _ (by decide) (by decide) (show (5 : Nat) < 2 ^ 63 by decide) fun x hx=>?_
 simp only [List.mem_cons,List.not_mem_nil,or_false] at hx
 rcases hx with rfl | rfl | rfl | rfl | rfl
 ·exact rZ (by omega)
 ·exact rZ (by omega)
 ·exact rZ (by omega)
 ·refine .mk _ _ _ _ (by decide) (by decide) (by rw [List.length_map];omega) fun x hx=>?_
  obtain ⟨n,hn,rfl⟩:=List.mem_map.1 hx
  have:=h5 n hn
  exact rZ (by omega)
 exact .mk _ _ _ _ (by decide) (by omega) (by decide) (fun x hx=>by cases hx)
theorem yC : ∀ {l m : List Int},l.map iB = m.map iB → l = m
  | [],[],_=>rfl
  | [],_ :: _,h=>by cases h
  | _ :: _,[],h=>by cases h
  | x :: l,y :: m,h=>by
    simp only [List.map_cons,List.cons.injEq,iB,Val.mk.injEq] at h
    rw [yC h.2,h.1.2.1]
theorem text_inj {s t : Card} (hs : okC s) (ht : okC t) (hD : s.D.length = 32) (hE : t.D.length = 32) (h : kA s = kA t) : s = t:=by
 unfold kA at h
 have e1 : eB (uH s) = mC (uH s):=by unfold eB;rw [if_pos (aJu s)]
 have e2 : eB (uH t) = mC (uH t):=by unfold eB;rw [if_pos (aJu t)]
 rw [e1,e2] at h
 have h3:=aI6 16 (uH s) [] (xI s) (by rw [aAi];decide) (aFl hs hD)
 have h4:=aI6 16 (uH t) [] (xI t) (by rw [aAi];decide) (aFl ht hE)
 rw [List.append_nil] at h3 h4
 rw [h,h4] at h3
 have h5 : uH t = uH s:=by simpa using h3
 obtain ⟨r,e,j,C,D⟩:=s;obtain ⟨r',e',j',C',D'⟩:=t
 simp only [uH,iB,Val.mk.injEq,List.cons.injEq,true_and,and_true] at h5
 obtain ⟨g1,g2,g3,g4,g5⟩:=h5
 subst g1;subst g2;subst g3;subst g5
 rw [yC g4]
def kP (s t : Card) : Int:=orL [iD (fU s) (fU t),uJ (kA s) (kA t)]
def aLz (s : Card) (H : Hp) (v : Value) : Prop:=∃ a c,v = .slice a (kA s).length c ∧ SlR u8R H a c (kA s)
end Go.Proofs

set_option maxRecDepth 100000
namespace Go.Proofs
open Go.XL
theorem rX : fW Tryz.prog 49 0 = some 0:=by kernel_rfl
theorem rM : fW Tryz.prog 49 1 = some 1:=by kernel_rfl
theorem lB : fW Tryz.prog 49 2 = some 2:=by kernel_rfl
theorem pR : fW Tryz.prog 49 3 = some 3:=by kernel_rfl
theorem mO : tyF Tryz.prog 23 1 false = true:=by kernel_rfl
theorem gZ : tyF Tryz.prog 26 1 false = true:=by kernel_rfl
theorem eI : tyF Tryz.prog 49 36 true = true:=by kernel_rfl
theorem xV : tyF Tryz.prog 83 3 true = true:=by kernel_rfl
theorem aAk : gH Tryz.prog 23 = some [.int .i64 0]:=by kernel_rfl
theorem aAn : gH Tryz.prog 83 = some [.int .i64 0,.int .i64 0,.int .i64 0]:=by kernel_rfl
theorem nH (n m : Int) (H : Hp) : FnC Tryz.prog 89 #[.int .i64 n,.int .i64 m] H [] (bX (fun v _ _=>v = .bool (decide (0 ≤ n ∧ n ≤ m)))):=by
 refine FnC.intro (args:=[.int .i64 n,.int .i64 m]) Tryz.func89 rfl rfl Tryz.ntmps89 rfl rfl rfl fun G rest=>?_
 refine aZ (aH (bA rfl rfl (aE (aR (aZ (aH (aU rfl rfl (jC rfl rfl rfl (aU rfl rfl (eW rfl rfl rfl rfl (fun g1=>?_) (fun g1=>?_)))))))))))
 ·have g1p:=of_decide_eq_true g1
  refine aU rfl rfl (bE rfl rfl (g1) rfl (aU rfl rfl (bE rfl rfl (g1) rfl (XO.leq rfl rfl rfl (dE rfl (g1) rfl rfl (bA rfl rfl (aE (aR (bW ?_)))))))));refine ⟨rfl,_,[],rfl,(by repeat(first|exact sL _|apply sC)),bX.mk ?_⟩
  first | rfl | exact congrArg Value.bool (decide_eq_decide.2 (by omega)) | exact congrArg Value.bool (decide_eq_false (by omega)).symm | exact congrArg Value.bool (decide_eq_true (by omega)).symm
 have g1p:=of_decide_eq_false g1
 refine bL rfl rfl (g1) rfl rfl (bL rfl rfl (g1) rfl rfl (dL rfl (g1) rfl rfl (bA rfl rfl (aE (aR (bW ?_))))));refine ⟨rfl,_,[],rfl,(by repeat(first|exact sL _|apply sC)),bX.mk ?_⟩
 first | rfl | exact congrArg Value.bool (decide_eq_decide.2 (by omega)) | exact congrArg Value.bool (decide_eq_false (by omega)).symm | exact congrArg Value.bool (decide_eq_true (by omega)).symm
theorem out_fn (n m : Int) (b : Nat) (H : Hp) (hp : PtH H b 0 [.int .i64 m]) : FnC Tryz.prog 90 #[.int .i64 n,.pointer (some ⟨b,0,none⟩)] H [] (bX (fun v _ _=>v = .bool (decide (¬ (0 ≤ n ∧ n ≤ m))))):=by
 refine FnC.intro (args:=[.int .i64 n,.pointer (some ⟨b,0,none⟩)]) Tryz.func90 rfl rfl Tryz.ntmps90 rfl rfl rfl fun G rest=>?_
 refine aZ (aH (bA rfl rfl (aE (aR (aZ (aH (aU rfl rfl (cQ rfl (by assumption) dT rfl rfl rfl (bR rfl (nH n m _) rfl (sE rfl rfl (bA rfl rfl (aE (aR (bW ?_))))))))))))));refine ⟨rfl,_,[],rfl,(by repeat(first|exact sL _|apply sC)),bX.mk ?_⟩
 rfl
theorem out_v (n m : Int) (b : Nat) (H : Hp) (hp : PtH H b 0 [.int .i64 m]) : FnV Tryz.prog (.func (.func 90) #[] #[.pointer (some ⟨b,0,none⟩)]) [.int .i64 n] H [] (bX fun u _ _=>∃ q : Bool,u = .bool q ∧ (q = true ↔ ¬ (0 ≤ n ∧ n ≤ m))):=by
 refine (FnV.of_fn (cap:=[_]) (args:=[_]) (out_fn n m b H hp)).mono ?_
 intro e H' o' hle h
 cases e with
 | returned u=>exact ⟨_,h,decide_eq_true_iff⟩
 | panicked _=>exact h
 | outgrown=>exact h
theorem xP (a : Option Addr) (c : Nat) (l : List Int) (H : Hp) (hs : SlR (eO .i64) H a c l) (hl : l.length < 9223372036854775808) (m : Int) : FnC Tryz.prog 37 #[.slice a l.length c,.int .i64 m] H [] (bX (fun v _ _=>v = .bool (decide (nB l m)))):=by
 refine FnC.intro (args:=[.slice a l.length c,.int .i64 m]) Tryz.func37 rfl rfl Tryz.ntmps37 rfl rfl rfl fun G rest=>?_
 refine aZ (aH (dZ rfl rfl rfl (fun b3=>bA rfl rfl (aE (aR (aZ (aH (dF 0 rfl rfl rfl (fun HK3 oK3 oD hbK3 hoK3=>?_)))))))))
 have hpK3:=PtH.of_is hbK3 hoK3
 replace hs:=hs.mono oD;refine gY rfl rfl (bA rfl rfl (aE (aR (aZ (aH (aU rfl rfl (cH (ts:=#[]) rfl Tryz.underlying26 rfl (iF rfl rfl (bU (by omega) (by omega)) rfl (bR rfl (nH ((l.length : Int) - 1) 63 _) rfl (aU rfl rfl (eW rfl rfl rfl rfl (fun g2=>?_) (fun g2=>?_))))))))))))
 ·have g2p:=of_decide_eq_true g2
  refine aU rfl rfl (bE rfl rfl (g2) rfl (aU rfl rfl (bE rfl rfl (g2) rfl (jO rfl (yY _ _ l _ (fun x=>¬ (0 ≤ x ∧ x ≤ m)) _ hs hl (fun x _=>out_v x m b3 _ hpK3)) rfl ?_))));rintro _ ⟨bq,rfl,hbq⟩;refine bE rfl rfl (g2) rfl (fC rfl rfl (dE rfl (g2) rfl rfl (bA rfl rfl (aE (aR (bW ?_))))));refine ⟨rfl,_,[],rfl,(by repeat(first|exact sL _|apply sC)),bX.mk ?_⟩
  first | exact congrArg Value.bool (aMt (by omega) hbq) | exact congrArg Value.bool (aMu (by omega))
 have g2p:=of_decide_eq_false g2
 refine bL rfl rfl (g2) rfl rfl (bL rfl rfl (g2) rfl rfl (bL rfl rfl (g2) rfl rfl (dL rfl (g2) rfl rfl (bA rfl rfl (aE (aR (bW ?_)))))));refine ⟨rfl,_,[],rfl,(by repeat(first|exact sL _|apply sC)),bX.mk ?_⟩
 first | exact congrArg Value.bool (aMt (by omega) hbq) | exact congrArg Value.bool (aMu (by omega))
theorem yM (b : Bool) (hb : b = true) (H : Hp) : FnC Tryz.prog 36 #[.bool b] H [] (bX (fun v _ _=>v = .tuple #[])):=by
 refine FnC.intro (args:=[.bool b]) Tryz.func36 rfl rfl Tryz.ntmps36 rfl rfl rfl fun G rest=>?_
 refine aZ (aH (aU rfl rfl (fC rfl rfl (aE (aR (dY rfl (by rw [hb];rfl) (bS ?_)))))));refine ⟨rfl,_,[],rfl,(by repeat(first|exact sL _|apply sC)),bX.mk ?_⟩
 rfl
theorem oX (b : Bool) (hb : b = false) (H : Hp) : FnC Tryz.prog 36 #[.bool b] H [] (zI PN):=by
 refine FnC.intro (args:=[.bool b]) Tryz.func36 rfl rfl Tryz.ntmps36 rfl rfl rfl fun G rest=>?_
 refine aZ (aH (aU rfl rfl (fC rfl rfl (aE (aR (eY rfl (by rw [hb];rfl) (aH (iL rfl Tryz.underlying23 (by intro _ h;cases h) rfl (XO.panic rfl ?_)))))))));refine ⟨rfl,[],(by repeat(first|exact sL _|apply sC)),zI.mk⟩
theorem aD9 (s : Card) (a : Option Addr) (c : Nat) (H : Hp) (hs : SlR (eO .i64) H a c s.C) (hD : s.D.length = 32) (hp : aKo s) : FnC Tryz.prog 35 #[.agg ⟨fA s.R s.E s.J s.C.length s.D a c⟩] H [] (bX (fun v _ _=>v = .tuple #[])):=by
 refine FnC.intro (args:=[.agg ⟨fA s.R s.E s.J s.C.length s.D a c⟩]) Tryz.func35 rfl rfl Tryz.ntmps35 rfl rfl rfl fun G rest=>?_
 refine aZ (aH (dZ rfl rfl rfl (fun b1=>aE (aR (aH (bD rfl rX rfl (bK 0 rfl rfl dT rfl rfl rfl (bR rfl (nH s.R 7 _) rfl (aU rfl rfl (bE rfl rfl (decide_eq_true hp.1.1) rfl (bD rfl rM rfl (bE rfl rfl (decide_eq_true hp.1.1) rfl (bK 0 rfl rfl dT rfl rfl rfl (bE rfl rfl (decide_eq_true hp.1.1) rfl (bR rfl (nH s.E 4095 _) rfl (dE rfl (decide_eq_true hp.1.1) rfl rfl (aU rfl rfl (bE rfl rfl (decide_eq_true hp.1.2) rfl (bD rfl lB rfl (bE rfl rfl (decide_eq_true hp.1.2) rfl (bK 0 rfl rfl dT rfl rfl rfl (bE rfl rfl (decide_eq_true hp.1.2) rfl (bR rfl (nH s.J 255 _) rfl (dE rfl (decide_eq_true hp.1.2) rfl rfl (bR rfl (yM _ (decide_eq_true hp.2) _) rfl (aE ?_))))))))))))))))))))))))));refine ⟨rfl,_,[],rfl,(by repeat(first|exact sL _|apply sC)),bX.mk ?_⟩
 rfl
theorem placed_bad (s : Card) (a : Option Addr) (c : Nat) (H : Hp) (hs : SlR (eO .i64) H a c s.C) (hD : s.D.length = 32) (hp : ¬ aKo s) : FnC Tryz.prog 35 #[.agg ⟨fA s.R s.E s.J s.C.length s.D a c⟩] H [] (zI PN):=by
 refine FnC.intro (args:=[.agg ⟨fA s.R s.E s.J s.C.length s.D a c⟩]) Tryz.func35 rfl rfl Tryz.ntmps35 rfl rfl rfl fun G rest=>?_
 refine aZ (aH (dZ rfl rfl rfl (fun b1=>aE (aR (aH (bD rfl rX rfl (bK 0 rfl rfl dT rfl rfl rfl (bR rfl (nH s.R 7 _) rfl (aU rfl rfl (eW rfl rfl rfl rfl (fun g2=>?_) (fun g2=>?_)))))))))))
 ·have g2p:=of_decide_eq_true g2
  refine bD rfl rM rfl (bE rfl rfl (g2) rfl (bK 0 rfl rfl dT rfl rfl rfl (bE rfl rfl (g2) rfl (bR rfl (nH s.E 4095 _) rfl (dE rfl (g2) rfl rfl (aU rfl rfl (eW rfl rfl rfl rfl (fun g4=>?_) (fun g4=>?_))))))))
  ·have g4p:=of_decide_eq_true g4
   refine bD rfl lB rfl (bE rfl rfl (g4) rfl (bK 0 rfl rfl dT rfl rfl rfl (bE rfl rfl (g4) rfl (bR rfl (nH s.J 255 _) rfl (dE rfl (g4) rfl rfl (mP rfl (oX _ (by first | rfl | exact decide_eq_false (fun h=>hp ⟨⟨by assumption,by assumption⟩,h⟩)) _) rfl (fun HB wM=>?_)))))));refine ⟨rfl,[],(by repeat(first|exact sL _|apply sC)),zI.mk⟩
  have g4p:=of_decide_eq_false g4
  refine bL rfl rfl (g4) rfl rfl (bL rfl rfl (g4) rfl rfl (dL rfl (g4) rfl rfl (mP rfl (oX _ (by first | rfl | exact decide_eq_false (fun h=>hp ⟨⟨by assumption,by assumption⟩,h⟩)) _) rfl (fun HB wM=>?_))));refine ⟨rfl,[],(by repeat(first|exact sL _|apply sC)),zI.mk⟩
 have g2p:=of_decide_eq_false g2
 refine bL rfl rfl (g2) rfl rfl (bL rfl rfl (g2) rfl rfl (dL rfl (g2) rfl rfl (aU rfl rfl (bL rfl rfl rfl rfl rfl (bL rfl rfl rfl rfl rfl (bL rfl rfl rfl rfl rfl (dL rfl rfl rfl rfl (mP rfl (oX _ (by first | rfl | exact decide_eq_false (fun h=>hp ⟨⟨by assumption,by assumption⟩,h⟩)) _) rfl (fun HB wM=>?_)))))))));refine ⟨rfl,[],(by repeat(first|exact sL _|apply sC)),zI.mk⟩
theorem tZ (be : Nat) (x : Int) (H : Hp) : FnD Tryz.prog 34 #[.pointer (some ⟨be,0,none⟩)] (.returning) H [(be,.cells 23 [.int .i64 x])] (fun u _ own=>u = .returning ∧ own = [(be,.cells 23 [.int .i64 x])]):=by
 refine FnD.intro (args:=[.pointer (some ⟨be,0,none⟩)]) Tryz.func34 rfl rfl Tryz.ntmps34 rfl rfl rfl fun G rest=>?_
 refine XS.seq (XS.recover rfl rfl (aE (XS.of rfl (bT (aZ (aH (XO.eqlNilI rfl (Or.inl ⟨rfl,rfl⟩) Tryz.underlying20 rfl (aE (aR (eY rfl rfl (aH (bA rfl rfl (aE (dP ?_))))))))))))));refine ⟨rfl,_,[(be,.cells 23 [.int .i64 x])],rfl,(by repeat(first|exact sL _|apply sC)),?_⟩
 exact ⟨rfl,rfl⟩
theorem tV (be : Nat) (x y : Int) (H : Hp) : FnD Tryz.prog 34 #[.pointer (some ⟨be,0,none⟩)] (.panicking [{ v:=.iface 23 (.int .i64 y),recovered:=false }]) H [(be,.cells 23 [.int .i64 x])] (fun u _ own=>settle u = .returning ∧ own = [(be,.cells 23 [.int .i64 y])]):=by
 refine FnD.intro (args:=[.pointer (some ⟨be,0,none⟩)]) Tryz.func34 rfl rfl Tryz.ntmps34 rfl rfl rfl fun G rest=>?_
 refine XS.seq (XS.recover rfl rfl (aE (XS.of rfl (bT (aZ (aH (XO.eqlNilI rfl (Or.inr ⟨_,_,rfl,rfl⟩) Tryz.underlying20 rfl (aE (aR (dY rfl rfl (aZ (aH (XO.assertOk rfl Tryz.underlying23 rfl (bV rfl rfl rfl (bV rfl rfl rfl (aE (aR (eY rfl rfl (aZ (aH (bA rfl rfl (aE (aR (aH (aU rfl rfl (aU rfl rfl (eC rfl rfl (bZ 0 rfl rfl rfl rfl mO rfl rfl rfl rfl rfl (aE (dP ?_))))))))))))))))))))))))))))));refine ⟨rfl,_,[(be,.cells 23 [.int .i64 y])],rfl,(by repeat(first|exact sL _|apply sC)),?_⟩
 exact ⟨rfl,rfl⟩
theorem selcheck0_fn (s : Card) (a : Option Addr) (c : Nat) (H : Hp) (hs : SlR (eO .i64) H a c s.C) (hD : s.D.length = 32) (hl : s.C.length < 9223372036854775808) : FnC Tryz.prog 41 #[.agg ⟨fA s.R s.E s.J s.C.length s.D a c⟩] H [] (bX (fun v H2 own=>own = [] ∧ v = .int .i64 (aKj s))):=by
 refine FnC.introD (args:=[.agg ⟨fA s.R s.E s.J s.C.length s.D a c⟩]) Tryz.func41 rfl rfl Tryz.ntmps41 rfl rfl rfl fun G rest=>?_
 refine aZ (aH (dZ rfl rfl rfl (fun b1=>dC aAk rfl (fun b2=>aE (aR (aZ (aH (nE (L:=[_,_]) rfl rfl rfl rfl rfl (fun msD rest hrest=>?_)))))))))
 simp only [List.cons_append,List.nil_append]
 refine aE (aR (aZ (aH (bK 1 rfl rfl eI rfl rfl rfl ?_))))
 by_cases hwb2 : aKo s
 ·skip
  refine bR rfl (aD9 s a c _ hs hD hwb2) rfl (aE (aR (aZ (aH (bD rfl pR rfl (bK 1 rfl rfl gZ rfl rfl rfl (bR rfl (xP a c s.C _ hs hl 1073741788) rfl ?_)))))))
  by_cases hwb3 : nB s.C 1073741788
  ·skip
   refine bR rfl (yM _ (decide_eq_true hwb3) _) rfl (aE (aR (aZ (aH (bZ 0 rfl rfl rfl rfl mO rfl rfl rfl rfl rfl (aE (aR (bW (jN 0 (L:=[_,_]) rfl hrest rfl ((tZ _ _ _).mono (fun u2 HE own2 jD hD=>?_)))))))))));obtain ⟨h1,h2⟩:=hD
   subst h2
   replace hs:=hs.mono jD;refine ⟨by subst h1;rfl,_,_,rfl,(fH 0 rfl rfl mO rfl rfl gB),bX.mk ?_⟩
   exact ⟨rfl,congrArg (Value.int .i64) (sel_ok ⟨hwb2,hwb3⟩)⟩
  skip
  refine mP rfl (oX _ (decide_eq_false hwb3) _) rfl (fun HB wM=>?_);replace hs:=hs.mono wM;refine mV (jN 0 (L:=[_,_]) rfl hrest rfl ((tV _ _ _ _).mono (fun u2 HE own2 jD hD=>?_)));obtain ⟨h1,h2⟩:=hD
  subst h2
  replace hs:=hs.mono jD;refine ⟨h1,_,_,rfl,(fH 0 rfl rfl mO rfl rfl gB),bX.mk ?_⟩
  exact ⟨rfl,congrArg (Value.int .i64) (aLd (fun h=>hwb3 h.2))⟩
 skip
 refine mP rfl (placed_bad s a c _ hs hD hwb2) rfl (fun HB wM=>?_);replace hs:=hs.mono wM;refine mV (jN 0 (L:=[_,_]) rfl hrest rfl ((tV _ _ _ _).mono (fun u2 HE own2 jD hD=>?_)));obtain ⟨h1,h2⟩:=hD
 subst h2
 replace hs:=hs.mono jD;refine ⟨h1,_,_,rfl,(fH 0 rfl rfl mO rfl rfl gB),bX.mk ?_⟩
 exact ⟨rfl,congrArg (Value.int .i64) (aLd (fun h=>hwb2 h.1))⟩
theorem nF (s : Card) (a : Option Addr) (c : Nat) (H : Hp) (hs : SlR (eO .i64) H a c s.C) (hD : s.D.length = 32) (hl : s.C.length < 9223372036854775808) : FnC Tryz.prog 41 #[.agg ⟨fA s.R s.E s.J s.C.length s.D a c⟩] H [] (bX (fun v _ _=>v = .int .i64 (aKj s))):=by
 refine (selcheck0_fn s a c H hs hD hl).mono ?_
 intro e _ _ _ h
 cases e with
 | returned v=>exact h.2
 | panicked _=>exact h.elim
 | outgrown=>exact h.elim
theorem at_fn (s : Card) (a : Option Addr) (c : Nat) (H : Hp) (hs : SlR (eO .i64) H a c s.C) (hD : s.D.length = 32) : FnC Tryz.prog 23 #[.agg ⟨fA s.R s.E s.J s.C.length s.D a c⟩] H [] (bX (fun v _ _=>v = .agg ⟨[.int .i64 s.R,.int .i64 s.E,.int .i64 s.J]⟩)):=by
 refine FnC.introC (args:=[.agg ⟨fA s.R s.E s.J s.C.length s.D a c⟩]) Tryz.func23 rfl rfl Tryz.ntmps23 rfl rfl rfl fun G rest=>?_
 refine aZ (aH (dZ rfl rfl rfl (fun b1=>dC aAn rfl (fun b2=>aE (aR (aZ (aH (bD rfl rX rfl (bK 1 rfl rfl dT rfl rfl rfl (bD rfl rM rfl (bK 1 rfl rfl dT rfl rfl rfl (bD rfl lB rfl (bK 1 rfl rfl dT rfl rfl rfl (jL Tryz.underlying83 dT aAn rfl rfl rfl (bZ 0 rfl rfl rfl rfl xV rfl rfl rfl rfl rfl (aE (aR (bW ?_))))))))))))))))));refine ⟨rfl,_,[],(fH 0 rfl rfl xV rfl rfl gB),(by repeat(first|exact sL _|apply sC)),bX.mk ?_⟩
 rfl
end Go.Proofs

namespace Go.Proofs
open Go.XL
theorem fn141 : Tryz.prog.funcs[141]? = some Tryz.f141:=by kernel_rfl
theorem ext141 : Extern.find Tryz.f141 = some Extern.BytealgCompare.compare:=by kernel_rfl
def aHt (l : List Val) (H : Hp) (v : Value) : Prop:=∃ a c,v = .agg ⟨[.int .i64 3,.int .i64 0,.string (iW []),.slice a l.length c]⟩ ∧ SlR valR H a c l
theorem zU (l : List Val) : ∀ v H H',Le H H' → aHt l H v → aHt l H' v:=fun _ _ _ hle ⟨a,c,h1,h2⟩=>⟨a,c,h1,h2.mono hle⟩
theorem aDn (u : Val) : ∀ v H H',Le H H' → aHo u H v → aHo u H' v:=fun _ _ _ hle ⟨a,c,h1,h2⟩=>⟨a,c,h1.mono hle,h2⟩
theorem aDl (s : Card) : ∀ v H H',Le H H' → aLz s H v → aLz s H' v:=fun _ _ _ hle ⟨a,c,h1,h2⟩=>⟨a,c,h1,h2.mono hle⟩
theorem sl_commit {H : Hp} {b : Nat} {r e j0 : Int} {n : Nat} {D : List UInt8} {a : Option Addr} {c : Nat} (h : PtH H b 0 (fA r e j0 n D a c)) (hD : D.length = 32) : SlR u8R H (some ⟨b,4,none⟩) 32 D:=by
  refine ⟨by omega,by simp,fun i x hx=>⟨b,4,[.int .u8 ((x.toNat : Nat) : Int)],rfl,?_,rfl⟩⟩
  obtain ⟨cc,T,fz,hb,hc⟩:=h
  refine ⟨cc,T,fz,hb,fun j u hj=>?_⟩
  have hi : i < 32:=by have:=(List.getElem?_eq_some_iff.1 hx).1;omega
  cases j with
  | succ j=>simp at hj
  | zero =>
    simp at hj;subst hj
    have hg : D.getD i 0 = x:=by rw [List.getD_eq_getElem?_getD,hx];rfl
    have key : ∀ i,i < 32 → (fA r e j0 n D a c)[4 + i]? = some (u8c D i):=by
      intro i hi
      have : ∀ k : Fin 32,(fA r e j0 n D a c)[4 + k.val]? = some (u8c D k.val):=by
        intro ⟨k,hk⟩
        rcases k with _ | _ | _ | _ | _ | _ | _ | _ | _ | _ | _ | _ | _ | _ | _ | _ | _ | _ | _ | _ | _ | _ | _ | _ | _ | _ | _ | _ | _ | _ | _ | _ | k
        all_goals first | rfl | omega
      exact this ⟨i,hi⟩
    have:=hc (4 + i) (u8c D i) (key i hi)
    simp only [u8R,Nat.mul_one,Nat.add_zero,Nat.zero_add] at this ⊢
    rw [this]
    simp only [u8c,u8n,hg]
end Go.Proofs

namespace Go.Proofs
open Go.XL
theorem vD : lW Tryz.prog 162 = some [(0,1),(1,1),(2,1),(3,1)]:=by kernel_rfl
theorem vA : mB Tryz.prog 162 = true:=by kernel_rfl
theorem xF : Nat.ble (Tryz.prog.bytesOf 162) 4096 = true:=by kernel_rfl
theorem yW : fW Tryz.prog 49 4 = some 4:=by kernel_rfl
theorem uI : gH Tryz.prog 3 = some [.int .i64 0]:=by kernel_rfl
theorem list_own (a : Option Addr) (c : Nat) (l : List Int) (H : Hp) (hs : SlR (eO .i64) H a c l) (hl : l.length ≤ 100000) : FnC Tryz.prog 142 #[.slice a l.length c] H [] (bX (fun v H2 own=>∃ p a2 c2,own = [p] ∧ v = .slice a2 (l.map iB).length c2 ∧ XL.Acc valR 162 H2 p a2 c2 (l.map iB))):=by
 refine FnC.intro (args:=[.slice a l.length c]) Tryz.func142 rfl rfl Tryz.ntmps142 rfl rfl rfl fun G rest=>?_
 refine aZ (aH (bA rfl rfl (aE (aR (aZ (aZ (aH (aU rfl rfl (cH (ts:=#[]) rfl Tryz.underlying26 rfl (aU rfl rfl (aE (aR (bT (cE [2,7,5,6] rfl (iQ 0 (eE (base:=[(5,_),(6,_)]) (fun ζ : Nat × ((Nat × SObj) × Option Addr × Nat)=>[(2,.slice ζ.2.2.1 ((l.take (ζ.1)).map iB).length ζ.2.2.2),(7,.int .i64 (ζ.1 : Nat))]) (fun ζ Hl own=>ζ.1 ≤ l.length ∧ ζ.2.1 :: rest = own ∧ Acc valR 162 Hl ζ.2.1 ζ.2.2.1 ζ.2.2.2 ((l.take (ζ.1)).map iB)) (fun ζ=>l.length - ζ.1) (0,((0,.nothing),none,0)) (aQ rfl (aQ rfl (aQ rfl (aQ rfl bP)))) (by repeat(first|exact sL _|apply sD|apply sC)) ⟨Nat.zero_le _,rfl,Acc.nil _ _ _ _⟩ ?_))))))))))))))));rintro ⟨k,⟨pw,aw,cw⟩⟩ Hl0 _ bM ⟨hkk,rfl,haccw⟩;replace hs:=hs.mono bM
 try dsimp only at hkk haccw ⊢
 refine aZ (aH (dN rfl rfl rfl (aE (aR (aZ (cW rfl (fun gJ=>?_) (fun gJ=>?_)))))))
 ·refine bS (aR (aZ (bT (aZ (aH (dK rfl hs rfl Tryz.underlying26 dT (by omega) rfl ?_))))));rintro eb9 eo9 _ x9 hx9 rfl hp9;refine cQ rfl (by assumption) dT rfl rfl rfl (bA rfl rfl (aE (aR (aH (aU rfl rfl (aU rfl rfl (fQ vA vD jJ rfl rfl rfl (dB rfl Tryz.underlying160 iE jJ rfl rfl rfl (fun b14=>dF 0 rfl rfl rfl (fun HP14 oP14 hleP14 hbP14 hoP14=>?_))))))))));replace hs:=hs.mono hleP14;replace haccw:=haccw.mono hleP14;replace hp9:=hp9.mono hleP14;replace bM:=bM.trans hleP14
  have hsl14:=SlR.lit (ρ:=valR) (l:=[iB x9]) hbP14 hoP14 (eN.one1 (mN.2 ⟨none,0,rfl,SlR.nil0 _ _⟩))
  refine fB 0 rfl rfl haccw rfl rfl hsl14 rfl Tryz.underlying160 iE jJ rfl xF (by simp;omega) rfl (fun p15 a15 c15 hacc15=>bA rfl rfl (aE (dP (aR (aH (dJ rfl rfl (bU (by omega) (by omega)) rfl (aU rfl rfl (aE (cR ((k + 1,(p15,a15,c15))) (by show l.length - (k + 1) < l.length - k;omega) (aQ (by first | rfl | (rw [lN hx9];rfl)) (aQ rfl (aQ rfl (aQ rfl bP)))) (⟨by show k + 1 ≤ l.length;omega,rfl,by first | (exact hacc15) | (rw [lN hx9];exact hacc15)⟩) (by repeat(first|exact sL _|apply sD|apply sC)) (bM))))))))))
 obtain rfl : k = l.length:=by omega
 rw [List.take_length] at haccw ⊢
 refine dX (dA (cZ (dI rfl (aR (aZ (aH (aU rfl rfl (bA rfl rfl (aE (aR (bW ?_)))))))))));refine ⟨rfl,_,[pw],rfl,(by repeat(first|exact sL _|apply sD|apply sC)),bX.mk ?_⟩
 exact ⟨_,_,_,rfl,rfl,haccw⟩
theorem list_pub (a : Option Addr) (c : Nat) (l : List Int) (H : Hp) (hs : SlR (eO .i64) H a c l) (hl : l.length ≤ 100000) : FnC Tryz.prog 142 #[.slice a l.length c] H [] (bX (fun v H2 _=>∃ a2 c2,v = .slice a2 (l.map iB).length c2 ∧ SlR valR H2 a2 c2 (l.map iB))):=by
 refine FnC.intro (args:=[.slice a l.length c]) Tryz.func142 rfl rfl Tryz.ntmps142 rfl rfl rfl fun G rest=>?_
 refine aZ (aH (bA rfl rfl (aE (aR (aZ (aZ (aH (aU rfl rfl (cH (ts:=#[]) rfl Tryz.underlying26 rfl (aU rfl rfl (aE (aR (bT (cE [2,7,5,6] rfl (iQ 0 (eE (base:=[(5,_),(6,_)]) (fun ζ : Nat × ((Nat × SObj) × Option Addr × Nat)=>[(2,.slice ζ.2.2.1 ((l.take (ζ.1)).map iB).length ζ.2.2.2),(7,.int .i64 (ζ.1 : Nat))]) (fun ζ Hl own=>ζ.1 ≤ l.length ∧ ζ.2.1 :: rest = own ∧ Acc valR 162 Hl ζ.2.1 ζ.2.2.1 ζ.2.2.2 ((l.take (ζ.1)).map iB)) (fun ζ=>l.length - ζ.1) (0,((0,.nothing),none,0)) (aQ rfl (aQ rfl (aQ rfl (aQ rfl bP)))) (by repeat(first|exact sL _|apply sD|apply sC)) ⟨Nat.zero_le _,rfl,Acc.nil _ _ _ _⟩ ?_))))))))))))))));rintro ⟨k,⟨pw,aw,cw⟩⟩ Hl0 _ bM ⟨hkk,rfl,haccw⟩;replace hs:=hs.mono bM
 try dsimp only at hkk haccw ⊢
 refine aZ (aH (dN rfl rfl rfl (aE (aR (aZ (cW rfl (fun gJ=>?_) (fun gJ=>?_)))))))
 ·refine bS (aR (aZ (bT (aZ (aH (dK rfl hs rfl Tryz.underlying26 dT (by omega) rfl ?_))))));rintro eb9 eo9 _ x9 hx9 rfl hp9;refine cQ rfl (by assumption) dT rfl rfl rfl (bA rfl rfl (aE (aR (aH (aU rfl rfl (aU rfl rfl (fQ vA vD jJ rfl rfl rfl (dB rfl Tryz.underlying160 iE jJ rfl rfl rfl (fun b14=>dF 0 rfl rfl rfl (fun HP14 oP14 hleP14 hbP14 hoP14=>?_))))))))));replace hs:=hs.mono hleP14;replace haccw:=haccw.mono hleP14;replace hp9:=hp9.mono hleP14;replace bM:=bM.trans hleP14
  have hsl14:=SlR.lit (ρ:=valR) (l:=[iB x9]) hbP14 hoP14 (eN.one1 (mN.2 ⟨none,0,rfl,SlR.nil0 _ _⟩))
  refine fB 0 rfl rfl haccw rfl rfl hsl14 rfl Tryz.underlying160 iE jJ rfl xF (by simp;omega) rfl (fun p15 a15 c15 hacc15=>bA rfl rfl (aE (dP (aR (aH (dJ rfl rfl (bU (by omega) (by omega)) rfl (aU rfl rfl (aE (cR ((k + 1,(p15,a15,c15))) (by show l.length - (k + 1) < l.length - k;omega) (aQ (by first | rfl | (rw [lN hx9];rfl)) (aQ rfl (aQ rfl (aQ rfl bP)))) (⟨by show k + 1 ≤ l.length;omega,rfl,by first | (exact hacc15) | (rw [lN hx9];exact hacc15)⟩) (by repeat(first|exact sL _|apply sD|apply sC)) (bM))))))))))
 obtain rfl : k = l.length:=by omega
 rw [List.take_length] at haccw ⊢
 refine dX (dA (cZ (dI rfl (aR (aZ (aH (aU rfl rfl (bA rfl rfl (aE (aR (mE 0 rfl haccw rfl (fun HQ4 hleQ4 hsQ4=>?_))))))))))));replace hs:=hs.mono hleQ4;replace bM:=bM.trans hleQ4;refine bW ?_;refine ⟨rfl,_,[],rfl,(by repeat(first|exact sL _|apply sC)),bX.mk ?_⟩
 exact ⟨_,_,rfl,by assumption⟩
theorem aGj (s : Card) (a : Option Addr) (c : Nat) (H : Hp) (hs : SlR (eO .i64) H a c s.C) (hD : s.D.length = 32) (hok : okC s) : FnC Tryz.prog 114 #[.agg ⟨fA s.R s.E s.J s.C.length s.D a c⟩] H [] (bX (fun v H2 _=>aLz s H2 v)):=by
 refine FnC.intro (args:=[.agg ⟨fA s.R s.E s.J s.C.length s.D a c⟩]) Tryz.func114 rfl rfl Tryz.ntmps114 rfl rfl rfl fun G rest=>?_
 have hcl:=(yL hok).2.2.2.1.2
 have hrg:=yL hok
 refine aZ (aH (dZ rfl rfl rfl (fun b1=>bA rfl rfl (aE (aR (aZ (aH (dF 0 rfl rfl rfl (fun HK1 oK1 hleK1 hbK1 hoK1=>?_)))))))))
 have iC:=PtH.of_is hbK1 hoK1
 replace hs:=hs.mono hleK1
 have hsD:=sl_commit iC hD
 refine bA rfl rfl (aE (aR (aZ (cE [1,3] rfl ?_))))
 apply yS (fun _=>True) trivial [8] (by decide) [(19,8)] (lH valR 162 [iB s.R,iB s.E,iB s.J]) (fun _ _ p _=>p.2 = .nothing) (wF _ _ _) (fun _ _ _ _ _ _ h=>h) 20 [eqF _,eqF _,eqF _,eqF _,eqF _,eqF _,eqF _,slF (eO .i64) [s.R,s.E,s.J],rC,eqF _,eqF _,eqF _,slG valR (s.C.map iB),fun v H=>aHt (s.C.map iB) H v,eqF _,eqF _,eqF _,eqF _,slF valR [Val.mk 3 0 [] (s.C.map iB),Val.mk 2 0 s.D []],slG valR ([iB s.R,iB s.E,iB s.J] ++ [Val.mk 3 0 [] (s.C.map iB),Val.mk 2 0 s.D []])] follows (by kernel_rfl) ⟨bB _,bB _,bB _,bB _,bB _,bB _,bB _,gX _ _,gR,bB _,bB _,bB _,lD _ _,zU _,bB _,bB _,bB _,bB _,gX _ _,lD _ _,trivial⟩ (by decide) (by kernel_rfl) ?steps1 ?tail1
 case steps1 =>
  refine eA rfl rfl ?_ ?_
  ·intro X ext HD aD _
   replace hs:=hs.mono aD;replace iC:=iC.mono aD;replace hsD:=hsD.mono aD;exact bG rfl (aU rfl rfl (aE (bN rfl trivial rfl)))
  refine eA rfl rfl ?_ ?_
  ·intro X ext HD aD _
   replace hs:=hs.mono aD;replace iC:=iC.mono aD;replace hsD:=hsD.mono aD;exact bG rfl (bD rfl rX rfl (aE (bN rfl trivial rfl)))
  refine eA rfl rfl ?_ ?_
  ·intro X ext HD aD _
   replace hs:=hs.mono aD;replace iC:=iC.mono aD;replace hsD:=hsD.mono aD;exact wQq rfl rfl rfl (bG rfl (gG rfl (by assumption) dT rfl rfl rfl (aE (bN rfl trivial rfl))))
  refine eA rfl rfl ?_ ?_
  ·intro X ext HD aD _
   replace hs:=hs.mono aD;replace iC:=iC.mono aD;replace hsD:=hsD.mono aD;exact bG rfl (bD rfl rM rfl (aE (bN rfl trivial rfl)))
  refine eA rfl rfl ?_ ?_
  ·intro X ext HD aD _
   replace hs:=hs.mono aD;replace iC:=iC.mono aD;replace hsD:=hsD.mono aD;exact wQq rfl rfl rfl (bG rfl (gG rfl (by assumption) dT rfl rfl rfl (aE (bN rfl trivial rfl))))
  refine eA rfl rfl ?_ ?_
  ·intro X ext HD aD _
   replace hs:=hs.mono aD;replace iC:=iC.mono aD;replace hsD:=hsD.mono aD;exact bG rfl (bD rfl lB rfl (aE (bN rfl trivial rfl)))
  refine eA rfl rfl ?_ ?_
  ·intro X ext HD aD _
   replace hs:=hs.mono aD;replace iC:=iC.mono aD;replace hsD:=hsD.mono aD;exact wQq rfl rfl rfl (bG rfl (gG rfl (by assumption) dT rfl rfl rfl (aE (bN rfl trivial rfl))))
  refine eA rfl rfl ?_ ?_
  ·intro X ext HD aD _
   replace hs:=hs.mono aD;replace iC:=iC.mono aD;replace hsD:=hsD.mono aD;refine wQq rfl rfl rfl (wQq rfl rfl rfl (wQq rfl rfl rfl (bG rfl (dB rfl Tryz.underlying26 dT uI rfl rfl rfl (fun b14=>dF 0 rfl rfl rfl (fun HP14 oP14 hleP14 hbP14 hoP14=>?_))))))
   have hsl14:=SlR.lit (ρ:=(eO .i64)) (l:=[s.R,s.E,s.J]) hbP14 hoP14 (eN.cons1 (cs:=[_]) rfl (eN.cons1 (cs:=[_]) rfl (eN.one1 rfl)))
   replace hs:=hs.mono hleP14;replace iC:=iC.mono hleP14;replace hsD:=hsD.mono hleP14;refine aE ?_
   exact bN rfl trivial (⟨_,rfl,hsl14⟩)
  refine eA rfl rfl ?_ ?_
  ·intro X ext HD aD _
   replace hs:=hs.mono aD;replace iC:=iC.mono aD;replace hsD:=hsD.mono aD;refine wQq rfl rfl rfl (dD rfl rfl ?_);rintro _ ⟨bs14,rfl,hsl14⟩;refine bG rfl (kX [] (lH:=[]) rfl trivial rfl (FnV.of_fn (cap:=[]) (args:=[_]) (list_own _ _ [s.R,s.E,s.J] _ hsl14 (show (3 : Nat) ≤ 100000 by decide))) rfl rfl ?_);rintro _ HN oN fO ⟨pe,ae,ce,rfl,rfl,hacc⟩;replace hs:=hs.mono fO;replace iC:=iC.mono fO;replace hsD:=hsD.mono fO;replace hsl14:=hsl14.mono fO;refine aE ?_
   exact kJ rfl trivial trivial (⟨_,_,rfl,hacc⟩)
  refine eA rfl rfl ?_ ?_
  ·intro X ext HD aD _
   replace hs:=hs.mono aD;replace iC:=iC.mono aD;replace hsD:=hsD.mono aD;exact bG rfl (aU rfl rfl (aE (bN rfl trivial rfl)))
  refine eA rfl rfl ?_ ?_
  ·intro X ext HD aD _
   replace hs:=hs.mono aD;replace iC:=iC.mono aD;replace hsD:=hsD.mono aD;exact bG rfl (bD rfl pR rfl (aE (bN rfl trivial rfl)))
  refine eA rfl rfl ?_ ?_
  ·intro X ext HD aD _
   replace hs:=hs.mono aD;replace iC:=iC.mono aD;replace hsD:=hsD.mono aD;exact wQq rfl rfl rfl (bG rfl (gG rfl (by assumption) gZ rfl rfl rfl (aE (bN rfl trivial rfl))))
  refine eA rfl rfl ?_ ?_
  ·intro X ext HD aD _
   replace hs:=hs.mono aD;replace iC:=iC.mono aD;replace hsD:=hsD.mono aD;refine wQq rfl rfl rfl (wQq rfl rfl rfl (bG rfl (iI rfl trivial rfl (FnV.of_fn (cap:=[]) (args:=[_]) (list_pub _ _ s.C _ hs (by omega))) rfl ?_)));rintro _ HN oN fO ⟨aN,cN,rfl,hN⟩;replace hs:=hs.mono fO;replace iC:=iC.mono fO;replace hsD:=hsD.mono fO;refine aE ?_
   exact bN rfl trivial (⟨_,_,rfl,hN⟩)
  refine eA rfl rfl ?_ ?_
  ·intro X ext HD aD _
   replace hs:=hs.mono aD;replace iC:=iC.mono aD;replace hsD:=hsD.mono aD;refine dD rfl rfl ?_;rintro _ ⟨a19,c19,rfl,hsl19⟩;refine bG rfl (fQ vA vD jJ rfl rfl rfl (aE ?_))
   exact bN rfl trivial (⟨_,_,rfl,hsl19⟩)
  refine eA rfl rfl ?_ ?_
  ·intro X ext HD aD _
   replace hs:=hs.mono aD;replace iC:=iC.mono aD;replace hsD:=hsD.mono aD;exact bG rfl (bD rfl yW rfl (aE (bN rfl trivial rfl)))
  refine eA rfl rfl ?_ ?_
  ·intro X ext HD aD _
   replace hs:=hs.mono aD;replace iC:=iC.mono aD;replace hsD:=hsD.mono aD;exact wQq rfl rfl rfl (bG rfl (mD rfl Tryz.underlying34 lR rfl (aE (bN rfl trivial rfl))))
  refine eA rfl rfl ?_ ?_
  ·intro X ext HD aD _
   replace hs:=hs.mono aD;replace iC:=iC.mono aD;replace hsD:=hsD.mono aD;exact wQq rfl rfl rfl (bG rfl (XO.b2s (l:=s.D) (by rw [hD];rfl) hsD Tryz.underlying157 Tryz.underlying5 Tryz.underlying9 rfl (aE (bN rfl trivial rfl))))
  refine eA rfl rfl ?_ ?_
  ·intro X ext HD aD _
   replace hs:=hs.mono aD;replace iC:=iC.mono aD;replace hsD:=hsD.mono aD;exact wQq rfl rfl rfl (bG rfl (fQ vA vD jJ rfl rfl rfl (aE (bN rfl trivial rfl))))
  refine eA rfl rfl ?_ ?_
  ·intro X ext HD aD _
   replace hs:=hs.mono aD;replace iC:=iC.mono aD;replace hsD:=hsD.mono aD;refine dD rfl rfl ?_;rintro _ ⟨a20,c20,rfl,h20⟩;refine wQq rfl rfl rfl (bG rfl (dB rfl Tryz.underlying160 iE jJ rfl rfl rfl (fun b25=>dF 0 rfl rfl rfl (fun HP25 oP25 hleP25 hbP25 hoP25=>?_))));replace hs:=hs.mono hleP25;replace iC:=iC.mono hleP25;replace hsD:=hsD.mono hleP25
   have hsl25:=SlR.lit (ρ:=valR) (l:=[Val.mk 3 0 [] (s.C.map iB),Val.mk 2 0 s.D []]) hbP25 hoP25 (eN.cons1 (cs:=[_,_,_,_]) (mN.2 ⟨_,_,rfl,h20.mono hleP25⟩) (eN.one1 (mN.2 ⟨none,0,rfl,SlR.nil0 _ _⟩)))
   refine aE ?_
   exact bN rfl trivial (⟨_,rfl,hsl25⟩)
  refine tU rfl rfl ?_ ?_
  ·intro X ext p HD aD _
   replace hs:=hs.mono aD;replace iC:=iC.mono aD;replace hsD:=hsD.mono aD;refine dD rfl rfl ?_;rintro _ _;refine dD rfl rfl ?_;rintro _ ⟨bs25,rfl,hsl25⟩;refine bG rfl ?_
   intro hfo
   obtain ⟨ab,cb,rfl,haccb⟩:=hfo _ _ rfl rfl;refine fB 0 rfl rfl haccb rfl rfl hsl25 rfl Tryz.underlying160 iE jJ rfl xF (show (5 : Nat) ≤ 1073741824 by decide) rfl (fun pc ac cc haccc=>?_);refine gL 0 rfl haccc rfl (fun HQ rG hsQ=>?_);refine sN (σ:=[]) (fun b0=>?_);refine aE ?_
   exact vU trivial (⟨_,_,rfl,hsQ⟩) (fun u t h1 h2=>rfl)
  exact tR rfl
 case tail1 =>
  intro HD aD _
  replace hs:=hs.mono aD;replace iC:=iC.mono aD;replace hsD:=hsD.mono aD;refine wQq rfl rfl rfl (wQq rfl rfl rfl (wQq rfl rfl rfl (wQq rfl rfl rfl (wQq rfl rfl rfl (wQq rfl rfl rfl (wQq rfl rfl rfl (dD rfl rfl ?_)))))));rintro _ ⟨bs14,rfl,hsl14⟩;refine dD rfl rfl ?_;rintro _ _;refine wQq rfl rfl rfl (wQq rfl rfl rfl (wQq rfl rfl rfl (dD rfl rfl ?_)));rintro _ ⟨a19,c19,rfl,hsl19⟩;refine dD rfl rfl ?_;rintro _ ⟨a20,c20,rfl,h20⟩;refine wQq rfl rfl rfl (wQq rfl rfl rfl (wQq rfl rfl rfl (wQq rfl rfl rfl (dD rfl rfl ?_))));rintro _ ⟨bs25,rfl,hsl25⟩;refine dD rfl rfl ?_;rintro _ ⟨a26,c26,rfl,hsl26⟩;refine bG rfl (iO ?_)
  intro pe hpe
  refine fL (bA rfl rfl (aE (aR (aZ (aH (aU rfl rfl (fQ vA vD jJ rfl rfl rfl ?_)))))))
  have hcall:=aK8 3 0 [] ([iB s.R,iB s.E,iB s.J] ++ [Val.mk 3 0 [] (s.C.map iB),Val.mk 2 0 s.D []]) _ _ _ (val_wsz hcl hD) (aFl hok hD) hsl26
  refine fI rfl hcall rfl ?_;rintro _ HN30 hleN30 ⟨aN30,cN30,hN30,rfl⟩;replace hs:=hs.mono hleN30;replace iC:=iC.mono hleN30;replace hsD:=hsD.mono hleN30;replace hsl14:=hsl14.mono hleN30;replace hsl19:=hsl19.mono hleN30;replace hsl25:=hsl25.mono hleN30;replace hsl26:=hsl26.mono hleN30;refine aU rfl rfl (bV rfl rfl rfl (bV rfl rfl rfl (bA rfl rfl (bA rfl rfl (aE (aR (aZ (aH (aU rfl rfl (bA rfl rfl (aE (aR (bW ?_)))))))))))));refine ⟨rfl,_,[],rfl,(by repeat(first|exact sL _|apply sC)),bX.mk ?_⟩
  exact ⟨_,_,rfl,hN30⟩
theorem bcmp_fn (a b : Option Addr) (c d : Nat) (l m : List UInt8) (H : Hp) (hs : SlR u8R H a c l) (ht : SlR u8R H b d m) : FnC Tryz.prog 113 #[.slice a l.length c,.slice b m.length d] H [] (bX (fun v _ _=>v = .int .i64 (uJ l m))):=by
 refine FnC.intro (args:=[.slice a l.length c,.slice b m.length d]) Tryz.func113 rfl rfl Tryz.ntmps113 rfl rfl rfl fun G rest=>?_
 refine aZ (aH (bA rfl rfl (aE (aR (aZ (aH (aU rfl rfl (aU rfl rfl (XO.cmpBytes rfl hs rfl ht fn141 (by kernel_rfl) (by kernel_rfl) (by kernel_rfl) ext141 rfl (bA rfl rfl (aE (aR (bW ?_)))))))))))));refine ⟨rfl,_,[],rfl,(by repeat(first|exact sL _|apply sC)),bX.mk ?_⟩
 rfl
theorem aCc (s t : Card) (a b : Option Addr) (c d : Nat) (H : Hp) (hs : SlR (eO .i64) H a c s.C) (ht : SlR (eO .i64) H b d t.C) (hD : s.D.length = 32) (hE : t.D.length = 32) (hok : okC s) (hok2 : okC t) : FnC Tryz.prog 70 #[.agg ⟨fA s.R s.E s.J s.C.length s.D a c⟩,.agg ⟨fA t.R t.E t.J t.C.length t.D b d⟩] H [] (bX (fun v _ _=>v = .int .i64 (kP s t))):=by
 refine FnC.intro (args:=[.agg ⟨fA s.R s.E s.J s.C.length s.D a c⟩,.agg ⟨fA t.R t.E t.J t.C.length t.D b d⟩]) Tryz.func70 rfl rfl Tryz.ntmps70 rfl rfl rfl fun G rest=>?_
 refine aZ (aH (dZ rfl rfl rfl (fun b2=>dZ rfl rfl rfl (fun b3=>bA rfl rfl (aE (aR (aZ (cE [2,3] rfl ?_))))))))
 apply yS (fun _=>True) trivial [4,5] (by decide) [(6,4)] (fun _ v p _=>v = .pointer (some ⟨p.1,0,none⟩) ∧ p.2 = .cells 83 [.int .i64 0,.int .i64 0,.int .i64 0]) (fun _ v p _=>v = .pointer (some ⟨p.1,0,none⟩) ∧ p.2 = .cells 83 [.int .i64 s.R,.int .i64 s.E,.int .i64 s.J]) (fun _ _ _ _ _ _ h=>h) (fun _ _ _ _ _ _ h=>h) 7 [eqF _,eqF _,eqF _,eqF _,rC,rC,rC] follows (by kernel_rfl) ⟨bB _,bB _,bB _,bB _,gR,gR,gR,trivial⟩ (by decide) (by kernel_rfl) ?steps1 ?tail1
 case steps1 =>
  refine eA rfl rfl ?_ ?_
  ·intro X ext HD aD _
   replace hs:=hs.mono aD;replace ht:=ht.mono aD;exact bG rfl (bK 1 rfl rfl eI rfl rfl rfl (aE (bN rfl trivial rfl)))
  refine eA rfl rfl ?_ ?_
  ·intro X ext HD aD _
   replace hs:=hs.mono aD;replace ht:=ht.mono aD;exact wQq rfl rfl rfl (bG rfl (bR rfl (at_fn s _ _ _ hs hD) rfl (aE (bN rfl trivial rfl))))
  refine eA rfl rfl ?_ ?_
  ·intro X ext HD aD _
   replace hs:=hs.mono aD;replace ht:=ht.mono aD;exact bG rfl (bK 0 rfl rfl eI rfl rfl rfl (aE (bN rfl trivial rfl)))
  refine eA rfl rfl ?_ ?_
  ·intro X ext HD aD _
   replace hs:=hs.mono aD;replace ht:=ht.mono aD;exact wQq rfl rfl rfl (bG rfl (bR rfl (at_fn t _ _ _ ht hE) rfl (aE (bN rfl trivial rfl))))
  refine eA rfl rfl ?_ ?_
  ·intro X ext HD aD _
   replace hs:=hs.mono aD;replace ht:=ht.mono aD;refine bG rfl (dC aAn rfl (fun b5=>aE ?_))
   exact kJ rfl trivial trivial (⟨rfl,rfl⟩)
  refine eA rfl rfl ?_ ?_
  ·intro X ext HD aD _
   replace hs:=hs.mono aD;replace ht:=ht.mono aD;refine bG rfl (dC aAn rfl (fun b6=>aE ?_))
   exact kJ rfl trivial trivial (⟨rfl,rfl⟩)
  refine tU rfl rfl ?_ ?_
  ·intro X ext p HD aD _
   replace hs:=hs.mono aD;replace ht:=ht.mono aD;refine dD rfl rfl ?_;rintro _ _;refine wQq rfl rfl rfl (bG rfl ?_)
   intro hfo
   obtain ⟨be4,se4⟩:=p;obtain ⟨rfl,hse4⟩:=hfo _ _ rfl rfl
   simp only at hse4
   subst hse4
   refine bZ 0 rfl rfl rfl rfl xV rfl rfl rfl rfl rfl (aE ?_)
   exact vU trivial (trivial) (fun u t h1 h2=>by cases (show some _ = some t from h1);cases (show some (Value.pointer _) = some u from h2);exact ⟨rfl,rfl⟩)
  exact tR rfl
 case tail1 =>
  intro HD aD _
  replace hs:=hs.mono aD;replace ht:=ht.mono aD;refine wQq rfl rfl rfl (wQq rfl rfl rfl (wQq rfl rfl rfl (wQq rfl rfl rfl (dD rfl rfl ?_))));rintro _ _;refine dD rfl rfl ?_;rintro _ _;refine oT rfl rfl (bG rfl (iO ?_))
  intro pk4 hpk4
  obtain ⟨rfl,hpk4b⟩:=hpk4 _ ⟨_,rfl,rfl⟩;obtain ⟨be4,se4⟩:=pk4
  simp only at hpk4b
  subst hpk4b
  refine iO ?_
  intro pk5 hpk5
  obtain ⟨rfl,hpk5b⟩:=hpk5 _ ⟨_,rfl,rfl⟩;obtain ⟨be5,se5⟩:=pk5
  simp only at hpk5b
  subst hpk5b
  refine fL (bZ 1 rfl rfl rfl rfl xV rfl rfl rfl rfl rfl (aE (aR (aZ (cE [2,3,5,6] rfl (oJ 0 rfl rfl rfl (fun HK5 oK5 hleK5 hbK5 hoK5=>?_)))))))
  have kT:=PtH.of_is hbK5 hoK5
  replace hs:=hs.mono hleK5;replace ht:=ht.mono hleK5;refine oJ 0 rfl rfl rfl (fun HK6 oK6 hleK6 hbK6 hoK6=>?_)
  have mY:=PtH.of_is hbK6 hoK6
  replace hs:=hs.mono hleK6;replace ht:=ht.mono hleK6;replace kT:=kT.mono hleK6
  have hP5:=SlR.of_pt (k:=.i64) (l:=fU s) kT
  have hP6:=SlR.of_pt (k:=.i64) (l:=fU t) mY
  apply iJ (fun _=>True) trivial 10 [eqF _,eqF _,eqF _,eqF _,fun v H=>aLz s H v,eqF _,fun v H=>aLz t H v,eqF _,slF (eO .i64) [iD (fU s) (fU t),uJ (kA s) (kA t)],eqF _] follows (by kernel_rfl) (by kernel_rfl) ⟨bB _,bB _,bB _,bB _,aDl _,bB _,aDl _,bB _,gX _ _,bB _,trivial⟩ ?steps4 ?tail4
  case steps4 =>
   refine bI rfl ?_ ?_
   ·intro X HD aD _
    replace hs:=hs.mono aD;replace ht:=ht.mono aD;replace kT:=kT.mono aD;replace mY:=mY.mono aD;replace hP5:=hP5.mono aD;replace hP6:=hP6.mono aD;refine aW rfl (mD rfl Tryz.underlying83 dT rfl (aE ?_))
    exact bH trivial rfl
   refine bI rfl ?_ ?_
   ·intro X HD aD _
    replace hs:=hs.mono aD;replace ht:=ht.mono aD;replace kT:=kT.mono aD;replace mY:=mY.mono aD;replace hP5:=hP5.mono aD;replace hP6:=hP6.mono aD;refine aW rfl (mD rfl Tryz.underlying83 dT rfl (aE ?_))
    exact bH trivial rfl
   refine bI rfl ?_ ?_
   ·intro X HD aD _
    replace hs:=hs.mono aD;replace ht:=ht.mono aD;replace kT:=kT.mono aD;replace mY:=mY.mono aD;replace hP5:=hP5.mono aD;replace hP6:=hP6.mono aD;refine wPq rfl rfl rfl (wPq rfl rfl rfl (aW rfl (bR rfl (aCt _ _ _ _ (fU s) (fU t) _ hP5 hP6 (show (3 : Nat) < 9223372036854775808 by decide) (show (3 : Nat) < 9223372036854775808 by decide)) rfl (aE ?_))))
    exact bH trivial rfl
   refine bI rfl ?_ ?_
   ·intro X HD aD _
    replace hs:=hs.mono aD;replace ht:=ht.mono aD;replace kT:=kT.mono aD;replace mY:=mY.mono aD;replace hP5:=hP5.mono aD;replace hP6:=hP6.mono aD;refine aW rfl (bK 1 rfl rfl eI rfl rfl rfl (aE ?_))
    exact bH trivial rfl
   refine bI rfl ?_ ?_
   ·intro X HD aD _
    replace hs:=hs.mono aD;replace ht:=ht.mono aD;replace kT:=kT.mono aD;replace mY:=mY.mono aD;replace hP5:=hP5.mono aD;replace hP6:=hP6.mono aD;refine wPq rfl rfl rfl (aW rfl (fI rfl (aGj s _ _ _ hs hD hok) rfl ?_));rintro _ HN15 hleN15 ⟨aN15,cN15,rfl,hN15⟩;replace hs:=hs.mono hleN15;replace ht:=ht.mono hleN15;replace kT:=kT.mono hleN15;replace mY:=mY.mono hleN15;replace hP5:=hP5.mono hleN15;replace hP6:=hP6.mono hleN15;refine aE ?_
    exact bH trivial (⟨_,_,rfl,hN15⟩)
   refine bI rfl ?_ ?_
   ·intro X HD aD _
    replace hs:=hs.mono aD;replace ht:=ht.mono aD;replace kT:=kT.mono aD;replace mY:=mY.mono aD;replace hP5:=hP5.mono aD;replace hP6:=hP6.mono aD;refine aW rfl (bK 0 rfl rfl eI rfl rfl rfl (aE ?_))
    exact bH trivial rfl
   refine bI rfl ?_ ?_
   ·intro X HD aD _
    replace hs:=hs.mono aD;replace ht:=ht.mono aD;replace kT:=kT.mono aD;replace mY:=mY.mono aD;replace hP5:=hP5.mono aD;replace hP6:=hP6.mono aD;refine wPq rfl rfl rfl (aW rfl (fI rfl (aGj t _ _ _ ht hE hok2) rfl ?_));rintro _ HN17 hleN17 ⟨aN17,cN17,rfl,hN17⟩;replace hs:=hs.mono hleN17;replace ht:=ht.mono hleN17;replace kT:=kT.mono hleN17;replace mY:=mY.mono hleN17;replace hP5:=hP5.mono hleN17;replace hP6:=hP6.mono hleN17;refine aE ?_
    exact bH trivial (⟨_,_,rfl,hN17⟩)
   refine bI rfl ?_ ?_
   ·intro X HD aD _
    replace hs:=hs.mono aD;replace ht:=ht.mono aD;replace kT:=kT.mono aD;replace mY:=mY.mono aD;replace hP5:=hP5.mono aD;replace hP6:=hP6.mono aD;refine cU rfl rfl ?_;rintro _ ⟨a15,c15,rfl,hT15⟩;refine cU rfl rfl ?_;rintro _ ⟨a17,c17,rfl,hT17⟩;refine aW rfl (bR rfl (bcmp_fn _ _ _ _ (kA s) (kA t) _ hT15 hT17) rfl (aE ?_))
    exact bH trivial rfl
   refine bI rfl ?_ ?_
   ·intro X HD aD _
    replace hs:=hs.mono aD;replace ht:=ht.mono aD;replace kT:=kT.mono aD;replace mY:=mY.mono aD;replace hP5:=hP5.mono aD;replace hP6:=hP6.mono aD;refine wPq rfl rfl rfl (wPq rfl rfl rfl (aW rfl (dB rfl Tryz.underlying26 dT uI rfl rfl rfl (fun b19=>dF 0 rfl rfl rfl (fun HP19 oP19 hleP19 hbP19 hoP19=>?_)))))
    have hsl19:=SlR.lit (ρ:=(eO .i64)) (l:=[iD (fU s) (fU t),uJ (kA s) (kA t)]) hbP19 hoP19 (eN.cons1 (cs:=[_]) rfl (eN.one1 rfl))
    replace hs:=hs.mono hleP19;replace ht:=ht.mono hleP19;replace kT:=kT.mono hleP19;replace mY:=mY.mono hleP19;replace hP5:=hP5.mono hleP19;replace hP6:=hP6.mono hleP19;refine aE ?_
    exact bH trivial (⟨_,rfl,hsl19⟩)
   refine bI rfl ?_ ?_
   ·intro X HD aD _
    replace hs:=hs.mono aD;replace ht:=ht.mono aD;replace kT:=kT.mono aD;replace mY:=mY.mono aD;replace hP5:=hP5.mono aD;replace hP6:=hP6.mono aD;refine cU rfl rfl ?_;rintro _ ⟨bs19,rfl,hsl19⟩;refine aW rfl (bR rfl (aNa _ _ [iD (fU s) (fU t),uJ (kA s) (kA t)] _ hsl19 (show (2 : Nat) < 9223372036854775808 by decide)) rfl (aE ?_))
    exact bH trivial rfl
   exact eU rfl
  case tail4 =>
   intro HD aD _
   replace hs:=hs.mono aD;replace ht:=ht.mono aD;replace kT:=kT.mono aD;replace mY:=mY.mono aD;replace hP5:=hP5.mono aD;replace hP6:=hP6.mono aD;refine wPq rfl rfl rfl (wPq rfl rfl rfl (wPq rfl rfl rfl (wPq rfl rfl rfl (cU rfl rfl ?_))));rintro _ ⟨a15,c15,rfl,hT15⟩;refine wPq rfl rfl rfl (cU rfl rfl ?_);rintro _ ⟨a17,c17,rfl,hT17⟩;refine wPq rfl rfl rfl (cU rfl rfl ?_);rintro _ ⟨bs19,rfl,hsl19⟩;refine wPq rfl rfl rfl (aW rfl (bA rfl rfl (aE (aR (bW ?_)))));refine ⟨rfl,_,[],rfl,(by repeat(first|exact sL _|apply sC)),bX.mk ?_⟩
   rfl
end Go.Proofs

namespace Go.Proofs
open Go.XL
def c0 : Card:=⟨0,0,0,[],List.replicate 32 0⟩
def hd (x : List Card) : Card:=x.headD c0
theorem aCe {x : List Card} {s : Card} (h : x[0]? = some s) : s = hd x:=by
 cases x with
 | nil=>cases h
 | cons y r=>simp at h;rw [← h];rfl
def fV {α : Type} (q : α → α → Int) : List α → Bool
 | x :: y :: r=>decide (q x y < 0) && fV q (y :: r)
 | _=>true
section
variable {α : Type} {q : α → α → Int} {l : List α} {k : Nat} {x y : α} {c : Bool}
theorem zJ (h : c = fV q (l.drop k)) (hx : l[k]? = some x) (hy : l[k + 1]? = some y) (hq : q x y < 0) : c = fV q (l.drop (k + 1)):=by
 rw [h,iT hx,iT hy,fV,decide_eq_true hq,Bool.true_and]
theorem pG (h : c = fV q (l.drop k)) (hx : l[k]? = some x) (hy : l[k + 1]? = some y) (hq : ¬ q x y < 0) : false = c:=by
 rw [h,iT hx,iT hy,fV,decide_eq_false hq,Bool.false_and]
theorem pJ (h : c = fV q (l.drop k)) (hk : l.length ≤ k + 1) : true = c:=by
 rw [h]
 rcases Nat.lt_or_ge k l.length with h1 | h1
 ·rw [List.drop_eq_getElem_cons h1,List.drop_of_length_le hk];rfl
 rw [List.drop_of_length_le h1];rfl
theorem yD : ∀ {l : List α},fV q l = true ↔ ∀ i x y,l[i]? = some x → l[i + 1]? = some y → q x y < 0
  | []=>by simp [fV]
  | [a]=>by simp [fV]
  | a :: b :: r=>by
    rw [fV,Bool.and_eq_true,decide_eq_true_iff,yD (l:=b :: r)]
    constructor
    · rintro ⟨h1,h2⟩ i x y hx hy
      cases i with
      | zero=>simp at hx hy;subst hx;subst hy;exact h1
      | succ i=>exact h2 i x y (by simpa using hx) (by simpa using hy)
    intro h
    exact ⟨h 0 a b rfl rfl,fun i x y hx hy=>h (i + 1) x y (by simpa using hx) (by simpa using hy)⟩
end
def jQ : List Card → Bool
 | [s]=>decide (okC s)
 | [s,t]=>decide (((okC s ∧ okC t) ∧ fU s = fU t) ∧ uJ (kA s) (kA t) < 0)
 | _=>false
def plq (x y : List Card) : Int:=iD (fU (hd x)) (fU (hd y))
def aL4 (b : Box) : Bool:=b.all jQ && fV plq b
def jM (b : Box) : Int:=if 4096 < b.length then 2 else if aL4 b = true then 0 else 350
theorem xU {x : List Card} (h : jQ x = true) : 1 ≤ x.length ∧ x.length ≤ 2:=by
 match x,h with
 | [s],_=>simp
 | [s,t],_=>simp
theorem aBk {x : List Card} (h : jQ x = true) : ∀ s ∈ x,okC s:=by
  match x,h with
  | [s],h=>intro t ht;simp only [List.mem_singleton] at ht;subst ht;exact of_decide_eq_true h
  | [s,t],h =>
    have:=of_decide_eq_true h
    intro u hu
    simp only [List.mem_cons,List.not_mem_nil,or_false] at hu
    rcases hu with rfl | rfl
    · exact this.1.1.1
    exact this.1.1.2
theorem vY {s t : Card} (h : fU s = fU t) : kP s t = uJ (kA s) (kA t):=by
 unfold kP;rw [aHq,if_pos (wO.2 h)]
theorem aDa {s t : Card} (h : fU s ≠ fU t) : kP s t = iD (fU s) (fU t):=by
 unfold kP;rw [aHq,if_neg (fun e=>h (wO.1 e))]
theorem slot_y {x : List Card} (h : 1 ≤ x.length ∧ x.length ≤ 2) (h1 : ∀ s ∈ x,okC s ∧ fU s = fU (hd x)) (h2 : fV kP x = true) : jQ x = true:=by
  match x,h with
  | [s],_=>exact decide_eq_true (h1 s (by simp)).1
  | [s,t],_ =>
    have e:=(h1 t (by simp)).2
    have e2 : fU s = fU t:=e.symm
    refine decide_eq_true ⟨⟨⟨(h1 s (by simp)).1,(h1 t (by simp)).1⟩,e2⟩,?_⟩
    have:=(yD.1 h2) 0 s t rfl rfl
    rwa [vY e2] at this
  | s :: t :: u :: r,h=>simp at h
theorem rV {x : List Card} (h : ¬ (1 ≤ x.length ∧ x.length ≤ 2)) : jQ x = false:=by
 cases hb : jQ x with
 | false=>rfl
 | true=>exact absurd (xU hb) h
theorem rW {x : List Card} {s : Card} (hs : s ∈ x) (h : ¬ okC s) : jQ x = false:=by
 cases hb : jQ x with
 | false=>rfl
 | true=>exact absurd (aBk hb s hs) h
theorem nN {x : List Card} (h : jQ x = true) {s : Card} (hs : s ∈ x) : fU s = fU (hd x):=by
  match x,h with
  | [t],h=>simp only [List.mem_singleton] at hs;subst hs;rfl
  | [t,u],h =>
    have:=of_decide_eq_true h
    simp only [List.mem_cons,List.not_mem_nil,or_false] at hs
    rcases hs with rfl | rfl
    · rfl
    exact this.1.2.symm
theorem rU {x : List Card} {s : Card} (hs : s ∈ x) (h : fU s ≠ fU (hd x)) : jQ x = false:=by
 cases hb : jQ x with
 | false=>rfl
 | true=>exact absurd (nN hb hs) h
theorem slot_rise {x : List Card} (h : jQ x = true) : fV kP x = true:=by
  match x,h with
  | [t],h=>rfl
  | [t,u],h =>
    have:=of_decide_eq_true h
    rw [fV,decide_eq_true (by rw [vY this.1.2];exact this.2)];rfl
theorem rR {x : List Card} (h : fV kP x = false) : jQ x = false:=by
 cases hb : jQ x with
 | false=>rfl
 | true=>rw [slot_rise hb] at h;cases h
theorem uO {b : Box} (h : 4096 < b.length) : jM b = 2:=if_pos h
theorem tK {b : Box} (h : ¬ 4096 < b.length) (h1 : b.all jQ = true) (h2 : fV plq b = true) : jM b = 0:=by unfold jM aL4;rw [if_neg h,h1,h2];rfl
theorem iA {b : Box} {x : List Card} (h : ¬ 4096 < b.length) (hx : x ∈ b) (h1 : jQ x = false) : jM b = 350:=by
 have : b.all jQ = false:=by
  cases hb : b.all jQ with
  | false=>rfl
  | true=>have:=List.all_eq_true.1 hb x hx;rw [h1] at this;cases this
 unfold jM aL4;rw [if_neg h,this];rfl
theorem uR {b : Box} (h : ¬ 4096 < b.length) (h1 : fV plq b = false) : jM b = 350:=by
 unfold jM aL4;rw [if_neg h,h1,Bool.and_false];rfl
theorem aEj {b : Box} (h : jM b = 0) : b.length ≤ 4096 ∧ b.all jQ = true ∧ fV plq b = true:=by
 unfold jM at h
 split at h
 ·cases h
 split at h
 ·rename_i h1 h2
  unfold aL4 at h2
  rw [Bool.and_eq_true] at h2
  exact ⟨by omega,h2⟩
 cases h
theorem all_take {b : Box} {k : Nat} {x : List Card} (hx : b[k]? = some x) (h : (b.take k).all jQ = true) (h1 : jQ x = true) : (b.take (k + 1)).all jQ = true:=by
 rw [fP hx,List.all_append,h];simp [h1]
theorem zP {x : List Card} (h : jQ x = true) : 0 < x.length:=(xU h).1
theorem slot_two {s t : Card} (h1 : okC s) (h2 : okC t) (h3 : fU s = fU t) : decide (uJ (kA s) (kA t) < 0) = jQ [s,t]:=decide_eq_decide.2 ⟨fun h=>⟨⟨⟨h1,h2⟩,h3⟩,h⟩,fun h=>h.2⟩
theorem slot_one {s : Card} (h1 : okC s) : true = jQ [s]:=(decide_eq_true h1).symm
theorem gF {s : Card} : aKj s = 0 ↔ okC s:=by
 unfold aKj;split
 ·rename_i h;exact ⟨fun _=>h,fun _=>rfl⟩
 rename_i h;exact ⟨fun e=>(by cases e),fun e=>absurd e h⟩
theorem len_one {x : List Card} (h : x.length = 1) : x = [hd x]:=by
 match x,h with
 | [s],_=>rfl
end Go.Proofs

namespace Go.Proofs
open Go.XL
def LeW (H H' : Hp) : Prop:=Le H H'
theorem LeW.mono {H H' H'' : Hp} (h : LeW H H') (hle : Le H' H'') : LeW H H'':=Le.trans h hle
end Go.Proofs

namespace Go.Proofs
open Go.XL
theorem aJs : Tryz.prog.eqGuardType Tryz.prog.depth 83 = false:=by kernel_rfl
theorem kM : fW Tryz.prog 85 0 = some 0:=by kernel_rfl
theorem gQ : tyF Tryz.prog 27 1 false = true:=by kernel_rfl
theorem lZ : tyF Tryz.prog 85 1 true = true:=by kernel_rfl
theorem lY : gH Tryz.prog 49 = some [.int .i64 0,.int .i64 0,.int .i64 0,.slice none 0 0,.int .u8 0,.int .u8 0,.int .u8 0,.int .u8 0,.int .u8 0,.int .u8 0,.int .u8 0,.int .u8 0,.int .u8 0,.int .u8 0,.int .u8 0,.int .u8 0,.int .u8 0,.int .u8 0,.int .u8 0,.int .u8 0,.int .u8 0,.int .u8 0,.int .u8 0,.int .u8 0,.int .u8 0,.int .u8 0,.int .u8 0,.int .u8 0,.int .u8 0,.int .u8 0,.int .u8 0,.int .u8 0,.int .u8 0,.int .u8 0,.int .u8 0,.int .u8 0]:=by kernel_rfl
theorem uF : gH Tryz.prog 85 = some [.slice none 0 0]:=by kernel_rfl
theorem riseC_fn (a : Option Addr) (c : Nat) (l : List Card) (H : Hp) (hs : SlR eV H a c l) (hl : l.length < 9223372036854775808) (g : Value) (hg : ∀ (x y : Card) (ax ay : Option Addr) (cx cy : Nat) (H2 : Hp),Le H H2 → x ∈ l → y ∈ l → SlR (eO .i64) H2 ax cx x.C → SlR (eO .i64) H2 ay cy y.C → x.D.length = 32 → y.D.length = 32 → FnV Tryz.prog g [.agg ⟨fA x.R x.E x.J x.C.length x.D ax cx⟩,.agg ⟨fA y.R y.E y.J y.C.length y.D ay cy⟩] H2 [] (bX fun v _ _=>v = .int .i64 (kP x y))) : FnC Tryz.prog 69 #[.slice a l.length c,g] H [] (bX (fun v _ _=>v = .bool (fV kP l))):=by
 refine FnC.intro (args:=[.slice a l.length c,g]) Tryz.func69 rfl rfl Tryz.ntmps69 rfl rfl rfl fun G rest=>?_
 refine aZ (aH (bA rfl rfl (aE (aR (aZ (aZ (aH (bA rfl rfl (aE (aR (bT (cE [5,0,1] rfl (eE (base:=[(0,_),(1,_)]) (fun ζ : Nat=>[(5,.int .i64 ((ζ + 1 : Nat) : Int))]) (fun ζ Hl own=>ζ ≤ (l.length + 1) ∧ rest = own ∧ (fV kP l = fV kP (l.drop (ζ))) ∧ (LeW H Hl)) (fun ζ=>(l.length + 1) - ζ) 0 (aQ rfl (aQ rfl (aQ rfl bP))) (by repeat(first|exact sL _|apply sD|apply sC)) ⟨Nat.zero_le _,rfl,rfl,Le.refl _⟩ ?_)))))))))))));rintro k Hl0 _ bM ⟨hkk,rfl,hr,hLH⟩;replace hs:=hs.mono bM
 try dsimp only at ⊢
 refine aZ (aZ (aH (aU rfl rfl (aU rfl rfl (cH (ts:=#[]) rfl Tryz.underlying27 rfl (dN rfl rfl rfl (aE (aR (cW rfl (fun gJ=>?_) (fun gJ=>?_))))))))))
 ·refine bS (aR (aZ (bT (aZ (cE [0,1,5] rfl ?_)))));obtain ⟨bEX,oEX,rfl⟩:=hs.addr (by omega);obtain ⟨_,xX,hxX,⟨axX,cxX,rfl,hdX,hDX⟩,hpX⟩:=hs.elem (k) (by omega);obtain ⟨_,xY,hxY,⟨axY,cxY,rfl,hdY,hDY⟩,hpY⟩:=hs.elem (k + 1) (by omega)
  apply iJ (fun _=>True) trivial 10 [eqF _,eqF _,eqF _,eqF _,eqF _,eqF _,eqF _,eqF _,eqF _,eqF _] follows (by kernel_rfl) (by kernel_rfl) ⟨bB _,bB _,bB _,bB _,bB _,bB _,bB _,bB _,bB _,bB _,trivial⟩ ?steps2 ?tail2
  case steps2 =>
   refine bI rfl ?_ ?_
   ·intro X HD aD _
    replace hs:=hs.mono aD;replace hLH:=hLH.mono aD;replace hpX:=hpX.mono aD;replace hdX:=hdX.mono aD;replace hpY:=hpY.mono aD;replace hdY:=hdY.mono aD;replace bM:=bM.trans aD;refine aW rfl (aU rfl rfl (aE ?_))
    exact bH trivial rfl
   refine bI rfl ?_ ?_
   ·intro X HD aD _
    replace hs:=hs.mono aD;replace hLH:=hLH.mono aD;replace hpX:=hpX.mono aD;replace hdX:=hdX.mono aD;replace hpY:=hpY.mono aD;replace hdY:=hdY.mono aD;replace bM:=bM.trans aD;refine aW rfl (aU rfl rfl (aE ?_))
    exact bH trivial rfl
   refine bI rfl ?_ ?_
   ·intro X HD aD _
    replace hs:=hs.mono aD;replace hLH:=hLH.mono aD;replace hpX:=hpX.mono aD;replace hdX:=hdX.mono aD;replace hpY:=hpY.mono aD;replace hdY:=hdY.mono aD;replace bM:=bM.trans aD;refine aW rfl (aU rfl rfl (aE ?_))
    exact bH trivial rfl
   refine bI rfl ?_ ?_
   ·intro X HD aD _
    replace hs:=hs.mono aD;replace hLH:=hLH.mono aD;replace hpX:=hpX.mono aD;replace hdX:=hdX.mono aD;replace hpY:=hpY.mono aD;replace hdY:=hdY.mono aD;replace bM:=bM.trans aD;refine wPq rfl rfl rfl (aW rfl (iF (c:=((k : Nat) : Int)) rfl rfl ((bU (by omega) (by omega)).trans (by omega)) rfl (aE ?_)))
    exact bH trivial rfl
   refine bI rfl ?_ ?_
   ·intro X HD aD _
    replace hs:=hs.mono aD;replace hLH:=hLH.mono aD;replace hpX:=hpX.mono aD;replace hdX:=hdX.mono aD;replace hpY:=hpY.mono aD;replace hdY:=hdY.mono aD;replace bM:=bM.trans aD;refine wPq rfl rfl rfl (wPq rfl rfl rfl (aW rfl (fG rfl rfl Tryz.underlying27 eI (by omega) (by omega) rfl (aE ?_))))
    exact bH trivial rfl
   refine bI rfl ?_ ?_
   ·intro X HD aD _
    replace hs:=hs.mono aD;replace hLH:=hLH.mono aD;replace hpX:=hpX.mono aD;replace hdX:=hdX.mono aD;replace hpY:=hpY.mono aD;replace hdY:=hdY.mono aD;replace bM:=bM.trans aD;refine wPq rfl rfl rfl (aW rfl (cQ rfl (by assumption) eI rfl rfl rfl (aE ?_)))
    exact bH trivial rfl
   refine bI rfl ?_ ?_
   ·intro X HD aD _
    replace hs:=hs.mono aD;replace hLH:=hLH.mono aD;replace hpX:=hpX.mono aD;replace hdX:=hdX.mono aD;replace hpY:=hpY.mono aD;replace hdY:=hdY.mono aD;replace bM:=bM.trans aD;refine aW rfl (aU rfl rfl (aE ?_))
    exact bH trivial rfl
   refine bI rfl ?_ ?_
   ·intro X HD aD _
    replace hs:=hs.mono aD;replace hLH:=hLH.mono aD;replace hpX:=hpX.mono aD;replace hdX:=hdX.mono aD;replace hpY:=hpY.mono aD;replace hdY:=hdY.mono aD;replace bM:=bM.trans aD;refine aW rfl (aU rfl rfl (aE ?_))
    exact bH trivial rfl
   refine bI rfl ?_ ?_
   ·intro X HD aD _
    replace hs:=hs.mono aD;replace hLH:=hLH.mono aD;replace hpX:=hpX.mono aD;replace hdX:=hdX.mono aD;replace hpY:=hpY.mono aD;replace hdY:=hdY.mono aD;replace bM:=bM.trans aD;refine wPq rfl rfl rfl (wPq rfl rfl rfl (aW rfl (fG rfl rfl Tryz.underlying27 eI (by omega) (by omega) rfl (aE ?_))))
    exact bH trivial rfl
   refine bI rfl ?_ ?_
   ·intro X HD aD _
    replace hs:=hs.mono aD;replace hLH:=hLH.mono aD;replace hpX:=hpX.mono aD;replace hdX:=hdX.mono aD;replace hpY:=hpY.mono aD;replace hdY:=hdY.mono aD;replace bM:=bM.trans aD;refine wPq rfl rfl rfl (aW rfl (cQ rfl (by assumption) eI rfl rfl rfl (aE ?_)))
    exact bH trivial rfl
   exact eU rfl
  case tail2 =>
   intro HD aD _
   replace hs:=hs.mono aD;replace hLH:=hLH.mono aD;replace hpX:=hpX.mono aD;replace hdX:=hdX.mono aD;replace hpY:=hpY.mono aD;replace hdY:=hdY.mono aD;replace bM:=bM.trans aD;refine wPq rfl rfl rfl (wPq rfl rfl rfl (wPq rfl rfl rfl (wPq rfl rfl rfl (wPq rfl rfl rfl (wPq rfl rfl rfl (wPq rfl rfl rfl (wPq rfl rfl rfl (wPq rfl rfl rfl (wPq rfl rfl rfl (aW rfl (iI rfl trivial rfl (hg xX xY _ _ _ _ _ hLH (List.mem_of_getElem? hxX) (List.mem_of_getElem? hxY) hdX hdY hDX hDY) rfl ?_)))))))))));rintro _ HN oN fO rfl;replace hs:=hs.mono fO;replace hLH:=hLH.mono fO;replace hpX:=hpX.mono fO;replace hdX:=hdX.mono fO;replace hpY:=hpY.mono fO;replace hdY:=hdY.mono fO;replace bM:=bM.trans fO;refine jC rfl rfl rfl (aE (aR (cW rfl (fun c1_6=>?_) (fun c1_6=>?_))))
   ·refine aZ (aH (bA rfl rfl (aE (aR (bW (dQ (bY (eG (dQ (bY ?_))))))))));refine ⟨rfl,_,[],rfl,(by repeat(first|exact sL _|apply sC)),bX.mk ?_⟩
    first | exact congrArg Value.bool (pG hr hxX hxY (by omega)) | exact congrArg Value.bool (pJ hr (by omega))
   refine bS (dP (aR (aH (aU rfl rfl (dJ rfl rfl (bU (by omega) (by omega)) rfl (bA rfl rfl (aE (cR (k + 1) (by show (l.length + 1) - (k + 1) < (l.length + 1) - k;omega) (aQ rfl (aQ rfl (aQ rfl bP))) (⟨by show k + 1 ≤ (l.length + 1);omega,rfl,zJ hr hxX hxY (by omega),hLH⟩) (by repeat(first|exact sL _|apply sD|apply sC)) (bM)))))))))
 skip
 refine dX (dA (cZ (dI rfl (aR (aZ (aH (bA rfl rfl (aE (aR (bW ?_))))))))));refine ⟨rfl,_,[],rfl,(by repeat(first|exact sL _|apply sC)),bX.mk ?_⟩
 first | exact congrArg Value.bool (pG hr hxX hxY (by omega)) | exact congrArg Value.bool (pJ hr (by omega))
theorem slotcmp_fn (l m : List Card) (a b : Option Addr) (c d : Nat) (H : Hp) (hs : SlR eV H a c l) (ht : SlR eV H b d m) (hl : 0 < l.length) (hm : 0 < m.length) : FnC Tryz.prog 72 #[.agg ⟨[.slice a l.length c]⟩,.agg ⟨[.slice b m.length d]⟩] H [] (bX (fun v _ _=>v = .int .i64 (plq l m))):=by
 refine FnC.intro (args:=[.agg ⟨[.slice a l.length c]⟩,.agg ⟨[.slice b m.length d]⟩]) Tryz.func72 rfl rfl Tryz.ntmps72 rfl rfl rfl fun G rest=>?_
 refine aZ (aH (dZ rfl rfl rfl (fun b2=>dZ rfl rfl rfl (fun b3=>bA rfl rfl (aE (aR (aZ (cE [2,3] rfl ?_))))))));obtain ⟨bEX,oEX,rfl⟩:=hs.addr (by omega);obtain ⟨_,xX,hxX,⟨axX,cxX,rfl,hdX,hDX⟩,hpX⟩:=hs.elem (0) (by omega);obtain ⟨bEY,oEY,rfl⟩:=ht.addr (by omega);obtain ⟨_,xY,hxY,⟨axY,cxY,rfl,hdY,hDY⟩,hpY⟩:=ht.elem (0) (by omega);obtain rfl:=aCe hxX;obtain rfl:=aCe hxY
 apply yS (fun _=>True) trivial [10,11] (by decide) [(12,10)] (fun _ v p _=>v = .pointer (some ⟨p.1,0,none⟩) ∧ p.2 = .cells 83 [.int .i64 0,.int .i64 0,.int .i64 0]) (fun _ v p _=>v = .pointer (some ⟨p.1,0,none⟩) ∧ p.2 = .cells 83 [.int .i64 (hd l).R,.int .i64 (hd l).E,.int .i64 (hd l).J]) (fun _ _ _ _ _ _ h=>h) (fun _ _ _ _ _ _ h=>h) 13 [eqF _,eqF _,eqF _,eqF _,eqF _,eqF _,eqF _,eqF _,eqF _,eqF _,rC,rC,rC] follows (by kernel_rfl) ⟨bB _,bB _,bB _,bB _,bB _,bB _,bB _,bB _,bB _,bB _,gR,gR,gR,trivial⟩ (by decide) (by kernel_rfl) ?steps1 ?tail1
 case steps1 =>
  refine eA rfl rfl ?_ ?_
  ·intro X ext HD aD _
   replace hs:=hs.mono aD;replace ht:=ht.mono aD;replace hpX:=hpX.mono aD;replace hdX:=hdX.mono aD;replace hpY:=hpY.mono aD;replace hdY:=hdY.mono aD;exact bG rfl (bD rfl kM rfl (aE (bN rfl trivial rfl)))
  refine eA rfl rfl ?_ ?_
  ·intro X ext HD aD _
   replace hs:=hs.mono aD;replace ht:=ht.mono aD;replace hpX:=hpX.mono aD;replace hdX:=hdX.mono aD;replace hpY:=hpY.mono aD;replace hdY:=hdY.mono aD;exact wQq rfl rfl rfl (bG rfl (bK 1 rfl rfl gQ rfl rfl rfl (aE (bN rfl trivial rfl))))
  refine eA rfl rfl ?_ ?_
  ·intro X ext HD aD _
   replace hs:=hs.mono aD;replace ht:=ht.mono aD;replace hpX:=hpX.mono aD;replace hdX:=hdX.mono aD;replace hpY:=hpY.mono aD;replace hdY:=hdY.mono aD;exact wQq rfl rfl rfl (bG rfl (fG rfl rfl Tryz.underlying27 eI (by omega) (by omega) rfl (aE (bN rfl trivial rfl))))
  refine eA rfl rfl ?_ ?_
  ·intro X ext HD aD _
   replace hs:=hs.mono aD;replace ht:=ht.mono aD;replace hpX:=hpX.mono aD;replace hdX:=hdX.mono aD;replace hpY:=hpY.mono aD;replace hdY:=hdY.mono aD;exact wQq rfl rfl rfl (bG rfl (cQ rfl (by assumption) eI rfl rfl rfl (aE (bN rfl trivial rfl))))
  refine eA rfl rfl ?_ ?_
  ·intro X ext HD aD _
   replace hs:=hs.mono aD;replace ht:=ht.mono aD;replace hpX:=hpX.mono aD;replace hdX:=hdX.mono aD;replace hpY:=hpY.mono aD;replace hdY:=hdY.mono aD;exact wQq rfl rfl rfl (bG rfl (bR rfl (at_fn (hd l) _ _ _ hdX hDX) rfl (aE (bN rfl trivial rfl))))
  refine eA rfl rfl ?_ ?_
  ·intro X ext HD aD _
   replace hs:=hs.mono aD;replace ht:=ht.mono aD;replace hpX:=hpX.mono aD;replace hdX:=hdX.mono aD;replace hpY:=hpY.mono aD;replace hdY:=hdY.mono aD;exact bG rfl (bD rfl kM rfl (aE (bN rfl trivial rfl)))
  refine eA rfl rfl ?_ ?_
  ·intro X ext HD aD _
   replace hs:=hs.mono aD;replace ht:=ht.mono aD;replace hpX:=hpX.mono aD;replace hdX:=hdX.mono aD;replace hpY:=hpY.mono aD;replace hdY:=hdY.mono aD;exact wQq rfl rfl rfl (bG rfl (bK 0 rfl rfl gQ rfl rfl rfl (aE (bN rfl trivial rfl))))
  refine eA rfl rfl ?_ ?_
  ·intro X ext HD aD _
   replace hs:=hs.mono aD;replace ht:=ht.mono aD;replace hpX:=hpX.mono aD;replace hdX:=hdX.mono aD;replace hpY:=hpY.mono aD;replace hdY:=hdY.mono aD;exact wQq rfl rfl rfl (bG rfl (fG rfl rfl Tryz.underlying27 eI (by omega) (by omega) rfl (aE (bN rfl trivial rfl))))
  refine eA rfl rfl ?_ ?_
  ·intro X ext HD aD _
   replace hs:=hs.mono aD;replace ht:=ht.mono aD;replace hpX:=hpX.mono aD;replace hdX:=hdX.mono aD;replace hpY:=hpY.mono aD;replace hdY:=hdY.mono aD;exact wQq rfl rfl rfl (bG rfl (cQ rfl (by assumption) eI rfl rfl rfl (aE (bN rfl trivial rfl))))
  refine eA rfl rfl ?_ ?_
  ·intro X ext HD aD _
   replace hs:=hs.mono aD;replace ht:=ht.mono aD;replace hpX:=hpX.mono aD;replace hdX:=hdX.mono aD;replace hpY:=hpY.mono aD;replace hdY:=hdY.mono aD;exact wQq rfl rfl rfl (bG rfl (bR rfl (at_fn (hd m) _ _ _ hdY hDY) rfl (aE (bN rfl trivial rfl))))
  refine eA rfl rfl ?_ ?_
  ·intro X ext HD aD _
   replace hs:=hs.mono aD;replace ht:=ht.mono aD;replace hpX:=hpX.mono aD;replace hdX:=hdX.mono aD;replace hpY:=hpY.mono aD;replace hdY:=hdY.mono aD;refine bG rfl (dC aAn rfl (fun b5=>aE ?_))
   exact kJ rfl trivial trivial (⟨rfl,rfl⟩)
  refine eA rfl rfl ?_ ?_
  ·intro X ext HD aD _
   replace hs:=hs.mono aD;replace ht:=ht.mono aD;replace hpX:=hpX.mono aD;replace hdX:=hdX.mono aD;replace hpY:=hpY.mono aD;replace hdY:=hdY.mono aD;refine bG rfl (dC aAn rfl (fun b6=>aE ?_))
   exact kJ rfl trivial trivial (⟨rfl,rfl⟩)
  refine tU rfl rfl ?_ ?_
  ·intro X ext p HD aD _
   replace hs:=hs.mono aD;replace ht:=ht.mono aD;replace hpX:=hpX.mono aD;replace hdX:=hdX.mono aD;replace hpY:=hpY.mono aD;replace hdY:=hdY.mono aD;refine dD rfl rfl ?_;rintro _ _;refine wQq rfl rfl rfl (bG rfl ?_)
   intro hfo
   obtain ⟨be10,se10⟩:=p;obtain ⟨rfl,hse10⟩:=hfo _ _ rfl rfl
   simp only at hse10
   subst hse10
   refine bZ 0 rfl rfl rfl rfl xV rfl rfl rfl rfl rfl (aE ?_)
   exact vU trivial (trivial) (fun u t h1 h2=>by cases (show some _ = some t from h1);cases (show some (Value.pointer _) = some u from h2);exact ⟨rfl,rfl⟩)
  exact tR rfl
 case tail1 =>
  intro HD aD _
  replace hs:=hs.mono aD;replace ht:=ht.mono aD;replace hpX:=hpX.mono aD;replace hdX:=hdX.mono aD;replace hpY:=hpY.mono aD;replace hdY:=hdY.mono aD;refine wQq rfl rfl rfl (wQq rfl rfl rfl (wQq rfl rfl rfl (wQq rfl rfl rfl (wQq rfl rfl rfl (wQq rfl rfl rfl (wQq rfl rfl rfl (wQq rfl rfl rfl (wQq rfl rfl rfl (wQq rfl rfl rfl (dD rfl rfl ?_))))))))));rintro _ _;refine dD rfl rfl ?_;rintro _ _;refine oT rfl rfl (bG rfl (iO ?_))
  intro pk10 hpk10
  obtain ⟨rfl,hpk10b⟩:=hpk10 _ ⟨_,rfl,rfl⟩;obtain ⟨be10,se10⟩:=pk10
  simp only at hpk10b
  subst hpk10b
  refine iO ?_
  intro pk11 hpk11
  obtain ⟨rfl,hpk11b⟩:=hpk11 _ ⟨_,rfl,rfl⟩;obtain ⟨be11,se11⟩:=pk11
  simp only at hpk11b
  subst hpk11b
  refine fL (bZ 1 rfl rfl rfl rfl xV rfl rfl rfl rfl rfl (aE (aR (aZ (cE [5,6] rfl (oJ 0 rfl rfl rfl (fun HK5 oK5 hleK5 hbK5 hoK5=>?_)))))))
  have kT:=PtH.of_is hbK5 hoK5
  replace hs:=hs.mono hleK5;replace ht:=ht.mono hleK5;replace hpX:=hpX.mono hleK5;replace hdX:=hdX.mono hleK5;replace hpY:=hpY.mono hleK5;replace hdY:=hdY.mono hleK5;refine oJ 0 rfl rfl rfl (fun HK6 oK6 hleK6 hbK6 hoK6=>?_)
  have mY:=PtH.of_is hbK6 hoK6
  replace hs:=hs.mono hleK6;replace ht:=ht.mono hleK6;replace hpX:=hpX.mono hleK6;replace hdX:=hdX.mono hleK6;replace hpY:=hpY.mono hleK6;replace hdY:=hdY.mono hleK6;replace kT:=kT.mono hleK6
  have hP5:=SlR.of_pt (k:=.i64) (l:=fU (hd l)) kT
  have hP6:=SlR.of_pt (k:=.i64) (l:=fU (hd m)) mY
  apply jR 2 [eqF _,eqF _] follows (by kernel_rfl) (by kernel_rfl) ⟨bB _,bB _,trivial⟩ ?steps6 ?tail6
  case steps6 =>
   refine bO rfl ?_ ?_
   ·intro X
    refine aW rfl (mD rfl Tryz.underlying83 dT rfl (aE ?_))
    exact bH rfl rfl
   refine bO rfl ?_ ?_
   ·intro X
    refine aW rfl (mD rfl Tryz.underlying83 dT rfl (aE ?_))
    exact bH rfl rfl
   exact eU rfl
  case tail6 =>
   refine wPq rfl rfl rfl (wPq rfl rfl rfl (aW rfl (bR rfl (aCt _ _ _ _ (fU (hd l)) (fU (hd m)) _ hP5 hP6 (show (3 : Nat) < 9223372036854775808 by decide) (show (3 : Nat) < 9223372036854775808 by decide)) rfl (bA rfl rfl (aE (aR (bW ?_)))))));refine ⟨rfl,_,[],rfl,(by repeat(first|exact sL _|apply sC)),bX.mk ?_⟩
   rfl
theorem riseB_fn (a : Option Addr) (c : Nat) (l : Box) (H : Hp) (hs : SlR (slR eV) H a c l) (hl : l.length < 9223372036854775808) (g : Value) (hg : ∀ (x y : List Card) (ax ay : Option Addr) (cx cy : Nat) (H2 : Hp),Le H H2 → x ∈ l → y ∈ l → SlR eV H2 ax cx x → SlR eV H2 ay cy y → FnV Tryz.prog g [.agg ⟨[.slice ax x.length cx]⟩,.agg ⟨[.slice ay y.length cy]⟩] H2 [] (bX fun v _ _=>v = .int .i64 (plq x y))) : FnC Tryz.prog 71 #[.slice a l.length c,g] H [] (bX (fun v _ _=>v = .bool (fV plq l))):=by
 refine FnC.intro (args:=[.slice a l.length c,g]) Tryz.func71 rfl rfl Tryz.ntmps71 rfl rfl rfl fun G rest=>?_
 refine aZ (aH (bA rfl rfl (aE (aR (aZ (aZ (aH (bA rfl rfl (aE (aR (bT (cE [5,0,1] rfl (eE (base:=[(0,_),(1,_)]) (fun ζ : Nat=>[(5,.int .i64 ((ζ + 1 : Nat) : Int))]) (fun ζ Hl own=>ζ ≤ (l.length + 1) ∧ rest = own ∧ (fV plq l = fV plq (l.drop (ζ))) ∧ (LeW H Hl)) (fun ζ=>(l.length + 1) - ζ) 0 (aQ rfl (aQ rfl (aQ rfl bP))) (by repeat(first|exact sL _|apply sD|apply sC)) ⟨Nat.zero_le _,rfl,rfl,Le.refl _⟩ ?_)))))))))))));rintro k Hl0 _ bM ⟨hkk,rfl,hr,hLH⟩;replace hs:=hs.mono bM
 try dsimp only at ⊢
 refine aZ (aZ (aH (aU rfl rfl (aU rfl rfl (cH (ts:=#[]) rfl Tryz.underlying38 rfl (dN rfl rfl rfl (aE (aR (cW rfl (fun gJ=>?_) (fun gJ=>?_))))))))))
 ·refine bS (aR (aZ (bT (aZ (cE [0,1,5] rfl ?_)))));obtain ⟨bEX,oEX,rfl⟩:=hs.addr (by omega);obtain ⟨_,xX,hxX,⟨axX,cxX,rfl,hdX⟩,hpX⟩:=hs.elem (k) (by omega);obtain ⟨_,xY,hxY,⟨axY,cxY,rfl,hdY⟩,hpY⟩:=hs.elem (k + 1) (by omega)
  apply iJ (fun _=>True) trivial 10 [eqF _,eqF _,eqF _,eqF _,eqF _,eqF _,eqF _,eqF _,eqF _,eqF _] follows (by kernel_rfl) (by kernel_rfl) ⟨bB _,bB _,bB _,bB _,bB _,bB _,bB _,bB _,bB _,bB _,trivial⟩ ?steps2 ?tail2
  case steps2 =>
   refine bI rfl ?_ ?_
   ·intro X HD aD _
    replace hs:=hs.mono aD;replace hLH:=hLH.mono aD;replace hpX:=hpX.mono aD;replace hdX:=hdX.mono aD;replace hpY:=hpY.mono aD;replace hdY:=hdY.mono aD;replace bM:=bM.trans aD;refine aW rfl (aU rfl rfl (aE ?_))
    exact bH trivial rfl
   refine bI rfl ?_ ?_
   ·intro X HD aD _
    replace hs:=hs.mono aD;replace hLH:=hLH.mono aD;replace hpX:=hpX.mono aD;replace hdX:=hdX.mono aD;replace hpY:=hpY.mono aD;replace hdY:=hdY.mono aD;replace bM:=bM.trans aD;refine aW rfl (aU rfl rfl (aE ?_))
    exact bH trivial rfl
   refine bI rfl ?_ ?_
   ·intro X HD aD _
    replace hs:=hs.mono aD;replace hLH:=hLH.mono aD;replace hpX:=hpX.mono aD;replace hdX:=hdX.mono aD;replace hpY:=hpY.mono aD;replace hdY:=hdY.mono aD;replace bM:=bM.trans aD;refine aW rfl (aU rfl rfl (aE ?_))
    exact bH trivial rfl
   refine bI rfl ?_ ?_
   ·intro X HD aD _
    replace hs:=hs.mono aD;replace hLH:=hLH.mono aD;replace hpX:=hpX.mono aD;replace hdX:=hdX.mono aD;replace hpY:=hpY.mono aD;replace hdY:=hdY.mono aD;replace bM:=bM.trans aD;refine wPq rfl rfl rfl (aW rfl (iF (c:=((k : Nat) : Int)) rfl rfl ((bU (by omega) (by omega)).trans (by omega)) rfl (aE ?_)))
    exact bH trivial rfl
   refine bI rfl ?_ ?_
   ·intro X HD aD _
    replace hs:=hs.mono aD;replace hLH:=hLH.mono aD;replace hpX:=hpX.mono aD;replace hdX:=hdX.mono aD;replace hpY:=hpY.mono aD;replace hdY:=hdY.mono aD;replace bM:=bM.trans aD;refine wPq rfl rfl rfl (wPq rfl rfl rfl (aW rfl (fG rfl rfl Tryz.underlying38 lZ (by omega) (by omega) rfl (aE ?_))))
    exact bH trivial rfl
   refine bI rfl ?_ ?_
   ·intro X HD aD _
    replace hs:=hs.mono aD;replace hLH:=hLH.mono aD;replace hpX:=hpX.mono aD;replace hdX:=hdX.mono aD;replace hpY:=hpY.mono aD;replace hdY:=hdY.mono aD;replace bM:=bM.trans aD;refine wPq rfl rfl rfl (aW rfl (cQ rfl (by assumption) lZ rfl rfl rfl (aE ?_)))
    exact bH trivial rfl
   refine bI rfl ?_ ?_
   ·intro X HD aD _
    replace hs:=hs.mono aD;replace hLH:=hLH.mono aD;replace hpX:=hpX.mono aD;replace hdX:=hdX.mono aD;replace hpY:=hpY.mono aD;replace hdY:=hdY.mono aD;replace bM:=bM.trans aD;refine aW rfl (aU rfl rfl (aE ?_))
    exact bH trivial rfl
   refine bI rfl ?_ ?_
   ·intro X HD aD _
    replace hs:=hs.mono aD;replace hLH:=hLH.mono aD;replace hpX:=hpX.mono aD;replace hdX:=hdX.mono aD;replace hpY:=hpY.mono aD;replace hdY:=hdY.mono aD;replace bM:=bM.trans aD;refine aW rfl (aU rfl rfl (aE ?_))
    exact bH trivial rfl
   refine bI rfl ?_ ?_
   ·intro X HD aD _
    replace hs:=hs.mono aD;replace hLH:=hLH.mono aD;replace hpX:=hpX.mono aD;replace hdX:=hdX.mono aD;replace hpY:=hpY.mono aD;replace hdY:=hdY.mono aD;replace bM:=bM.trans aD;refine wPq rfl rfl rfl (wPq rfl rfl rfl (aW rfl (fG rfl rfl Tryz.underlying38 lZ (by omega) (by omega) rfl (aE ?_))))
    exact bH trivial rfl
   refine bI rfl ?_ ?_
   ·intro X HD aD _
    replace hs:=hs.mono aD;replace hLH:=hLH.mono aD;replace hpX:=hpX.mono aD;replace hdX:=hdX.mono aD;replace hpY:=hpY.mono aD;replace hdY:=hdY.mono aD;replace bM:=bM.trans aD;refine wPq rfl rfl rfl (aW rfl (cQ rfl (by assumption) lZ rfl rfl rfl (aE ?_)))
    exact bH trivial rfl
   exact eU rfl
  case tail2 =>
   intro HD aD _
   replace hs:=hs.mono aD;replace hLH:=hLH.mono aD;replace hpX:=hpX.mono aD;replace hdX:=hdX.mono aD;replace hpY:=hpY.mono aD;replace hdY:=hdY.mono aD;replace bM:=bM.trans aD;refine wPq rfl rfl rfl (wPq rfl rfl rfl (wPq rfl rfl rfl (wPq rfl rfl rfl (wPq rfl rfl rfl (wPq rfl rfl rfl (wPq rfl rfl rfl (wPq rfl rfl rfl (wPq rfl rfl rfl (wPq rfl rfl rfl (aW rfl (iI rfl trivial rfl (hg xX xY _ _ _ _ _ hLH (List.mem_of_getElem? hxX) (List.mem_of_getElem? hxY) hdX hdY) rfl ?_)))))))))));rintro _ HN oN fO rfl;replace hs:=hs.mono fO;replace hLH:=hLH.mono fO;replace hpX:=hpX.mono fO;replace hdX:=hdX.mono fO;replace hpY:=hpY.mono fO;replace hdY:=hdY.mono fO;replace bM:=bM.trans fO;refine jC rfl rfl rfl (aE (aR (cW rfl (fun c1_6=>?_) (fun c1_6=>?_))))
   ·refine aZ (aH (bA rfl rfl (aE (aR (bW (dQ (bY (eG (dQ (bY ?_))))))))));refine ⟨rfl,_,[],rfl,(by repeat(first|exact sL _|apply sC)),bX.mk ?_⟩
    first | exact congrArg Value.bool (pG hr hxX hxY (by omega)) | exact congrArg Value.bool (pJ hr (by omega))
   refine bS (dP (aR (aH (aU rfl rfl (dJ rfl rfl (bU (by omega) (by omega)) rfl (bA rfl rfl (aE (cR (k + 1) (by show (l.length + 1) - (k + 1) < (l.length + 1) - k;omega) (aQ rfl (aQ rfl (aQ rfl bP))) (⟨by show k + 1 ≤ (l.length + 1);omega,rfl,zJ hr hxX hxY (by omega),hLH⟩) (by repeat(first|exact sL _|apply sD|apply sC)) (bM)))))))))
 skip
 refine dX (dA (cZ (dI rfl (aR (aZ (aH (bA rfl rfl (aE (aR (bW ?_))))))))));refine ⟨rfl,_,[],rfl,(by repeat(first|exact sL _|apply sC)),bX.mk ?_⟩
 first | exact congrArg Value.bool (pG hr hxX hxY (by omega)) | exact congrArg Value.bool (pJ hr (by omega))
theorem aBe (a : Option Addr) (c : Nat) (l : Box) (H : Hp) (hs : SlR (slR eV) H a c l) (hl : l.length < 9223372036854775808) (hlx : ∀ x ∈ l,x.length < 9223372036854775808) (hlc : ∀ x ∈ l,∀ s ∈ x,s.C.length < 9223372036854775808) : FnC Tryz.prog 22 #[.slice a l.length c] H [] (bX (fun v _ _=>v = .int .i64 (jM l))):=by
 refine FnC.intro (args:=[.slice a l.length c]) Tryz.func22 rfl rfl Tryz.ntmps22 rfl rfl rfl fun G rest=>?_
 refine aZ (aH (bA rfl rfl (aE (aR (aZ (aZ (aH (aU rfl rfl (cH (ts:=#[]) rfl Tryz.underlying38 rfl (lT rfl rfl rfl (aE (aR (cW rfl (fun gJ=>?_) (fun gJ=>?_))))))))))))))
 ·refine aZ (aH (bA rfl rfl (aE (aR (bW (bY ?_))))));refine ⟨rfl,_,[],rfl,(by repeat(first|exact sL _|apply sC)),bX.mk ?_⟩
  first | exact congrArg (Value.int .i64) (uO (by omega)).symm | exact congrArg (Value.int .i64) (iA (by omega) (List.mem_of_getElem? gO) (rV (by omega))).symm | exact congrArg (Value.int .i64) (iA (by omega) (List.mem_of_getElem? gO) (rW (List.mem_of_getElem? uC) hok)).symm | exact congrArg (Value.int .i64) (iA (by omega) (List.mem_of_getElem? gO) (rU (List.mem_of_getElem? uC) (by assumption))).symm | exact congrArg (Value.int .i64) (iA (by omega) (List.mem_of_getElem? gO) (rR (by simpa using (show (!fV kP x14) = true by assumption)))).symm | exact congrArg (Value.int .i64) (uR (by omega) (by simpa using (show (!fV plq l) = true by assumption))).symm | exact congrArg (Value.int .i64) (tK (by omega) hall (by simpa using (show (!fV plq l) = false by assumption))).symm
 refine bS (aR (aZ (aZ (aH (aU rfl rfl (cH (ts:=#[]) rfl Tryz.underlying38 rfl (aU rfl rfl (aE (aR (bT (cE [12,0,10,11] rfl (eE (base:=[(0,_),(10,_),(11,_)]) (fun ζ : Nat=>[(12,.int .i64 (ζ : Nat))]) (fun ζ Hl own=>ζ ≤ l.length ∧ rest = own ∧ ((l.take (ζ)).all jQ = true)) (fun ζ=>l.length - ζ) 0 (aQ rfl (aQ rfl (aQ rfl (aQ rfl bP)))) (by repeat(first|exact sL _|apply sD|apply sC)) ⟨Nat.zero_le _,rfl,rfl⟩ ?_))))))))))));rintro i Hl0 _ bM ⟨hki,rfl,hall⟩;replace hs:=hs.mono bM
 try dsimp only at ⊢
 refine aZ (aH (dN rfl rfl rfl (aE (aR (aZ (cW rfl (fun c1_2=>?_) (fun c1_2=>?_)))))))
 ·refine bS (aR (aZ (bT (aZ (aH (dK rfl hs rfl Tryz.underlying38 lZ (by omega) rfl ?_))))));rintro eb14 eo14 _ x14 gO ⟨ax14,cx14,rfl,iN⟩ gW;refine cQ rfl (by assumption) lZ rfl rfl rfl (dC uF rfl (fun b4=>bZ 0 rfl rfl rfl rfl lZ rfl rfl rfl rfl rfl (aE (aR (aZ (aZ (aH (bD rfl kM rfl (bK 0 rfl rfl gQ rfl rfl rfl (cH (ts:=#[]) rfl Tryz.underlying27 rfl (dN rfl rfl rfl (aU rfl rfl (eW rfl rfl rfl rfl (fun g4=>?_) (fun g4=>?_))))))))))))))
  ·have g4p:=of_decide_eq_false g4
   refine bD rfl kM rfl (bE rfl rfl (g4) rfl (bK 0 rfl rfl gQ rfl rfl rfl (bE rfl rfl (g4) rfl (cH (ts:=#[]) rfl Tryz.underlying27 rfl (bE rfl rfl (g4) rfl (lT rfl rfl rfl (dL rfl (g4) rfl rfl (aE (aR (cW rfl (fun c2_5=>?_) (fun c2_5=>?_)))))))))))
   ·refine aZ (aH (bA rfl rfl (aE (aR (bW (bY (dQ (bY (eG (dQ (bY ?_)))))))))));refine ⟨rfl,_,[],rfl,(by repeat(first|exact sL _|apply sC)),bX.mk ?_⟩
    first | exact congrArg (Value.int .i64) (uO (by omega)).symm | exact congrArg (Value.int .i64) (iA (by omega) (List.mem_of_getElem? gO) (rV (by omega))).symm | exact congrArg (Value.int .i64) (iA (by omega) (List.mem_of_getElem? gO) (rW (List.mem_of_getElem? uC) hok)).symm | exact congrArg (Value.int .i64) (iA (by omega) (List.mem_of_getElem? gO) (rU (List.mem_of_getElem? uC) (by assumption))).symm | exact congrArg (Value.int .i64) (iA (by omega) (List.mem_of_getElem? gO) (rR (by simpa using (show (!fV kP x14) = true by assumption)))).symm | exact congrArg (Value.int .i64) (uR (by omega) (by simpa using (show (!fV plq l) = true by assumption))).symm | exact congrArg (Value.int .i64) (tK (by omega) hall (by simpa using (show (!fV plq l) = false by assumption))).symm
   refine bS (aR (aZ (aZ (aH (bD rfl kM rfl (bK 0 rfl rfl gQ rfl rfl rfl (cH (ts:=#[]) rfl Tryz.underlying27 rfl (aU rfl rfl (aE (aR (bT (cE [29,0,4,10,11,12,27,28] rfl (eE (base:=[(0,_),(4,_),(10,_),(11,_),(12,_),(27,_),(28,_)]) (fun ζ : Nat=>[(29,.int .i64 (ζ : Nat))]) (fun ζ Hl own=>ζ ≤ x14.length ∧ (b4,.cells 85 [.slice ax14 x14.length cx14]) :: rest = own ∧ (∀ s ∈ x14.take (ζ),okC s ∧ fU s = fU (hd x14))) (fun ζ=>x14.length - ζ) 0 (aQ rfl (aQ rfl (aQ rfl (aQ rfl (aQ rfl (aQ rfl (aQ rfl (aQ rfl bP)))))))) (by repeat(first|exact sL _|apply sD|apply sC)) ⟨Nat.zero_le _,rfl,by simp⟩ ?_)))))))))))));rintro j Hl1 _ cD ⟨hkj,rfl,hcs⟩;replace hs:=hs.mono cD;replace gW:=gW.mono cD;replace iN:=iN.mono cD;replace bM:=bM.trans cD
   try dsimp only at ⊢
   refine aZ (aH (dN rfl rfl rfl (aE (aR (aZ (cW rfl (fun c3_6=>?_) (fun c3_6=>?_)))))))
   ·refine bS (aR (aZ (bT (aZ (aH (dK rfl iN rfl Tryz.underlying27 eI (by omega) rfl ?_))))));rintro eb31 eo31 _ x31 uC ⟨ax31,cx31,rfl,jX,hD31⟩ kG;refine cQ rfl (by assumption) eI rfl rfl rfl (dC lY rfl (fun b6=>bZ 0 rfl rfl rfl rfl eI rfl rfl rfl rfl rfl (aE (aR (aZ ?_)))))
    by_cases hok : okC x31
    ·skip
     refine cE [0,4,6,10,11,12,27,28,29] rfl ?_;obtain ⟨bEH,oEH,rfl⟩:=iN.addr (by omega);obtain ⟨_,xH,hxH,⟨axH,cxH,rfl,hdH,hDH⟩,hpH⟩:=iN.elem (0) (by omega);obtain rfl:=aCe hxH
     apply iG (fun _=>True) trivial [] (by decide) (fun _ _ _ _=>True) (fun _ _ _ _ _ _ h=>h) 10 [eqF _,eqF _,eqF _,eqF _,eqF _,eqF _,eqF _,eqF _,eqF _,eqF _] follows (by kernel_rfl) ⟨bB _,bB _,bB _,bB _,bB _,bB _,bB _,bB _,bB _,bB _,trivial⟩ (by decide) ?steps8 ?tail8
     case steps8 =>
      refine bJ rfl ?_ ?_
      ·intro X ext HD aD _
       replace hs:=hs.mono aD;replace gW:=gW.mono aD;replace iN:=iN.mono aD;replace kG:=kG.mono aD;replace jX:=jX.mono aD;replace hpH:=hpH.mono aD;replace hdH:=hdH.mono aD;replace bM:=bM.trans aD;replace cD:=cD.trans aD;exact bG rfl (bK 0 rfl rfl eI rfl rfl rfl (aE (bN rfl trivial rfl)))
      refine bJ rfl ?_ ?_
      ·intro X ext HD aD _
       replace hs:=hs.mono aD;replace gW:=gW.mono aD;replace iN:=iN.mono aD;replace kG:=kG.mono aD;replace jX:=jX.mono aD;replace hpH:=hpH.mono aD;replace hdH:=hdH.mono aD;replace bM:=bM.trans aD;replace cD:=cD.trans aD;exact wQq rfl rfl rfl (bG rfl (bR rfl (nF x31 _ _ _ jX hD31 (hlc _ (List.mem_of_getElem? gO) _ (List.mem_of_getElem? uC))) rfl (aE (bN rfl trivial rfl))))
      refine bJ rfl ?_ ?_
      ·intro X ext HD aD _
       replace hs:=hs.mono aD;replace gW:=gW.mono aD;replace iN:=iN.mono aD;replace kG:=kG.mono aD;replace jX:=jX.mono aD;replace hpH:=hpH.mono aD;replace hdH:=hdH.mono aD;replace bM:=bM.trans aD;replace cD:=cD.trans aD;exact wQq rfl rfl rfl (bG rfl (fZ rfl rfl rfl (aE (bN rfl trivial rfl))))
      refine bJ rfl ?_ ?_
      ·intro X ext HD aD _
       replace hs:=hs.mono aD;replace gW:=gW.mono aD;replace iN:=iN.mono aD;replace kG:=kG.mono aD;replace jX:=jX.mono aD;replace hpH:=hpH.mono aD;replace hdH:=hdH.mono aD;replace bM:=bM.trans aD;replace cD:=cD.trans aD;exact wQq rfl rfl rfl (bG rfl (aU rfl rfl (aE (bN rfl trivial rfl))))
      refine bJ rfl ?_ ?_
      ·intro X ext HD aD _
       replace hs:=hs.mono aD;replace gW:=gW.mono aD;replace iN:=iN.mono aD;replace kG:=kG.mono aD;replace jX:=jX.mono aD;replace hpH:=hpH.mono aD;replace hdH:=hdH.mono aD;replace bM:=bM.trans aD;replace cD:=cD.trans aD;exact wQq rfl rfl rfl (bG rfl (bE rfl rfl (decide_eq_false (fun h=>h (gF.2 hok))) rfl (bK 0 rfl rfl eI rfl rfl rfl (aE (bN rfl trivial rfl)))))
      refine bJ rfl ?_ ?_
      ·intro X ext HD aD _
       replace hs:=hs.mono aD;replace gW:=gW.mono aD;replace iN:=iN.mono aD;replace kG:=kG.mono aD;replace jX:=jX.mono aD;replace hpH:=hpH.mono aD;replace hdH:=hdH.mono aD;replace bM:=bM.trans aD;replace cD:=cD.trans aD;exact wQq rfl rfl rfl (wQq rfl rfl rfl (bG rfl (bE rfl rfl (decide_eq_false (fun h=>h (gF.2 hok))) rfl (bR rfl (at_fn x31 _ _ _ jX hD31) rfl (aE (bN rfl trivial rfl))))))
      refine bJ rfl ?_ ?_
      ·intro X ext HD aD _
       replace hs:=hs.mono aD;replace gW:=gW.mono aD;replace iN:=iN.mono aD;replace kG:=kG.mono aD;replace jX:=jX.mono aD;replace hpH:=hpH.mono aD;replace hdH:=hdH.mono aD;replace bM:=bM.trans aD;replace cD:=cD.trans aD;exact wQq rfl rfl rfl (bG rfl (bE rfl rfl (decide_eq_false (fun h=>h (gF.2 hok))) rfl (bD rfl kM rfl (aE (bN rfl trivial rfl)))))
      refine bJ rfl ?_ ?_
      ·intro X ext HD aD _
       replace hs:=hs.mono aD;replace gW:=gW.mono aD;replace iN:=iN.mono aD;replace kG:=kG.mono aD;replace jX:=jX.mono aD;replace hpH:=hpH.mono aD;replace hdH:=hdH.mono aD;replace bM:=bM.trans aD;replace cD:=cD.trans aD;exact wQq rfl rfl rfl (wQq rfl rfl rfl (bG rfl (bE rfl rfl (decide_eq_false (fun h=>h (gF.2 hok))) rfl (bK 1 rfl rfl gQ rfl rfl rfl (aE (bN rfl trivial rfl))))))
      refine bJ rfl ?_ ?_
      ·intro X ext HD aD _
       replace hs:=hs.mono aD;replace gW:=gW.mono aD;replace iN:=iN.mono aD;replace kG:=kG.mono aD;replace jX:=jX.mono aD;replace hpH:=hpH.mono aD;replace hdH:=hdH.mono aD;replace bM:=bM.trans aD;replace cD:=cD.trans aD;exact wQq rfl rfl rfl (wQq rfl rfl rfl (bG rfl (bE rfl rfl (decide_eq_false (fun h=>h (gF.2 hok))) rfl (fG rfl rfl Tryz.underlying27 eI (by omega) (by omega) rfl (aE (bN rfl trivial rfl))))))
      refine bJ rfl ?_ ?_
      ·intro X ext HD aD _
       replace hs:=hs.mono aD;replace gW:=gW.mono aD;replace iN:=iN.mono aD;replace kG:=kG.mono aD;replace jX:=jX.mono aD;replace hpH:=hpH.mono aD;replace hdH:=hdH.mono aD;replace bM:=bM.trans aD;replace cD:=cD.trans aD;exact wQq rfl rfl rfl (wQq rfl rfl rfl (bG rfl (bE rfl rfl (decide_eq_false (fun h=>h (gF.2 hok))) rfl (cQ rfl (by assumption) eI rfl rfl rfl (aE (bN rfl trivial rfl))))))
      exact gI rfl
     case tail8 =>
      intro HD aD _
      replace hs:=hs.mono aD;replace gW:=gW.mono aD;replace iN:=iN.mono aD;replace kG:=kG.mono aD;replace jX:=jX.mono aD;replace hpH:=hpH.mono aD;replace hdH:=hdH.mono aD;replace bM:=bM.trans aD;replace cD:=cD.trans aD;refine wQq rfl rfl rfl (wQq rfl rfl rfl (wQq rfl rfl rfl (wQq rfl rfl rfl (wQq rfl rfl rfl (wQq rfl rfl rfl (wQq rfl rfl rfl (wQq rfl rfl rfl (wQq rfl rfl rfl (wQq rfl rfl rfl (bG rfl (fL (bE rfl rfl (decide_eq_false (fun h=>h (gF.2 hok))) rfl (bR rfl (at_fn (hd x14) _ _ _ hdH hDH) rfl (bE rfl rfl (decide_eq_false (fun h=>h (gF.2 hok))) rfl (aCr (l:=fU x31) (m:=fU (hd x14)) rfl rfl rfl rfl rfl rfl Tryz.underlying83 aJs Tryz.underlying3 dT rfl (dL rfl (decide_eq_false (fun h=>h (gF.2 hok))) rfl rfl (aE (aR (cW rfl (fun c4_14=>?_) (fun c4_14=>?_))))))))))))))))))))
      ·refine aZ (aH (bA rfl rfl (aE (aR (bW (dQ (bY (eG (dQ (bY (dQ (bY (eG (dQ (bY ?_)))))))))))))));refine ⟨rfl,_,[],rfl,(by repeat(first|exact sL _|apply sC)),bX.mk ?_⟩
       first | exact congrArg (Value.int .i64) (uO (by omega)).symm | exact congrArg (Value.int .i64) (iA (by omega) (List.mem_of_getElem? gO) (rV (by omega))).symm | exact congrArg (Value.int .i64) (iA (by omega) (List.mem_of_getElem? gO) (rW (List.mem_of_getElem? uC) hok)).symm | exact congrArg (Value.int .i64) (iA (by omega) (List.mem_of_getElem? gO) (rU (List.mem_of_getElem? uC) (by assumption))).symm | exact congrArg (Value.int .i64) (iA (by omega) (List.mem_of_getElem? gO) (rR (by simpa using (show (!fV kP x14) = true by assumption)))).symm | exact congrArg (Value.int .i64) (uR (by omega) (by simpa using (show (!fV plq l) = true by assumption))).symm | exact congrArg (Value.int .i64) (tK (by omega) hall (by simpa using (show (!fV plq l) = false by assumption))).symm
      refine bS (dP (aR (aH (dJ rfl rfl (bU (by omega) (by omega)) rfl (aU rfl rfl (aE (cR (j + 1) (by show x14.length - (j + 1) < x14.length - j;omega) (aQ rfl (aQ rfl (aQ rfl (aQ rfl (aQ rfl (aQ rfl (aQ rfl (aQ rfl bP)))))))) (⟨by show j + 1 ≤ x14.length;omega,rfl,lP (p:=fun s=>okC s ∧ fU s = fU (hd x14)) hcs uC ⟨hok,Decidable.not_not.1 (by assumption)⟩⟩) (by repeat(first|exact sL _|apply sD|apply sC)) (cD))))))))
    skip
    refine cE [0,4,6,10,11,12,27,28,29] rfl ?_
    apply iG (fun _=>True) trivial [] (by decide) (fun _ _ _ _=>True) (fun _ _ _ _ _ _ h=>h) 10 [eqF _,eqF _,eqF _,eqF _,eqF _,eqF _,eqF _,eqF _,eqF _,eqF _] follows (by kernel_rfl) ⟨bB _,bB _,bB _,bB _,bB _,bB _,bB _,bB _,bB _,bB _,trivial⟩ (by decide) ?steps15 ?tail15
    case steps15 =>
     refine bJ rfl ?_ ?_
     ·intro X ext HD aD _
      replace hs:=hs.mono aD;replace gW:=gW.mono aD;replace iN:=iN.mono aD;replace kG:=kG.mono aD;replace jX:=jX.mono aD;replace bM:=bM.trans aD;replace cD:=cD.trans aD;exact bG rfl (bK 0 rfl rfl eI rfl rfl rfl (aE (bN rfl trivial rfl)))
     refine bJ rfl ?_ ?_
     ·intro X ext HD aD _
      replace hs:=hs.mono aD;replace gW:=gW.mono aD;replace iN:=iN.mono aD;replace kG:=kG.mono aD;replace jX:=jX.mono aD;replace bM:=bM.trans aD;replace cD:=cD.trans aD;exact wQq rfl rfl rfl (bG rfl (bR rfl (nF x31 _ _ _ jX hD31 (hlc _ (List.mem_of_getElem? gO) _ (List.mem_of_getElem? uC))) rfl (aE (bN rfl trivial rfl))))
     refine bJ rfl ?_ ?_
     ·intro X ext HD aD _
      replace hs:=hs.mono aD;replace gW:=gW.mono aD;replace iN:=iN.mono aD;replace kG:=kG.mono aD;replace jX:=jX.mono aD;replace bM:=bM.trans aD;replace cD:=cD.trans aD;exact wQq rfl rfl rfl (bG rfl (fZ rfl rfl rfl (aE (bN rfl trivial rfl))))
     refine bJ rfl ?_ ?_
     ·intro X ext HD aD _
      replace hs:=hs.mono aD;replace gW:=gW.mono aD;replace iN:=iN.mono aD;replace kG:=kG.mono aD;replace jX:=jX.mono aD;replace bM:=bM.trans aD;replace cD:=cD.trans aD;exact wQq rfl rfl rfl (bG rfl (aU rfl rfl (aE (bN rfl trivial rfl))))
     refine bJ rfl ?_ ?_
     ·intro X ext HD aD _
      replace hs:=hs.mono aD;replace gW:=gW.mono aD;replace iN:=iN.mono aD;replace kG:=kG.mono aD;replace jX:=jX.mono aD;replace bM:=bM.trans aD;replace cD:=cD.trans aD;exact wQq rfl rfl rfl (bG rfl (bL rfl rfl (decide_eq_true (fun h=>hok (gF.1 h))) rfl rfl (aE (bN rfl trivial rfl))))
     refine bJ rfl ?_ ?_
     ·intro X ext HD aD _
      replace hs:=hs.mono aD;replace gW:=gW.mono aD;replace iN:=iN.mono aD;replace kG:=kG.mono aD;replace jX:=jX.mono aD;replace bM:=bM.trans aD;replace cD:=cD.trans aD;exact wQq rfl rfl rfl (wQq rfl rfl rfl (bG rfl (bL rfl rfl (decide_eq_true (fun h=>hok (gF.1 h))) rfl rfl (aE (bN rfl trivial rfl)))))
     refine bJ rfl ?_ ?_
     ·intro X ext HD aD _
      replace hs:=hs.mono aD;replace gW:=gW.mono aD;replace iN:=iN.mono aD;replace kG:=kG.mono aD;replace jX:=jX.mono aD;replace bM:=bM.trans aD;replace cD:=cD.trans aD;exact wQq rfl rfl rfl (bG rfl (bL rfl rfl (decide_eq_true (fun h=>hok (gF.1 h))) rfl rfl (aE (bN rfl trivial rfl))))
     refine bJ rfl ?_ ?_
     ·intro X ext HD aD _
      replace hs:=hs.mono aD;replace gW:=gW.mono aD;replace iN:=iN.mono aD;replace kG:=kG.mono aD;replace jX:=jX.mono aD;replace bM:=bM.trans aD;replace cD:=cD.trans aD;exact wQq rfl rfl rfl (wQq rfl rfl rfl (bG rfl (bL rfl rfl (decide_eq_true (fun h=>hok (gF.1 h))) rfl rfl (aE (bN rfl trivial rfl)))))
     refine bJ rfl ?_ ?_
     ·intro X ext HD aD _
      replace hs:=hs.mono aD;replace gW:=gW.mono aD;replace iN:=iN.mono aD;replace kG:=kG.mono aD;replace jX:=jX.mono aD;replace bM:=bM.trans aD;replace cD:=cD.trans aD;exact wQq rfl rfl rfl (wQq rfl rfl rfl (bG rfl (bL rfl rfl (decide_eq_true (fun h=>hok (gF.1 h))) rfl rfl (aE (bN rfl trivial rfl)))))
     refine bJ rfl ?_ ?_
     ·intro X ext HD aD _
      replace hs:=hs.mono aD;replace gW:=gW.mono aD;replace iN:=iN.mono aD;replace kG:=kG.mono aD;replace jX:=jX.mono aD;replace bM:=bM.trans aD;replace cD:=cD.trans aD;exact wQq rfl rfl rfl (wQq rfl rfl rfl (bG rfl (bL rfl rfl (decide_eq_true (fun h=>hok (gF.1 h))) rfl rfl (aE (bN rfl trivial rfl)))))
     exact gI rfl
    case tail15 =>
     intro HD aD _
     replace hs:=hs.mono aD;replace gW:=gW.mono aD;replace iN:=iN.mono aD;replace kG:=kG.mono aD;replace jX:=jX.mono aD;replace bM:=bM.trans aD;replace cD:=cD.trans aD;refine wQq rfl rfl rfl (wQq rfl rfl rfl (wQq rfl rfl rfl (wQq rfl rfl rfl (wQq rfl rfl rfl (wQq rfl rfl rfl (wQq rfl rfl rfl (wQq rfl rfl rfl (wQq rfl rfl rfl (wQq rfl rfl rfl (bG rfl (fL (bL rfl rfl (decide_eq_true (fun h=>hok (gF.1 h))) rfl rfl (bL rfl rfl (decide_eq_true (fun h=>hok (gF.1 h))) rfl rfl (dE rfl (decide_eq_true (fun h=>hok (gF.1 h))) rfl rfl (aE (aR (eY rfl rfl (aZ (aH (bA rfl rfl (aE (aR (bW (dQ (bY (eG (dQ (bY (dQ (bY ?_))))))))))))))))))))))))))))));refine eG (dQ (bY ?_));refine ⟨rfl,_,[],rfl,(by repeat(first|exact sL _|apply sC)),bX.mk ?_⟩
     first | exact congrArg (Value.int .i64) (uO (by omega)).symm | exact congrArg (Value.int .i64) (iA (by omega) (List.mem_of_getElem? gO) (rV (by omega))).symm | exact congrArg (Value.int .i64) (iA (by omega) (List.mem_of_getElem? gO) (rW (List.mem_of_getElem? uC) hok)).symm | exact congrArg (Value.int .i64) (iA (by omega) (List.mem_of_getElem? gO) (rU (List.mem_of_getElem? uC) (by assumption))).symm | exact congrArg (Value.int .i64) (iA (by omega) (List.mem_of_getElem? gO) (rR (by simpa using (show (!fV kP x14) = true by assumption)))).symm | exact congrArg (Value.int .i64) (uR (by omega) (by simpa using (show (!fV plq l) = true by assumption))).symm | exact congrArg (Value.int .i64) (tK (by omega) hall (by simpa using (show (!fV plq l) = false by assumption))).symm
   obtain rfl : j = x14.length:=by omega
   rw [List.take_length] at hcs
   refine dX (dA (cZ (dI rfl (aR (aZ (aH (bD rfl kM rfl (bK 0 rfl rfl gQ rfl rfl rfl (fI rfl (riseC_fn _ _ x14 _ iN (by omega) (.func (.func 70) #[] #[]) (fun x y ax ay cx cy H2 hle hx hy h1 h2 h3 h4=>(FnV.of_fn (cap:=[]) (args:=[_,_]) (aCc x y _ _ _ _ H2 h1 h2 h3 h4 (hcs x hx).1 (hcs y hy).1)))) rfl ?_)))))))));rintro _ HN49 hleN49 rfl;replace hs:=hs.mono hleN49;replace gW:=gW.mono hleN49;replace iN:=iN.mono hleN49;replace bM:=bM.trans hleN49;replace cD:=cD.trans hleN49;refine fC rfl rfl (aE (aR (gN rfl (fun c5_18=>?_) (fun c5_18=>?_))))
   ·refine aZ (aH (bA rfl rfl (aE (aR (bW (dQ (bY (eG (dQ (bY ?_))))))))));refine ⟨rfl,_,[],rfl,(by repeat(first|exact sL _|apply sC)),bX.mk ?_⟩
    first | exact congrArg (Value.int .i64) (uO (by omega)).symm | exact congrArg (Value.int .i64) (iA (by omega) (List.mem_of_getElem? gO) (rV (by omega))).symm | exact congrArg (Value.int .i64) (iA (by omega) (List.mem_of_getElem? gO) (rW (List.mem_of_getElem? uC) hok)).symm | exact congrArg (Value.int .i64) (iA (by omega) (List.mem_of_getElem? gO) (rU (List.mem_of_getElem? uC) (by assumption))).symm | exact congrArg (Value.int .i64) (iA (by omega) (List.mem_of_getElem? gO) (rR (by simpa using (show (!fV kP x14) = true by assumption)))).symm | exact congrArg (Value.int .i64) (uR (by omega) (by simpa using (show (!fV plq l) = true by assumption))).symm | exact congrArg (Value.int .i64) (tK (by omega) hall (by simpa using (show (!fV plq l) = false by assumption))).symm
   refine bS (dP (aR (aH (dJ rfl rfl (bU (by omega) (by omega)) rfl (aU rfl rfl (aE (cR (i + 1) (by show l.length - (i + 1) < l.length - i;omega) (aQ rfl (aQ rfl (aQ rfl (aQ rfl bP)))) (⟨by show i + 1 ≤ l.length;omega,rfl,all_take gO hall (slot_y (by omega) hcs (by simpa using (show (!fV kP x14) = false by assumption)))⟩) (by repeat(first|exact sL _|apply sD|apply sC)) (bM))))))))
  have g4p:=of_decide_eq_true g4
  refine bL rfl rfl (g4) rfl rfl (bL rfl rfl (g4) rfl rfl (bL rfl rfl (g4) rfl rfl (dE rfl (g4) rfl rfl (aE (aR (eY rfl rfl (aZ (aH (bA rfl rfl (aE (aR (bW (bY (dQ (bY (eG (dQ (bY ?_))))))))))))))))));refine ⟨rfl,_,[],rfl,(by repeat(first|exact sL _|apply sC)),bX.mk ?_⟩
  first | exact congrArg (Value.int .i64) (uO (by omega)).symm | exact congrArg (Value.int .i64) (iA (by omega) (List.mem_of_getElem? gO) (rV (by omega))).symm | exact congrArg (Value.int .i64) (iA (by omega) (List.mem_of_getElem? gO) (rW (List.mem_of_getElem? uC) hok)).symm | exact congrArg (Value.int .i64) (iA (by omega) (List.mem_of_getElem? gO) (rU (List.mem_of_getElem? uC) (by assumption))).symm | exact congrArg (Value.int .i64) (iA (by omega) (List.mem_of_getElem? gO) (rR (by simpa using (show (!fV kP x14) = true by assumption)))).symm | exact congrArg (Value.int .i64) (uR (by omega) (by simpa using (show (!fV plq l) = true by assumption))).symm | exact congrArg (Value.int .i64) (tK (by omega) hall (by simpa using (show (!fV plq l) = false by assumption))).symm
 obtain rfl : i = l.length:=by omega
 rw [List.take_length] at hall
 refine dX (dA (cZ (dI rfl (aR (aZ (aZ (aH (aU rfl rfl (fI rfl (riseB_fn _ _ l _ hs hl (.func (.func 72) #[] #[]) (fun x y ax ay cx cy H2 hle hx hy h1 h2=>FnV.of_fn (cap:=[]) (args:=[_,_]) (slotcmp_fn x y _ _ _ _ H2 h1 h2 (zP (List.all_eq_true.1 hall x hx)) (zP (List.all_eq_true.1 hall y hy))))) rfl ?_)))))))));rintro _ HN53 lV rfl;replace hs:=hs.mono lV;replace bM:=bM.trans lV;refine fC rfl rfl (aE (aR (gN rfl (fun c6_20=>?_) (fun c6_20=>?_))))
 ·refine aZ (aH (bA rfl rfl (aE (aR (bW (bY ?_))))));refine ⟨rfl,_,[],rfl,(by repeat(first|exact sL _|apply sC)),bX.mk ?_⟩
  first | exact congrArg (Value.int .i64) (uO (by omega)).symm | exact congrArg (Value.int .i64) (iA (by omega) (List.mem_of_getElem? gO) (rV (by omega))).symm | exact congrArg (Value.int .i64) (iA (by omega) (List.mem_of_getElem? gO) (rW (List.mem_of_getElem? uC) hok)).symm | exact congrArg (Value.int .i64) (iA (by omega) (List.mem_of_getElem? gO) (rU (List.mem_of_getElem? uC) (by assumption))).symm | exact congrArg (Value.int .i64) (iA (by omega) (List.mem_of_getElem? gO) (rR (by simpa using (show (!fV kP x14) = true by assumption)))).symm | exact congrArg (Value.int .i64) (uR (by omega) (by simpa using (show (!fV plq l) = true by assumption))).symm | exact congrArg (Value.int .i64) (tK (by omega) hall (by simpa using (show (!fV plq l) = false by assumption))).symm
 refine bS (aR (aZ (aH (bA rfl rfl (aE (aR (bW ?_)))))));refine ⟨rfl,_,[],rfl,(by repeat(first|exact sL _|apply sC)),bX.mk ?_⟩
 first | exact congrArg (Value.int .i64) (uO (by omega)).symm | exact congrArg (Value.int .i64) (iA (by omega) (List.mem_of_getElem? gO) (rV (by omega))).symm | exact congrArg (Value.int .i64) (iA (by omega) (List.mem_of_getElem? gO) (rW (List.mem_of_getElem? uC) hok)).symm | exact congrArg (Value.int .i64) (iA (by omega) (List.mem_of_getElem? gO) (rU (List.mem_of_getElem? uC) (by assumption))).symm | exact congrArg (Value.int .i64) (iA (by omega) (List.mem_of_getElem? gO) (rR (by simpa using (show (!fV kP x14) = true by assumption)))).symm | exact congrArg (Value.int .i64) (uR (by omega) (by simpa using (show (!fV plq l) = true by assumption))).symm | exact congrArg (Value.int .i64) (tK (by omega) hall (by simpa using (show (!fV plq l) = false by assumption))).symm
end Go.Proofs

namespace Go.Proofs
open Go.XL
end Go.Proofs

namespace Go.Proofs
open Go.XL
def ltT (s y : Card) : Prop:=uJ (kA s) (kA y) < 0
instance (s y : Card) : Decidable (ltT s y):=by unfold ltT;infer_instance
def aNx (s : Card) : List Card → List Card
 | []=>[s]
 | y :: r=>if ltT s y then s :: y :: r else y :: aNx s r
def aL0 (x : List Card) (s : Card) : List Card:=if ∃ y ∈ x,kA y = kA s then x else (aNx s x).take 2
def WI (s : Card) (x : List Card) (k : Nat) (dn : Bool) (U : List Card) : Prop:=(dn = true → U = aNx s (x.take k) ∧ ∃ y ∈ x.take k,ltT s y) ∧ (dn = false → U = x.take k ∧ ∀ y ∈ x.take k,¬ ltT s y)
section
variable {s y : Card} {x U : List Card} {k : Nat} {dn : Bool}
end
def SltU (x : List Card) (H : Hp) (v : Value) : Prop:=∃ a c,v = .agg ⟨[.slice a x.length c]⟩ ∧ SlR eV H a c x
def aMs (s : Card) (x : List Card) : Prop:=iD (fU s) (fU (hd x)) < 0
instance (s : Card) (x : List Card) : Decidable (aMs s x):=by unfold aMs;infer_instance
def putS (s : Card) (st : Box × Bool) (x : List Card) : Box × Bool :=
 if st.2 = false ∧ aMs s x then (if fU s = fU (hd x) then (st.1 ++ [[s]] ++ [aL0 x s],true) else (st.1 ++ [[s]] ++ [x],true))
 else (if fU s = fU (hd x) then (st.1 ++ [aL0 x s],true) else (st.1 ++ [x],st.2))
def aNv (s : Card) (b : Box) : Box × Bool:=b.foldl (putS s) ([],false)
def aLy (b : Box) (s : Card) : Box:=if (aNv s b).2 = true then (aNv s b).1 else (aNv s b).1 ++ [[s]]
section
variable {s : Card} {b : Box} {x : List Card} {k : Nat}
end
def kV (b : Box) : Prop:=∀ x ∈ b,(0 < x.length ∧ x.length ≤ 2) ∧ ∀ s ∈ x,okC s
theorem aBa {b : Box} (h : jM b = 0) : kV b:=fun x hx=>by
 have h1:=List.all_eq_true.1 (aEj h).2.1 x hx
 have:=xU h1
 exact ⟨by omega,aBk h1⟩
theorem aD6 {b : Box} {x : List Card} (h : kV b) (h1 : 0 < x.length ∧ x.length ≤ 2) (h2 : ∀ s ∈ x,okC s) : kV (b ++ [x]):=fun y hy=>by
 rcases List.mem_append.1 hy with hy | hy
 ·exact h y hy
 simp only [List.mem_singleton] at hy;subst hy;exact ⟨h1,h2⟩
def jW (b : Box) (e : Int) (H : Hp) (v : Value) : Prop:=∃ a c,v = .tuple #[.slice a b.length c,.int .i64 e] ∧ SlR (slR eV) H a c b
theorem jW.no {e : Int} {b : Box} {H : Hp} (h : b = []) : jW b e H (.tuple #[.slice none 0 0,.int .i64 e]):=by subst h;exact ⟨none,0,rfl,SlR.nil0 _ _⟩
theorem jW.yes {b : Box} {H : Hp} {a : Option Addr} {c : Nat} {e : Int} (hs : SlR (slR eV) H a c b) : jW b e H (.tuple #[.slice a b.length c,.int .i64 e]):=⟨a,c,rfl,hs⟩
def rputE (b : Box) (s : Card) : Int:=if jM b = 0 then (if okC s then (if 4096 < (aLy b s).length then 2 else 0) else 350) else jM b
def rputX (b : Box) (s : Card) : Box:=if rputE b s = 0 then aLy b s else []
def aM4 (a : Box) (l : List Card) : Box:=l.foldl aLy a
def rmrgE (a b : Box) : Int:=if jM a = 0 then (if jM b = 0 then (if 4096 < (aM4 a b.flatten).length then 2 else 0) else jM b) else jM a
def rmrgX (a b : Box) : Box:=if rmrgE a b = 0 then aM4 a b.flatten else []
theorem sU {α : Type} {l : List (List α)} {k : Nat} {x : List α} (hx : l[k]? = some x) : (l.take (k + 1)).flatten = (l.take k).flatten ++ x:=by rw [fP hx,List.flatten_append];simp
theorem qO {b : Box} (h : kV b) : b.flatten.length ≤ 2 * b.length:=by
  induction b with
  | nil=>simp
  | cons x b ih =>
    have h1:=(h x List.mem_cons_self).1.2
    have h2:=ih fun y hy=>h y (List.mem_cons_of_mem _ hy)
    rw [List.flatten_cons,List.length_append,List.length_cons];omega
theorem yK {b : Box} (h : kV b) {s : Card} (hs : s ∈ b.flatten) : okC s:=by
 obtain ⟨x,hx,hs⟩:=List.mem_flatten.1 hs
 exact (h x hx).2 s hs
theorem good_take {b : Box} (h : kV b) (k : Nat) : kV (b.take k):=fun x hx=>h x (List.mem_of_mem_take hx)
def aLk (b : Box) (p : List Int) : Option Card:=(b.find? fun x=>decide (fU (hd x) = p ∧ x.length = 1)).map hd
theorem fnd_y {b : Box} {p : List Int} {k : Nat} {x : List Card} (h : ∀ y ∈ b.take k,¬ (fU (hd y) = p ∧ y.length = 1)) (hx : b[k]? = some x) (h1 : fU (hd x) = p ∧ x.length = 1) : aLk b p = some (hd x):=by
 unfold aLk
 have e : b = b.take k ++ x :: b.drop (k + 1):=by rw [← iT hx,List.take_append_drop]
 rw [e,List.find?_append,List.find?_eq_none.2 (fun y hy=>by simpa using h y hy),Option.none_or,List.find?_cons_of_pos (by simpa using h1)];rfl
theorem fnd_n {b : Box} {p : List Int} (h : ∀ y ∈ b,¬ (fU (hd y) = p ∧ y.length = 1)) : aLk b p = none:=by
 unfold aLk;rw [List.find?_eq_none.2 (fun y hy=>by simpa using h y hy)];rfl
def sQ (o : Option Card) (e : Int) (H : Hp) (v : Value) : Prop:=∃ a c,v = .tuple #[.agg ⟨fA (o.getD c0).R (o.getD c0).E (o.getD c0).J (o.getD c0).C.length (o.getD c0).D a c⟩,.bool o.isSome,.int .i64 e] ∧ SlR (eO .i64) H a c (o.getD c0).C ∧ (o.getD c0).D.length = 32
theorem sQ.no {o : Option Card} {e : Int} {H : Hp} (h : o = none) : sQ o e H (.tuple #[.agg ⟨fA 0 0 0 0 c0.D none 0⟩,.bool false,.int .i64 e]):=by subst h;exact ⟨none,0,rfl,SlR.nil0 _ _,rfl⟩
theorem sQ.yes {o : Option Card} {s : Card} {e : Int} {H : Hp} {a : Option Addr} {c : Nat} (h : o = some s) (hs : SlR (eO .i64) H a c s.C) (hD : s.D.length = 32) : sQ o e H (.tuple #[.agg ⟨fA s.R s.E s.J s.C.length s.D a c⟩,.bool true,.int .i64 e]):=by subst h;exact ⟨a,c,rfl,hs,hD⟩
def aHw (b : Box) (p : List Int) : Option Card:=if jM b = 0 then aLk b p else none
def PutU (b : Box) (s : Card) (H : Hp) (v : Value) : Prop:=∃ a c,v = .slice a (aLy b s).length c ∧ SlR (slR eV) H a c (aLy b s)
theorem jW.e {X : Box} {e E : Int} {H : Hp} (h : E = e ∧ X = []) : jW X E H (.tuple #[.slice none 0 0,.int .i64 e]):=by obtain ⟨rfl,rfl⟩:=h;exact jW.no rfl
theorem jW.k {b X : Box} {E : Int} {H : Hp} {a : Option Addr} {c : Nat} (h : E = 0 ∧ X = b) (hs : SlR (slR eV) H a c b) : jW X E H (.tuple #[.slice a b.length c,.int .i64 0]):=by obtain ⟨rfl,rfl⟩:=h;exact jW.yes hs
theorem wR {b : Box} (hg : kV b) {x : List Card} {i : Nat} (hx : b[i]? = some x) (j : Nat) : ((b.take i).flatten ++ x.take j).length ≤ 2 * b.length:=by
 have h1:=qO (good_take hg (i + 1))
 rw [sU hx] at h1
 have h2 : (b.take (i + 1)).length ≤ b.length:=by rw [List.length_take];omega
 rw [List.length_append] at h1 ⊢
 rw [List.length_take];omega
theorem sQ.n {o : Option Card} {e e' : Int} {H : Hp} (h : o = none ∧ e = e') : sQ o e H (.tuple #[.agg ⟨fA 0 0 0 0 c0.D none 0⟩,.bool false,.int .i64 e']):=by obtain ⟨h,rfl⟩:=h;exact sQ.no h
theorem sQ.y {o : Option Card} {s : Card} {e : Int} {H : Hp} {a : Option Addr} {c : Nat} (h : o = some s ∧ e = 0) (hs : SlR (eO .i64) H a c s.C) (hD : s.D.length = 32) : sQ o e H (.tuple #[.agg ⟨fA s.R s.E s.J s.C.length s.D a c⟩,.bool true,.int .i64 0]):=by obtain ⟨h,rfl⟩:=h;exact sQ.yes h hs hD
theorem aIb {b : Box} {p : List Int} (h : ¬ jM b = 0) : aHw b p = none ∧ jM b = jM b:=⟨if_neg h,rfl⟩
theorem aFq {b : Box} {p : List Int} {k : Nat} {x : List Card} (h0 : jM b = 0) (h : ∀ y ∈ b.take k,¬ (fU (hd y) = p ∧ y.length = 1)) (hx : b[k]? = some x) (h1 : fU (hd x) = p ∧ x.length = 1) : aHw b p = some (hd x) ∧ jM b = 0:=⟨by unfold aHw;rw [if_pos h0];exact fnd_y h hx h1,h0⟩
theorem aIm {b : Box} {p : List Int} (h0 : jM b = 0) (h : ∀ y ∈ b,¬ (fU (hd y) = p ∧ y.length = 1)) : aHw b p = none ∧ jM b = 0:=⟨by unfold aHw;rw [if_pos h0];exact fnd_n h,h0⟩
end Go.Proofs

namespace Go.Proofs
open Go.XL
theorem aId (a : Option Addr) (c : Nat) (l : Box) (H : Hp) (hs : SlR (slR eV) H a c l) (hl : l.length < 9223372036854775808) (hlx : ∀ x ∈ l,x.length < 9223372036854775808) (hlc : ∀ x ∈ l,∀ s ∈ x,s.C.length < 9223372036854775808) (x y z : Int) : FnC Tryz.prog 9 #[.slice a l.length c,.int .i64 x,.int .i64 y,.int .i64 z] H [] (bX (fun v H2 _=>sQ (aHw l [x,y,z]) (jM l) H2 v)):=by
 refine FnC.introC (args:=[.slice a l.length c,.int .i64 x,.int .i64 y,.int .i64 z]) Tryz.func9 rfl rfl Tryz.ntmps9 rfl rfl rfl fun G rest=>?_
 refine aZ (aH (dC lY rfl (fun b8=>bA rfl rfl (bA rfl rfl (aE (aR (aZ (aZ (aH (aU rfl rfl (bR rfl (aBe _ _ l _ hs hl hlx hlc) rfl (bA rfl rfl (aE (aR (aZ (aH (aU rfl rfl (fZ rfl rfl rfl (aE (aR (cW rfl (fun nT=>?_) (fun nT=>?_))))))))))))))))))))))
 ·refine aZ (aH (bK 0 rfl rfl eI rfl rfl rfl (aU rfl rfl (bZ 0 rfl rfl rfl rfl eI rfl rfl rfl rfl rfl (bA rfl rfl (bA rfl rfl (aE (aR (bW (bY ?_))))))))));refine ⟨rfl,_,[],(fH 0 rfl rfl eI rfl rfl (iK rfl (iK rfl gB))),(by repeat(first|exact sL _|apply sC)),bX.mk ?_⟩
  first | exact sQ.n (aIb (by omega)) | exact sQ.y (aFq h0 hno hx28 ⟨by assumption,by omega⟩) (by assumption) (by assumption) | exact sQ.n (aIm h0 hno)
 have h0 : jM l = 0:=by omega
 have hg:=aBa h0
 refine bS (aR (aZ (aH (aU rfl rfl (aU rfl rfl (aU rfl rfl (jL Tryz.underlying83 dT aAn rfl rfl rfl (dC aAn rfl (fun b11=>bZ 0 rfl rfl rfl rfl xV rfl rfl rfl rfl rfl (aE (aR (aZ (aZ (aH (aU rfl rfl (cH (ts:=#[]) rfl Tryz.underlying38 rfl (aU rfl rfl (aE (aR (bT (cE [26,8,11,24,25] rfl (eE (base:=[(8,_),(11,_),(24,_),(25,_)]) (fun ζ : Nat=>[(26,.int .i64 (ζ : Nat))]) (fun ζ Hl own=>ζ ≤ l.length ∧ (b11,.cells 83 [.int .i64 x,.int .i64 y,.int .i64 z]) :: (b8,.cells 49 (fA 0 0 0 0 c0.D none 0)) :: rest = own ∧ (∀ y_ ∈ l.take (ζ),¬ (fU (hd y_) = [x,y,z] ∧ y_.length = 1))) (fun ζ=>l.length - ζ) 0 (aQ rfl (aQ rfl (aQ rfl (aQ rfl (aQ rfl bP))))) (by repeat(first|exact sL _|apply sD|apply sC)) ⟨Nat.zero_le _,rfl,by simp⟩ ?_))))))))))))))))))))));rintro k Hl0 _ bM ⟨hkk,rfl,hno⟩;replace hs:=hs.mono bM
 try dsimp only at ⊢
 refine aZ (aH (dN rfl rfl rfl (aE (aR (aZ (cW rfl (fun qU=>?_) (fun qU=>?_)))))))
 ·skip
  refine bS (aR (aZ (bT (aZ (aH (dK rfl hs rfl Tryz.underlying38 lZ (by omega) rfl ?_))))));rintro eb28 eo28 _ x28 hx28 ⟨ax28,cx28,rfl,hd28⟩ hp28
  have hk28:=(hg _ (List.mem_of_getElem? hx28)).1
  refine cQ rfl (by assumption) lZ rfl rfl rfl (dC uF rfl (fun b13=>bZ 0 rfl rfl rfl rfl lZ rfl rfl rfl rfl rfl (aE (aR (aZ ?_)))))
  by_cases hpl : fU (hd x28) = [x,y,z]
  ·skip
   refine cE [8,11,13,24,25,26] rfl ?_;obtain ⟨bEZ,oEZ,rfl⟩:=hd28.addr (by omega);obtain ⟨_,xZ,hxZ,⟨axZ,cxZ,rfl,hdZ,hDZ⟩,hpZ⟩:=hd28.elem (0) (by omega);obtain rfl:=aCe hxZ
   apply jR 6 [eqF _,eqF _,eqF _,eqF _,eqF _,eqF _] follows (by kernel_rfl) (by kernel_rfl) ⟨bB _,bB _,bB _,bB _,bB _,bB _,trivial⟩ ?steps5 ?tail5
   case steps5 =>
    refine bO rfl ?_ ?_
    ·intro X
     refine aW rfl (bD rfl kM rfl (aE ?_))
     exact bH rfl rfl
    refine bO rfl ?_ ?_
    ·intro X
     refine wPq rfl rfl rfl (aW rfl (bK 0 rfl rfl gQ rfl rfl rfl (aE ?_)))
     exact bH rfl rfl
    refine bO rfl ?_ ?_
    ·intro X
     refine wPq rfl rfl rfl (aW rfl (fG rfl rfl Tryz.underlying27 eI (by omega) (by omega) rfl (aE ?_)))
     exact bH rfl rfl
    refine bO rfl ?_ ?_
    ·intro X
     refine wPq rfl rfl rfl (aW rfl (cQ rfl (by assumption) eI rfl rfl rfl (aE ?_)))
     exact bH rfl rfl
    refine bO rfl ?_ ?_
    ·intro X
     refine wPq rfl rfl rfl (aW rfl (bR rfl (at_fn (hd x28) _ _ _ hdZ hDZ) rfl (aE ?_)))
     exact bH rfl rfl
    refine bO rfl ?_ ?_
    ·intro X
     refine aW rfl (bK 1 rfl rfl xV rfl rfl rfl (aE ?_))
     exact bH rfl rfl
    exact eU rfl
   case tail5 =>
    refine wPq rfl rfl rfl (wPq rfl rfl rfl (wPq rfl rfl rfl (wPq rfl rfl rfl (wPq rfl rfl rfl (wPq rfl rfl rfl (aW rfl (aCm (l:=fU (hd x28)) (m:=[x,y,z]) rfl rfl rfl rfl rfl rfl Tryz.underlying83 aJs Tryz.underlying3 dT rfl (aU rfl rfl (bE rfl rfl (decide_eq_true hpl) rfl (bD rfl kM rfl (bE rfl rfl (decide_eq_true hpl) rfl (bK 0 rfl rfl gQ rfl rfl rfl (bE rfl rfl (decide_eq_true hpl) rfl (cH (ts:=#[]) rfl Tryz.underlying27 rfl (bE rfl rfl (decide_eq_true hpl) rfl (fY rfl rfl rfl (dE rfl (decide_eq_true hpl) rfl rfl (aE (aR (cW rfl (fun c2_9=>?_) (fun c2_9=>?_)))))))))))))))))))))
    ·refine aZ (aH (bD rfl kM rfl (bK 0 rfl rfl gQ rfl rfl rfl (dK (i:=0) rfl hd28 rfl Tryz.underlying27 eI (by omega) rfl ?_))));rintro eb45 eo45 _ x45 hx45 ⟨ax45,cx45,rfl,hd45,hD45⟩ hp45;obtain rfl:=aCe hx45;refine cQ rfl (by assumption) eI rfl rfl rfl (bZ 2 rfl rfl rfl rfl eI rfl rfl rfl rfl rfl (bA rfl rfl (bA rfl rfl (aE (aR (bW (dQ (bY (eG (dQ (bY ?_)))))))))));refine ⟨rfl,_,[],(fH 2 rfl rfl eI rfl rfl (iK rfl (iK rfl gB))),(by repeat(first|exact sL _|apply sC)),bX.mk ?_⟩
     first | exact sQ.n (aIb (by omega)) | exact sQ.y (aFq h0 hno hx28 ⟨by assumption,by omega⟩) (by assumption) (by assumption) | exact sQ.n (aIm h0 hno)
    refine bS (dP (aR (aH (dJ rfl rfl (bU (by omega) (by omega)) rfl (aU rfl rfl (aE (cR (k + 1) (by show l.length - (k + 1) < l.length - k;omega) (aQ rfl (aQ rfl (aQ rfl (aQ rfl (aQ rfl bP))))) (⟨by show k + 1 ≤ l.length;omega,rfl,lP (p:=fun y_=>¬ (fU (hd y_) = [x,y,z] ∧ y_.length = 1)) hno hx28 (fun h=>by first | exact absurd h.1 (by assumption) | (have:=h.2;omega))⟩) (by repeat(first|exact sL _|apply sD|apply sC)) (bM))))))))
  skip
  refine cE [8,11,13,24,25,26] rfl ?_;obtain ⟨bEZ,oEZ,rfl⟩:=hd28.addr (by omega);obtain ⟨_,xZ,hxZ,⟨axZ,cxZ,rfl,hdZ,hDZ⟩,hpZ⟩:=hd28.elem (0) (by omega);obtain rfl:=aCe hxZ
  apply jR 6 [eqF _,eqF _,eqF _,eqF _,eqF _,eqF _] follows (by kernel_rfl) (by kernel_rfl) ⟨bB _,bB _,bB _,bB _,bB _,bB _,trivial⟩ ?steps11 ?tail11
  case steps11 =>
   refine bO rfl ?_ ?_
   ·intro X
    refine aW rfl (bD rfl kM rfl (aE ?_))
    exact bH rfl rfl
   refine bO rfl ?_ ?_
   ·intro X
    refine wPq rfl rfl rfl (aW rfl (bK 0 rfl rfl gQ rfl rfl rfl (aE ?_)))
    exact bH rfl rfl
   refine bO rfl ?_ ?_
   ·intro X
    refine wPq rfl rfl rfl (aW rfl (fG rfl rfl Tryz.underlying27 eI (by omega) (by omega) rfl (aE ?_)))
    exact bH rfl rfl
   refine bO rfl ?_ ?_
   ·intro X
    refine wPq rfl rfl rfl (aW rfl (cQ rfl (by assumption) eI rfl rfl rfl (aE ?_)))
    exact bH rfl rfl
   refine bO rfl ?_ ?_
   ·intro X
    refine wPq rfl rfl rfl (aW rfl (bR rfl (at_fn (hd x28) _ _ _ hdZ hDZ) rfl (aE ?_)))
    exact bH rfl rfl
   refine bO rfl ?_ ?_
   ·intro X
    refine aW rfl (bK 1 rfl rfl xV rfl rfl rfl (aE ?_))
    exact bH rfl rfl
   exact eU rfl
  case tail11 =>
   refine wPq rfl rfl rfl (wPq rfl rfl rfl (wPq rfl rfl rfl (wPq rfl rfl rfl (wPq rfl rfl rfl (wPq rfl rfl rfl (aW rfl (aCm (l:=fU (hd x28)) (m:=[x,y,z]) rfl rfl rfl rfl rfl rfl Tryz.underlying83 aJs Tryz.underlying3 dT rfl (aU rfl rfl (bL rfl rfl (decide_eq_false hpl) rfl rfl (bL rfl rfl (decide_eq_false hpl) rfl rfl (bL rfl rfl (decide_eq_false hpl) rfl rfl (bL rfl rfl (decide_eq_false hpl) rfl rfl (dL rfl (decide_eq_false hpl) rfl rfl (aE (aR (dY rfl rfl (bS (dP (aR (aH (dJ rfl rfl (bU (by omega) (by omega)) rfl (aU rfl rfl (aE (cR (k + 1) (by show l.length - (k + 1) < l.length - k;omega) (aQ rfl (aQ rfl (aQ rfl (aQ rfl (aQ rfl bP))))) (⟨by show k + 1 ≤ l.length;omega,rfl,lP (p:=fun y_=>¬ (fU (hd y_) = [x,y,z] ∧ y_.length = 1)) hno hx28 (fun h=>by first | exact absurd h.1 (by assumption) | (have:=h.2;omega))⟩) (by repeat(first|exact sL _|apply sD|apply sC)) (bM)))))))))))))))))))))))))
 obtain rfl : k = l.length:=by omega
 rw [List.take_length] at hno
 refine dX (dA (cZ (dI rfl (aR (aZ (aH (bK 1 rfl rfl eI rfl rfl rfl (bZ 1 rfl rfl rfl rfl eI rfl rfl rfl rfl rfl (bA rfl rfl (bA rfl rfl (aE (aR (bW ?_)))))))))))));refine ⟨rfl,_,[],(fH 1 rfl rfl eI rfl rfl (iK rfl (iK rfl gB))),(by repeat(first|exact sL _|apply sC)),bX.mk ?_⟩
 first | exact sQ.n (aIb (by omega)) | exact sQ.y (aFq h0 hno hx28 ⟨by assumption,by omega⟩) (by assumption) (by assumption) | exact sQ.n (aIm h0 hno)
end Go.Proofs

namespace Go.Proofs
open Go.XL
def mrg : List Card → List Card → List Card
 | [],y=>y
 | x :: p,[]=>x :: p
 | x :: p,y :: q=>if kP y x < 0 then y :: mrg (x :: p) q else x :: mrg p (y :: q)
termination_by a b=>a.length + b.length
theorem aEd (x : List Card) : mrg x [] = x:=by cases x <;> rw [mrg]
theorem aJt {X Y : List Card} {z : Card} (h : X[0]? = some z) (hc : Y.length = 0 ∨ ∃ y,Y[0]? = some y ∧ ¬ kP y z < 0) : mrg X Y = z :: mrg (X.drop 1) Y:=by
  match X,h with
  | x :: p,h =>
    simp at h;subst h
    match Y,hc with
    | [],_=>rw [aEd,aEd];rfl
    | y :: q,hc =>
      rw [mrg,if_neg]
      · rfl
      rcases hc with hc | ⟨y',h1,h2⟩
      · simp at hc
      simp at h1;subst h1;exact h2
theorem aKf {X Y : List Card} {z : Card} (h : Y[0]? = some z) (hc : X.length = 0 ∨ ∃ x,X[0]? = some x ∧ kP z x < 0) : mrg X Y = z :: mrg X (Y.drop 1):=by
  match Y,h with
  | y :: q,h =>
    simp at h;subst h
    match X,hc with
    | [],_=>rw [mrg,mrg];rfl
    | x :: p,hc =>
      rw [mrg,if_pos]
      · rfl
      rcases hc with hc | ⟨x',h1,h2⟩
      · simp at hc
      simp at h1;subst h1;exact h2
theorem yI {Z ls : List Card} (h : ls = (Z.drop (1 : Int).toNat).take (((Z.length : Nat) : Int).toNat - (1 : Int).toNat)) : ls = Z.drop 1:=by
 rw [h,show (1 : Int).toNat = 1 from rfl,show ((Z.length : Nat) : Int).toNat = Z.length from rfl,List.take_of_length_le]
 rw [List.length_drop];omega
theorem tY : ∀ {x y : List Card} {z : Card},z ∈ mrg x y ↔ z ∈ x ∨ z ∈ y
  | [],y,z=>by rw [mrg];simp
  | x :: p,[],z=>by rw [mrg];simp
  | x :: p,y :: q,z=>by
    rw [mrg]
    split
    · rw [List.mem_cons,tY,List.mem_cons (a:=z) (b:=y)];constructor <;> (intro h;rcases h with h | h | h <;> simp [h])
    rw [List.mem_cons,tY,List.mem_cons (a:=z) (b:=x)];constructor
    · intro h;rcases h with h | h | h <;> simp [h]
    intro h;rcases h with (h | h) | h <;> simp [h]
termination_by x y=>x.length + y.length
theorem aA3 : ∀ (x y : List Card),(mrg x y).length = x.length + y.length
  | [],y=>by rw [mrg];simp
  | x :: p,[]=>by rw [mrg];simp
  | x :: p,y :: q=>by
    rw [mrg]
    split
    · rw [List.length_cons,aA3];simp;omega
    rw [List.length_cons,aA3];simp;omega
termination_by x y=>x.length + y.length
def aOb (x : Card) (b : Option Addr × Nat) : List Value:=[.agg ⟨fA x.R x.E x.J x.C.length x.D b.1 b.2⟩]
def aK6 (x : Card) (b : Option Addr × Nat) (H : Hp) (o : XL.Own) : Prop:=o = [] ∧ SlR (eO .i64) H b.1 b.2 x.C ∧ x.D.length = 32
def oW (R : Box) (s : Card) : Box :=
 match R[R.length - 1]? with
 | none=>R ++ [[s]]
 | some x=>if fU (hd x) ≠ fU s then R ++ [[s]] else if x.length < 2 ∧ kP (hd x) s < 0 then R.set (R.length - 1) (x ++ [s]) else R
def yB (l : List Card) : Box:=l.foldl oW []
theorem nI (l : List Card) (s : Card) : yB (l ++ [s]) = oW (yB l) s:=by unfold yB;rw [List.foldl_append];rfl
section
variable {R : Box} {s : Card} {x : List Card}
theorem aHp (h : R.length = 0) : oW R s = R ++ [[s]]:=by
 have : R = []:=List.eq_nil_of_length_eq_zero h
 subst this;rfl
theorem aIo (hx : R[R.length - 1]? = some x) (h : fU (hd x) ≠ fU s) : oW R s = R ++ [[s]]:=by unfold oW;rw [hx];exact if_pos h
theorem aIg (hx : R[R.length - 1]? = some x) (h : fU (hd x) = fU s) (h2 : ¬ (x.length < 2 ∧ kP (hd x) s < 0)) : oW R s = R:=by unfold oW;rw [hx];simp only;rw [if_neg (fun e=>e h),if_neg h2]
theorem aLv (hx : R[R.length - 1]? = some x) (h : fU (hd x) = fU s) (h2 : x.length < 2 ∧ kP (hd x) s < 0) : oW R s = R.set (R.length - 1) (x ++ [s]):=by unfold oW;rw [hx];simp only;rw [if_neg (fun e=>e h),if_pos h2]
theorem good_step (hg : kV R) (hs : okC s) : kV (oW R s):=by
 have h1 : kV (R ++ [[s]]):=aD6 hg ⟨Nat.le_refl 1,show 1 ≤ 2 by decide⟩ (fun t ht=>by simp only [List.mem_singleton] at ht;subst ht;exact hs)
 unfold oW
 split
 ·exact h1
 rename_i x hx
 split
 ·exact h1
 split
 ·rename_i h2
  intro y hy
  rcases List.mem_or_eq_of_mem_set hy with hy | rfl
  ·exact hg y hy
  have:=hg _ (List.mem_of_getElem? hx)
  refine ⟨by rw [List.length_append,List.length_singleton];omega,fun t ht=>?_⟩
  rcases List.mem_append.1 ht with ht | ht
  ·exact this.2 t ht
  simp only [List.mem_singleton] at ht;subst ht;exact hs
 exact hg
theorem len_step : (oW R s).length ≤ R.length + 1:=by
 unfold oW
 split
 ·simp
 split
 ·simp
 split <;> simp
end
theorem good_boxO {l : List Card} (h : ∀ s ∈ l,okC s) : kV (yB l):=by
 have key : ∀ (l : List Card) (R : Box),kV R → (∀ s ∈ l,okC s) → kV (l.foldl oW R):=by
  intro l
  induction l with
  | nil=>intro R h _;exact h
  | cons s l ih=>intro R h h2;exact ih _ (good_step h (h2 s List.mem_cons_self)) fun t ht=>h2 t (List.mem_cons_of_mem _ ht)
 exact key l [] (fun x hx=>by cases hx) h
theorem aHf (l : List Card) : (yB l).length ≤ l.length:=by
  have key : ∀ (l : List Card) (R : Box),(l.foldl oW R).length ≤ R.length + l.length:=by
    intro l
    induction l with
    | nil=>intro R;simp
    | cons s l ih =>
      intro R
      have h1:=ih (oW R s)
      have h2:=len_step (R:=R) (s:=s)
      rw [List.foldl_cons,List.length_cons];omega
  have:=key l []
  unfold yB
  simpa using this
def wY (H : Hp) (rs : List Raw) (l : Box) : Prop:=aDj eV H rs l ∧ ∀ (i : Nat) (r : Raw) (x : List Card),rs[i]? = some r → l[i]? = some x → x.length < 2 → r.2.2 ≤ x.length
section
variable {H : Hp} {rs : List Raw} {l : Box} {x : List Card} {a : Option Addr} {c i : Nat}
theorem wY.mono {H' : Hp} (h : wY H rs l) (hle : Le H H') : wY H' rs l:=⟨h.1.mono hle,h.2⟩
theorem wY.nil : wY H [] []:=⟨⟨rfl,fun i r x h=>by simp at h⟩,fun i r x h=>by simp at h⟩
theorem wY.get (h : wY H rs l) (hx : l[i]? = some x) : ∃ a c,rs[i]? = some (a,x.length,c) ∧ SlR eV H a c x ∧ (x.length < 2 → c ≤ x.length):=by
 have hi : i < rs.length:=by rw [h.1.1];exact (List.getElem?_eq_some_iff.1 hx).1
 have hr : rs[i]? = some rs[i]:=List.getElem?_eq_getElem hi
 obtain ⟨h1,h2⟩:=h.1.2 i _ x hr hx;refine ⟨rs[i].1,rs[i].2.2,by rw [hr,← h1],h2,h.2 i _ x hr hx⟩
theorem wY.snoc (h : wY H rs l) (hs : SlR eV H a c x) (hc : x.length < 2 → c ≤ x.length) : wY H (rs ++ [(a,x.length,c)]) (l ++ [x]):=by
 have e:=h.1.1
 have key : ∀ (i : Nat) (r : Raw) (y : List Card),(rs ++ [(a,x.length,c)])[i]? = some r → (l ++ [x])[i]? = some y → (rs[i]? = some r ∧ l[i]? = some y) ∨ (r = (a,x.length,c) ∧ y = x):=by
  intro i r y hr hy
  rcases Nat.lt_or_ge i rs.length with hi | hi
  ·rw [List.getElem?_append_left hi] at hr
   rw [List.getElem?_append_left (by omega)] at hy
   exact .inl ⟨hr,hy⟩
  rw [List.getElem?_append_right hi] at hr
  rw [List.getElem?_append_right (by omega)] at hy
  have h1:=List.mem_of_getElem? hr
  have h2:=List.mem_of_getElem? hy
  simp only [List.mem_singleton] at h1 h2
  exact .inr ⟨h1,h2⟩
 refine ⟨⟨by simp [e],fun i r y hr hy=>?_⟩,fun i r y hr hy=>?_⟩
 ·rcases key i r y hr hy with ⟨h1,h2⟩ | ⟨rfl,rfl⟩
  ·exact h.1.2 i r y h1 h2
  exact ⟨rfl,hs⟩
 rcases key i r y hr hy with ⟨h1,h2⟩ | ⟨rfl,rfl⟩
 ·exact h.2 i r y h1 h2
 exact hc
theorem wY.set (h : wY H rs l) (hi : i < l.length) (hs : SlR eV H a c x) (hc : x.length < 2 → c ≤ x.length) : wY H (rs.set i (a,x.length,c)) (l.set i x):=by
 have e:=h.1.1
 have key : ∀ (j : Nat) (r : Raw) (y : List Card),(rs.set i (a,x.length,c))[j]? = some r → (l.set i x)[j]? = some y → (rs[j]? = some r ∧ l[j]? = some y) ∨ (r = (a,x.length,c) ∧ y = x):=by
  intro j r y hr hy
  by_cases hj : i = j
  ·subst hj
   rw [List.getElem?_set_self (by omega)] at hr hy
   exact .inr ⟨(Option.some.inj hr).symm,(Option.some.inj hy).symm⟩
  rw [List.getElem?_set_ne hj] at hr hy
  exact .inl ⟨hr,hy⟩
 refine ⟨⟨by simp [e],fun j r y hr hy=>?_⟩,fun j r y hr hy=>?_⟩
 ·rcases key j r y hr hy with ⟨h1,h2⟩ | ⟨rfl,rfl⟩
  ·exact h.1.2 j r y h1 h2
  exact ⟨rfl,hs⟩
 rcases key j r y hr hy with ⟨h1,h2⟩ | ⟨rfl,rfl⟩
 ·exact h.2 j r y h1 h2
 exact hc
end
def pmB (l m : Box) : Box:=yB (mrg l.flatten m.flatten)
def pE (X : Box) : Int:=if 4096 < X.length then 2 else 0
def pX (X : Box) : Box:=if 4096 < X.length then [] else X
theorem p_1 {X : Box} (h : 4096 < X.length) : pE X = 2 ∧ pX X = []:=⟨if_pos h,if_pos h⟩
theorem p_0 {X : Box} (h : ¬ 4096 < X.length) : pE X = 0 ∧ pX X = X:=⟨if_neg h,if_neg h⟩
theorem jW.n {b X : Box} {E : Int} {H : Hp} {a : Option Addr} {c n : Nat} (h : E = 0 ∧ X = b) (hn : n = b.length) (hs : SlR (slR eV) H a c b) : jW X E H (.tuple #[.slice a n c,.int .i64 0]):=by subst hn;exact jW.k h hs
def aCk (b : Box) (s : Card) : Int:=if jM b = 0 then (if okC s then pE (pmB b [[s]]) else 350) else jM b
def aG3 (b : Box) (s : Card) : Box:=if jM b = 0 ∧ okC s then pX (pmB b [[s]]) else []
def aC1 (a b : Box) : Int:=if jM a = 0 then (if jM b = 0 then pE (pmB a b) else jM b) else jM a
def aHi (a b : Box) : Box:=if jM a = 0 ∧ jM b = 0 then pX (pmB a b) else []
theorem aH0 {b : Box} {s : Card} (h : ¬ jM b = 0) : aCk b s = jM b ∧ aG3 b s = []:=⟨if_neg h,if_neg fun e=>h e.1⟩
theorem aH4 {b : Box} {s : Card} (h : jM b = 0) (h2 : ¬ okC s) : aCk b s = 350 ∧ aG3 b s = []:=⟨by unfold aCk;rw [if_pos h,if_neg h2],if_neg fun e=>h2 e.2⟩
theorem aEs {b : Box} {s : Card} (h : jM b = 0) (h2 : okC s) : aCk b s = pE (pmB b [[s]]) ∧ aG3 b s = pX (pmB b [[s]]):=⟨by unfold aCk;rw [if_pos h,if_pos h2],if_pos ⟨h,h2⟩⟩
theorem aHx {a b : Box} (h : ¬ jM a = 0) : aC1 a b = jM a ∧ aHi a b = []:=⟨if_neg h,if_neg fun e=>h e.1⟩
theorem aIf {a b : Box} (h : jM a = 0) (h2 : ¬ jM b = 0) : aC1 a b = jM b ∧ aHi a b = []:=⟨by unfold aC1;rw [if_pos h,if_neg h2],if_neg fun e=>h2 e.2⟩
theorem aFi {a b : Box} (h : jM a = 0) (h2 : jM b = 0) : aC1 a b = pE (pmB a b) ∧ aHi a b = pX (pmB a b):=⟨by unfold aC1;rw [if_pos h,if_pos h2],if_pos ⟨h,h2⟩⟩
theorem jW.via {X Y : Box} {E F : Int} {H : Hp} {a : Option Addr} {c : Nat} {e : Int} {n : Nat} (h : E = F ∧ X = Y) (hb : F = e ∧ n = Y.length) (hs : SlR (slR eV) H a c Y) : jW X E H (.tuple #[.slice a n c,.int .i64 e]):=by obtain ⟨rfl,rfl⟩:=h;obtain ⟨rfl,rfl⟩:=hb;exact jW.yes hs
end Go.Proofs
