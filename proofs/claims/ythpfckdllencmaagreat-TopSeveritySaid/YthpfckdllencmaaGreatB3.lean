/- Drawn regions with a store: one operation changes a block that was there before,and what must run before it still finds it a_s it was. No statement of the program stands here. -/
import Derived.Test.YthpfckdllencmaaGreatB1
import Derived.Test.YthpfckdllencmaaGreatB2
import Derived.Lib.AppendStr
import Derived.Lib.ConvBytes
import Derived.Lib.BytesEntry
import Derived.Laws.IdiomCopy
import Derived.Test.YthpfckdllencmaaGreatProg
set_option autoImplicit false
set_option linter.unusedSimpArgs false
set_option linter.unusedVariables false
namespace Go.XL
def aJe (l : List Oper) (i0 k : Nat) : Bool:=match l[i0]? with
 | some o=>o.after.toList.any fun e=>Region.binds .any e && Nat.beq e.on k
 | none=>false
def rT (i0 k : Nat) (FOa : Nat × SObj → Hp → Prop) (FO2 : Nat × SObj → Hp → Prop) (e0 : Nat × SObj) : Value → Nat × SObj → Hp → Prop:=fun _ e H=>if k = i0 then FO2 e H else e = e0
def aBz (Gd : Hp → Prop) (i0 : Nat) (FOa : Nat × SObj → Hp → Prop) (FO2 : Nat × SObj → Hp → Prop) (C : Ctx) (l : List Oper) (F : List (Value → Hp → Prop)) (env : gY) (df : List Deferred) (H : Hp) (own : Own) (m : Nat) : Nat → List Oper → Prop
 | _,[]=>True
 | k,o :: rest=>bif Nat.blt k m then
   (∀ X e H',Le H H' → Gd H' → ((k = i0 ∨ aJe l i0 k = true) → FOa e H') → mK l F H' (kH o) [] fun acc=>XO C l.toArray (aCx Gd o.dst (jN F k) (rT i0 k FOa FO2 e) (acc ++ (env ++ X)) df own) [o] ⟨acc ++ (env ++ X),df,H',e :: own⟩) ∧ aBz Gd i0 FOa FO2 C l F env df H own m (k + 1) rest
  else True
theorem fZ {Gd : Hp → Prop} {i0 : Nat} {FOa : Nat × SObj → Hp → Prop} {FO2 : Nat × SObj → Hp → Prop} {C : Ctx} {l : List Oper} {F : List (Value → Hp → Prop)} {env : gY} {df : List Deferred} {H : Hp} {own : Own} {m k : Nat} {o : Oper} {rest : List Oper} (hk : Nat.blt k m = true)
  (h : ∀ X e H',Le H H' → Gd H' → ((k = i0 ∨ aJe l i0 k = true) → FOa e H') → mK l F H' (kH o) [] fun acc=>XO C l.toArray (aCx Gd o.dst (jN F k) (rT i0 k FOa FO2 e) (acc ++ (env ++ X)) df own) [o] ⟨acc ++ (env ++ X),df,H',e :: own⟩) (k2 : aBz Gd i0 FOa FO2 C l F env df H own m (k + 1) rest) : aBz Gd i0 FOa FO2 C l F env df H own m k (o :: rest):=by
 rw [aBz,hk];exact ⟨h,k2⟩
theorem xG {Gd : Hp → Prop} {i0 : Nat} {FOa : Nat × SObj → Hp → Prop} {FO2 : Nat × SObj → Hp → Prop} {C : Ctx} {l : List Oper} {F : List (Value → Hp → Prop)} {env : gY} {df : List Deferred} {H : Hp} {own : Own} {m k : Nat} {rest : List Oper} (hk : Nat.blt k m = false) : aBz Gd i0 FOa FO2 C l F env df H own m k rest:=by
 cases rest with
 | nil=>trivial
 | cons o r=>rw [aBz,hk];trivial
section
variable {C : Ctx} {Q : Exit → St → Prop} {env : gY} {df : List Deferred} {H : Hp} {own : Own}
theorem aMv {Gd : Hp → Prop} {i0 : Nat} {FOa : Nat × SObj → Hp → Prop} {FO2 : Nat × SObj → Hp → Prop} {l : List Oper} {F : List (Value → Hp → Prop)} {m : Nat} : ∀ (rest : List Oper) (k : Nat),aBz Gd i0 FOa FO2 C l F env df H own m k rest → ∀ (i : Nat) (o : Oper),rest[i]? = some o → k + i < m →
  ∀ X e H',Le H H' → Gd H' → ((k + i = i0 ∨ aJe l i0 (k + i) = true) → FOa e H') → mK l F H' (kH o) [] fun acc=>XO C l.toArray (aCx Gd o.dst (jN F (k + i)) (rT i0 (k + i) FOa FO2 e) (acc ++ (env ++ X)) df own) [o] ⟨acc ++ (env ++ X),df,H',e :: own⟩
 | [],k,_,i,o,hi,_=>by simp at hi
 | x :: rest,k,h,i,o,hi,hlt=>by
  simp only [aBz] at h;rw [show Nat.blt k m = true by simp;omega] at h;cases i with
  | zero=>simp only [mF,Option.some.injEq] at hi;subst hi;exact h.1
  | succ i =>
   have:=aMv rest (k + 1) h.2 i o (by simpa using hi) zO;rwa [show k + 1 + i = k + (i + 1) by omega] at this
theorem aC7 (Gd : Hp → Prop) (hG : Gd H) (i0 : Nat) (FOa : Nat × SObj → Hp → Prop) (FO2 : Nat × SObj → Hp → Prop) (hFOa : ∀ p H H',Le H H' → FOa p H → FOa p H') (hFO2 : ∀ p H H',Le H H' → FO2 p H → FO2 p H') {id : Nat} {l : List Oper} (m : Nat) (F : List (Value → Hp → Prop)) (hm : C.P.follows .mixedOrders = true) (hck : sS m l (env.map Prod.fst) = true) (hmono' : aE3 F)
  (hi0 : Nat.blt i0 m = true) {q : Nat × SObj} (hq0 : FOa q H) (steps : aBz Gd i0 FOa FO2 C l F env df H own m 0 l)
  (tail : ∀ H',Le H H' → Gd H' → mK l F H' (List.range m) [] fun acc=>∀ e,FO2 e H' → XO C l.toArray Q (l.drop m) ⟨acc ++ env,df,H',e :: own⟩) : XC C (.region id l.toArray true) Q ⟨env,df,H,q :: own⟩:=by
 have hmono:=xK hmono';intro a₀ w₀ hr₀;refine wpIn_region_any hm ?_;simp only [sS,fL,List.all_eq_true,fA] at hck;obtain ⟨⟨hml,hck1⟩,hck2⟩:=hck;have hml:=Nat.le_of_ble_eq_true hml
 have hpre : ∀ i,i < m → ∃ o,l[i]? = some o ∧ (∀ t,o.dst = some t → t ∉ env.map Prod.fst ∧ (∀ j,j < m → i ≠ j → gU l j ≠ some t)) ∧ (∀ e ∈ o.after,Region.binds .any e = true → e.on < i) ∧ (∀ j ∈ kH o,j < m ∧ ∃ e ∈ o.after,Region.binds .any e = true ∧ e.on = j):=by
  intro i hi;have h:=hck1 i hi;split at h
  ·rename_i o ho
   simp only [fL,List.all_eq_true] at h;obtain ⟨⟨⟨hnd,hd⟩,haf⟩,hp⟩:=h;refine ⟨o,ho,?_,?_,?_⟩
   ·intro t ht;rw [ht] at hd;simp only [fL,List.all_eq_true,fA,Bool.not_eq_true',List.contains_eq_mem,decide_eq_false_iff_not] at hd;refine ⟨hd.1,fun j hj hne he=>?_⟩;have:=hd.2 j hj;rw [he] at this;simp at this;exact hne this
   ·intro e he hb;have:=haf e (by simpa using he);simpa [hb] using this
   intro j hj;have:=hp j hj;simp only [List.any_eq_true,fL] at this;obtain ⟨h1,e,he,hb,hon⟩:=this;exact ⟨by simpa using h1,e,by simpa using he,hb,fV hon⟩
  cases h
 have hkey : ∀ i t,i < m → gU l i = some t → t ∉ env.map Prod.fst:=by
  intro i t hi ht;obtain ⟨o,ho,hd,_⟩:=hpre i hi;exact (hd t (by simpa [gU,ho] using ht)).1
 have hdis : ∀ i j t,i < m → j < m → gU l i = some t → gU l j = some t → i = j:=by
  intro i j t hi hj ht ht2;obtain ⟨o,ho,hd,_⟩:=hpre i hi;by_cases h : i = j
  ·exact h
  exact absurd ht2 ((hd t (by simpa [gU,ho] using ht)).2 j hj h)
 have htl : ∀ (i : Nat) (o : Oper),m ≤ i → l[i]? = some o → (∀ j,j < i → sW l l.length o j = true) ∧ (∀ e ∈ o.after,Region.binds .any e = true → e.on < i):=by
  intro i o hi ho;have hlt:=(bY.1 ho).1;have h:=hck2 i hlt;rw [ho] at h;rw [show Nat.blt i m = false from aE7 hi] at h;simp only [Bool.false_or,fL,List.all_eq_true,fA] at h;refine ⟨fun j hj=>h.1 j hj,fun e he hb=>?_⟩
  ·have:=h.2 e (by simpa using he);simpa [hb] using this
 have hdc : ∀ (i : Nat) (o : Oper),l[i]? = some o → ∀ e ∈ o.after,Region.binds .any e = true → e.on < i:=by
  intro i o ho;rcases gJ i m with h | h
  ·obtain ⟨o2,ho2,_,haf,_⟩:=hpre i h;rw [ho] at ho2;cases ho2;exact haf
  exact (htl i o h ho).2
 have main : ∀ (fuel : Nat) (L : Array Bool) (a : Act) (w : World) (val : Nat → Value) (kJ : Nat × SObj) (H' : Hp),L.size = l.length → unl l.length L ≤ fuel → Le H H' → Gd H' → (∀ (i : Nat) (o : Oper),l[i]? = some o → jU L i = true → ∀ e ∈ o.after,Region.binds .any e = true → jU L e.on = true) → (∀ j,m ≤ j → jU L j = false) →
   a.tmps.size = C.N → (∀ t v,env.get t = some v → a.tmps.getD t undef = v) → (∃ ms : List Nat,a.defers = ms.map mark ++ df ∧ Ok C.G H' ((kJ :: own) ++ (ms.map hid ++ C.hid)) w) → (if jU L i0 = true then FO2 kJ H' else FOa kJ H') →
   (∀ i,i < m → jU L i = true → ∀ t,gU l i = some t → a.tmps.getD t undef = val i ∧ jN F i (val i) H') →
   wpAnyIn (Fr C.r) 0 C.P .any l.toArray (nW C H Q) fuel L a w:=by
  intro fuel
  have done : ∀ (fuel : Nat) (L : Array Bool) (a : Act) (w : World) (val : Nat → Value) (kJ : Nat × SObj) (H' : Hp),L.size = l.length → unl l.length L ≤ fuel → Le H H' → Gd H' → (∀ j,m ≤ j → jU L j = false) →
    a.tmps.size = C.N → (∀ t v,env.get t = some v → a.tmps.getD t undef = v) → (∃ ms : List Nat,a.defers = ms.map mark ++ df ∧ Ok C.G H' ((kJ :: own) ++ (ms.map hid ++ C.hid)) w) → (if jU L i0 = true then FO2 kJ H' else FOa kJ H') →
    (∀ i,i < m → jU L i = true → ∀ t,gU l i = some t → a.tmps.getD t undef = val i ∧ jN F i (val i) H') → (∀ j,j < m → jU L j = true) →
    wpAnyIn (Fr C.r) 0 C.P .any l.toArray (nW C H Q) fuel L a w:=by
   intro fuel L a w val kJ H' hs hu hle hGd hT hsz henv hok hents hfacts hall;obtain ⟨acc',hk,hmem⟩:=pR (val:=val) (List.range m) [] _ (tail H' hle hGd) (fun j hj t ht=>(hfacts j (fA.1 hj) (hall j (fA.1 hj)) t ht).2);have hcount : l.length - m ≤ fuel:=by rw [uF hml hall hT];exact hu
   refine vC (m:=m) htl hdc fuel m L a w (gT _) hs hcount hml ?_ ?_
   ·intro j;rcases gJ j m with h | h
    ·rw [hall j h];simp [h]
    rw [hT j h];simp;omega
   have him0 : i0 < m:=by simpa using hi0
   have hk2:=hk kJ (by rw [eX (hall i0 him0)] at hents;exact hents);refine lZ hle _ _ _ (hk2 a w ⟨hsz,?_,hok⟩);intro t v hg;simp only [gH] at hg;rw [gY.get_append] at hg;cases hga : gY.get acc' t with
   | none=>rw [hga] at hg;exact henv t v (by simpa using hg)
   | some u =>
    rw [hga] at hg;simp at hg;subst hg;obtain ⟨j,hj,hd,rfl⟩:=hmem t u (kB _ _ _ hga);have hj:=fA.1 hj;exact (hfacts j hj (hall j hj) t hd).1
  induction fuel with
  | zero =>
   intro L a w val kJ H' hs hu hle hGd hdown hT hsz henv hok hents hfacts;refine done 0 L a w val kJ H' hs hu hle hGd hT hsz henv hok hents hfacts ?_;intro j hj;cases hx : jU L j with
   | true=>rfl
   | false =>
    have:=qT (L:=L) (i:=j) hs zO hx;omega
  | succ fuel ih =>
   intro L a w val kJ H' hs hu hle hGd hdown hT hsz henv hok hents hfacts;by_cases hall : ∀ j,j < m → jU L j = true
   ·exact done (fuel + 1) L a w val kJ H' hs hu hle hGd hT hsz henv hok hents hfacts hall
   constructor
   ·intro hnil;exfalso;apply hall
    -- the least one that is not listed is ready
    intro j hj
    induction j using Nat.strongRecOn with
    | _ j ihj =>
     cases hx : jU L j with
     | true=>rfl
     | false =>
      exfalso;obtain ⟨o,ho,_,haf,_⟩:=hpre j hj
      have : j ∈ Region.ready .any l.toArray L:=by
       rw [mem_ready];refine ⟨?_,o,by simpa using ho,fun e he hb=>ihj e.on (haf e he hb) (by have:=haf e he hb;omega)⟩;unfold jU at hx;rw [dY,gG zO] at hx ⊢;simpa using hx
      rw [hnil] at this;cases this
   intro i hi;rw [mem_ready] at hi;obtain ⟨h0,o,ho,hbef⟩:=hi;have hilt : i < l.length:=by simpa using (Array.getElem?_eq_some_iff.1 ho).1
   have hun : jU L i = false:=by
    unfold jU;rw [dY,gG zO] at h0 ⊢;simpa using h0
   have ho' : l[i]? = some o:=by simpa using ho
   have him : i < m:=by
    rcases gJ i m with h | h
    ·exact h
    exfalso;apply hall;intro j hj;exact nC hdown _ o j hbef ((htl i o h ho').1 j zO)
   obtain ⟨o2,ho2,hd,haf,hprd⟩:=hpre i him;rw [ho'] at ho2;cases ho2;have hdo : gU l i = o.dst:=by simp [gU,ho']
   have hst:=aMv l 0 steps i o ho' zO;simp only [Nat.zero_add] at hst
   -- all that is known of the slots,a_s one list
   let X : gY:=(List.range m).filterMap fun j=>if jU L j then (gU l j).map fun t=>(t,val j) else none
   have hpredF : ∀ j ∈ kH o,∀ tj,gU l j = some tj → jN F j (val j) H':=fun j hj tj hdj=>by
    obtain ⟨hjm,e,he,hb,hon⟩:=hprd j hj;have hlj : jU L j = true:=by have:=hbef e he hb;rw [hon] at this;exact this
    exact (hfacts j hjm hlj tj hdj).2
   have hX : ∀ t v,(t,v) ∈ X → ∃ j,j < m ∧ jU L j = true ∧ gU l j = some t ∧ v = val j:=by
    intro t v h;obtain ⟨j,hj,hjj⟩:=List.mem_filterMap.1 h;split at hjj
    ·rename_i hlj
     cases hdj : gU l j with
     | none=>rw [hdj] at hjj;cases hjj
     | some tj =>
      rw [hdj] at hjj;simp only [Option.map_some,Option.some.injEq,Prod.mk.injEq] at hjj;obtain ⟨rfl,rfl⟩:=hjj;exact ⟨j,fA.1 hj,hlj,hdj,rfl⟩
    cases hjj
   have hgets : ∀ acc' : gY,(∀ t v,(t,v) ∈ acc' → ∃ j ∈ kH o,gU l j = some t ∧ v = val j) → ∀ t v,gY.get (acc' ++ (env ++ X)) t = some v → a.tmps.getD t undef = v:=by
    intro acc' hmem t v hgv;rw [gY.get_append,gY.get_append] at hgv;cases hga : gY.get acc' t with
    | some u =>
     rw [hga] at hgv;simp at hgv;subst hgv;obtain ⟨j,hj,hdj,rfl⟩:=hmem t u (kB _ _ _ hga);obtain ⟨hjm,e,he,hb,hon⟩:=hprd j hj;have hlj : jU L j = true:=by have:=hbef e he hb;rw [hon] at this;exact this
     exact (hfacts j hjm hlj t hdj).1
    | none =>
     rw [hga] at hgv;simp only [Option.none_or] at hgv;cases hge : gY.get env t with
     | some u=>rw [hge] at hgv;simp at hgv;subst hgv;exact henv t u hge
     | none =>
      rw [hge] at hgv;simp only [Option.none_or] at hgv;obtain ⟨j,hj,hlj,hdj,rfl⟩:=hX t v (kB _ _ _ hgv);exact (hfacts j hj hlj t hdj).1
   have hnextG : ∀ (acc' : gY),(∀ t v,(t,v) ∈ acc' → ∃ j ∈ kH o,gU l j = some t ∧ v = val j) → ∀ (a' : Act) (w' : World) (σ' : St) (v : Value) (ent' : Nat × SObj),Rel C σ' a' w' → Le H' σ'.H → Gd σ'.H → σ'.df = df → σ'.env = jI o.dst v (acc' ++ (env ++ X)) → jN F i v σ'.H →
     (∀ ms : List Nat,Ok C.G σ'.H (σ'.own ++ (ms.map hid ++ C.hid)) w' → Ok C.G σ'.H ((ent' :: own) ++ (ms.map hid ++ C.hid)) w') →
     (if jU (L.setIfInBounds i true) i0 = true then FO2 ent' σ'.H else FOa ent' σ'.H) →
     wpAnyIn (Fr C.r) 0 C.P .any l.toArray (nW C H Q) fuel (L.setIfInBounds i true) a' w':=by
    intro acc' hmem a' w' σ' v ent' hr' hle' hGd' hdf' henv' hfv hown' hent';refine ih (L.setIfInBounds i true) a' w' (fun j=>if j = i then v else val j) ent' σ'.H (by simpa using hs) ?_ (hle.trans hle') hGd' ?_ ?_ hr'.size ?_ ?_ hent' ?_
    ·have:=qT hs hilt hun;omega
    ·intro i' o' hi' hl' e he hb;rw [jT zO] at hl' ⊢;split
     ·rfl
     split at hl'
     ·rename_i e1 e2;subst e2;rw [ho'] at hi';cases hi';exact hbef e he hb
     exact hdown i' o' hi' hl' e he hb
    ·intro j hj;rw [jT zO,dG zO];exact hT j hj
    ·intro t' v' hg';refine hr'.get t' v' ?_;have hin : t' ∈ env.map Prod.fst:=gS.2 ⟨(t',v'),kB _ _ _ hg',rfl⟩;rw [henv',nI (fun e=>(hd t' e).1 hin),gY.get_append,gY.get_append]
     have : gY.get acc' t' = none:=by
      cases hga : gY.get acc' t' with
      | none=>rfl
      | some u =>
       obtain ⟨j,hj,hdj,_⟩:=hmem t' u (kB _ _ _ hga);exact absurd hin (hkey j t' (hprd j hj).1 hdj)
     rw [this,hg'];rfl
    ·obtain ⟨ms,hd',hok'⟩:=hr'.ok;exact ⟨ms,by rw [hd',hdf'],hown' ms hok'⟩
    intro j hj hlj tj htj;rw [jT zO] at hlj;by_cases hji : j = i
    ·subst hji;rw [hdo] at htj;simp only [if_true];refine ⟨hr'.get tj v ?_,hfv⟩;rw [henv',htj];simp [jI,gY.get]
    rw [dG hji] at hlj;obtain ⟨h1,h2⟩:=hfacts j hj hlj tj htj;simp only [dG hji];refine ⟨hr'.get tj (val j) ?_,rR hmono hle' h2⟩;rw [henv',nI (fun e=>hji (hdis j i tj hj him htj (by rw [hdo,e]))),gY.get_append,gY.get_append]
    have hacc : gY.get acc' tj = none ∨ gY.get acc' tj = some (val j):=by
     cases hga : gY.get acc' tj with
     | none=>exact .inl rfl
     | some u =>
      obtain ⟨j',hj',hdj',rfl⟩:=hmem tj u (kB _ _ _ hga);obtain rfl:=hdis j' j tj (hprd j' hj').1 hj hdj' htj;exact .inr rfl
    rcases hacc with hacc | hacc
    ·rw [hacc]
     have henvn : gY.get env tj = none:=by
      cases hge : gY.get env tj with
      | none=>rfl
      | some u=>exact absurd (gS.2 ⟨(tj,u),kB _ _ _ hge,rfl⟩) (hkey j tj hj htj)
     rw [henvn];simp only [Option.none_or]
     -- it stands in X,once
     refine uX X (List.mem_filterMap.2 ⟨j,fA.2 hj,by simp only [hlj,if_true,htj,Option.map_some]⟩) ?_;intro u hu';obtain ⟨j',hj',_,hdj',rfl⟩:=hX tj u hu';obtain rfl:=hdis j' j tj hj' hj hdj' htj;rfl
    rw [hacc];rfl
   have hcase : ∀ (acc' : gY) (own2 : Own) (Q2 : Exit → St → Prop),(∀ e σ,e ≠ .normal → ¬ Q2 e σ) → XO C l.toArray Q2 [o] ⟨acc' ++ (env ++ X),df,H',own2⟩ → Rel C ⟨acc' ++ (env ++ X),df,H',own2⟩ a w →
     (∀ a' w',nW C H' Q2 .normal a' w' → wpAnyIn (Fr C.r) 0 C.P .any l.toArray (nW C H Q) fuel (L.setIfInBounds i true) a' w') → wpOpIn (Fr C.r) 0 C.P l.toArray (nW C H Q) i (fun a' w'=>wpAnyIn (Fr C.r) 0 C.P .any l.toArray (nW C H Q) fuel (L.setIfInBounds i true) a' w') a w:=by
    intro acc' own2 Q2 hno hk hrel hnext;have hrun:=hk a w hrel;unfold wpOpIn;rw [ho];simp only [wpListIn] at hrun ⊢;split
    ·rename_i hw
     rw [eX hw] at hrun;refine oV hnext ?_ hrun;rintro e a' w' he ⟨σ',_,_,hq⟩;exact absurd hq (hno e σ' he)
    rename_i hw
    rw [dG hw] at hrun;exact ⟨hrun.1,hnext _ _ hrun.2⟩
   obtain ⟨acc',hk,hmem⟩:=pR (val:=val) (kH o) [] _ (hst X kJ H' hle hGd (fun e=>by
    have hno : jU L i0 = false:=by
     rcases e with e | e
     ·rw [e] at hun;exact hun
     cases hx : jU L i0 with
     | false=>rfl
     | true =>
      unfold aJe at e;split at e
      ·rename_i o0 ho0
       rw [List.any_eq_true] at e;obtain ⟨ed,hed,h1⟩:=e;simp only [fL] at h1;have:=hdown i0 o0 ho0 hx ed (by simpa using hed) h1.1;rw [fV h1.2,hun] at this;cases this
      cases e
    rw [hno,dG zP] at hents
    exact hents)) hpredF
   simp only [gH] at hk;refine hcase acc' _ _ (fun e σ he=>by cases e <;> first | exact absurd rfl he | exact fun h=>h) hk ⟨hsz,hgets acc' hmem,hok⟩ ?_;rintro a' w' ⟨σ',hr',hle',hGd',hdf',v,e2,henv',hfv,hown',hfo⟩;refine hnextG acc' hmem a' w' σ' v e2 hr' hle' hGd' hdf' henv' hfv ?_ ?_
   ·intro ms hok';rw [hown'] at hok';exact hok'
   unfold rT at hfo;by_cases hii : i = i0
   ·rw [eX hii] at hfo;rw [jT zO,eX hii.symm,eX rfl];exact hfo
   rw [dG hii] at hfo;subst hfo;have hne : ¬ i0 = i:=fun e=>hii e.symm;have hls : jU (L.setIfInBounds i true) i0 = jU L i0:=by rw [jT zO,dG hne]
   rw [hls];split
   ·rename_i h5;rw [eX h5] at hents;exact hFO2 _ _ _ hle' hents
   rename_i h5;rw [dG h5] at hents;exact hFOa _ _ _ hle' hents
 have hlst0 : ∀ j,jU (Array.replicate l.toArray.size false) j = false:=fun j=>by simp [jU,dY,gA];split <;> rfl
 exact main l.toArray.size (Array.replicate l.toArray.size false) a₀ _ (fun _=>undef) q H zP (by
   refine eK (List.countP_le_length) zP) (Le.refl _) hG (fun i o _ hl=>by
   have : jU (Array.replicate l.toArray.size false) i = false:=by simp [jU,dY,gA];split <;> rfl
   rw [this] at hl;cases hl) (fun j _=>by simp [jU,dY,gA];split <;> rfl) hr₀.size hr₀.get
  (let ⟨ms,hd,hok⟩:=hr₀.ok;⟨ms,hd,hok.drew⟩) (by rw [hlst0,dG zP];exact hq0) (fun i _ h=>by
   have : jU (Array.replicate l.toArray.size false) i = false:=by simp [jU,dY,gA];split <;> rfl
   rw [this] at h;cases h)
end
end Go.XL

namespace Go.XL
abbrev Raw:=Option Addr × Nat × Nat
def rawR : Rep Raw where
 sz:=1
 R:=fun _ cs r=>cs = [.slice r.1 r.2.1 r.2.2]
 len:=fun h=>by subst h;rfl
 one:=fun h=>by subst h;rfl
 mono:=fun _ h=>h
structure RowO (α : Type) where
 p : Nat × SObj
 a : Option Addr
 c : Nat
 l : List α
def RowO.raw {α : Type} (r : RowO α) : Raw:=(r.a,r.l.length,r.c)
def RowsO {α : Type} (ρ : Rep α) (T : TypeId) (H : Hp) (rs : List (RowO α)) : Prop:=∀ r ∈ rs,Acc ρ T H r.p r.a r.c r.l
section
variable {α : Type} {ρ : Rep α} {T : TypeId} {H H' : Hp} {rs : List (RowO α)}
theorem RowsO.mono (h : RowsO ρ T H rs) (hle : Le H H') : RowsO ρ T H' rs:=fun r hr=>(h r hr).mono hle
theorem RowsO.nil : RowsO ρ T H []:=fun r hr=>by cases hr
theorem RowsO.snoc (h : RowsO ρ T H rs) {r : RowO α} (hr : Acc ρ T H r.p r.a r.c r.l) : RowsO ρ T H (rs ++ [r]):=by
 intro q hq;rcases gM.1 hq with hq | hq
 ·exact h q hq
 simp at hq;subst hq;exact hr
theorem RowsO.set (h : RowsO ρ T H rs) (i : Nat) {r : RowO α} (hr : Acc ρ T H r.p r.a r.c r.l) : RowsO ρ T H (rs.set i r):=by
 intro q hq;rcases List.mem_or_eq_of_mem_set hq with hq | hq
 ·exact h q hq
 subst hq;exact hr
theorem aNm {rest : Own} {r : RowO α} : ∀ {rs : List (RowO α)} {i : Nat},rs[i]? = some r → Own.at (rs.map RowO.p ++ rest) i = some r.p
 | [],i,h=>by simp at h
 | q :: rs,0,h=>by simp at h;subst h;rfl
 | q :: rs,i + 1,h=>aNm (rs:=rs) (i:=i) (by simpa using h)
theorem iH.ofRaw (h2 : ∀ r ∈ rs,SlR ρ H r.a r.c r.l) : ∀ {xs : List Value},iH rawR H xs (rs.map RowO.raw) → iH (slR ρ) H xs (rs.map RowO.l):=by
 induction rs with
 | nil=>intro xs h;exact h
 | cons r rs ih =>
  rintro xs ⟨c1,c2,rfl,h3,h4⟩;exact ⟨c1,c2,rfl,⟨_,_,h3,h2 r zP⟩,ih (fun q hq=>h2 q (by simp [hq])) h4⟩
theorem Acc.ofRaw {T2 : TypeId} {px : Nat × SObj} {ax : Option Addr} {cx : Nat} (h : Acc rawR T2 H px ax cx (rs.map RowO.raw)) (h2 : ∀ r ∈ rs,SlR ρ H r.a r.c r.l) : Acc (slR ρ) T2 H px ax cx (rs.map RowO.l):=by
 rcases h with ⟨h3,h4,h5,h6⟩ | ⟨xs,h3,h4,h5,h6⟩
 ·exact .inl ⟨h3,h4,by simpa using h5,h6⟩
 exact .inr ⟨xs,h3,h4,iH.ofRaw h2 h5,by simpa using h6⟩
theorem aCa {G : World} {w : World} {fr : Own} : ∀ (rs : List (RowO α)) (H : Hp),Ok G H (rs.map RowO.p ++ fr) w → RowsO ρ T H rs → ∃ H',Le H H' ∧ (∀ r ∈ rs,SlR ρ H' r.a r.c r.l) ∧ Ok G H' fr w
 | [],H,hok,_=>⟨H,Le.refl _,by simp,hok⟩
 | r :: rs,H,hok,hr=>by
  obtain ⟨H1,iT,hs1,hok1⟩:=wA (own:=r.p :: rs.map RowO.p) (i:=0) hok rfl (hr r zP) rfl;obtain ⟨H2,jJ,hs2,vN⟩:=aCa rs H1 hok1 (fun q hq=>(hr q (by simp [hq])).mono iT);refine ⟨H2,iT.trans jJ,?_,vN⟩;intro q hq;rcases List.mem_cons.1 hq with rfl | hq
  ·exact hs1.mono jJ
  exact hs2 q hq
end
section
variable {C : Ctx} {ops : Array Oper} {Q : Exit → St → Prop} {rest : List Oper} {env : gY} {df : List Deferred} {H : Hp} {rst : Own} {α : Type} {ρ : Rep α} {T T2 : TypeId} {rs : List (RowO α)} {px : Nat × SObj} {ax : Option Addr} {cx : Nat}
theorem aDe (hout : Acc rawR T2 H px ax cx (rs.map RowO.raw)) (hrows : RowsO ρ T H rs) (h : ∀ H',Le H H' → SlR (slR ρ) H' ax cx (rs.map RowO.l) → XO C ops Q rest ⟨env,df,H',rst⟩) :
  XO C ops Q rest ⟨env,df,H,px :: (rs.map RowO.p ++ rst)⟩:=by
 intro act w hr;obtain ⟨ms,hdf,hok⟩:=hr.ok
 have hok1 : Ok C.G H (rs.map RowO.p ++ (px :: (rst ++ (ms.map hid ++ C.hid)))) w:=hok.perm (by
  simp only [fP,eM];exact List.perm_middle)
 obtain ⟨H1,iT,hs1,vN⟩:=aCa rs H hok1 hrows;obtain ⟨H2,jJ,hs2,hok3⟩:=wA (own:=[px]) (i:=0) vN rfl (Acc.ofRaw (hout.mono iT) hs1) rfl;exact lZ (iT.trans jJ) _ _ _ (h H2 (iT.trans jJ) hs2 act w ⟨hr.size,hr.get,ms,hdf,hok3⟩)
theorem aJw {r : RowO α} {q : Nat × SObj} : (r.p :: q :: (rs.map RowO.p ++ rst)).Perm (q :: ((rs ++ [r]).map RowO.p ++ rst)):=by
 refine (gW _ _ _).trans (List.Perm.cons q ?_);rw [List.map_append,eM];exact List.perm_middle.symm
theorem aDu {r r' : RowO α} (he : r'.raw = r.raw) : ∀ {rs : List (RowO α)} {i : Nat},rs[i]? = some r → (rs.set i r').map RowO.raw = rs.map RowO.raw
 | [],i,h=>by simp at h
 | q :: rs,0,h=>by simp at h;subst h;simp [he]
 | q :: rs,i + 1,h=>by
  have:=aDu he (rs:=rs) (i:=i) (by simpa using h);simp [this]
end
end Go.XL

namespace Go.XL
section
variable {α : Type} {ρ : Rep α} {T : TypeId} {H : Hp} {p : Nat × SObj} {a : Option Addr} {c : Nat}
def RawOf (ρ : Rep α) (H : Hp) (rs : List Raw) (l : List (List α)) : Prop:=rs.length = l.length ∧ ∀ (i : Nat) (r : Raw) (x : List α),rs[i]? = some r → l[i]? = some x → r.2.1 = x.length ∧ SlR ρ H r.1 r.2.2 x
end
end Go.XL

namespace Go.XL
def aC9 (l : List Oper) (m : Nat) : List Nat → Bool
 | []=>true
 | [a]=>Nat.blt a m
 | a :: b :: r=>Nat.blt a m && aJe l b a && aC9 l m (b :: r)
def vP : List Nat → Nat → Option Nat
 | [],_=>none
 | a :: r,k=>bif Nat.beq a k then some 0 else match vP r k with | some j=>some (j + 1) | none=>none
theorem aFd : ∀ {mods : List Nat} {k j : Nat},vP mods k = some j → mods[j]? = some k ∧ j < mods.length
 | [],k,j,h=>by cases h
 | a :: r,k,j,h=>by
  rw [vP] at h;cases hb : Nat.beq a k with
  | true=>rw [hb] at h;cases h;exact ⟨by rw [fV hb];rfl,by simp⟩
  | false =>
   rw [hb] at h;simp only [cond_false] at h;split at h
   ·rename_i j' hj;cases h
    have:=aFd hj;exact ⟨by simpa using this.1,by simpa using this.2⟩
   cases h
theorem aJo : ∀ {mods : List Nat} {k : Nat},vP mods k = none → ∀ q,q < mods.length → mods.getD q 0 ≠ k
 | [],k,h,q,hq,_=>by simp at hq
 | a :: r,k,h,q,hq,e=>by
  rw [vP] at h;cases hb : Nat.beq a k with
  | true=>rw [hb] at h;cases h
  | false =>
   rw [hb] at h;simp only [cond_false] at h;split at h
   ·cases h
   rename_i hn
   cases q with
   | zero=>simp at e;subst e;simp at hb
   | succ q=>exact aJo hn q (by simpa using hq) (by simpa using e)
def aCj (mods : List Nat) (val : Nat → Value) : Nat → Value
 | 0=>undef
 | j + 1=>val (mods.getD j 0)
def entJ (mods : List Nat) (L : Nat → Bool) (j : Nat) : Prop:=(∀ q,q < j → L (mods.getD q 0) = true) ∧ (∀ q,j ≤ q → q < mods.length → L (mods.getD q 0) = false)
def entQ (mods : List Nat) (FO : Nat → Value → Nat × SObj → Hp → Prop) (L : Nat → Bool) (val : Nat → Value) (e : Nat × SObj) (H : Hp) : Prop :=
 ∃ j,j ≤ mods.length ∧ (∀ q,q < j → L (mods.getD q 0) = true) ∧ (∀ q,j ≤ q → q < mods.length → L (mods.getD q 0) = false) ∧ FO j (aCj mods val j) e H
def aWk (l : List Oper) (mods : List Nat) (FO : Nat → Value → Nat × SObj → Hp → Prop) (k : Nat) (acc : gY) (e : Nat × SObj) (H : Hp) : Prop :=
 match vP mods k with
 | none=>True
 | some 0=>FO 0 undef e H
 | some (j + 1)=>∀ t v,gU l (mods.getD j 0) = some t → gY.get acc t = some v → FO (j + 1) v e H
def foQ (mods : List Nat) (k : Nat) (FO : Nat → Value → Nat × SObj → Hp → Prop) (e0 : Nat × SObj) : Value → Nat × SObj → Hp → Prop:=fun v e H =>
 match vP mods k with
 | none=>e = e0
 | some j=>FO (j + 1) v e H
def lastQ (l : List Oper) (mods : List Nat) (FO : Nat → Value → Nat × SObj → Hp → Prop) (acc : gY) (e : Nat × SObj) (H : Hp) : Prop :=
 match mods.length with
 | 0=>FO 0 undef e H
 | n + 1=>∀ t v,gU l (mods.getD n 0) = some t → gY.get acc t = some v → FO (n + 1) v e H
theorem aD8 {l : List Oper} {m : Nat} : ∀ {mods : List Nat},aC9 l m mods = true → ∀ {q : Nat},q < mods.length → mods.getD q 0 < m
 | [],_,q,hq=>by simp at hq
 | [a],h,q,hq=>by
  obtain rfl : q = 0:=by simpa using hq
  simpa [aC9] using h
 | a :: b :: r,h,q,hq=>by
  simp only [aC9,fL] at h;cases q with
  | zero=>simpa using h.1.1
  | succ q=>exact aD8 h.2 (q:=q) (by simpa using hq)
theorem aE9 {l : List Oper} {m : Nat} : ∀ {mods : List Nat},aC9 l m mods = true → ∀ q,q + 1 < mods.length → aJe l (mods.getD (q + 1) 0) (mods.getD q 0) = true
 | [],_,q,hq=>by simp at hq
 | [a],_,q,hq=>by simp at hq
 | a :: b :: r,h,q,hq=>by
  simp only [aC9,fL] at h;cases q with
  | zero=>simpa using h.1.2
  | succ q=>exact aE9 h.2 q (by simpa using hq)
theorem chainB_mono {l : List Oper} {m : Nat} {mods : List Nat} (h : aC9 l m mods = true) (hdc : ∀ (i : Nat) (o : Oper),l[i]? = some o → ∀ e ∈ o.after,Region.binds .any e = true → e.on < i) : ∀ {r q : Nat},r < q → q < mods.length → mods.getD r 0 < mods.getD q 0:=by
 have one : ∀ q,q + 1 < mods.length → mods.getD q 0 < mods.getD (q + 1) 0:=by
  intro q hq;have hb:=aE9 h q hq;unfold aJe at hb;split at hb
  ·rename_i o ho
   simp only [List.any_eq_true,fL] at hb;obtain ⟨ed,hed,h4,h5⟩:=hb;have:=hdc _ o ho ed (by simpa using hed) h4;rwa [fV h5] at this
  cases hb
 intro r q hrq hq
 induction q with
 | zero=>omega
 | succ q ih =>
  have h1:=one q hq;by_cases he : r = q
  ·subst he;exact h1
  have:=ih zO zO;omega
def stepsQ (Gd : Hp → Prop) (mods : List Nat) (FO : Nat → Value → Nat × SObj → Hp → Prop) (C : Ctx) (l : List Oper) (F : List (Value → Hp → Prop)) (env : gY) (df : List Deferred) (H : Hp) (own : Own) (m : Nat) : Nat → List Oper → Prop
 | _,[]=>True
 | k,o :: rest=>bif Nat.blt k m then
   (∀ X e H',Le H H' → Gd H' → mK l F H' (kH o) [] fun acc=>aWk l mods FO k acc e H' → XO C l.toArray (aCx Gd o.dst (jN F k) (foQ mods k FO e) (acc ++ (env ++ X)) df own) [o] ⟨acc ++ (env ++ X),df,H',e :: own⟩) ∧ stepsQ Gd mods FO C l F env df H own m (k + 1) rest
  else True
section
variable {C : Ctx} {Q : Exit → St → Prop} {env : gY} {df : List Deferred} {H : Hp} {own : Own}
end
end Go.XL

namespace Go.XL
section
variable {C : Ctx} {ops : Array Oper} {Q : Exit → St → Prop} {rest : List Oper} {env : gY} {df : List Deferred} {H : Hp} {own : Own} {dst : Option Tmp} {ty : TypeId} {pos : String} {af : Array Edge}
end
end Go.XL

namespace Go.XL
def stepQP (Pn : List PanicEntry → St → Prop) (Gd : Hp → Prop) (dst : Option Tmp) (f : Value → Hp → Prop) (fo : Value → Nat × SObj → Hp → Prop) (env : gY) (df : List Deferred) (own : Own) : Exit → St → Prop
 | .normal,σ=>Gd σ.H ∧ σ.df = df ∧ ∃ v e,σ.env = jI dst v env ∧ f v σ.H ∧ σ.own = e :: own ∧ fo v e σ.H
 | .panic ch,σ=>Pn ch σ
 | _,_=>False
def stepsP (Pn : List PanicEntry → St → Prop) (Gd : Hp → Prop) (mods : List Nat) (FO : Nat → Value → Nat × SObj → Hp → Prop) (C : Ctx) (l : List Oper) (F : List (Value → Hp → Prop)) (env : gY) (df : List Deferred) (H : Hp) (own : Own) (m : Nat) : Nat → List Oper → Prop
 | _,[]=>True
 | k,o :: rest=>bif Nat.blt k m then
   (∀ X e H',Le H H' → Gd H' → mK l F H' (kH o) [] fun acc=>aWk l mods FO k acc e H' → XO C l.toArray (stepQP Pn Gd o.dst (jN F k) (foQ mods k FO e) (acc ++ (env ++ X)) df own) [o] ⟨acc ++ (env ++ X),df,H',e :: own⟩) ∧ stepsP Pn Gd mods FO C l F env df H own m (k + 1) rest
  else True
section
variable {C : Ctx} {Q : Exit → St → Prop} {env : gY} {df : List Deferred} {H : Hp} {own : Own}
end
end Go.XL

namespace Go.XL
section
variable {C : Ctx} {ops : Array Oper} {Q : Exit → St → Prop} {rest : List Oper} {env : gY} {df : List Deferred} {H : Hp} {own : Own} {dst : Option Tmp} {ty : TypeId} {pos : String} {af : Array Edge}
theorem aHi {x : Operand} {f : FuncId} {cs : Array Value} {xs : List Operand} {ts : Array TypeId} {vs : List Value} {L rst : Own} (hr : C.r = none) (hh : C.hid = []) (hx : ev env x = some (.func (.func f) #[] cs)) (hxs : evs env xs = some vs) (ho : own = L ++ rst) (hd : dst = none)
  (h : ∀ ms rst',rst' = rst ++ List.map hid ms → XO C ops Q rest ⟨env,⟨.fn (.func f) cs,vs.toArray⟩ :: ms.map mark,H,L ++ rst'⟩) :
  XO C ops Q (⟨dst,.defer { callee:=.value x,args:=xs.toArray,argTypes:=ts },ty,pos,af,none⟩ :: rest) ⟨env,[],H,own⟩:=by
 intro a w hrel;refine wpListIn_plain rfl fun K hK=>⟨fun _ _=>trivial,?_⟩
 obtain ⟨ms,hdf,hok⟩:=hrel.ok;subst ho;subst hd
 have hrun : (Oper.semAt (Fr C.r).round a.eval ⟨none,.defer { callee:=.value x,args:=xs.toArray,argTypes:=ts },ty,pos,af,none⟩).run C.P w = .ok (.defer ⟨.fn (.func f) cs,vs.toArray⟩) w:=by
  rw [show (Fr C.r).round = none from hr,Oper.semAt_none];simp only [execOp,resolve,Sem.run_bind];have : xs.toArray.map a.eval = vs.toArray:=by simp [hrel.evals hxs]
  simp [this,hrel.eval hx,Deferred.ofValue,Sem.run,Pure.pure,Result.andThen]
 rw [hrun]
 have hrel2 : Rel C ⟨env,⟨.fn (.func f) cs,vs.toArray⟩ :: ms.map mark,H,L ++ (rst ++ ms.map hid)⟩ ({ a with defers:=⟨.fn (.func f) cs,vs.toArray⟩ :: a.defers }.put none undef) w:=by
  refine ⟨hrel.size,hrel.get,[],?_,?_⟩
  ·show ⟨.fn (.func f) cs,vs.toArray⟩ :: a.defers = _;rw [hdf];simp
  rw [hh] at hok ⊢;simpa using hok
 exact hK _ _ (h ms _ rfl _ w hrel2)
end
end Go.XL

namespace Go.XL
section
variable {C : Ctx} {ops : Array Oper} {Q : Exit → St → Prop} {rest : List Oper} {env : gY} {df : List Deferred} {H : Hp} {own : Own} {dst : Option Tmp} {ty : TypeId} {pos : String} {af : Array Edge}
end
end Go.XL

namespace Go.XL
def OpensN (N : Nat) (P : Program) (t : TypeId) {α : Type} (ρ : Rep α) (wf : α → Prop) : Prop:=∀ {H : Type} (enc : TypeId × Value → H) (w : World) (base : Nat) (spare : Nat → Bool) (held : Bool) (fuel : Nat) (cs : List Value) (x : DataW H × List MemPlace),
 fuel ≤ N → DataW.trod enc P w base spare held fuel t cs = some x → ∃ u,ρ.R (aTt w) cs u ∧ wf u
end Go.XL

namespace Go.XL
def maskA (m n : Nat) : Array Bool:=(List.replicate m true ++ List.replicate (n - m) false).toArray
def XAny (C : Ctx) (l : List Oper) (Q : Exit → St → Prop) (L : Array Bool) (σ : St) : Prop :=
 ∀ H0,Le H0 σ.H → ∀ fuel a w,unl l.length L ≤ fuel → Rel C σ a w → wpAnyIn (Fr C.r) 0 C.P .any l.toArray (nW C H0 Q) fuel L a w
def anyQ (C : Ctx) (l : List Oper) (Q : Exit → St → Prop) (L : Array Bool) : Exit → St → Prop
 | .normal,σ=>XAny C l Q L σ
 | e,σ=>Q e σ
section
variable {C : Ctx} {l : List Oper} {Q : Exit → St → Prop} {L : Array Bool} {σ : St}
end
def drawOkA (m : Nat) (l : List Oper) (keys : List Nat) : Bool :=
 Nat.ble m l.length && (List.range m).all (fun i=>match l[i]? with
  | some o=>wM o.op && (match o.dst with
   | some t=>!keys.contains t && (List.range m).all (fun j=>Nat.beq i j || !(gU l j == some t))
   | none=>true) && (o.after.toList.all fun e=>!Region.binds .any e || Nat.blt e.on i) && (kH o).all (fun j=>Nat.blt j m && o.after.toList.any fun e=>Region.binds .any e && Nat.beq e.on j)
  | none=>false) &&
 (List.range l.length).all (fun i=>Nat.blt i m || match l[i]? with
  | some o=>(List.range m).all (fun j=>sW l l.length o j) && (o.after.toList.all fun e=>!Region.binds .any e || Nat.blt e.on i)
  | none=>false)
section
variable {C : Ctx} {Q : Exit → St → Prop} {env : gY} {df : List Deferred} {H : Hp} {own : Own}
end
end Go.XL

set_option linter.unnecessarySimpa false
namespace Go.XL
def SeqF {α β : Type} (P : Program) (f : FuncId) (cap : List Value) (H : Hp) (ownI : Own) (enc : α → β → List Value) (lend : α → β → Hp → Own → Prop) (xs : List α) : Prop :=
 ∀ (g : Fn) (J : JS α) (K : Hp → Own → Prop) (ownY : Own),YOk P (.func g #[] #[]) H enc lend xs J K → J.Holds [] H ownY →
  iP P f ((.func g #[] #[] :: cap).toArray) H (ownI ++ ownY) (eQ fun v H' own'=>v = .tuple #[] ∧ ∃ ownI' ownY',own' = ownI' ++ ownY' ∧ (J.Holds xs H' ownY' ∨ K H' ownY'))
section
variable {C : Ctx} {Q : Exit → St → Prop} {env : gY} {df : List Deferred} {H : Hp} {own : Own}
end
end Go.XL

namespace Go.XL
abbrev ivs (l : List Int) : List Value:=l.map fun x=>Value.int .i64 x
def QuI (e : TypeId) (p : Nat × SObj) (a : Option Addr) (c : Nat) (l : List Int) : Prop :=
 (c = 0 ∧ l = [] ∧ ∃ b o,a = some ⟨b,o,none⟩) ∨ ∃ js : List Value,a = some ⟨p.1,js.length,none⟩ ∧ p.2 = .row e (js.length + c) (js ++ ivs l) ∧ l.length ≤ c
section
variable {C : Ctx} {ops : Array Oper} {Q : Exit → St → Prop} {rest : List Oper} {env : gY} {df : List Deferred} {H : Hp} {own : Own} {dst : Option Tmp} {ty : TypeId} {pos : String} {af : Array Edge}
end
section
variable {C : Ctx} {ops : Array Oper} {Q : Exit → St → Prop} {rest : List Oper} {env : gY} {df : List Deferred} {H : Hp} {own : Own}
variable {dst : Option Tmp} {ty : TypeId} {pos : String} {af : Array Edge}
end
end Go.XL

namespace Go.XL
def cmpB : List UInt8 → List UInt8 → Int
 | [],[]=>0
 | [],_ :: _=>-1
 | _ :: _,[]=>1
 | a :: x,b :: y=>if a < b then -1 else if b < a then 1 else cmpB x y
section
variable {C : Ctx} {ops : Array Oper} {Q : Exit → St → Prop} {rest : List Oper} {env : gY} {df : List Deferred} {H : Hp} {own : Own} {dst : Option Tmp} {ty : TypeId} {pos : String} {af : Array Edge}
end
section
variable {C : Ctx} {ops : Array Oper} {Q : Exit → St → Prop} {rest : List Oper} {env : gY} {df : List Deferred} {H : Hp} {own : Own} {dst : Option Tmp} {ty : TypeId} {pos : String} {af : Array Edge}
end
end Go.XL

namespace Go.XL
section
variable {C : Ctx} {ops : Array Oper} {Q : Exit → St → Prop} {rest : List Oper} {env : gY} {df : List Deferred} {H : Hp} {own : Own} {dst : Option Tmp} {ty : TypeId} {pos : String} {af : Array Edge}
theorem aA9 {x : Operand} {t : TypeId} {v : Value} {ms : Array (String × TypeId)} {b : Bool} (hx : ev env x = some v) (hv : (v = .nilIface ∧ b = true) ∨ (∃ t2 u,v = .iface t2 u ∧ b = false)) (ht : C.P.underlying t = some (.interface ms)) (hd : iU C.N dst = true) (h : XO C ops Q rest ⟨jI dst (.bool b) env,df,H,own⟩) {yt : TypeId} :
  XO C ops Q (⟨dst,.binOp .eql t x (.const .nilIface) yt,ty,pos,af,none⟩ :: rest) ⟨env,df,H,own⟩:=by
 refine kF rfl rfl hd (fun ρ ha w=>?_) h;have hy : ρ (.const .nilIface) = .nilIface:=ha (.const .nilIface) _ rfl
 have hgd : ∀ w,(eqGuard .eql t x (.const .nilIface) v .nilIface).run C.P w = .ok () w:=by
  intro w;rcases hv with ⟨rfl,rfl⟩ | ⟨t2,u,rfl,rfl⟩
  ·cases x <;> rfl
  rfl
 have hbin : (binOp .eql t v .nilIface).run C.P w = .ok (.bool b) w:=by
  have e1 : binOp .eql t v .nilIface = (do Pure.pure (Value.bool (← Op.equal t v .nilIface)) : Sem Value):=by
   rcases hv with ⟨rfl,rfl⟩ | ⟨t2,u,rfl,rfl⟩ <;> rfl
  have hv2 : (v = .nilIface ∧ (!b) = false) ∨ (∃ t2 u,v = .iface t2 u ∧ (!b) = true):=by
   rcases hv with ⟨h1,rfl⟩ | ⟨t2,u,h1,rfl⟩
   ·exact .inl ⟨h1,rfl⟩
   exact .inr ⟨t2,u,h1,rfl⟩
  rw [e1,Sem.run_bind,aJx hv2 ht];cases b <;> rfl
 simp only [execOp,ha _ _ hx,hy,Sem.run_bind,hgd];simp only [Result.andThen,hbin];rfl
theorem XO.callVH {x : Operand} {xs : List Operand} {ts : Array TypeId} {v : Value} {vs : List Value} {R : Value → Hp → Own → Prop} (hx : ev env x = some v) (hnf : match x with | .func _=>False | _=>True)
  (hxs : evs env xs = some vs) (hf : wH C.P v vs H [] (eQ R)) (hd : iU C.N dst = true)
  (h : ∀ u H' o,Le H H' → R u H' o → XO C ops Q rest ⟨jI dst u env,df,H',own⟩) :
  XO C ops Q (⟨dst,.call { callee:=.value x,args:=xs.toArray,argTypes:=ts },ty,pos,af,none⟩ :: rest) ⟨env,df,H,own⟩ :=
 aCv (l:=[]) (nQ:=[]) (rst:=own) hx hnf hxs hf hd rfl (fun u H' own' hle hR=>⟨H',own,hle,Le.refl _,by simp,h u H' own' hle hR⟩) (fun _ _ _ _ hR=>hR.elim)
end
end Go.XL

namespace Go.XL
section
variable {C : Ctx} {ops : Array Oper} {Q : Exit → St → Prop} {rest : List Oper} {env : gY} {df : List Deferred} {H : Hp} {own : Own} {dst : Option Tmp} {ty : TypeId} {pos : String} {af : Array Edge}
end
end Go.XL

namespace Go.XL
abbrev wds (k : IntKind) (l : List Int) : List Value:=l.map (Value.int k)
abbrev wdAt (l : List Int) (i : Nat) : Int:=l.getD i 0
def itN {α : Type} (f : Nat → α → α) : Nat → α → α
 | 0,x=>x
 | n + 1,x=>f n (itN f n x)
section
variable {C : Ctx} {ops : Array Oper} {Q : Exit → St → Prop} {rest : List Oper} {env : gY} {df : List Deferred} {H : Hp} {own : Own} {dst : Option Tmp} {ty : TypeId} {pos : String} {af : Array Edge}
theorem aHu {t e : TypeId} {x : Operand} {lo hi mx : Option Operand} {a : Option Addr} {c n sz : Nat} {agg : Bool} {lo' hi' m' : Int} (hx : ev env x = some (.slice a n c))
  (hl : ev? env lo 0 lo') (hh : ev? env hi n hi') (hm : ev? env mx c m') (hnm : mx.isSome = true → hi.isSome = true) (h0 : 0 ≤ lo') (h1 : lo' ≤ hi') (h3 : hi' ≤ m') (h4 : m' ≤ c)
  (ht : C.P.underlying t = some (.slice e)) (he : tP C.P e sz agg = true) (hd : iU C.N dst = true)
  (h : XO C ops Q rest ⟨jI dst (.slice (if m'.toNat = lo'.toNat then a else a.map (·.add (lo'.toNat * sz))) (hi'.toNat - lo'.toNat) (m'.toNat - lo'.toNat)) env,df,H,own⟩) :
  XO C ops Q (⟨dst,.slice t x lo hi mx,ty,pos,af,none⟩ :: rest) ⟨env,df,H,own⟩:=by
 refine kF rfl rfl hd (fun ρ' ha w=>?_) h
 have hb : (Instr.sliceBounds true n c (lo.map ρ') (hi.map ρ') (mx.map ρ')).run C.P w = .ok (lo'.toNat,hi'.toNat,m'.toNat) w:=by
  have bd : ∀ (x : Operand) (n : Int) (y : Nat) (code : BoundsCode) (w : World),(∃ k,ev env x = some (.int k n)) → 0 ≤ n → n ≤ y → (Instr.sliceBound (ρ' x) y code).run C.P w = .ok n.toNat w:=by
   rintro x n y code w ⟨k,hk⟩ g0 g1;rw [ha _ _ hk];exact aHm g0 g1
  unfold Instr.sliceBounds;cases mx with
  | none =>
   have e : m' = c:=hm;subst e;cases hi with
   | none =>
    have e : hi' = n:=hh;subst e;cases lo with
    | none=>have e : lo' = 0:=hl;subst e;simp [Sem.run,Pure.pure,Sem.run_bind,Result.andThen,bind,Sem.bind]
    | some z=>simp only [Option.map_none,Option.map_some,Sem.run_bind];simp only [Pure.pure,Sem.run,Result.andThen,Sem.run_bind,bd z lo' _ _ _ hl h0 h1,eN]
   | some y =>
    have b1:=fun code w=>bd y hi' c code w hh zO zO;cases lo with
    | none =>
     have e : lo' = 0:=hl;subst e;simp only [Option.map_none,Option.map_some,Sem.run_bind];simp only [Pure.pure,Sem.run,Result.andThen,Sem.run_bind,if_true,b1,eN,Int.toNat_zero]
    | some z =>
     have b2:=fun code w=>bd z lo' hi'.toNat code w hl h0 zO;simp only [Option.map_none,Option.map_some,Sem.run_bind];simp only [Pure.pure,Sem.run,Result.andThen,Sem.run_bind,if_true,b1,b2,eN]
  | some q =>
   have b0:=fun code w=>bd q m' c code w hm zO h4;cases hi with
   | none=>exact absurd (hnm rfl) zP
   | some y =>
    have b1:=fun code w=>bd y hi' m'.toNat code w hh zO zO;cases lo with
    | none =>
     have e : lo' = 0:=hl;subst e;simp only [Option.map_none,Option.map_some,Sem.run_bind];simp only [Pure.pure,Sem.run,Result.andThen,Sem.run_bind,if_true,b0,b1,Int.toNat_zero]
    | some z =>
     have b2:=fun code w=>bd z lo' hi'.toNat code w hl h0 zO;simp only [Option.map_none,Option.map_some,Sem.run_bind];simp only [Pure.pure,Sem.run,Result.andThen,Sem.run_bind,if_true,b0,b1,b2]
 have hr : (Instr.sliceAt t (.slice a n c) (lo.map ρ') (hi.map ρ') (mx.map ρ')).run C.P w = .ok (.slice (if m'.toNat = lo'.toNat then a else a.map (·.add (lo'.toNat * sz))) (hi'.toNat - lo'.toNat) (m'.toNat - lo'.toNat)) w:=by
  unfold Instr.sliceAt;rw [Sem.run_bind,jC ht];simp only [Result.andThen,Instr.slice];rw [Sem.run_bind,jC ht];simp only [Result.andThen,Sem.run_bind,hb,mJ he];rfl
 simp only [execOp,ha _ _ hx,Sem.run_bind,hr,Result.andThen];rfl
theorem aD3 {t e : TypeId} {x : Operand} {a : Option Addr} {n c : Nat} (hx : ev env x = some (.slice a n c)) (ht : C.P.underlying t = some (.slice e)) (hc : c < 9223372036854775808) (hd : iU C.N dst = true)
  (h : XO C ops Q rest ⟨jI dst (.int .i64 (c : Nat)) env,df,H,own⟩) : XO C ops Q (⟨dst,.call { callee:=.builtin .cap,args:=#[x],argTypes:=#[t] },ty,pos,af,none⟩ :: rest) ⟨env,df,H,own⟩ :=
 kF rfl rfl hd (fun ρ ha w=>by
  have h1 : (Builtin.cap_ #[t] ty #[.slice a n c]).run C.P w = .ok (goInt c) w:=by
   simp [Builtin.cap_,jC ht]
  simp only [execOp,resolve,Sem.run_bind];simp only [Pure.pure,Sem.run,Result.andThen,invoke,builtin,Sem.run_bind];simp only [List.map_toArray,List.map_cons,List.map_nil,ha _ _ hx];rw [show (#[Value.slice a n c] : Array Value) = [Value.slice a n c].toArray from rfl] at h1;rw [h1];simp only [goInt]
  ) h
theorem XO.copyO (i : Nat) {t t2 e : TypeId} {x y : Operand} {b o n c n2 c2 : Nat} {a2 : Option Addr} {T : TypeId} {cs vs cs' : List Value} {own' : Own} (hx : ev env x = some (.slice (some ⟨b,o,none⟩) n c)) (hy : ev env y = some (.slice a2 n2 c2))
  (ho : Own.at own i = some (b,.cells T cs)) (ht : C.P.underlying t = some (.slice e)) (he : tP C.P e 1 false = true) (wD : vs.length = min n2 n)
  (hsrc : 0 < vs.length → ∃ a,a2 = some a ∧ ∀ w fr,Ok C.G H (own ++ fr) w → ∀ j v,vs[j]? = some v → w.cell? (a.add j) = some v) (hfit : o + vs.length ≤ cs.length) (h1 : ∀ v ∈ vs,v.oneCell' = true)
  (hcs : cs.take o ++ vs ++ cs.drop (o + vs.length) = cs') (hp : Own.put own i (.cells T cs') = some own') (hd : iU C.N dst = true)
  (h : XO C ops Q rest ⟨jI dst (.int .i64 (vs.length : Nat)) env,df,H,own'⟩) :
  XO C ops Q (⟨dst,.call { callee:=.builtin .copy,args:=#[x,y],argTypes:=#[t,t2] },ty,pos,af,none⟩ :: rest) ⟨env,df,H,own⟩:=by
 refine vO rfl rfl hd fun ρ w fr ha hok=>?_;have hb:=aGg hok (jF fr (Own.at_mem ho));obtain ⟨_,inf,hi,hsz⟩:=wB he;have hs1 : (C.P.info? e).map (·.size) = some 1:=by simp [hi,hsz]
 have hlen' : vs.length = Nat.min n2 n:=wD
 have hrun : (Builtin.copy_ #[t,t2] ty #[.slice (some ⟨b,o,none⟩) n c,.slice a2 n2 c2]).run C.P w = .ok (goInt vs.length) (w.setRow b cs'.toArray):=by
  by_cases h0 : 0 < vs.length
  ·obtain ⟨a,rfl,hc⟩:=hsrc h0;have:=run_copy_row (P:=C.P) w t t2 ty e b o n c a n2 c2 cs.toArray T vs ht hs1 hb hlen' (fun j v hj=>hc w fr hok j v hj) (by simpa using hfit) h1;rw [this,← hcs]
  have hv0 : vs = []:=by cases vs with | nil=>rfl | cons x xs=>simp at h0
  subst hv0;have e1 : cs' = cs:=by rw [← hcs];simp
  have e2 : w.setRow b cs'.toArray = w:=by
   rw [e1];have hlt:=yN hb
   have hg : w.heap[b] = .cells cs.toArray T (0,0):=by
    have:=hb;rw [gG hlt] at this;exact eE this
   cases w with
   | mk heap rest2 =>
    simp only [World.setRow]
    congr 1
    apply Array.ext
    ·simp
    intro j h1 h2;by_cases hj : b = j
    ·subst hj;simp [Array.getElem_modify];simp at hg;rw [hg]
    simp [Array.getElem_modify,hj]
  rw [e2];have:=run_copy_none (P:=C.P) w t t2 ty e (some ⟨b,o,none⟩) a2 n c n2 c2 ht hs1 (by rw [← hlen'];rfl);simpa using this
 refine ⟨.value (goInt vs.length),_,w.setRow b cs'.toArray,H,own',?_,.inl rfl,Le.refl _,?_,?_⟩
 ·simp only [execOp,resolve,Sem.run_bind];simp only [Pure.pure,Sem.run,Result.andThen,invoke,builtin,Sem.run_bind];simp only [List.map_toArray,List.map_cons,List.map_nil,ha _ _ hx,ha _ _ hy];rw [show (#[Value.slice (some ⟨b,o,none⟩) n c,Value.slice a2 n2 c2] : Array Value) = [Value.slice (some ⟨b,o,none⟩) n c,Value.slice a2 n2 c2].toArray from rfl] at hrun;rw [hrun]
 ·obtain ⟨pre,post,rfl,rfl⟩:=Own.at_split ho;rw [Own.put_split] at hp;cases hp;simp only [eM,fP] at hok ⊢;refine hok.write (s':=.cells T cs') (o':=.cells cs'.toArray T (0,0)) rfl rfl rfl rfl rfl ?_ ?_
  ·exact setRow_heap w b _ _ T _ hb
  intro k hk;simp [World.setRow,Array.getElem?_modify,Ne.symm hk]
 exact h
abbrev c8s (l : List UInt8) : List Value:=l.map fun b=>Value.int .u8 (b.toNat : Nat)
end
end Go.XL

set_option maxRecDepth 100000
namespace Go.Proofs
open Go.XL
def gZ : List Int → Int
 | []=>0
 | d :: r=>d + 1073741824 * gZ r
def tX (l : List Int) : Prop:=∀ x ∈ l,0 ≤ x ∧ x < 1073741824
theorem okD_nil : tX []:=fun _ h=>by cases h
theorem xT {d : Int} {l : List Int} : tX (d :: l) ↔ (0 ≤ d ∧ d < 1073741824) ∧ tX l:=by simp [tX]
theorem okD_app {a b : List Int} : tX (a ++ b) ↔ tX a ∧ tX b:=by
 simp only [tX,gM];exact ⟨fun h=>⟨fun x hx=>h x (.inl hx),fun x hx=>h x (.inr hx)⟩,fun h x hx=>hx.elim (h.1 x) (h.2 x)⟩
theorem lI : ∀ {l : List Int},tX l → 0 ≤ gZ l
 | [],_=>by simp [gZ]
 | d :: l,h=>by
  have:=lI (xT.1 h).2;have:=(xT.1 h).1;simp only [gZ];omega
theorem yY (n : Nat) : (0 : Int) < 1073741824 ^ n:=Int.pow_pos zD
theorem uR : ∀ {l : List Int},tX l → gZ l < 1073741824 ^ l.length
 | [],_=>by simp [gZ]
 | d :: l,h=>by
  have h1:=uR (xT.1 h).2;have h2:=(xT.1 h).1;simp only [gZ,jL,Int.pow_succ];omega
theorem xS : ∀ (a b : List Int),gZ (a ++ b) = gZ a + 1073741824 ^ a.length * gZ b
 | [],b=>by simp [gZ]
 | d :: a,b=>by
  simp only [fP,gZ,xS a b,jL,Int.pow_succ,Int.mul_add];rw [Int.mul_comm (1073741824 ^ a.length) 1073741824,Int.mul_assoc];omega
theorem aHx : ∀ n,gZ (List.replicate n 0) = 0
 | 0=>rfl
 | n + 1=>by rw [List.replicate_succ,gZ,aHx n];rfl
theorem pD (l : List Int) (i : Nat) : gZ l = gZ (l.take i) + 1073741824 ^ min i l.length * gZ (l.drop i):=by
 conv=>lhs;rw [← nO i l,xS,List.length_take]
theorem rW {l : List Int} {i : Nat} {x : Int} (h : l[i]? = some x) : gZ (l.drop i) = x + 1073741824 * gZ (l.drop (i + 1)):=by
 obtain ⟨hi,rfl⟩:=bY.1 h;rw [List.drop_eq_getElem_cons hi,gZ]
theorem xM : ∀ {l : List Int} {i : Nat} {x v : Int},l[i]? = some x → gZ (l.set i v) = gZ l + (v - x) * 1073741824 ^ i
 | [],i,x,v,h=>by simp at h
 | d :: l,0,x,v,h=>by simp at h;subst h;simp [gZ];omega
 | d :: l,i + 1,x,v,h=>by
  simp only [List.getElem?_cons_succ] at h;simp only [List.set_cons_succ,gZ,xM h,Int.mul_add,Int.pow_succ];rw [Int.mul_comm (1073741824 ^ i) 1073741824,Int.mul_left_comm];omega
theorem aEn {l : List Int} {i : Nat} {v : Int} (h : tX l) (hv : 0 ≤ v ∧ v < 1073741824) : tX (l.set i v):=fun x hx=>by
 rcases List.mem_or_eq_of_mem_set hx with h1 | rfl
 ·exact h x h1
 exact hv
theorem mR {l : List Int} {i : Nat} {x : Int} (h : tX l) (hx : l[i]? = some x) : 0 ≤ x ∧ x < 1073741824:=h x (cF hx)
theorem qW {l : List Int} (n : Nat) (h : tX l) : tX (l.take n):=fun x hx=>h x (List.mem_of_mem_take hx)
theorem wQ {l : List Int} (n : Nat) (h : tX l) : tX (l.drop n):=fun x hx=>h x (List.mem_of_mem_drop hx)
theorem aGw (n : Nat) : tX (List.replicate n 0):=fun x hx=>by rw [(List.mem_replicate.1 hx).2];decide
def dg (n : Nat) : List Int:=if h : n = 0 then [] else ((n % 1073741824 : Nat) : Int) :: dg (n / 1073741824)
termination_by n
decreasing_by omega
theorem dg0 : dg 0 = []:=by rw [dg];rfl
theorem aDb {n : Nat} (h : n ≠ 0) : dg n = ((n % 1073741824 : Nat) : Int) :: dg (n / 1073741824):=by rw [dg,dif_neg h]
theorem mH (n : Nat) : tX (dg n):=by
 induction n using Nat.strongRecOn with
 | _ n ih =>
  rcases Nat.eq_zero_or_pos n with rfl | h
  ·rw [dg0];exact okD_nil
  rw [aDb zO,xT];exact ⟨zO,ih _ zO⟩
theorem nN (n : Nat) : gZ (dg n) = n:=by
 induction n using Nat.strongRecOn with
 | _ n ih =>
  rcases Nat.eq_zero_or_pos n with rfl | h
  ·rw [dg0];rfl
  rw [aDb zO,gZ,ih _ zO];omega
theorem aUa {n : Nat} : dg n = [] ↔ n = 0:=by
 constructor
 ·intro h;have:=nN n;rw [h] at this;simp [gZ] at this;omega
 rintro rfl;exact dg0
theorem pG {n : Nat} : (dg n).length = 0 ↔ n = 0:=by rw [List.length_eq_zero_iff,aUa]
theorem lG {n k : Nat} : (dg n).length ≤ k ↔ n < 1073741824 ^ k:=by
 induction k generalizing n with
 | zero =>
  rw [Nat.le_zero,pG];simp
 | succ k ih =>
  rcases Nat.eq_zero_or_pos n with rfl | h
  ·rw [dg0];exact ⟨fun _=>Nat.pow_pos zD,fun _=>by simp⟩
  rw [aDb zO,jL,Nat.succ_le_succ_iff,ih,Nat.pow_succ];exact ⟨fun h=>by have:=Nat.div_add_mod n 1073741824;omega,fun h=>Nat.div_lt_of_lt_mul (by rw [Nat.mul_comm];exact h)⟩
theorem lP {m n : Nat} (h : m ≤ n) : (dg m).length ≤ (dg n).length:=lG.2 (jS h (lG.1 (gT _)))
theorem aEy (n : Nat) : n < 1073741824 ^ (dg n).length:=lG.1 (gT _)
theorem dg_ge {n : Nat} (h : n ≠ 0) : 1073741824 ^ ((dg n).length - 1) ≤ n:=by
 have h1 : (dg n).length ≠ 0:=fun h2=>h (pG.1 h2);have:=(not_congr (lG (n:=n) (k:=(dg n).length - 1))).1 zO;omega
theorem aO7 {n : Nat} {x : Int} (h : (dg n)[(dg n).length - 1]? = some x) : x ≠ 0:=by
 induction n using Nat.strongRecOn with
 | _ n ih =>
  rcases Nat.eq_zero_or_pos n with rfl | h0
  ·rw [dg0] at h;simp at h
  rw [aDb zO,jL,Nat.add_sub_cancel] at h;rcases Nat.eq_zero_or_pos (n / 1073741824) with h1 | h1
  ·rw [h1,dg0] at h;simp at h;omega
  have h2 : (dg (n / 1073741824)).length ≠ 0:=fun h3=>by have:=pG.1 h3;omega
  obtain ⟨k,hk⟩ : ∃ k,(dg (n / 1073741824)).length = k + 1:=⟨_,(Nat.succ_pred h2).symm⟩
  rw [hk,List.getElem?_cons_succ] at h;exact ih (n / 1073741824) zO (by rw [hk];exact h)
theorem aUu : ∀ {l : List Int},tX l → (∀ x,l[l.length - 1]? = some x → x ≠ 0) → l = dg (gZ l).toNat
 | [],_,_=>by simp [gZ,dg0]
 | d :: l,h,hl=>by
  have h1:=(xT.1 h).1;have h2:=(xT.1 h).2;have hv:=lI h2
  have ih : l = dg (gZ l).toNat:=aUu h2 fun x hx=>by
   cases l with
   | nil=>simp at hx
   | cons e r=>exact hl x (by simpa using hx)
  have hne : d + 1073741824 * gZ l ≠ 0:=by
   intro h0;have h3 : d = 0:=zO
   have h4 : gZ l = 0:=zO
   rw [h4] at ih;rw [show (0 : Int).toNat = 0 from rfl,dg0] at ih;subst ih;exact hl d zP h3
  rw [gZ,aDb zO];have e1 : (((d + 1073741824 * gZ l).toNat % 1073741824 : Nat) : Int) = d:=zO
  have e2 : (d + 1073741824 * gZ l).toNat / 1073741824 = (gZ l).toNat:=zO
  rw [e1,e2,← ih]
theorem aSz {l : List Int} {n : Nat} (h : tX l) (hn : n ≤ l.length) (hz : ∀ j x,n ≤ j → l[j]? = some x → x = 0) (hl : n = 0 ∨ ∃ x,l[n - 1]? = some x ∧ x ≠ 0) : l.take n = dg (gZ l).toNat:=by
 have e : gZ l = gZ (l.take n):=by
  have h1 : l.drop n = List.replicate (l.length - n) 0:=by
   apply iC;intro i;rw [List.getElem?_drop];rcases gJ (n + i) l.length with h2 | h2
   ·rw [aJ h2,List.getElem?_replicate,eX zO];rw [hz (n + i) _ zO (aJ h2)]
   rw [dJ h2,List.getElem?_replicate,dG zO]
  conv=>lhs;rw [← nO n l,xS,h1,aHx,Int.mul_zero,Int.add_zero]
 rw [e];refine aUu (qW n h) fun x hx=>?_;rw [List.length_take,Nat.min_eq_left hn] at hx;rcases hl with rfl | ⟨y,hy,hy0⟩
 ·simp at hx
 rcases Nat.eq_zero_or_pos n with rfl | h0
 ·simp at hx
 rw [List.getElem?_take_of_lt zO,hy] at hx;simp at hx;subst hx;exact hy0
/-! bits -/
theorem aEd (a : Int) : IntKind.i64.wrap ((BitVec.ofInt IntKind.i64.bits a &&& BitVec.ofInt IntKind.i64.bits 1073741823).toNat : Nat) = a % 1073741824:=by
 have h1 : (BitVec.ofInt IntKind.i64.bits a &&& BitVec.ofInt IntKind.i64.bits 1073741823).toNat = (a % 2 ^ 64).toNat % 2 ^ 30:=by
  rw [BitVec.toNat_and,BitVec.toNat_ofInt,BitVec.toNat_ofInt];rw [show (((1073741823 : Int) % ((2 ^ IntKind.i64.bits : Nat) : Int)).toNat) = 2 ^ 30 - 1 from zD,Nat.and_two_pow_sub_one_eq_mod];rfl
 rw [h1];have h2 : (((a % 2 ^ 64).toNat % 2 ^ 30 : Nat) : Int) = a % 1073741824:=zO
 rw [h2];exact dT zO zO
theorem aI6 (a : Int) : a.fdiv (2 ^ min (30 : Int).toNat IntKind.i64.bits) = a / 1073741824:=by
 rw [show (2 ^ min (30 : Int).toNat IntKind.i64.bits : Int) = 1073741824 from zD,Int.fdiv_eq_ediv_of_nonneg _ zD]
theorem aN1 {x y : Int} (hx : 0 ≤ x ∧ x < 8589934592) (hy : 0 ≤ y ∧ y < 1073741824) : IntKind.i64.wrap ((BitVec.ofInt IntKind.i64.bits (x * 1073741824) ||| BitVec.ofInt IntKind.i64.bits y).toNat : Nat) = x * 1073741824 + y:=by
 have h1 : (BitVec.ofInt IntKind.i64.bits (x * 1073741824) ||| BitVec.ofInt IntKind.i64.bits y).toNat = 2 ^ 30 * x.toNat + y.toNat:=by
  rw [BitVec.toNat_or,BitVec.toNat_ofInt,BitVec.toNat_ofInt]
  have e1 : ((x * 1073741824) % ((2 ^ IntKind.i64.bits : Nat) : Int)).toNat = 2 ^ 30 * x.toNat:=by
   rw [show ((2 ^ IntKind.i64.bits : Nat) : Int) = 18446744073709551616 from by decide];omega
  have e2 : (y % ((2 ^ IntKind.i64.bits : Nat) : Int)).toNat = y.toNat:=by
   rw [show ((2 ^ IntKind.i64.bits : Nat) : Int) = 18446744073709551616 from by decide];omega
  rw [e1,e2,Nat.two_pow_add_eq_or_of_lt zO]
 rw [h1];have h2 : ((2 ^ 30 * x.toNat + y.toNat : Nat) : Int) = x * 1073741824 + y:=zO
 rw [h2];exact dT zO zO
/-! sums carried on -/
def cI (f : Nat → Int) : Nat → Int
 | 0=>0
 | i + 1=>(f i + cI f i) / 1073741824
def dI (f : Nat → Int) (i : Nat) : Int:=(f i + cI f i) % 1073741824
def dsI (f : Nat → Int) (n : Nat) : List Int:=(List.range n).map (dI f)
def sI (f : Nat → Int) : Nat → Int
 | 0=>0
 | i + 1=>sI f i + f i * 1073741824 ^ i
theorem aB1 (f : Nat → Int) (n : Nat) : (dsI f n).length = n:=by simp [dsI]
theorem aQi (f : Nat → Int) (n : Nat) : dsI f (n + 1) = dsI f n ++ [dI f n]:=by simp [dsI,List.range_succ]
theorem aOb (f : Nat → Int) (n : Nat) : tX (dsI f n):=fun x hx=>by
 obtain ⟨i,_,rfl⟩:=gS.1 hx;unfold dI;omega
theorem aTn (f : Nat → Int) : ∀ n,gZ (dsI f n) + cI f n * 1073741824 ^ n = sI f n
 | 0=>by simp [dsI,gZ,cI,sI]
 | n + 1=>by
  rw [aQi,xS,aB1,sI,← aTn f n];simp only [gZ,cI,dI,Int.mul_zero,Int.add_zero,Int.pow_succ];have h:=Int.emod_add_mul_ediv (f n + cI f n) 1073741824;generalize (f n + cI f n) % 1073741824 = r at h ⊢;generalize (f n + cI f n) / 1073741824 = q at h ⊢;generalize (1073741824 : Int) ^ n = P;have h3 : f n = r + 1073741824 * q - cI f n:=zO
  rw [h3];grind
theorem aHn {f : Nat → Int} {n : Nat} (h : 0 ≤ sI f n ∧ sI f n < 1073741824 ^ n) : gZ (dsI f n) = sI f n:=by
 have h1:=aTn f n;have h2:=lI (aOb f n);have h3:=uR (aOb f n);rw [aB1] at h3;have hp:=yY n
 have : cI f n = 0:=by
  rcases Int.lt_trichotomy (cI f n) 0 with h4 | h4 | h4
  ·have:=Int.mul_le_mul_of_nonneg_right (show cI f n ≤ -1 by omega) (Int.le_of_lt hp);omega
  ·exact h4
  have:=Int.mul_le_mul_of_nonneg_right (show 1 ≤ cI f n by omega) (Int.le_of_lt hp);omega
 rw [this] at h1;omega
def atD (l : List Int) (i : Nat) : Int:=l.getD i 0
theorem aOv {l : List Int} {i : Nat} {x : Int} (h : l[i]? = some x) : atD l i = x:=by simp [atD,dB,h]
theorem aLg {l : List Int} {i : Nat} (h : l.length ≤ i) : atD l i = 0:=by simp [atD,dB,dJ h]
theorem aAd {l : List Int} (h : tX l) (i : Nat) : 0 ≤ atD l i ∧ atD l i < 1073741824:=by
 rcases gJ i l.length with h1 | h1
 ·rw [aOv (aJ h1)];exact mR h (aJ h1)
 rw [aLg h1];decide
theorem aT6 (f g : Nat → Int) : ∀ n,sI (fun i=>f i + g i) n = sI f n + sI g n
 | 0=>rfl
 | n + 1=>by simp only [sI,aT6 f g n,Int.add_mul];omega
theorem aU2 (f g : Nat → Int) : ∀ n,sI (fun i=>f i - g i) n = sI f n - sI g n
 | 0=>rfl
 | n + 1=>by simp only [sI,aU2 f g n,Int.sub_mul];omega
theorem aU1 (f : Nat → Int) (c : Int) : ∀ n,sI (fun i=>f i * c) n = sI f n * c
 | 0=>by simp [sI]
 | n + 1=>by simp only [sI,aU1 f c n];grind
theorem aWo (l : List Int) : ∀ n,sI (atD l) n = gZ (l.take n)
 | 0=>rfl
 | n + 1=>by
  rw [sI,aWo l n];rcases gJ n l.length with h | h
  ·rw [List.take_add_one,aJ h,xS,List.length_take,Nat.min_eq_left zO,aOv (aJ h)];simp [gZ];grind
  rw [aLg h,fJ h,fJ zO];simp
theorem aK0 {l : List Int} {n : Nat} (h : l.length ≤ n) : sI (atD l) n = gZ l:=by rw [aWo,fJ h]
end Go.Proofs

namespace Go.Proofs
open Go.XL
theorem aIe {x y : Int} (hx : 0 ≤ x ∧ x < 1073741824) (hy : 0 ≤ y ∧ y < 1073741824) : 0 ≤ x * y ∧ x * y ≤ 1152921502459363329:=by
 refine ⟨Int.mul_nonneg hx.1 hy.1,?_⟩;have h1:=Int.mul_le_mul_of_nonneg_left (show y ≤ 1073741823 by omega) hx.1;omega
/-! a row of a product -/
structure MulI (m0 b : List Int) (x : Int) (i k : Nat) (m : List Int) (o : Int) : Prop where
 len : m.length = m0.length
 ok : tX m
 oo : 0 ≤ o ∧ o < 1073741824
 val : gZ m + o * 1073741824 ^ (i + k) = gZ m0 + x * 1073741824 ^ i * gZ (b.take k)
 far : ∀ j,i + b.length ≤ j → m[j]? = m0[j]?
theorem rJ {b : List Int} {k : Nat} {y : Int} (h : b[k]? = some y) : gZ (b.take (k + 1)) = gZ (b.take k) + y * 1073741824 ^ k:=by
 have hk:=(bY.1 h).1;rw [List.take_add_one,h,xS,List.length_take,Nat.min_eq_left zO];simp [gZ];grind
theorem MulI.step {m0 b m : List Int} {x y z o : Int} {i k : Nat} (h : MulI m0 b x i k m o) (hx : 0 ≤ x ∧ x < 1073741824) (hb : tX b) (hy : b[k]? = some y) (hz : m[i + k]? = some z) :
  MulI m0 b x i (k + 1) (m.set (i + k) ((z + x * y + o) % 1073741824)) ((z + x * y + o) / 1073741824):=by
 have hk:=(bY.1 hy).1;have h1:=aIe hx (mR hb hy);have h2:=mR h.ok hz;have h3:=h.oo;refine ⟨by rw [gQ,h.len],aEn h.ok zO,zO,?_,fun j hj=>by rw [List.getElem?_set_ne zO];exact h.far j hj⟩;rw [xM hz,rJ hy];have h4:=h.val;have h5:=Int.emod_add_mul_ediv (z + x * y + o) 1073741824;rw [show i + (k + 1) = (i + k) + 1 by omega,Int.pow_succ];generalize (z + x * y + o) % 1073741824 = r at h5 ⊢;generalize (z + x * y + o) / 1073741824 = q at h5 ⊢;rw [Int.pow_add] at h4 ⊢;generalize (1073741824 : Int) ^ i = P at h4 ⊢;generalize (1073741824 : Int) ^ k = Q at h4 ⊢;have h6 : r = z + x * y + o - 1073741824 * q:=zO
 rw [h6];grind
structure MulO (a b : List Int) (i : Nat) (m : List Int) : Prop where
 len : m.length = a.length + b.length
 ok : tX m
 val : gZ m = gZ (a.take i) * gZ b
 far : ∀ j x,i + b.length ≤ j → m[j]? = some x → x = 0
theorem MulO.zero (a b : List Int) : MulO a b 0 (List.replicate (a.length + b.length) 0) :=
 ⟨by simp,aGw _,by simp [aHx,gZ],fun j x _ h=>by rw [List.getElem?_replicate] at h;split at h <;> simp_all⟩
theorem MulO.row {a b m : List Int} {i : Nat} (h : MulO a b i m) (x : Int) : MulI m b x i 0 m 0 :=
 ⟨rfl,h.ok,zD,by simp [gZ],fun _ _=>rfl⟩
theorem MulO.next {a b m m' : List Int} {i : Nat} {x o : Int} (h : MulO a b i m) (hx : a[i]? = some x) (h' : MulI m b x i b.length m' o) : MulO a b (i + 1) (m'.set (i + b.length) o):=by
 have hi:=(bY.1 hx).1;have hl:=h.len;obtain ⟨z,hz⟩ : ∃ z,m'[i + b.length]? = some z:=⟨_,aJ (by have:=h'.len;omega)⟩
 have hz0 : z = 0:=h.far _ z (gT _) (by rw [← h'.far _ (gT _)];exact hz);subst hz0;refine ⟨by rw [gQ,h'.len,hl],aEn h'.ok h'.oo,?_,fun j y hj hy=>?_⟩
 ·rw [xM hz,rJ hx];have h1:=h'.val;rw [gF] at h1;have h2:=h.val;rw [h2] at h1;rw [Int.sub_zero,h1,Int.add_mul]
 rw [List.getElem?_set_ne zO,h'.far j zO] at hy;exact h.far j y zO hy
theorem MulO.skip {a b m : List Int} {i : Nat} (h : MulO a b i m) (hx : a[i]? = some 0) : MulO a b (i + 1) m :=
 ⟨h.len,h.ok,by rw [rJ hx,h.val];simp,fun j x hj hx=>h.far j x zO hx⟩
theorem MulO.done {a b m : List Int} (h : MulO a b a.length m) : gZ m = gZ a * gZ b:=by rw [h.val,gF]
/-! division by one digit -/
structure ShI (a : List Int) (d : Int) (i : Nat) (q : List Int) (r : Int) : Prop where
 len : q.length = a.length
 ok : tX q
 rr : 0 ≤ r ∧ r < d
 val : gZ (a.drop i) = d * gZ (q.drop i) + r
theorem aE4 {l : List Int} {i : Nat} {v : Int} (h : i < l.length) : gZ ((l.set i v).drop i) = v + 1073741824 * gZ (l.drop (i + 1)):=by
 rw [rW (x:=v) (by rw [List.getElem?_set_self h]),List.drop_set_of_lt zO]
theorem ShI.step {a q : List Int} {d r x : Int} {i : Nat} (h : ShI a d (i + 1) q r) (ha : tX a) (hd : 0 < d ∧ d ≤ 1073741824) (hx : a[i]? = some x) :
  ShI a d i (q.set i ((r * 1073741824 + x) / d)) ((r * 1073741824 + x) % d) ∧ 0 ≤ (r * 1073741824 + x) / d ∧ (r * 1073741824 + x) / d < 1073741824:=by
 have hi:=(bY.1 hx).1;have hx1:=mR ha hx;have hr:=h.rr
 have hb : 0 ≤ (r * 1073741824 + x) / d ∧ (r * 1073741824 + x) / d < 1073741824 :=
  ⟨Int.ediv_nonneg zO zO,Int.ediv_lt_of_lt_mul hd.1 zO⟩
 refine ⟨⟨by rw [gQ,h.len],aEn h.ok hb,⟨Int.emod_nonneg _ zO,Int.emod_lt_of_pos _ hd.1⟩,?_⟩,hb⟩;rw [aE4 (by rw [h.len];exact hi),rW hx,h.val];have h5:=Int.emod_add_mul_ediv (r * 1073741824 + x) d;generalize (r * 1073741824 + x) % d = s at h5 ⊢;generalize (r * 1073741824 + x) / d = t at h5 ⊢
 grind
theorem ShI.start (a : List Int) {d : Int} (hd : 0 < d) : ShI a d a.length (List.replicate a.length 0) 0 :=
 ⟨by simp,aGw _,zO,by simp [gZ]⟩
theorem ShI.done {a q : List Int} {d r : Int} (h : ShI a d 0 q r) (ha : tX a) : gZ q = gZ a / d ∧ r = gZ a % d:=by
 have h1:=h.val;simp only [List.drop_zero] at h1;have h2:=h.rr;rw [h1,Int.add_comm];constructor
 ·rw [Int.add_mul_ediv_left _ _ zO,Int.ediv_eq_zero_of_lt h2.1 h2.2];omega
 rw [Int.add_mul_emod_self_left,Int.emod_eq_of_lt h2.1 h2.2]
/-! division by several digits: the guess -/
theorem guess_hi {P v1 v2 vr head u2 ur g t : Int} (hP : 0 < P) (hv2 : 0 ≤ v2) (hvr : 0 ≤ vr) (hur : ur < P) (hu2 : u2 < 1073741824) (ht0 : 0 ≤ t)
  (ht : t * (v1 * (1073741824 * P) + v2 * P + vr) ≤ head * (1073741824 * P) + u2 * P + ur) (hg : head / v1 = g) (hv1 : 0 < v1) : t ≤ g:=by
 rw [← hg]
 have h1 : t * v1 < head + 1:=by
  have h2 : (t * v1) * (1073741824 * P) < (head + 1) * (1073741824 * P):=by
   have h3 : 0 ≤ t * (v2 * P + vr):=Int.mul_nonneg ht0 (Int.add_nonneg (Int.mul_nonneg hv2 (Int.le_of_lt hP)) hvr);have h4 : u2 * P ≤ 1073741823 * P:=Int.mul_le_mul_of_nonneg_right zO (Int.le_of_lt hP);have e1 : t * (v1 * (1073741824 * P) + v2 * P + vr) = (t * v1) * (1073741824 * P) + t * (v2 * P + vr):=by grind
   rw [e1] at ht;rw [Int.add_mul,Int.one_mul];omega
  exact Int.lt_of_mul_lt_mul_right h2 zO
 exact (Int.le_ediv_iff_mul_le hv1).2 zO
theorem guess_less {P v1 v2 vr head u2 ur g t : Int} (hP : 0 < P) (hvr : 0 ≤ vr) (hur : ur < P) (hg : 0 ≤ g)
  (ht : t * (v1 * (1073741824 * P) + v2 * P + vr) ≤ head * (1073741824 * P) + u2 * P + ur) (hV : 0 < v1 * (1073741824 * P) + v2 * P + vr)
  (h : (head - g * v1) * 1073741824 + u2 < g * v2) : t ≤ g - 1:=by
 have h1 : head * (1073741824 * P) + u2 * P + ur < g * (v1 * (1073741824 * P) + v2 * P + vr):=by
  have h2 : (head * 1073741824 + u2 + 1) * P ≤ (g * (v1 * 1073741824 + v2)) * P:=by
   refine Int.mul_le_mul_of_nonneg_right ?_ (Int.le_of_lt hP);have : g * (v1 * 1073741824 + v2) = g * v1 * 1073741824 + g * v2:=by grind
   rw [this];omega
  have h3 : 0 ≤ g * vr:=Int.mul_nonneg hg hvr;have e1 : g * (v1 * (1073741824 * P) + v2 * P + vr) = (g * (v1 * 1073741824 + v2)) * P + g * vr:=by grind
  have e2 : head * (1073741824 * P) + u2 * P + ur = (head * 1073741824 + u2 + 1) * P - P + ur:=by grind
  rw [e1,e2];omega
 have h4 : t * (v1 * (1073741824 * P) + v2 * P + vr) < g * (v1 * (1073741824 * P) + v2 * P + vr):=zO
 have:=Int.lt_of_mul_lt_mul_right h4 (Int.le_of_lt hV);omega
theorem guess_lo {P v1 v2 vr head u2 ur g t : Int} (hP : 0 < P) (hvr : 0 ≤ vr ∧ vr < P) (hv1 : 0 < v1) (hv2 : 0 ≤ v2 ∧ v2 < 1073741824) (hur : 0 ≤ ur) (hu2 : 0 ≤ u2) (hg : 0 ≤ g ∧ g < 1073741824)
  (ht : head * (1073741824 * P) + u2 * P + ur < (t + 1) * (v1 * (1073741824 * P) + v2 * P + vr))
  (h : g * v2 ≤ (head - g * v1) * 1073741824 + u2 ∨ 1073741824 ≤ head - g * v1) : g ≤ t + 1:=by
 have hV : 1073741824 * P ≤ v1 * (1073741824 * P) + v2 * P + vr:=by
  have h1 : 1 * (1073741824 * P) ≤ v1 * (1073741824 * P):=Int.mul_le_mul_of_nonneg_right zO zO;have h2 : 0 ≤ v2 * P:=Int.mul_nonneg hv2.1 (Int.le_of_lt hP);omega
 have key : g * (v1 * (1073741824 * P) + v2 * P + vr) < (t + 2) * (v1 * (1073741824 * P) + v2 * P + vr):=by
  have e0 : (t + 2) * (v1 * (1073741824 * P) + v2 * P + vr) = (t + 1) * (v1 * (1073741824 * P) + v2 * P + vr) + (v1 * (1073741824 * P) + v2 * P + vr):=by grind
  rw [e0];rcases h with h | h
  ·have h2 : (g * (v1 * 1073741824 + v2)) * P ≤ (head * 1073741824 + u2) * P:=by
    refine Int.mul_le_mul_of_nonneg_right ?_ (Int.le_of_lt hP);have : g * (v1 * 1073741824 + v2) = g * v1 * 1073741824 + g * v2:=by grind
    rw [this];omega
   have h3 : g * vr ≤ 1073741824 * P:=by
    have a1 : g * vr ≤ g * P:=Int.mul_le_mul_of_nonneg_left zO hg.1;have a2 : g * P ≤ 1073741824 * P:=Int.mul_le_mul_of_nonneg_right zO (Int.le_of_lt hP);omega
   have e1 : g * (v1 * (1073741824 * P) + v2 * P + vr) = (g * (v1 * 1073741824 + v2)) * P + g * vr:=by grind
   have e2 : head * (1073741824 * P) + u2 * P + ur = (head * 1073741824 + u2) * P + ur:=by grind
   rw [e2] at ht;rw [e1];omega
  have h2 : (g * v1) * (1073741824 * P) ≤ (head - 1073741824) * (1073741824 * P):=Int.mul_le_mul_of_nonneg_right zO zO
  have h3 : g * (v2 * P + vr) ≤ 1073741824 * (1073741824 * P):=by
   have b0 : v2 * P ≤ 1073741823 * P:=Int.mul_le_mul_of_nonneg_right zO (Int.le_of_lt hP);have b1 : 0 ≤ v2 * P:=Int.mul_nonneg hv2.1 (Int.le_of_lt hP);have a1 : g * (v2 * P + vr) ≤ g * (1073741824 * P):=Int.mul_le_mul_of_nonneg_left zO hg.1;have a2 : g * (1073741824 * P) ≤ 1073741824 * (1073741824 * P):=Int.mul_le_mul_of_nonneg_right zO zO;omega
  have e1 : g * (v1 * (1073741824 * P) + v2 * P + vr) = (g * v1) * (1073741824 * P) + g * (v2 * P + vr):=by grind
  have e2 : (head - 1073741824) * (1073741824 * P) = head * (1073741824 * P) - 1073741824 * (1073741824 * P):=by grind
  have h4 : 0 ≤ u2 * P:=Int.mul_nonneg hu2 (Int.le_of_lt hP);rw [e1];omega
 have:=Int.lt_of_mul_lt_mul_right key zO;omega
end Go.Proofs

namespace Go.Proofs
open Go.XL
theorem yV {u : List Int} {i k : Nat} {x : Int} (h : u[i + k]? = some x) : gZ (u.drop i) = gZ ((u.drop i).take k) + 1073741824 ^ k * (x + 1073741824 * gZ (u.drop (i + k + 1))):=by
 have hl:=(bY.1 h).1;rw [pD (u.drop i) k,List.length_drop,Nat.min_eq_left zO,List.drop_drop,rW h]
theorem aL7 {u w : List Int} {p : Nat} (h : ∀ j,p ≤ j → u[j]? = w[j]?) : u.drop p = w.drop p:=by
 apply iC;intro i;rw [List.getElem?_drop,List.getElem?_drop];exact h _ zO
theorem aLz {u w : List Int} {p : Nat} (h : ∀ j,j < p → u[j]? = w[j]?) : u.take p = w.take p:=by
 apply iC;intro i;rw [List.getElem?_take,List.getElem?_take];split
 ·exact h _ ‹_›
 rfl
def okE (u : List Int) (p : Nat) : Prop:=∀ j x,j ≠ p → u[j]? = some x → 0 ≤ x ∧ x < 1073741824
theorem tX.E {u : List Int} (h : tX u) (p : Nat) : okE u p:=fun j x _ hx=>mR h hx
theorem okE.D {u : List Int} {p : Nat} {x : Int} (h : okE u p) (hx : u[p]? = some x) (hd : 0 ≤ x ∧ x < 1073741824) : tX u:=fun y hy=>by
 obtain ⟨j,hj⟩:=List.mem_iff_getElem?.1 hy;rcases Nat.lt_trichotomy j p with h1 | h1 | h1
 ·exact h j y zO hj
 ·subst h1;rw [hx] at hj;cases hj;exact hd
 exact h j y zO hj
theorem okE.set {u : List Int} {p : Nat} (h : okE u p) (v : Int) : okE (u.set p v) p:=fun j x hj hx=>by
 rw [List.getElem?_set_ne zO] at hx;exact h j x hj hx
theorem okE.set' {u : List Int} {p i : Nat} {v : Int} (h : okE u p) (hv : 0 ≤ v ∧ v < 1073741824) : okE (u.set i v) p:=fun j x hj hx=>by
 rcases Nat.lt_trichotomy j i with h1 | h1 | h1
 ·rw [List.getElem?_set_ne zO] at hx;exact h j x hj hx
 ·subst h1;rw [iR] at hx;split at hx
  ·split at hx
   ·cases hx;exact hv
   cases hx
  exact h j x hj hx
 rw [List.getElem?_set_ne zO] at hx;exact h j x hj hx
theorem okE.low {u : List Int} {i k : Nat} (h : okE u (i + k)) : tX ((u.drop i).take k):=fun x hx=>by
 obtain ⟨j,hj⟩:=List.mem_iff_getElem?.1 hx;rw [List.getElem?_take] at hj;split at hj
 ·rw [List.getElem?_drop] at hj;exact h _ x zO hj
 cases hj
theorem aRq {u : List Int} {i k : Nat} (h : okE u (i + k)) (hl : i + k < u.length) : 0 ≤ gZ ((u.drop i).take k) ∧ gZ ((u.drop i).take k) < 1073741824 ^ k:=by
 refine ⟨lI h.low,?_⟩;have:=uR h.low;rw [List.length_take,List.length_drop,Nat.min_eq_left zO] at this;exact this
/-! what is taken off: a multiple of the divisor -/
structure SbI (u0 v : List Int) (g : Int) (i j : Nat) (u : List Int) (o : Int) : Prop where
 len : u.length = u0.length
 ok : tX u
 oo : -1073741824 ≤ o ∧ o ≤ 0
 val : gZ u + o * 1073741824 ^ (i + j) = gZ u0 - g * 1073741824 ^ i * gZ (v.take j)
 far : ∀ p,p < i ∨ i + j ≤ p → u[p]? = u0[p]?
theorem SbI.start {u0 : List Int} (v : List Int) (g : Int) (i : Nat) (h : tX u0) : SbI u0 v g i 0 u0 0:=⟨rfl,h,zD,by simp [gZ],fun _ _=>rfl⟩
theorem SbI.bd {u0 v u : List Int} {g o y z : Int} {i j : Nat} (h : SbI u0 v g i j u o) (hg : 0 ≤ g ∧ g < 1073741824) (hv : tX v) (hy : v[j]? = some y) (hz : u[i + j]? = some z) :
  -1152921504606846976 ≤ z - g * y + o ∧ z - g * y + o ≤ 1073741823:=by
 have h1:=aIe hg (mR hv hy);have h2:=mR h.ok hz;have h3:=h.oo;omega
theorem SbI.step {u0 v u : List Int} {g o y z : Int} {i j : Nat} (h : SbI u0 v g i j u o) (hg : 0 ≤ g ∧ g < 1073741824) (hv : tX v) (hy : v[j]? = some y) (hz : u[i + j]? = some z) :
  SbI u0 v g i (j + 1) (u.set (i + j) ((z - g * y + o) % 1073741824)) ((z - g * y + o) / 1073741824):=by
 have hb:=h.bd hg hv hy hz;refine ⟨by rw [gQ,h.len],aEn h.ok zO,zO,?_,fun p hp=>by rw [List.getElem?_set_ne zO];exact h.far p zO⟩;rw [xM hz,rJ hy];have h4:=h.val;have h5:=Int.emod_add_mul_ediv (z - g * y + o) 1073741824;rw [show i + (j + 1) = (i + j) + 1 by omega,Int.pow_succ];generalize (z - g * y + o) % 1073741824 = r at h5 ⊢;generalize (z - g * y + o) / 1073741824 = q at h5 ⊢;rw [Int.pow_add] at h4 ⊢;generalize (1073741824 : Int) ^ i = P at h4 ⊢;generalize (1073741824 : Int) ^ j = Q at h4 ⊢;have h6 : r = z - g * y + o - 1073741824 * q:=zO
 rw [h6];grind
/-! the divisor added back -/
structure AdI (u0 v : List Int) (i j : Nat) (u : List Int) (o : Int) : Prop where
 len : u.length = u0.length
 ok : okE u (i + v.length)
 oo : 0 ≤ o ∧ o ≤ 1
 val : gZ u + o * 1073741824 ^ (i + j) = gZ u0 + 1073741824 ^ i * gZ (v.take j)
 far : ∀ p,p < i ∨ i + j ≤ p → u[p]? = u0[p]?
theorem AdI.start {u0 v : List Int} {i : Nat} (h : okE u0 (i + v.length)) : AdI u0 v i 0 u0 0:=⟨rfl,h,zD,by simp [gZ],fun _ _=>rfl⟩
theorem AdI.step {u0 v u : List Int} {o y z : Int} {i j : Nat} (h : AdI u0 v i j u o) (hv : tX v) (hy : v[j]? = some y) (hz : u[i + j]? = some z) :
  AdI u0 v i (j + 1) (u.set (i + j) ((z + y + o) % 1073741824)) ((z + y + o) / 1073741824) ∧ 0 ≤ z + y + o ∧ z + y + o ≤ 2147483647:=by
 have hj:=(bY.1 hy).1;have h1:=mR hv hy;have h2:=h.ok _ _ zO hz;have h3:=h.oo;refine ⟨⟨by rw [gQ,h.len],h.ok.set' zO,zO,?_,fun p hp=>by rw [List.getElem?_set_ne zO];exact h.far p zO⟩,zO,zO⟩;rw [xM hz,rJ hy];have h4:=h.val;have h5:=Int.emod_add_mul_ediv (z + y + o) 1073741824;rw [show i + (j + 1) = (i + j) + 1 by omega,Int.pow_succ];generalize (z + y + o) % 1073741824 = r at h5 ⊢;generalize (z + y + o) / 1073741824 = q at h5 ⊢;rw [Int.pow_add] at h4 ⊢;generalize (1073741824 : Int) ^ i = P at h4 ⊢;generalize (1073741824 : Int) ^ j = Q at h4 ⊢;have h6 : r = z + y + o - 1073741824 * q:=zO
 rw [h6];grind
/-! the whole division -/
structure LgI (A : Int) (v : List Int) (n i : Nat) (u q : List Int) : Prop where
 lu : u.length = n
 lq : q.length + v.length = n
 ou : tX u
 oq : tX q
 val : gZ u + gZ v * 1073741824 ^ i * gZ (q.drop i) = A
 rem : gZ (u.drop i) < gZ v
structure LgW (v u : List Int) (i : Nat) (v1 v2 head u2 t : Int) : Prop where
 ht : 0 ≤ t ∧ t < 1073741824
 u0 : u[i + v.length]? = some (head / 1073741824)
 hh : 0 ≤ head ∧ head < (v1 + 1) * 1073741824
 hi : ∀ g,head / v1 = g → t ≤ g
 less : ∀ g,0 ≤ g → (head - g * v1) * 1073741824 + u2 < g * v2 → t ≤ g - 1
 lo : ∀ g,0 ≤ g ∧ g < 1073741824 → (g * v2 ≤ (head - g * v1) * 1073741824 + u2 ∨ 1073741824 ≤ head - g * v1) → g ≤ t + 1
 t1 : t * gZ v ≤ gZ (u.drop i)
 t2 : gZ (u.drop i) < (t + 1) * gZ v
theorem valI_pos_last {v : List Int} {x : Int} (hv : tX v) (hk : v ≠ []) (hx : v[v.length - 1]? = some x) (h0 : x ≠ 0) : 0 < gZ v:=by
 have hl : v.length ≠ 0:=fun h=>hk (List.length_eq_zero_iff.1 h);rw [pD v (v.length - 1),Nat.min_eq_left zO,rW hx];have h1:=lI (qW (v.length - 1) hv);have h2:=mR hv hx;have h3:=lI (wQ (v.length - 1 + 1) hv);have h4:=yY (v.length - 1);have h5 : 0 < 1073741824 ^ (v.length - 1) * (x + 1073741824 * gZ (v.drop (v.length - 1 + 1))):=Int.mul_pos h4 zO;omega
theorem LgI.window {A : Int} {v u q : List Int} {n i : Nat} {v1 v2 w0 w1 w2 : Int} (h : LgI A v n (i + 1) u q) (hv : tX v) (hk : 2 ≤ v.length)
  (hv1 : v[v.length - 1]? = some v1) (hv2 : v[v.length - 2]? = some v2) (h10 : v1 ≠ 0) (hi : i < q.length)
  (hw0 : u[i + v.length]? = some w0) (hw1 : u[i + v.length - 1]? = some w1) (hw2 : u[i + v.length - 2]? = some w2) :
  ∃ t,LgW v u i v1 v2 (w0 * 1073741824 + w1) w2 t:=by
 obtain ⟨k,hkl⟩ : ∃ k,v.length = k + 2:=⟨v.length - 2,zO⟩
 rw [hkl] at hv1 hv2 hw0 hw1 hw2;rw [show k + 2 - 1 = k + 1 by omega] at hv1;rw [show k + 2 - 2 = k by omega] at hv2;rw [show i + (k + 2) = i + k + 2 by omega] at hw0;rw [show i + (k + 2) - 1 = i + k + 1 by omega] at hw1;rw [show i + (k + 2) - 2 = i + k by omega] at hw2;have d1:=mR hv hv1;have d2:=mR hv hv2;have e0:=mR h.ou hw0;have e1:=mR h.ou hw1;have e2:=mR h.ou hw2;have P:=yY k
 have hV : gZ v = v1 * (1073741824 * 1073741824 ^ k) + v2 * 1073741824 ^ k + gZ (v.take k):=by
  rw [pD v k,Nat.min_eq_left zO,rW hv2,rW hv1,List.drop_eq_nil_of_le zO];simp only [gZ];grind
 have hvr : 0 ≤ gZ (v.take k) ∧ gZ (v.take k) < 1073741824 ^ k:=by
  have:=uR (qW k hv);rw [List.length_take,Nat.min_eq_left zO] at this;exact ⟨lI (qW k hv),this⟩
 have hrem:=h.rem;have hv1p : 0 < v1:=zO
 have hVb : gZ v < 1073741824 ^ k * 1073741824 * 1073741824:=by
  have:=uR hv;rw [hkl,Int.pow_succ,Int.pow_succ] at this;exact this
 -- above the window lie zeros
 have hz : gZ (u.drop (i + k + 3)) = 0:=by
  have h1:=pD (u.drop (i + 1)) (k + 2);have wD : (u.drop (i + 1)).length = n - (i + 1):=by rw [List.length_drop,h.lu]
  have hle : k + 2 ≤ (u.drop (i + 1)).length:=by
   have:=(bY.1 hw0).1;rw [List.length_drop];omega
  rw [Nat.min_eq_left hle,List.drop_drop,show i + 1 + (k + 2) = i + k + 3 by omega,Int.pow_succ,Int.pow_succ] at h1;have h2:=lI (qW (k + 2) (wQ (i + 1) h.ou));have h3:=lI (wQ (i + k + 3) h.ou);rcases Int.lt_or_le 0 (gZ (u.drop (i + k + 3))) with h4 | h4
  ·have h5 : 1073741824 ^ k * 1073741824 * 1073741824 * 1 ≤ 1073741824 ^ k * 1073741824 * 1073741824 * gZ (u.drop (i + k + 3)):=Int.mul_le_mul_of_nonneg_left zO zO;omega
  omega
 have hW : gZ (u.drop i) = (w0 * 1073741824 + w1) * (1073741824 * 1073741824 ^ k) + w2 * 1073741824 ^ k + gZ ((u.drop i).take k):=by
  rw [yV hw2,rW hw1,rW hw0,show i + k + 1 + 1 + 1 = i + k + 3 by omega,hz];grind
 have hur : 0 ≤ gZ ((u.drop i).take k) ∧ gZ ((u.drop i).take k) < 1073741824 ^ k:=aRq (h.ou.E _) (bY.1 hw2).1;have hVp : 0 < gZ v:=valI_pos_last hv (by intro h;rw [h] at hk;simp at hk) (by rw [hkl];exact hv1) h10
 -- the window is less than the base times the divisor
 have hWB : gZ (u.drop i) < 1073741824 * gZ v:=by
  obtain ⟨x,hx⟩ : ∃ x,u[i]? = some x:=⟨_,aJ (by have:=(bY.1 hw0).1;omega)⟩
  have:=mR h.ou hx;rw [rW hx];omega
 have hWn : 0 ≤ gZ (u.drop i):=lI (wQ i h.ou);have t1 : gZ (u.drop i) / gZ v * gZ v ≤ gZ (u.drop i):=Int.ediv_mul_le _ zO;have t2 : gZ (u.drop i) < (gZ (u.drop i) / gZ v + 1) * gZ v:=Int.lt_ediv_add_one_mul_self _ hVp;have t3 : 0 ≤ gZ (u.drop i) / gZ v:=Int.ediv_nonneg hWn zO;have t4 : gZ (u.drop i) / gZ v < 1073741824:=Int.ediv_lt_of_lt_mul hVp hWB;generalize hT : gZ (u.drop i) / gZ v = t at t1 t2 t3 t4;refine ⟨t,⟨t3,t4⟩,?_,⟨zO,?_⟩,fun g hg=>?_,fun g hg hl=>?_,fun g hg hl=>?_,t1,t2⟩
 ·rw [hkl,show i + (k + 2) = i + k + 2 by omega,hw0];congr 1;omega
 ·
  have h1 : w0 * (1073741824 * 1073741824 ^ k) ≤ gZ (u.drop (i + 1)):=by
   have hw1' : u[(i + 1) + k]? = some w1:=by rw [show (i + 1) + k = i + k + 1 by omega];exact hw1
   rw [yV hw1',show i + 1 + k + 1 = i + k + 2 by omega,rW hw0,show i + k + 2 + 1 = i + k + 3 by omega,hz];have h2:=lI (qW k (wQ (i + 1) h.ou));have h3 : 0 ≤ 1073741824 ^ k * w1:=Int.mul_nonneg (Int.le_of_lt P) e1.1
   grind
  have h2 : w0 * (1073741824 * 1073741824 ^ k) < (v1 + 1) * (1073741824 * 1073741824 ^ k):=by
   have h3 : v2 * 1073741824 ^ k ≤ 1073741823 * 1073741824 ^ k:=Int.mul_le_mul_of_nonneg_right zO (Int.le_of_lt P);rw [Int.add_mul,Int.one_mul];omega
  have:=Int.lt_of_mul_lt_mul_right h2 zO;omega
 ·rw [hV,hW] at t1;exact guess_hi P d2.1 hvr.1 hur.2 e2.2 t3 t1 hg hv1p
 ·rw [hV,hW] at t1;rw [hV] at hVp;exact guess_less P hvr.1 hur.2 hg t1 hVp hl
 rw [hV,hW] at t2;exact guess_lo P hvr hv1p d2 hur.1 e2.1 hg t2 hl
end Go.Proofs

namespace Go.Proofs
open Go.XL
theorem LgI.high {A : Int} {v u q : List Int} {n i : Nat} (h : LgI A v n (i + 1) u q) (hv : tX v) (hl : i + v.length < n) : gZ (u.drop (i + v.length + 1)) = 0:=by
 have h1:=pD (u.drop (i + 1)) v.length;have wD : (u.drop (i + 1)).length = n - (i + 1):=by rw [List.length_drop,h.lu]
 rw [Nat.min_eq_left zO,List.drop_drop,show i + 1 + v.length = i + v.length + 1 by omega] at h1;have h2:=lI (qW v.length (wQ (i + 1) h.ou));have h3:=lI (wQ (i + v.length + 1) h.ou);have h4:=uR hv;have h5:=h.rem;have hp:=yY v.length;rcases Int.lt_or_le 0 (gZ (u.drop (i + v.length + 1))) with h6 | h6
 ·have : 1073741824 ^ v.length * 1 ≤ 1073741824 ^ v.length * gZ (u.drop (i + v.length + 1)):=Int.mul_le_mul_of_nonneg_left zO (Int.le_of_lt hp);omega
 omega
theorem aL2 {u w : List Int} {i : Nat} {c : Int} (ht : w.take i = u.take i) (hl : w.length = u.length) (hi : i ≤ u.length) (h : gZ w = gZ u + 1073741824 ^ i * c) : gZ (w.drop i) = gZ (u.drop i) + c:=by
 have h1:=pD u i;have h2:=pD w i;rw [ht,hl,Nat.min_eq_left hi] at h2;rw [Nat.min_eq_left hi] at h1;have h3 : 1073741824 ^ i * gZ (w.drop i) = 1073741824 ^ i * (gZ (u.drop i) + c):=by rw [Int.mul_add];omega
 exact Int.eq_of_mul_eq_mul_left (by have:=yY i;omega) h3
theorem aQr {low top V K : Int} (hK : 0 < K) (hlow : 0 ≤ low ∧ low < K) (hV : V ≤ K) (h0 : 0 ≤ low + K * top) (h1 : low + K * top < V) : top = 0:=by
 rcases Int.lt_trichotomy top 0 with h | h | h
 ·have : K * top ≤ K * (-1):=Int.mul_le_mul_of_nonneg_left zO zO;omega
 ·exact h
 have : K * 1 ≤ K * top:=Int.mul_le_mul_of_nonneg_left zO zO;omega
theorem LgI.sub {A : Int} {v u q u' : List Int} {n i : Nat} {v1 v2 head u2 t g o z : Int} (h : LgI A v n (i + 1) u q) (hv : tX v) (hi : i < q.length) (hw : LgW v u i v1 v2 head u2 t)
  (hs : SbI u v g i v.length u' o) (hg : t ≤ g ∧ g ≤ t + 1) (hgd : g < 1073741824) (hz : u[i + v.length]? = some z) :
  (0 ≤ z + o → LgI A v n i (u'.set (i + v.length) (z + o)) (q.set i g)) ∧
  (z + o < 0 → okE (u'.set (i + v.length) (z + o)) (i + v.length) ∧ 0 ≤ g - 1 ∧ ∀ w o',AdI (u'.set (i + v.length) (z + o)) v i v.length w o' → w[i + v.length]? = some (z + o) ∧ LgI A v n i (w.set (i + v.length) (z + o + o')) (q.set i (g - 1))):=by
 have hlq:=h.lq;have hlu:=h.lu;have hz' : u'[i + v.length]? = some z:=by rw [hs.far _ (.inr (gT _))];exact hz
 have hil : i + v.length < u'.length:=(bY.1 hz').1;have wD : (u'.set (i + v.length) (z + o)).length = u.length:=by rw [gQ,hs.len]
 have hE : okE (u'.set (i + v.length) (z + o)) (i + v.length):=(hs.ok.E _).set _;have htop : (u'.set (i + v.length) (z + o))[i + v.length]? = some (z + o):=List.getElem?_set_self hil
 have hvU : gZ (u'.set (i + v.length) (z + o)) = gZ u + 1073741824 ^ i * (-(g * gZ v)):=by
  rw [xM hz'];have:=hs.val;rw [gF] at this;have e : (z + o - z) * 1073741824 ^ (i + v.length) = o * 1073741824 ^ (i + v.length):=by congr 1;omega
  rw [e,this];grind
 have htake : (u'.set (i + v.length) (z + o)).take i = u.take i:=aLz fun j hj=>by rw [List.getElem?_set_ne zO];exact hs.far j (.inl hj)
 have hdrop : (u'.set (i + v.length) (z + o)).drop (i + v.length + 1) = u.drop (i + v.length + 1):=aL7 fun j hj=>by rw [List.getElem?_set_ne zO];exact hs.far j (.inr zO)
 have hhigh:=h.high hv zO;have hW:=aL2 htake wD zO hvU;have hwin:=yV htop;rw [hdrop,hhigh] at hwin;have hlow:=aRq hE (by rw [wD,hlu];omega);have hK:=yY v.length;have hVK:=uR hv;have t1:=hw.t1;have t2:=hw.t2;have hVp : 0 ≤ gZ v:=lI hv;have hval:=h.val;obtain ⟨y,hy⟩ : ∃ y,q[i]? = some y:=⟨_,aJ hi⟩
 have hqd : ∀ w,gZ ((q.set i w).drop i) = w + 1073741824 * gZ (q.drop (i + 1)):=fun w=>aE4 hi;constructor
 ·intro h0
  have h1 : 0 ≤ gZ ((u'.set (i + v.length) (z + o)).drop i):=by
   rw [hwin];have : 0 ≤ 1073741824 ^ v.length * (z + o + 1073741824 * 0):=Int.mul_nonneg (Int.le_of_lt hK) zO;omega
  have hgt : g = t:=by
   rcases Int.lt_or_le t g with h3 | h3
   ·have : (t + 1) * gZ v ≤ g * gZ v:=Int.mul_le_mul_of_nonneg_right zO hVp;omega
   omega
  subst hgt;have e2 : (g + 1) * gZ v = g * gZ v + gZ v:=by rw [Int.add_mul,Int.one_mul]
  have h2 : z + o = 0:=by
   refine aQr (V:=gZ v) hK hlow zO ?_ ?_
   ·rw [hwin] at h1;simpa using h1
   rw [hwin] at hW;simp only [Int.mul_zero,Int.add_zero] at hW;omega
  refine ⟨by rw [wD,hlu],by rw [gQ];exact hlq,hE.D htop zO,aEn h.oq ⟨hw.ht.1,hgd⟩,?_,by rw [hW];omega⟩;rw [hvU,hqd,← hval,Int.pow_succ];grind
 intro h0
 have h1 : gZ ((u'.set (i + v.length) (z + o)).drop i) < 0:=by
  rw [hwin];have : 1073741824 ^ v.length * (z + o + 1073741824 * 0) ≤ 1073741824 ^ v.length * (-1):=Int.mul_le_mul_of_nonneg_left zO (Int.le_of_lt hK);omega
 have hgt : g = t + 1:=by
  rcases Int.lt_or_le t g with h3 | h3
  ·omega
  have : g * gZ v ≤ t * gZ v:=Int.mul_le_mul_of_nonneg_right zO hVp;omega
 have e2 : (t + 1) * gZ v = t * gZ v + gZ v:=by rw [Int.add_mul,Int.one_mul]
 refine ⟨hE,by have:=hw.ht;omega,fun w o' ha=>?_⟩;have hwz : w[i + v.length]? = some (z + o):=by rw [ha.far _ (.inr (gT _))];exact htop
 refine ⟨hwz,?_⟩;have hil2 : i + v.length < w.length:=(bY.1 hwz).1;have hlen2 : (w.set (i + v.length) (z + o + o')).length = u.length:=by rw [gQ,ha.len,wD]
 have hE2 : okE (w.set (i + v.length) (z + o + o')) (i + v.length):=ha.ok.set _;have htop2 : (w.set (i + v.length) (z + o + o'))[i + v.length]? = some (z + o + o'):=List.getElem?_set_self hil2
 have hvU2 : gZ (w.set (i + v.length) (z + o + o')) = gZ u + 1073741824 ^ i * (-(t * gZ v)):=by
  rw [xM hwz];have:=ha.val;rw [gF,hvU] at this;have e : (z + o + o' - (z + o)) * 1073741824 ^ (i + v.length) = o' * 1073741824 ^ (i + v.length):=by congr 1;omega
  rw [e,this,hgt];grind
 have htake2 : (w.set (i + v.length) (z + o + o')).take i = u.take i:=aLz fun j hj=>by
  rw [List.getElem?_set_ne zO,ha.far j (.inl hj),List.getElem?_set_ne zO];exact hs.far j (.inl hj)
 have hdrop2 : (w.set (i + v.length) (z + o + o')).drop (i + v.length + 1) = u.drop (i + v.length + 1):=aL7 fun j hj=>by
  rw [List.getElem?_set_ne zO,ha.far j (.inr zO),List.getElem?_set_ne zO];exact hs.far j (.inr zO)
 have hW2:=aL2 htake2 hlen2 zO hvU2;have hwin2:=yV htop2;rw [hdrop2,hhigh] at hwin2;have hlow2:=aRq hE2 (by rw [hlen2,hlu];omega)
 have h2 : z + o + o' = 0:=by
  refine aQr (V:=gZ v) hK hlow2 zO ?_ ?_
  ·rw [hwin2] at hW2;simp only [Int.mul_zero,Int.add_zero] at hW2;omega
  rw [hwin2] at hW2;simp only [Int.mul_zero,Int.add_zero] at hW2;omega
 refine ⟨by rw [hlen2,hlu],by rw [gQ];exact hlq,hE2.D htop2 zO,aEn h.oq (by have:=hw.ht;omega),?_,by rw [hW2];omega⟩;rw [hvU2,hqd,← hval,Int.pow_succ,hgt];grind
theorem LgI.start {v u : List Int} {n : Nat} (hv : tX v) (hu : tX u) (hl : u.length = n) (hk : v.length ≤ n) (h : gZ u < gZ v * 1073741824 ^ (n - v.length)) : LgI (gZ u) v n (n - v.length) u (List.replicate (n - v.length) 0):=by
 refine ⟨hl,by simp;omega,hu,aGw _,by rw [List.drop_eq_nil_of_le zP];simp [gZ],?_⟩;have h1:=pD u (n - v.length);rw [Nat.min_eq_left zO] at h1;have h2:=lI (qW (n - v.length) hu);have h3 : gZ (u.drop (n - v.length)) * 1073741824 ^ (n - v.length) < gZ v * 1073741824 ^ (n - v.length):=by rw [Int.mul_comm];omega
 exact Int.lt_of_mul_lt_mul_right h3 (Int.le_of_lt (yY _))
theorem LgI.done {v u q : List Int} {n : Nat} {a b m : Int} (h : LgI (a * m) v n 0 u q) (hv : gZ v = b * m) (hm : 0 < m) : gZ q = a / b ∧ gZ u / m = a % b ∧ gZ u % m = 0:=by
  have h1:=h.val;have h2:=h.rem;simp only [List.drop_zero,Int.pow_zero,Int.mul_one] at h1 h2;have h3:=lI h.ou;rw [hv] at h1 h2
  have e : gZ u = (a - b * gZ q) * m:=by rw [Int.sub_mul];have : b * m * gZ q = b * gZ q * m:=by grind
                                         omega
  rw [e] at h2 h3 ⊢;have h4 : a - b * gZ q < b:=Int.lt_of_mul_lt_mul_right h2 (Int.le_of_lt hm)
  have h5 : 0 ≤ a - b * gZ q:=by
    rcases Int.lt_or_le (a - b * gZ q) 0 with h6 | h6
    · have:=Int.mul_neg_of_neg_of_pos h6 hm;omega
    exact h6
  have hb : 0 < b:=zO
  have ea : a = (a - b * gZ q) + b * gZ q:=zO
  refine ⟨?_,?_,Int.mul_emod_left _ _⟩
  · rw [ea];generalize a - b * gZ q = r at h4 h5 ⊢;rw [Int.add_mul_ediv_left _ _ zO,Int.ediv_eq_zero_of_lt h5 h4];simp
  rw [Int.mul_ediv_cancel _ zO];have : a % b = (a - b * gZ q + b * gZ q) % b:=by rw [← ea]
  rw [this,Int.add_mul_emod_self_left,Int.emod_eq_of_lt h5 h4]
end Go.Proofs

namespace Go.XL
section
variable {C : Ctx} {ops : Array Oper} {Q : Exit → St → Prop} {rest : List Oper} {env : gY} {df : List Deferred} {H : Hp} {own : Own} {dst : Option Tmp} {ty : TypeId} {pos : String} {af : Array Edge}
theorem oT {c : Code} {own' : Own} (hp : own.Perm own') (h : XC C c Q ⟨env,df,H,own'⟩) : XC C c Q ⟨env,df,H,own⟩:=by
 intro a w hr;obtain ⟨ms,hdf,hok⟩:=hr.ok;exact h a w ⟨hr.size,hr.get,ms,hdf,hok.perm (hp.symm.append_right _)⟩
end
end Go.XL

namespace Go.XL
open Go
section
variable {C : Ctx} {ops : Array Oper} {Q : Exit → St → Prop} {rest : List Oper} {env : gY} {df : List Deferred} {H : Hp} {own : Own}
variable {dst : Option Tmp} {ty : TypeId} {pos : String} {af : Array Edge}
theorem uS {α : Type} {ρ : Rep α} {t e : TypeId} {x y : Operand} {k k' : IntKind} {n : Nat} {zs : List Value} {agg : Bool} (u : α) (hx : ev env x = some (.int k n)) (hy : ev env y = some (.int k' n)) (ht : C.P.underlying t = some (.slice e)) (he : tP C.P e ρ.sz agg = true) (hz : nB C.P e = some zs)
  (hzl : (Nat.blt 0 ρ.sz && Nat.beq zs.length ρ.sz) = true) (hby : Nat.ble (C.P.bytesOf e) 4096 = true) (hn : n ≤ 1073741824) (hR : ρ.R H zs u) (hd : iU C.N dst = true)
  (h : ∀ p c,c = n → Acc ρ e H p (some ⟨p.1,0,none⟩) c (List.replicate n u) → XO C ops Q rest ⟨jI dst (.slice (some ⟨p.1,0,none⟩) n c) env,df,H,p :: own⟩) :
  XO C ops Q (⟨dst,.makeSlice t x y,ty,pos,af,none⟩ :: rest) ⟨env,df,H,own⟩ :=
 XO.makeSlice u hx hy ht he hz hzl hby hn hR hd fun b hacc=>h (b,_) n rfl hacc
theorem yR {t : TypeId} {x y : Operand} {k : IntKind} {i : Nat} {s : ByteArray} {b : UInt8} (hx : ev env x = some (.string s)) (hy : ev env y = some (.int k (i : Nat))) (hb : s[i]? = some b)
  (ht : C.P.underlying t = some .string) (hd : iU C.N dst = true)
  (h : XO C ops Q rest ⟨jI dst (.int .u8 (b.toNat : Nat)) env,df,H,own⟩) : XO C ops Q (⟨dst,.index t x y,ty,pos,af,none⟩ :: rest) ⟨env,df,H,own⟩ :=
 kF rfl rfl hd (fun ρ ha w=>by
  simp only [execOp,ha _ _ hx,ha _ _ hy,Instr.index,asIntOf,Sem.run_bind];simp only [Pure.pure,Sem.run,Result.andThen,jC ht,Sem.run_bind]
  simp only [Int.natCast_nonneg,if_true,eN,hb,Sem.run]) h
end
end Go.XL

namespace Go.Proofs
open Go.XL
def DgU (n c : Nat) (H : Hp) (v : Value) : Prop:=∃ a,v = .slice a (dg n).length c ∧ SlR (gV .i64) H a c (dg n)
def DgE (n : Nat) (H : Hp) (v : Value) : Prop:=∃ c,DgU n c H v
theorem dsI_set {f : Nat → Int} {n k : Nat} {v : Int} (h : k < n) (hv : v = dI f k) : (dsI f k ++ List.replicate (n - k) 0).set k v = dsI f (k + 1) ++ List.replicate (n - (k + 1)) 0:=by
 subst hv;rw [List.set_append_right _ _ (by rw [aB1];exact gT _),aB1,Nat.sub_self,aQi,show n - k = (n - (k + 1)) + 1 by omega,List.replicate_succ,List.set_cons_zero,eM];rfl
theorem dsI_put {f : Nat → Int} {n k : Nat} (h : k < n) : dsI f (k + 1) ++ List.replicate (n - (k + 1)) 0 = (dsI f k ++ List.replicate (n - k) 0).set ((k : Int)).toNat ((f k + cI f k) % 1073741824):=by
 rw [eN];exact (dsI_set h rfl).symm
theorem dsI_full (f : Nat → Int) (n : Nat) : dsI f n ++ List.replicate (n - n) 0 = dsI f n:=by simp
theorem ds_len (f : Nat → Int) {n k : Nat} (h : k ≤ n) : (dsI f k ++ List.replicate (n - k) 0).length = n:=by rw [fQ,aB1,gR];omega
theorem aWt {f : Nat → Int} {n : Nat} (hf : ∀ i,i < n → -4611686018427387904 ≤ f i ∧ f i ≤ 4611686018427387904) : ∀ i,i ≤ n → -8589934592 ≤ cI f i ∧ cI f i ≤ 8589934592
 | 0,_=>by simp [cI]
 | i + 1,h=>by
  have h1:=aWt hf i zO;have h2:=hf i zO;simp only [cI];omega
theorem trim_step {l : List Int} {k : Nat} {x : Int} (hz : ∀ j y,l.length - k ≤ j → l[j]? = some y → y = 0) (hk : k < l.length) (hx : l[l.length - k - 1]? = some x) (h0 : x = 0) : ∀ j y,l.length - (k + 1) ≤ j → l[j]? = some y → y = 0:=by
 intro j y hj hy;rcases gJ j (l.length - k) with h | h
 ·obtain rfl : j = l.length - k - 1:=zO
  rw [hx] at hy;cases hy;exact h0
 exact hz j y h hy
theorem aTw {m n : Nat} (h : m ≤ n) : (1073741824 : Int) ^ m ≤ 1073741824 ^ n:=by
 obtain ⟨k,rfl⟩:=Nat.exists_eq_add_of_le h;rw [Int.pow_add];have:=yY m;have:=yY k;have : (1073741824 : Int) ^ m * 1 ≤ 1073741824 ^ m * 1073741824 ^ k:=Int.mul_le_mul_of_nonneg_left zO zO;omega
theorem aOa (n : Nat) : (n : Int) < 1073741824 ^ (dg n).length:=by
 have:=aEy n;have h2 : ((1073741824 ^ (dg n).length : Nat) : Int) = (1073741824 : Int) ^ (dg n).length:=by rw [Int.natCast_pow];rfl
 omega
theorem add_val (x y : Nat) : gZ (dsI (fun i=>atD (dg x) i + atD (dg y) i) (max (dg x).length (dg y).length + 1)) = ((x + y : Nat) : Int):=by
 have e : sI (fun i=>atD (dg x) i + atD (dg y) i) (max (dg x).length (dg y).length + 1) = ((x + y : Nat) : Int):=by
  rw [aT6,aK0 zO,aK0 zO,nN,nN];omega
 rw [aHn,e];rw [e,Int.pow_succ];have h1:=aOa x;have h2:=aOa y;have h3:=aTw (Nat.le_max_left (dg x).length (dg y).length);have h4:=aTw (Nat.le_max_right (dg x).length (dg y).length);omega
theorem sub_val {x y : Nat} (h : y ≤ x) : gZ (dsI (fun i=>atD (dg x) i - atD (dg y) i) (dg x).length) = ((x - y : Nat) : Int):=by
 have e : sI (fun i=>atD (dg x) i - atD (dg y) i) (dg x).length = ((x - y : Nat) : Int):=by
  rw [aU2,aK0 (gT _),aK0 (lP h),nN,nN];omega
 rw [aHn,e];rw [e];have h1:=aOa x;omega
abbrev Raw:=Bool × List Int
def rawR : Rep Raw where
 sz:=2
 R:=fun H cs x=>∃ a c,cs = [.bool x.1,.slice a x.2.length c] ∧ SlR (gV .i64) H a c x.2
 len:=fun ⟨_,_,h,_⟩=>by subst h;rfl
 one:=fun ⟨_,_,h,_⟩=>by subst h;rfl
 mono:=fun hle ⟨a,c,h,h1⟩=>⟨a,c,h,h1.mono hle⟩
def iY (z : Int) : Raw:=(decide (z < 0),dg z.natAbs)
def okB (x : Raw) : Prop:=x.2.length ≤ 2048 ∧ (x.2 = [] → x.1 = false) ∧ (∀ y,x.2[x.2.length - 1]? = some y → y ≠ 0) ∧ tX x.2
theorem aDx {z : Int} (h : (dg z.natAbs).length ≤ 2048) : okB (iY z) :=
 ⟨h,fun h0=>aI (by have:=aUa.1 h0;omega),fun y hy=>aO7 hy,mH _⟩
theorem aVm {x : Raw} (h : okB x) : ∃ z : Int,x = iY z ∧ (dg z.natAbs).length ≤ 2048:=by
 obtain ⟨h1,h2,h3,h4⟩:=h;obtain ⟨s,l⟩:=x;have e:=aUu h4 h3;have hv:=lI h4;simp only at h1 h2 h3 h4 e hv;cases s with
 | false =>
  refine ⟨gZ l,?_,?_⟩
  ·unfold iY;rw [show (gZ l).natAbs = (gZ l).toNat by omega,← e,aI zO]
  rw [show (gZ l).natAbs = (gZ l).toNat by omega,← e];exact h1
 | true =>
  have hp : 0 < gZ l:=by
   rcases Int.lt_or_le 0 (gZ l) with h5 | h5
   ·exact h5
   have h6 : l = []:=by rw [e,show (gZ l).toNat = 0 by omega,dg0]
   exact absurd (h2 h6) zD
  refine ⟨-gZ l,?_,?_⟩
  ·unfold iY;rw [show (-gZ l).natAbs = (gZ l).toNat by omega,← e,bG zO]
  rw [show (-gZ l).natAbs = (gZ l).toNat by omega,← e];exact h1
noncomputable instance (x : Raw) : Decidable (okB x):=Classical.propDecidable _
end Go.Proofs

namespace Go.Proofs
open Go.XL
abbrev Tb:=List (List Bool)
abbrev tbR : Rep (List Bool):=slR aE2
def lA (m : Tb) : Nat:=(m.headD []).length
theorem wide_nil {m : Tb} (h : m.length = 0) : lA m = 0:=by
 rw [List.length_eq_zero_iff] at h;subst h;rfl
theorem wide_cons {m : Tb} {x : List Bool} (h : m[0]? = some x) : lA m = x.length:=by
 cases m with
 | nil=>cases h
 | cons y r=>simp at h;subst h;rfl
def qV (m : Tb) : Int:=if 64 < m.length ∨ ∃ r ∈ m,16 < r.length then 2 else if ∃ r ∈ m,r.length ≠ lA m then 370 else 0
theorem aW1 {m : Tb} (h : 64 < m.length ∨ ∃ r ∈ m,16 < r.length) : qV m = 2:=eX h
theorem chk_370 {m : Tb} (h : ¬ (64 < m.length ∨ ∃ r ∈ m,16 < r.length)) (h2 : ∃ r ∈ m,r.length ≠ lA m) : qV m = 370:=by rw [qV,dG h,eX h2]
theorem chk_0 {m : Tb} (h : ¬ (64 < m.length ∨ ∃ r ∈ m,16 < r.length)) (h2 : ¬ ∃ r ∈ m,r.length ≠ lA m) : qV m = 0:=by rw [qV,dG h,dG h2]
def aW8 (m : Tb) : Prop:=¬ (10 < m.length ∧ m.length ≤ 64 ∨ 70 < m.length) ∧ ∀ r ∈ m,¬ (8 < r.length ∧ r.length ≤ 16 ∨ 30 < r.length)
instance (m : Tb) : Decidable (aW8 m):=by unfold aW8;infer_instance
def okG (m : Tb) : Prop:=m.length ≤ 64 ∧ ∀ r ∈ m,r.length = lA m ∧ r.length ≤ 16
theorem aI2 {m : Tb} : qV m = 0 ↔ okG m:=by
 unfold qV okG;constructor
 ·intro h;split at h
  ·cases h
  rename_i h1
  split at h
  ·cases h
  rename_i h2
  refine ⟨zO,fun r hr=>⟨Decidable.by_contra fun hn=>h2 ⟨r,hr,hn⟩,?_⟩⟩;rcases gJ 16 r.length with h3 | h3
  ·exact absurd (Or.inr ⟨r,hr,h3⟩) h1
  exact h3
 intro ⟨h1,h2⟩;rw [dG,dG]
 ·rintro ⟨r,hr,hn⟩;exact hn (h2 r hr).1
 rintro (h | ⟨r,hr,hn⟩)
 ·omega
 have:=(h2 r hr).2;omega
end Go.Proofs

namespace Go.Proofs
open Go.XL
theorem aIb : tP Tryz.prog 23 1 false = true:=zK
theorem jZ : tP Tryz.prog 27 1 false = true:=zK
theorem qL : tP Tryz.prog 34 1 false = true:=zK
theorem follows : Tryz.prog.follows .mixedOrders = true:=zK
theorem xL (be : Nat) (x : Int) (H : Hp) : FnD Tryz.prog 29 #[.pointer (some ⟨be,0,none⟩)] (.returning) H [(be,.cells 27 [.int .i64 x])] (fun u _ own=>u = .returning ∧ own = [(be,.cells 27 [.int .i64 x])]):=by
 refine FnD.intro (args:=[.pointer (some ⟨be,0,none⟩)]) Tryz.func29 rfl rfl Tryz.ntmps29 rfl rfl rfl fun G rest=>?_;refine XS.seq ?_;refine XS.recover rfl rfl ?_;refine zG rfl ?_;refine bF ?_;refine XS.of rfl ?_;refine zS ?_;refine zM rfl ?_;refine aBu rfl (Or.inl ⟨rfl,rfl⟩) nD rfl ?_;refine zN ?_;refine gD rfl rfl ?_;refine eF ?_;refine ⟨rfl,_,[(be,.cells 27 [.int .i64 x])],rfl,zA,?_⟩;exact ⟨rfl,rfl⟩
theorem aJ3 (be : Nat) (x y : Int) (H : Hp) : FnD Tryz.prog 29 #[.pointer (some ⟨be,0,none⟩)] (.panicking [{ v:=.iface 27 (.int .i64 y),recovered:=false }]) H [(be,.cells 27 [.int .i64 x])] (fun u _ own=>settle u = .returning ∧ own = [(be,.cells 27 [.int .i64 y])]):=by
 refine FnD.intro (args:=[.pointer (some ⟨be,0,none⟩)]) Tryz.func29 rfl rfl Tryz.ntmps29 rfl rfl rfl fun G rest=>?_;refine XS.seq ?_;refine XS.recover rfl rfl ?_;refine zG rfl ?_;refine bF ?_;refine XS.of rfl ?_;refine zS ?_;refine zM rfl ?_;refine aBu rfl (Or.inr ⟨_,_,rfl,rfl⟩) nD rfl ?_;refine zN ?_;refine jB rfl rfl ?_;refine zS ?_;refine zM rfl ?_;refine aC4 rfl pU rfl ?_;refine zM rfl ?_;refine zX rfl ?_;refine zX rfl ?_;refine zG rfl ?_;refine zG rfl ?_;refine zN ?_;refine cO ?_;refine zS ?_;refine zM rfl ?_;refine lB rfl rfl ?_;refine zN ?_;refine gD rfl rfl ?_;refine eF ?_;refine bO ?_;refine dL ?_;refine zM rfl ?_;refine zM rfl ?_;refine iB rfl rfl ?_;refine eG 0 rfl rfl rfl rfl jZ rfl rfl rfl rfl rfl ?_;refine bF ?_;refine ⟨rfl,_,[(be,.cells 27 [.int .i64 y])],rfl,zA,?_⟩;exact ⟨rfl,rfl⟩
theorem aSb (y : Int) (hy : y = 0) (H : Hp) : iP Tryz.prog 30 #[.int .i64 y] H [] (eQ (fun v _ _=>v = .tuple #[])):=by
 refine iP.intro (args:=[.int .i64 y]) Tryz.func30 rfl rfl Tryz.ntmps30 rfl rfl rfl fun G rest=>?_;refine zS ?_;refine zM rfl ?_;refine zJ rfl ?_;refine zN ?_;refine gD rfl (aI (fun h=>h hy)) ?_;refine eF ?_;refine ⟨rfl,_,[],rfl,zA,eQ.mk ?_⟩;rfl
theorem aPs (y : Int) (hy : y ≠ 0) (H : Hp) : iP Tryz.prog 30 #[.int .i64 y] H [] (aFq [{ v:=.iface 27 (.int .i64 y),recovered:=false }]):=by
 refine iP.intro (args:=[.int .i64 y]) Tryz.func30 rfl rfl Tryz.ntmps30 rfl rfl rfl fun G rest=>?_;refine zS ?_;refine zM rfl ?_;refine zJ rfl ?_;refine zN ?_;refine jB rfl (bG hy) ?_;refine dL ?_;refine zM rfl ?_;refine uC rfl pU (by intro _ h;cases h) rfl ?_;refine aLc rfl ?_;refine ⟨rfl,[],zA,aFq.mk⟩
theorem aNg (a : Option Addr) (c : Nat) (m : Tb) (H : Hp) (hs : SlR tbR H a c m) (hl : m.length < 9223372036854775808) : iP Tryz.prog 33 #[.slice a m.length c] H [] (eQ (fun v _ _=>v = .int .i64 (lA m : Nat))):=by
 refine iP.intro (args:=[.slice a m.length c]) Tryz.func33 rfl rfl Tryz.ntmps33 rfl rfl rfl fun G rest=>?_;refine zS ?_;refine zG rfl ?_;refine zN ?_;refine cO ?_;refine zS ?_;refine zM rfl ?_;refine eD (ts:=#[]) rfl gP rfl ?_;refine zZ rfl ?_;refine zN ?_;refine fC rfl (fun nY=>?_) (fun nY=>?_)
 ·refine zS (zG rfl (zN (eP (fD ?_))));refine ⟨rfl,_,[],rfl,zA,eQ.mk ?_⟩;exact congrArg (Value.int .i64) (by rw [wide_nil zO];rfl)
 refine eF (bO (zS (zM rfl (eV (i:=0) rfl hs rfl gP qL zO rfl ?_))));rintro eb7 eo7 _ x7 hx7 ⟨ax7,cx7,rfl,hd7⟩ hp7;refine eH rfl (by assumption) qL rfl rfl rfl (eD (ts:=#[]) rfl iZ rfl (zG rfl (zN (eP ?_))));refine ⟨rfl,_,[],rfl,zA,eQ.mk ?_⟩;exact congrArg (Value.int .i64) (by rw [wide_cons hx7])
theorem long_fn (x : List Bool) (a1 : Option Addr) (c1 : Nat) (H : Hp) : iP Tryz.prog 71 #[.slice a1 x.length c1] H [] (eQ (fun v _ _=>v = .bool (decide ((16 : Int) < x.length)))):=by
 refine iP.intro (args:=[.slice a1 x.length c1]) Tryz.func71 rfl rfl Tryz.ntmps71 rfl rfl rfl fun G rest=>?_;refine zS ?_;refine zG rfl ?_;refine zN ?_;refine zS ?_;refine zM rfl ?_;refine eD (ts:=#[]) rfl iZ rfl ?_;refine zY rfl ?_;refine zG rfl ?_;refine zN ?_;refine eP ?_;refine ⟨rfl,_,[],rfl,zA,eQ.mk ?_⟩;rfl
theorem long_v (x : List Bool) (a1 : Option Addr) (c1 : Nat) (H : Hp) : wH Tryz.prog (.func (.func 71) #[] #[]) [.slice a1 x.length c1] H [] (eQ fun u _ _=>∃ b : Bool,u = .bool b ∧ (b = true ↔ 16 < x.length)):=by
 refine (wH.of_fn (cap:=[]) (args:=[.slice a1 x.length c1]) (long_fn x a1 c1 H)).mono ?_;intro e _ _ _ h;cases e with
 | returned v=>exact ⟨_,h,by rw [decide_eq_true_iff];omega⟩
 | panicked _=>exact h.elim
 | outgrown=>exact h.elim
theorem odd_fn (x : List Bool) (a1 a : Option Addr) (c1 c b : Nat) (m : Tb) (H : Hp) (hpb : rC H b 0 [.slice a m.length c]) (hs : SlR tbR H a c m) (hl : m.length < 9223372036854775808) : iP Tryz.prog 72 #[.slice a1 x.length c1,.pointer (some ⟨b,0,none⟩)] H [] (eQ (fun v _ _=>v = .bool (decide ((x.length : Int) ≠ (lA m : Nat))))):=by
 refine iP.intro (args:=[.slice a1 x.length c1,.pointer (some ⟨b,0,none⟩)]) Tryz.func72 rfl rfl Tryz.ntmps72 rfl rfl rfl fun G rest=>?_;refine zS ?_;refine zG rfl ?_;refine zN ?_;refine zS ?_;refine zM rfl ?_;refine eD (ts:=#[]) rfl iZ rfl ?_;refine eH rfl (by assumption) aIb rfl rfl rfl ?_;refine fH rfl (aNg _ _ m _ hs hl) rfl ?_;refine zJ rfl ?_;refine zG rfl ?_;refine zN ?_;refine eP ?_;refine ⟨rfl,_,[],rfl,zA,eQ.mk ?_⟩;rfl
theorem odd_v (x : List Bool) (a1 a : Option Addr) (c1 c b : Nat) (m : Tb) (H : Hp) (hpb : rC H b 0 [.slice a m.length c]) (hs : SlR tbR H a c m) (hl : m.length < 9223372036854775808) :
  wH Tryz.prog (.func (.func 72) #[] #[.pointer (some ⟨b,0,none⟩)]) [.slice a1 x.length c1] H [] (eQ fun u _ _=>∃ b : Bool,u = .bool b ∧ (b = true ↔ x.length ≠ lA m)):=by
 refine (wH.of_fn (cap:=[.pointer (some ⟨b,0,none⟩)]) (args:=[.slice a1 x.length c1]) (odd_fn x a1 a c1 c b m H hpb hs hl)).mono ?_;intro e _ _ _ h;cases e with
 | returned v=>exact ⟨_,h,by rw [decide_eq_true_iff];omega⟩
 | panicked _=>exact h.elim
 | outgrown=>exact h.elim
theorem index_fn (a : Option Addr) (c : Nat) (l : Tb) (g : Value) (q : List Bool → Prop) (H : Hp) (hs : SlR tbR H a c l) (hl : l.length < 9223372036854775808) (hg : ∀ x ∈ l,∀ a1 c1,wH Tryz.prog g [.slice a1 x.length c1] H [] (eQ fun u _ _=>∃ b : Bool,u = .bool b ∧ (b = true ↔ q x))) : iP Tryz.prog 105 #[.slice a l.length c,g] H [] (eQ (fun v _ _=>∃ i : Int,v = .int .i64 i ∧ (0 ≤ i ↔ ∃ x ∈ l,q x))):=by
 refine iP.intro (args:=[.slice a l.length c,g]) Tryz.func105 rfl rfl Tryz.ntmps105 rfl rfl rfl fun G rest=>?_;refine zS ?_;refine zG rfl ?_;refine zN ?_;refine cO ?_;refine zS ?_;refine zM rfl ?_;refine eD (ts:=#[]) rfl gP rfl ?_;refine zM rfl ?_;refine zN ?_;refine dK ?_;refine eU [8,0,1,7] rfl ?_;refine gO (base:=[(0,_),(1,_),(7,_)]) (fun ζ : Nat=>[(8,.int .i64 (ζ : Nat))]) (fun ζ Hl own=>ζ ≤ l.length ∧ rest = own ∧ (∀ x ∈ l.take ζ,¬ q x) ∧ (H = Hl)) (fun ζ=>l.length - ζ) 0 (zC) zB ⟨eS _,rfl,by simp,rfl⟩ ?_;rintro k Hl0 _ gB ⟨hkk,rfl,hno,hHl⟩;replace hs:=hs.mono gB;try dsimp only at ⊢
 subst hHl;refine zS (zL rfl (zN (cO (fC rfl (fun nY=>?_) (fun nY=>?_)))))
 ·refine eF (bO (cO (dK (zS (zM rfl (zG rfl (zN (zS (zM rfl (zM rfl (zM rfl (eV rfl hs rfl gP qL zO rfl ?_))))))))))));rintro eb14 eo14 _ x14 hx14 ⟨ax14,cx14,rfl,hd14⟩ nG;refine eH rfl (by assumption) qL rfl rfl rfl (sZ rfl trivial rfl (hg x14 (cF hx14) _ _) rfl ?_);rintro _ ⟨bq,rfl,hqq⟩;refine zN (mN rfl (fun aCc=>?_) (fun aCc=>?_))
  ·refine zS (zM rfl (zG rfl (zN (eP (iS (fD (jR (iS (fD ?_)))))))));refine ⟨rfl,_,[],rfl,zA,eQ.mk ?_⟩;exact ⟨_,rfl,⟨fun _=>⟨x14,cF hx14,hqq.1 (by assumption)⟩,fun _=>zO⟩⟩
  refine eF (fY (bO (dL (fR rfl rfl (dT zO zO) rfl (zM rfl (bF (eW (k + 1) (by show l.length - (k + 1) < l.length - k;omega) (zC) (⟨by show k + 1 ≤ l.length;omega,rfl,aGo hno hx14 (fun h=>by simp_all),rfl⟩) zB (gB))))))))
 obtain rfl : k = l.length:=zO
 rw [gF] at hno;refine gI (fE (eY (fU rfl (bO (zS (zG rfl (zN (eP ?_))))))));refine ⟨rfl,_,[],rfl,zA,eQ.mk ?_⟩;exact ⟨-1,rfl,⟨fun h=>absurd h zD,fun ⟨x,hx,hq⟩=>absurd hq (hno x hx)⟩⟩
theorem aIf (a : Option Addr) (c : Nat) (l : Tb) (g : Value) (q : List Bool → Prop) (H : Hp) (hs : SlR tbR H a c l) (hl : l.length < 9223372036854775808) (hg : ∀ x ∈ l,∀ a1 c1,wH Tryz.prog g [.slice a1 x.length c1] H [] (eQ fun u _ _=>∃ b : Bool,u = .bool b ∧ (b = true ↔ q x))) : iP Tryz.prog 73 #[.slice a l.length c,g] H [] (eQ (fun v _ _=>∃ b : Bool,v = .bool b ∧ (b = true ↔ ∃ x ∈ l,q x))):=by
 refine iP.intro (args:=[.slice a l.length c,g]) Tryz.func73 rfl rfl Tryz.ntmps73 rfl rfl rfl fun G rest=>?_;refine zS ?_;refine zG rfl ?_;refine zN ?_;refine zS ?_;refine zM rfl ?_;refine zM rfl ?_;refine kO rfl (index_fn _ _ _ _ _ _ hs hl hg) rfl ?_;rintro _ ⟨iX,rfl,hX⟩;refine yB rfl ?_;refine zG rfl ?_;refine zN ?_;refine eP ?_;refine ⟨rfl,_,[],rfl,zA,eQ.mk ?_⟩;exact ⟨_,rfl,by rw [decide_eq_true_iff,← hX]⟩
theorem aQf (a : Option Addr) (c : Nat) (m : Tb) (H : Hp) (hs : SlR tbR H a c m) (hl : m.length < 9223372036854775808) : iP Tryz.prog 31 #[.slice a m.length c] H [] (eQ (fun v _ _=>v = .int .i64 (qV m))):=by
 refine iP.intro (args:=[.slice a m.length c]) Tryz.func31 rfl rfl Tryz.ntmps31 rfl rfl rfl fun G rest=>?_;refine zS ?_;refine iW rfl rfl rfl (fun b1=>?_);refine zG rfl ?_;refine zN ?_;refine zS ?_;refine zG rfl ?_;refine zN ?_;refine zS ?_;refine fT 0 rfl rfl rfl (fun HK1 oK1 hleK1 hbK1 hoK1=>?_);have hpK1:=rC.of_is hbK1 hoK1;replace hs:=hs.mono hleK1;refine mA rfl rfl ?_;refine zG rfl ?_;refine zN ?_;refine cO ?_;refine dK ?_;refine zS ?_;refine eH rfl (by assumption) aIb rfl rfl rfl ?_;refine eD (ts:=#[]) rfl gP rfl ?_;refine zY rfl ?_;refine zM rfl ?_;refine iM rfl rfl rfl rfl (fun g1=>?_) (fun g1=>?_)
 ·have g1p:=fM g1;refine eH rfl (by assumption) aIb rfl rfl rfl (zT rfl g1 (zM rfl (zT rfl g1 (kO rfl (aIf _ _ m _ (fun x=>16 < x.length) _ hs hl (fun x _ a1 c1=>long_v x a1 c1 _)) rfl ?_))));rintro _ ⟨bC,rfl,hC⟩;refine zW g1 rfl (zG rfl (zN (mN rfl (fun c0_3=>?_) (fun c0_3=>?_))))
  ·refine zS (zG rfl (zN (eP (iS (fD ?_)))));refine ⟨rfl,_,[],rfl,zA,eQ.mk ?_⟩;exact congrArg (Value.int .i64) (aW1 (Or.inr (hC.1 (by assumption)))).symm
  refine zS (eH rfl (by assumption) aIb rfl rfl rfl (zM rfl (kO rfl (aIf _ _ m _ (fun x=>x.length ≠ lA m) _ hs hl (fun x _ a1 c1=>odd_v x a1 _ c1 _ _ m _ (by assumption) hs hl)) rfl ?_)));rintro _ ⟨bD,rfl,hD⟩;refine zG rfl (zN (mN rfl (fun aDq=>?_) (fun aDq=>?_)))
  ·refine zS (zG rfl (zN (eP (iS (fD ?_)))));refine ⟨rfl,_,[],rfl,zA,eQ.mk ?_⟩;exact congrArg (Value.int .i64) (chk_370 (fun h=>by rcases h with h | h;omega;simp_all) (hD.1 (by assumption))).symm
  refine eF (fY (bO (zS (zG rfl (zN (eP ?_))))));refine ⟨rfl,_,[],rfl,zA,eQ.mk ?_⟩;exact congrArg (Value.int .i64) (chk_0 (fun h=>by rcases h with h | h;omega;simp_all) (fun h=>by simp_all)).symm
 have g1p:=eT g1;refine zU rfl g1 (zU rfl g1 (zV g1 rfl (zG rfl (zN (jB rfl rfl (zS (zG rfl (zN (eP (iS (fD ?_)))))))))));refine ⟨rfl,_,[],rfl,zA,eQ.mk ?_⟩;exact congrArg (Value.int .i64) (aW1 (Or.inl zO)).symm
end Go.Proofs

namespace Go.Proofs
open Go.XL
end Go.Proofs

namespace Go.XL
theorem aPf : ∀ {xs : List Value} {o : Nat} {v : Value},xs[o]? = some v → aIo xs o 1 = some [v]
 | [],o,v,h=>by cases h
 | x :: xs,0,v,h=>by simp at h;subst h;cases xs <;> rfl
 | x :: xs,o + 1,v,h=>by
  have:=aPf (xs:=xs) (o:=o) (v:=v) (by simpa using h);cases xs with
  | nil=>simp at h
  | cons y r=>simpa [aIo] using this
theorem aPm : ∀ {xs : List Value} {o : Nat} {v : Value},o < xs.length → aG2 xs o [v] = some (xs.set o v)
 | [],o,v,h=>by simp at h
 | x :: xs,0,v,h=>by cases xs <;> rfl
 | x :: xs,o + 1,v,h=>by
  have:=aPm (xs:=xs) (o:=o) (v:=v) (by simpa using h);simp [aG2,this]
section
variable {C : Ctx} {ops : Array Oper} {Q : Exit → St → Prop} {rest : List Oper} {env : gY} {df : List Deferred} {H : Hp} {own : Own} {dst : Option Tmp} {ty : TypeId} {pos : String} {af : Array Edge}
theorem xP (i : Nat) {t T : TypeId} {x : Operand} {b o : Nat} {cs : List Value} {v : Value} (hx : ev env x = some (.pointer (some ⟨b,o,none⟩))) (ho : Own.at own i = some (b,.cells T cs))
  (ht : tP C.P t 1 false = true) (hl : cs[o]? = some v) (hd : iU C.N dst = true) (h : XO C ops Q rest ⟨jI dst v env,df,H,own⟩) :
  XO C ops Q (⟨dst,.load t x,ty,pos,af,none⟩ :: rest) ⟨env,df,H,own⟩:=bT i hx ho ht (aPf hl) rfl hd h
theorem aD1 (i : Nat) {t T : TypeId} {x y : Operand} {b o : Nat} {cs cs' : List Value} {own' : Own} {v : Value} (hx : ev env x = some (.pointer (some ⟨b,o,none⟩))) (hy : ev env y = some v)
  (ho : Own.at own i = some (b,.cells T cs)) (hv : aFn v = some [v]) (ht : tP C.P t 1 false = true) (h1 : vI [v] = true) (hl : o < cs.length) (hs : cs.set o v = cs') (hp : Own.put own i (.cells T cs') = some own') (hd : iU C.N dst = true)
  (h : XO C ops Q rest ⟨jI dst undef env,df,H,own'⟩) : XO C ops Q (⟨dst,.store t x y,ty,pos,af,none⟩ :: rest) ⟨env,df,H,own⟩ :=
 eG i hx hy ho hv ht rfl h1 (by rw [aPm hl,hs]) hp hd h
end
end Go.XL
namespace Go.Proofs
open Go.XL
def frC (up : Nat → Nat) (p : Int) : List Value:=(List.range 80).map (fun i=>Value.int .i64 (up i : Nat)) ++ [.int .i64 p]
def upd (up : Nat → Nat) (k v : Nat) : Nat → Nat:=fun x=>if x = k then v else up x
theorem aHl (up : Nat → Nat) (p : Int) : (frC up p).length = 81:=by simp [frC]
theorem aHq {up : Nat → Nat} {p : Int} {k : Nat} (h : k < 80) : (frC up p)[k]? = some (.int .i64 (up k : Nat)):=by
 simp [frC,List.getElem?_append,h]
theorem aQl {up : Nat → Nat} {p : Int} : (frC up p)[80]? = some (.int .i64 p):=by
 simp [frC,List.getElem?_append]
theorem fr_set {up : Nat → Nat} {p : Int} {k v : Nat} (h : k < 80) : (frC up p).set k (.int .i64 (v : Nat)) = frC (upd up k v) p:=by
 apply iC;intro i;rw [iR];by_cases hik : k = i
 ·subst hik;rw [eX rfl,eX (by rw [aHl];omega),aHq h];simp [upd]
 rw [dG hik];rcases gJ i 80 with h2 | h2
 ·rw [aHq h2,aHq h2];simp [upd,Ne.symm hik]
 simp [frC,List.getElem?_append,Nat.not_lt.2 h2]
theorem fr_setp {up : Nat → Nat} {p q : Int} : (frC up p).set 80 (.int .i64 q) = frC up q:=by
 apply iC;intro i;rw [iR];by_cases hik : 80 = i
 ·subst hik;rw [eX rfl,eX (by rw [aHl];omega),aQl]
 rw [dG hik];rcases gJ i 80 with h2 | h2
 ·rw [aHq h2,aHq h2]
 rw [dJ (by rw [aHl];omega),dJ (by rw [aHl];omega)]
structure FI (N : Nat) (up Pl d : Nat → Nat) : Prop where
 lt : ∀ x,x < N → up x < N
 lab : ∀ x,x < N → Pl (up x) = Pl x
 top : ∀ x,x < N → up x = x → Pl x = x
 dec : ∀ x,x < N → up x ≠ x → d (up x) < d x
theorem FI.root {N : Nat} {up Pl d : Nat → Nat} (h : FI N up Pl d) : ∀ (k x : Nat),d x ≤ k → x < N → Pl x < N ∧ up (Pl x) = Pl x ∧ Pl (Pl x) = Pl x:=by
 intro k
 induction k with
 | zero =>
  intro x hk hx;have he : up x = x:=Decidable.by_contra fun hn=>by have:=h.dec x hx hn;omega
  have:=h.top x hx he;rw [this];exact ⟨hx,he,this⟩
 | succ k ih =>
  intro x hk hx;by_cases he : up x = x
  ·have:=h.top x hx he;rw [this];exact ⟨hx,he,this⟩
  have h1:=h.dec x hx he;have h2:=ih (up x) zO (h.lt x hx);rwa [h.lab x hx] at h2
theorem FI.halve {N : Nat} {up Pl d : Nat → Nat} (h : FI N up Pl d) {x : Nat} (hx : x < N) (hne : up x ≠ x) : FI N (upd up x (up (up x))) Pl d ∧ d (up (up x)) < d x:=by
 have hu:=h.lt x hx;have h1:=h.dec x hx hne
 have hd : d (up (up x)) < d x:=by
  by_cases he : up (up x) = up x
  ·rw [he];exact h1
  exact Nat.lt_trans (h.dec _ hu he) h1
 refine ⟨⟨?_,?_,?_,?_⟩,hd⟩
 ·intro y hy;unfold upd;split
  ·exact h.lt _ hu
  exact h.lt y hy
 ·intro y hy;unfold upd;split
  ·rename_i e;subst e;rw [h.lab _ hu,h.lab _ hx]
  exact h.lab y hy
 ·intro y hy;unfold upd;split
  ·rename_i e;subst e;intro he;rw [he] at hd;omega
  exact h.top y hy
 intro y hy;unfold upd;split
 ·rename_i e;subst e;intro _;exact hd
 exact h.dec y hy
def ren (Pl : Nat → Nat) (b a : Nat) : Nat → Nat:=fun x=>if Pl x = b then a else Pl x
theorem FI.join {N : Nat} {up Pl d : Nat → Nat} (h : FI N up Pl d) {a b : Nat} (ha : a < N) (hb : b < N) (hne : Pl a ≠ Pl b) :
  FI N (upd up (Pl b) (Pl a)) (ren Pl (Pl b) (Pl a)) (fun x=>if Pl x = Pl b then d x + d (Pl a) + 1 else d x):=by
 obtain ⟨a1,a2,a3⟩:=h.root _ a (gT _) ha;obtain ⟨b1,b2,b3⟩:=h.root _ b (gT _) hb;refine ⟨?_,?_,?_,?_⟩
 ·intro y hy;unfold upd;split
  ·exact a1
  exact h.lt y hy
 ·intro y hy;unfold upd ren;split
  ·rename_i e;subst e;rw [a3,b3,dG hne,eX rfl]
  rw [h.lab y hy]
 ·intro y hy;unfold upd ren;split
  ·rename_i e;subst e;intro he;rw [b3,eX rfl];exact he
  rename_i e
  intro he;have:=h.top y hy he;rw [this,dG e]
 intro y hy;unfold upd;split
 ·rename_i e;subst e;intro _;rw [a3,dG hne,eX b3];omega
 intro he;rw [h.lab y hy];have:=h.dec y hy he;split <;> omega
theorem aKc {up : Nat → Nat} {k v : Nat} : upd up k v k = v:=eX rfl
theorem aTd {up : Nat → Nat} {p : Int} {k : Nat} (h : k < 80) : (frC up p)[0 + 0 + ((k : Nat) : Int).toNat * 1]? = some (.int .i64 (up k : Nat)):=by
 simpa using aHq h
theorem aRa {up : Nat → Nat} {p : Int} {k v : Nat} (h : k < 80) : (frC up p).set (0 + 0 + ((k : Nat) : Int).toNat * 1) (.int .i64 (v : Nat)) = frC (upd up k v) p:=by
 simpa using fr_set h
theorem aUf {up : Nat → Nat} {p : Int} {k : Nat} (h : k < 80) : 0 + 0 + ((k : Nat) : Int).toNat * 1 < (frC up p).length:=by
 rw [aHl];simp;omega
def jnP (Pl : Nat → Nat) (a b : Nat) : Nat → Nat:=if Pl a = Pl b then Pl else ren Pl (Pl b) (Pl a)
theorem aHr {up : Nat → Nat} {p : Int} : (frC up p)[0 + 80]? = some (.int .i64 p):=aQl
theorem fr_setp0 {up : Nat → Nat} {p q : Int} : (frC up p).set (0 + 80) (.int .i64 q) = frC up q:=fr_setp
end Go.Proofs

namespace Go.Proofs
open Go.XL
theorem aB9 : qF Tryz.prog 84 0 = some 0:=zK
theorem aI7 : qF Tryz.prog 84 1 = some 80:=zK
theorem gK : tP Tryz.prog 3 1 false = true:=zK
theorem aSf (bf N : Nat) (up Pl d : Nat → Nat) (p : Int) (H : Hp) (hF : FI N up Pl d) (hN : N ≤ 80) (x : Nat) (hx : x < N) : iP Tryz.prog 107 #[.pointer (some ⟨bf,0,none⟩),.int .i64 (x : Nat)] H [(bf,.cells 84 (frC up p))] (eQ (fun v _ own=>∃ up',v = .int .i64 (Pl x : Nat) ∧ FI N up' Pl d ∧ own = [(bf,.cells 84 (frC up' p))])):=by
 refine iP.intro (args:=[.pointer (some ⟨bf,0,none⟩),.int .i64 (x : Nat)]) Tryz.func107 rfl rfl Tryz.ntmps107 rfl rfl rfl fun G rest=>?_;refine zS ?_;refine zG rfl ?_;refine zN ?_;refine cO ?_;refine dK ?_;refine eU [1,0] rfl ?_;refine gO (base:=[(0,_)]) (fun ζ : Nat × (Nat → Nat)=>[(1,.int .i64 (ζ.1 : Nat))]) (fun ζ Hl own=>(bf,.cells 84 (frC ζ.2 p)) :: rest = own ∧ (FI N ζ.2 Pl d) ∧ (ζ.1 < N) ∧ (Pl (ζ.1) = Pl x)) (fun ζ=>d (ζ.1)) (x,up) (zC) zB ⟨rfl,hF,hx,rfl⟩ ?_;rintro ⟨y,u⟩ Hl0 _ gB ⟨rfl,hF,hy,hP⟩;try dsimp only at hF hy hP ⊢
 refine cO (zS (zM rfl (zM rfl (iB rfl rfl (bJ rfl aB9 rfl (lO rfl rfl oM gK zF zF rfl (xP 0 rfl rfl gK (aTd zO) rfl (zM rfl (zJ rfl (zN (fC rfl (fun qK=>?_) (fun qK=>?_))))))))))))
 ·have hne : u y ≠ y:=zO
  have hu:=hF.lt y hy;have huu:=hF.lt _ hu;refine eF (bO (dK (cO (eU [0,1] rfl ?_))));apply pI 15 [gC _,gC _,gC _,gC _,gC _,gC _,gC _,gC _,gC _,gC _,gC _,gC _,gC _,gC _,gC _] follows zK zK ⟨aH _,aH _,aH _,aH _,aH _,aH _,aH _,aH _,aH _,aH _,aH _,aH _,aH _,aH _,aH _,trivial⟩ ?steps3 ?tail3
  case steps3 =>
   refine dF rfl ?_ ?_
   ·intro X;exact aF rfl (zM rfl zQ)
   refine dF rfl ?_ ?_
   ·intro X;exact aF rfl (zM rfl zQ)
   refine dF rfl ?_ ?_
   ·intro X;exact aF rfl (zM rfl zQ)
   refine dF rfl ?_ ?_
   ·intro X;exact aF rfl (zM rfl zQ)
   refine dF rfl ?_ ?_
   ·intro X;exact aF rfl (zM rfl zQ)
   refine dF rfl ?_ ?_
   ·intro X;exact gL rfl (aF rfl (iB rfl rfl zQ))
   refine dF rfl ?_ ?_
   ·intro X;exact gL rfl (aF rfl (bJ rfl aB9 rfl zQ))
   refine dF rfl ?_ ?_
   ·intro X;exact gL rfl (gL rfl (aF rfl (lO rfl rfl oM gK zF zF rfl zQ)))
   refine dF rfl ?_ ?_
   ·intro X;exact gL rfl (aF rfl (xP 0 rfl rfl gK (aTd zO) rfl zQ))
   refine dF rfl ?_ ?_
   ·intro X;exact gL rfl (aF rfl (iB rfl rfl zQ))
   refine dF rfl ?_ ?_
   ·intro X;exact gL rfl (aF rfl (bJ rfl aB9 rfl zQ))
   refine dF rfl ?_ ?_
   ·intro X;exact gL rfl (gL rfl (aF rfl (lO rfl rfl oM gK zF zF rfl zQ)))
   refine dF rfl ?_ ?_
   ·intro X;exact gL rfl (aF rfl (xP 0 rfl rfl gK (aTd zO) rfl zQ))
   refine dF rfl ?_ ?_
   ·intro X;exact gL rfl (aF rfl (iB rfl rfl zQ))
   refine dF rfl ?_ ?_
   ·intro X;exact gL rfl (aF rfl (bJ rfl aB9 rfl zQ))
   exact jH rfl
  case tail3 =>
   refine gL rfl (gL rfl (gL rfl (gL rfl (gL rfl (gL rfl (gL rfl (gL rfl (gL rfl (gL rfl (gL rfl (gL rfl (gL rfl (gL rfl (gL rfl (aF rfl (lO rfl rfl oM gK zF zF rfl (aD1 0 rfl rfl rfl rfl gK rfl (aUf zO) (aRa zO) rfl rfl (zN (dL (zM rfl (zM rfl (iB rfl rfl (bJ rfl aB9 rfl (lO rfl rfl oM gK zF zF rfl (xP 0 rfl rfl gK (aTd zO) rfl (zG rfl (bF (fY (eW ((upd u y (u (u y)) y,upd u y (u (u y)))) (by show d (upd u y (u (u y)) y) < d y;rw [aKc];exact (hF.halve hy hne).2) (zC) (⟨rfl,(hF.halve hy hne).1,by show upd u y (u (u y)) y < N;rw [aKc];exact huu,by show Pl (upd u y (u (u y)) y) = _;rw [aKc,hF.lab _ hu,hF.lab _ hy,hP]⟩) zB (gB))))))))))))))))))))))))))))))
 have he : u y = y:=zO
 refine gI (fE (eY (fU rfl (bO (zS (zM rfl (zG rfl (zN (eP ?_)))))))));refine ⟨rfl,_,[(bf,.cells 84 (frC u p))],rfl,zA,eQ.mk ?_⟩;exact ⟨u,by rw [← hP,hF.top y hy he];rfl,hF,rfl⟩
theorem join_fn (bf N : Nat) (up Pl d : Nat → Nat) (p : Int) (H : Hp) (hF : FI N up Pl d) (hN : N ≤ 80) (x y : Nat) (hx : x < N) (hy : y < N) (hp : -2000 ≤ p ∧ p ≤ 2000) : iP Tryz.prog 77 #[.pointer (some ⟨bf,0,none⟩),.int .i64 (x : Nat),.int .i64 (y : Nat)] H [(bf,.cells 84 (frC up p))] (eQ (fun v _ own=>v = .bool (decide (Pl x ≠ Pl y)) ∧ ∃ up' d',FI N up' (jnP Pl x y) d' ∧ own = [(bf,.cells 84 (frC up' (if Pl x = Pl y then p else p - 1)))])):=by
 refine iP.intro (args:=[.pointer (some ⟨bf,0,none⟩),.int .i64 (x : Nat),.int .i64 (y : Nat)]) Tryz.func77 rfl rfl Tryz.ntmps77 rfl rfl rfl fun G rest=>?_;refine zS ?_;refine zG rfl ?_;refine zN ?_;refine zS ?_;refine zM rfl ?_;refine zM rfl ?_;refine wL 0 rfl (aSf bf N up Pl d p _ hF hN x hx) rfl rfl ?_;rintro _ HR9 _ hleR9 ⟨u9,rfl,hF9,rfl⟩;refine ⟨_,rfl,?_⟩;refine zM rfl ?_;refine zM rfl ?_;refine wL 0 rfl (aSf bf N u9 Pl d p _ hF9 hN y hy) rfl rfl ?_;rintro _ HR12 _ hleR12 ⟨u12,rfl,hF12,rfl⟩;refine ⟨_,rfl,?_⟩;refine zG rfl ?_;refine zG rfl ?_;refine zN ?_;refine cO ?_;refine zS ?_;refine zM rfl ?_;refine zM rfl ?_;refine zZ rfl ?_;refine zN ?_;refine fC rfl (fun c0_3=>?_) (fun c0_3=>?_)
 ·refine zS (zG rfl (zN (eP (fD ?_))));refine ⟨rfl,_,[_],rfl,zA,eQ.mk ?_⟩;have he : Pl x = Pl y:=zO
  exact ⟨congrArg Value.bool (aI (fun h=>h he)).symm,u12,d,by rw [jnP,eX he];exact hF12,by rw [eX he]⟩
 refine eF (bO (zS ?_));obtain ⟨r1,r2,r3⟩:=hF12.root _ x (gT _) hx;obtain ⟨s1,s2,s3⟩:=hF12.root _ y (gT _) hy;have hne : Pl x ≠ Pl y:=zO
 refine zM rfl (zM rfl (zM rfl (iB rfl rfl (bJ rfl aB9 rfl (lO rfl rfl oM gK zF zF rfl (aD1 0 rfl rfl rfl rfl gK rfl (aUf zO) (aRa zO) rfl rfl (zN (zS (zM rfl (iB rfl rfl (bJ rfl aI7 rfl (xP 0 rfl rfl gK aHr rfl (lK rfl rfl (dT zO zO) rfl (iB rfl rfl (bJ rfl aI7 rfl (aD1 0 rfl rfl rfl rfl gK rfl (by rw [aHl];decide) fr_setp0 rfl rfl (zN (zS (zG rfl (zN (eP ?_)))))))))))))))))))));refine ⟨rfl,_,[_],rfl,zA,eQ.mk ?_⟩;exact ⟨congrArg Value.bool (bG hne).symm,_,_,by rw [jnP,dG hne];exact hF12.join hx hy hne,by rw [dG hne]⟩
theorem indexO_fn (po : Nat × SObj) (a : Option Addr) (c : Nat) (l : List Int) (x : Int) (H : Hp) (hacc : Acc (gV .i64) 3 H po a c l) (hl : l.length < 9223372036854775808) : iP Tryz.prog 106 #[.slice a l.length c,.int .i64 x] H [po] (eQ (fun v _ own=>own = [po] ∧ ∃ i : Int,v = .int .i64 i ∧ (0 ≤ i ↔ x ∈ l))):=by
 refine iP.intro (args:=[.slice a l.length c,.int .i64 x]) Tryz.func106 rfl rfl Tryz.ntmps106 rfl rfl rfl fun G rest=>?_;refine zS ?_;refine zG rfl ?_;refine zN ?_;refine cO ?_;refine zS ?_;refine zM rfl ?_;refine eD (ts:=#[]) rfl bK rfl ?_;refine zM rfl ?_;refine zN ?_;refine dK ?_;refine eU [8,0,1,7] rfl ?_;refine gO (base:=[(0,_),(1,_),(7,_)]) (fun ζ : Nat=>[(8,.int .i64 (ζ : Nat))]) (fun ζ Hl own=>ζ ≤ l.length ∧ po :: rest = own ∧ (Acc (gV .i64) 3 Hl po a c l) ∧ (∀ y ∈ l.take ζ,¬ (y = x))) (fun ζ=>l.length - ζ) 0 (zC) zB ⟨eS _,rfl,hacc,by simp⟩ ?_;rintro k Hl0 _ gB ⟨hkk,rfl,hacc,hno⟩;try dsimp only at ⊢
 refine zS (zL rfl (zN (cO (fC rfl (fun nY=>?_) (fun nY=>?_)))))
 ·refine eF (bO (cO (dK (zS (zM rfl (zG rfl (zN (zS (zM rfl (zM rfl (zM rfl ?_)))))))))));have haddr:=hacc.addr zO;subst haddr;obtain ⟨xk,hxk⟩ : ∃ y,l[k]? = some y:=⟨_,aJ zO⟩
  refine fK rfl rfl bK gK zO zO rfl (lY 0 rfl rfl hacc (hxk) gK rfl (fun cs3 v3 hR3 hv3=>?_) (fun cs3 hR3=>⟨_,by cases hR3;rfl⟩));cases hR3;cases hv3;refine zZ rfl (zN (fC rfl (fun aCc=>?_) (fun aCc=>?_)))
  ·refine zS (zM rfl (zG rfl (zN (eP (iS (fD (jR (iS (fD ?_)))))))));refine ⟨rfl,_,[_],rfl,zA,eQ.mk ?_⟩;exact ⟨rfl,_,rfl,fun _=>(show xk = x by omega) ▸ cF hxk,fun _=>zO⟩
  refine eF (fY (bO (dL (fR rfl rfl (dT zO zO) rfl (zM rfl (bF (eW (k + 1) (by show l.length - (k + 1) < l.length - k;omega) (zC) (⟨by show k + 1 ≤ l.length;omega,rfl,by assumption,aGo hno hxk zO⟩) zB (gB))))))))
 obtain rfl : k = l.length:=zO
 rw [gF] at hno;refine gI (fE (eY (fU rfl (bO (zS (zG rfl (zN (eP ?_))))))));refine ⟨rfl,_,[_],rfl,zA,eQ.mk ?_⟩;exact ⟨rfl,-1,rfl,fun h=>absurd h zD,fun h=>absurd rfl (hno x h)⟩
theorem containsO_fn (po : Nat × SObj) (a : Option Addr) (c : Nat) (l : List Int) (x : Int) (H : Hp) (hacc : Acc (gV .i64) 3 H po a c l) (hl : l.length < 9223372036854775808) : iP Tryz.prog 76 #[.slice a l.length c,.int .i64 x] H [po] (eQ (fun v _ own=>own = [po] ∧ v = .bool (decide (x ∈ l)))):=by
 refine iP.intro (args:=[.slice a l.length c,.int .i64 x]) Tryz.func76 rfl rfl Tryz.ntmps76 rfl rfl rfl fun G rest=>?_;refine zS ?_;refine zG rfl ?_;refine zN ?_;refine zS ?_;refine zM rfl ?_;refine zM rfl ?_;refine wL 0 rfl (indexO_fn po a c l x _ hacc hl) rfl rfl ?_;rintro _ HR7 _ hleR7 ⟨rfl,i7,rfl,hi7⟩;refine ⟨_,rfl,?_⟩;refine yB rfl ?_;refine zG rfl ?_;refine zN ?_;refine eP ?_;refine ⟨rfl,_,[_],rfl,zA,eQ.mk ?_⟩;exact ⟨rfl,congrArg Value.bool (by rw [decide_eq_decide];exact hi7)⟩
end Go.Proofs

namespace Go.Proofs
open Go.XL
structure GS where
 Pl : Nat → Nat
 p : Int
 l : List (Int × Int)
def stepG (n : Nat) (out : List Int) (i j : Nat) (ok : Bool) (s : GS) : GS :=
 if ok = true ∧ (j : Int) ∉ out ∧ s.Pl i ≠ s.Pl (n + j) then ⟨jnP s.Pl i (n + j),s.p - 1,s.l ++ [((i : Int),(j : Int))]⟩ else s
def zH (n : Nat) (out : List Int) (i : Nat) (row : List Bool) : Nat → GS → GS
 | 0,s=>s
 | k + 1,s=>stepG n out i k (row.getD k false) (zH n out i row k s)
def tZ (m : Tb) (out : List Int) : Nat → GS
 | 0=>⟨fun x=>x,(m.length : Int) + (lA m : Nat) - out.length,[]⟩
 | i + 1=>zH m.length out i (m.getD i []) (m.getD i []).length (tZ m out i)
structure CbS where
 St : List (Int × Int) → Hp → XL.Own → Prop
 mono : ∀ l H H' oc,Le H H' → St l H oc → St l H' oc
def CbS.Holds (S : CbS) (l : List (Int × Int)) (H : Hp) (oc : XL.Own) : Prop:=S.St l H oc
theorem CbS.Holds.mono {S : CbS} {l : List (Int × Int)} {H H' : Hp} {oc : XL.Own} (h : S.Holds l H oc) (hle : Le H H') : S.Holds l H' oc:=S.mono _ _ _ _ hle h
def LeW (H H' : Hp) : Prop:=Le H H'
theorem LeW.mono {H H' H'' : Hp} (h : LeW H H') (hle : Le H' H'') : LeW H H'':=Le.trans h hle
def aXe (P : Program) (S : CbS) (g : Value) (H : Hp) : Prop:=∀ l H' oc (x : Int × Int),LeW H H' → l.length < 4000 → S.Holds l H' oc → wH P g [.agg ⟨[.int .i64 x.1,.int .i64 x.2]⟩] H' oc (eQ fun _ H2 oc2=>S.Holds (l ++ [x]) H2 oc2)
theorem step_off {n : Nat} {out : List Int} {i j : Nat} {s : GS} : stepG n out i j false s = s:=dG (fun h=>by cases h.1)
theorem aGz {n : Nat} {out : List Int} {i j : Nat} {ok : Bool} {s : GS} (h : (j : Int) ∈ out) : stepG n out i j ok s = s:=dG (fun h2=>h2.2.1 h)
theorem aEk {n : Nat} {out : List Int} {i j : Nat} {ok : Bool} {s : GS} (h : s.Pl i = s.Pl (n + j)) : stepG n out i j ok s = s:=dG (fun h2=>h2.2.2 h)
theorem oS {n : Nat} {out : List Int} {i k : Nat} {row : List Bool} {s s2 : GS} {ok : Bool} (hs : s2 = zH n out i row k s) (hx : row[k]? = some ok) : zH n out i row (k + 1) s = stepG n out i k ok s2:=by
 rw [zH,dB,hx,hs];rfl
theorem aKd {m : Tb} {out : List Int} {i : Nat} {row : List Bool} (hx : m[i]? = some row) : tZ m out (i + 1) = zH m.length out i row row.length (tZ m out i):=by
 rw [tZ,dB,hx];rfl
theorem FI.init (N : Nat) {u : Nat → Nat} (h : ∀ x,x < N → u x = x) : FI N u (fun x=>x) (fun _=>0) :=
 ⟨fun x hx=>by rw [h x hx];exact hx,fun x hx=>h x hx,fun _ _ _=>rfl,fun x hx hn=>absurd (h x hx) hn⟩
theorem aF5 {m : Tb} (h : okG m) : lA m ≤ 16:=by
 cases m with
 | nil=>simp [lA]
 | cons r t=>have:=h.2 r zP;simp only [lA,List.headD_cons] at this ⊢;omega
theorem upd_id {u : Nat → Nat} {x : Nat} (h : ∀ y,y < x → u y = y) : ∀ y,y < x + 1 → upd u x x y = y:=by
 intro y hy;unfold upd;split
 ·rename_i e;exact e.symm
 exact h y zO
theorem aUe {n : Nat} {out : List Int} {i : Nat} {row : List Bool} {s : GS} : ∀ k : Nat,s.p - k ≤ (zH n out i row k s).p ∧ (zH n out i row k s).p ≤ s.p
 | 0=>by simp [zH]
 | k + 1=>by
  have:=aUe (n:=n) (out:=out) (i:=i) (row:=row) (s:=s) k;rw [zH,stepG];split
  ·constructor
   ·show s.p - ((k + 1 : Nat) : Int) ≤ (zH n out i row k s).p - 1;omega
   show (zH n out i row k s).p - 1 ≤ s.p;omega
  omega
theorem aWx {m : Tb} {out : List Int} (hok : okG m) : ∀ i : Nat,i ≤ m.length → (m.length : Int) + (lA m : Nat) - out.length - 16 * i ≤ (tZ m out i).p ∧ (tZ m out i).p ≤ (m.length : Int) + (lA m : Nat) - out.length
 | 0,_=>by simp [tZ]
 | i + 1,h=>by
  have ih:=aWx (out:=out) hok i zO;obtain ⟨row,hx⟩ : ∃ row,m[i]? = some row:=⟨_,aJ zO⟩
  have hw:=(hok.2 row (cF hx)).2;rw [aKd hx];have:=aUe (n:=m.length) (out:=out) (i:=i) (row:=row) (s:=tZ m out i) row.length;omega
theorem gs_p {m : Tb} {out : List Int} {i j : Nat} {row : List Bool} (hok : okG m) (hl : out.length ≤ 16) (hx : m[i]? = some row) (hj : j ≤ row.length) :
  -2000 ≤ (zH m.length out i row j (tZ m out i)).p ∧ (zH m.length out i row j (tZ m out i)).p ≤ 2000:=by
 have hi:=(bY.1 hx).1;have h1:=aWx (out:=out) hok i zO;have h2:=aUe (n:=m.length) (out:=out) (i:=i) (row:=row) (s:=tZ m out i) j;have hw:=(hok.2 row (cF hx)).2;have hm:=hok.1;have hwm:=aF5 hok;omega
theorem aEl {n : Nat} {out : List Int} {i j : Nat} {ok : Bool} {s : GS} (h0 : ok = true) (h1 : (j : Int) ∉ out) (h2 : s.Pl i ≠ s.Pl (n + j)) : stepG n out i j ok s = ⟨jnP s.Pl i (n + j),s.p - 1,s.l ++ [((i : Int),(j : Int))]⟩:=eX ⟨h0,h1,h2⟩
theorem aEi {n : Nat} {out : List Int} {i j : Nat} {ok : Bool} {s : GS} (h : ok = !true) : stepG n out i j ok s = s:=by subst h;exact step_off
def aXu : CbS:=⟨fun _ _ oc=>oc = [],fun _ _ _ _ _ h=>h⟩
theorem aU4 {n : Nat} {out : List Int} {i : Nat} {row : List Bool} {s : GS} : ∀ k : Nat,(zH n out i row k s).l.length ≤ s.l.length + k
 | 0=>by simp [zH]
 | k + 1=>by
  have:=aU4 (n:=n) (out:=out) (i:=i) (row:=row) (s:=s) k;rw [zH,stepG];split
  ·simp only [fQ,jL,List.length_nil];omega
  omega
theorem aWr {m : Tb} {out : List Int} (hok : okG m) : ∀ i : Nat,i ≤ m.length → (tZ m out i).l.length ≤ 16 * i
 | 0,_=>by simp [tZ]
 | i + 1,h=>by
  have ih:=aWr (out:=out) hok i zO;obtain ⟨row,hx⟩ : ∃ row,m[i]? = some row:=⟨_,aJ zO⟩
  have hw:=(hok.2 row (cF hx)).2;rw [aKd hx];have:=aU4 (n:=m.length) (out:=out) (i:=i) (row:=row) (s:=tZ m out i) row.length;omega
theorem gs_l {m : Tb} {out : List Int} {i j : Nat} {row : List Bool} (hok : okG m) (hx : m[i]? = some row) (hj : j ≤ row.length) : (zH m.length out i row j (tZ m out i)).l.length < 4000:=by
 have hi:=(bY.1 hx).1;have h1:=aWr (out:=out) hok i zO;have h2:=aU4 (n:=m.length) (out:=out) (i:=i) (row:=row) (s:=tZ m out i) j;have hw:=(hok.2 row (cF hx)).2;have hm:=hok.1;omega
def aXy (bm : Nat) : CbS:=⟨fun l H oc=>∃ pa a c,oc = [pa,(bm,.cells 91 [.slice a l.length c])] ∧ XL.Acc aEz 87 H pa a c l,fun _ _ _ _ hle ⟨pa,a,c,h1,h2⟩=>⟨pa,a,c,h1,h2.mono hle⟩⟩
end Go.Proofs

namespace Go.Proofs
open Go.XL
theorem bf_84 : vS Tryz.prog 84 = some [(0,80),(80,1)]:=zK
theorem bk_84 : vV Tryz.prog 84 = true:=zK
theorem by_87 : Nat.ble (Tryz.prog.bytesOf 87) 4096 = true:=zK
theorem aOw : qF Tryz.prog 91 0 = some 0:=zK
theorem oA : tP Tryz.prog 4 1 false = true:=zK
theorem aVe : tP Tryz.prog 40 1 false = true:=zK
theorem aF2 : tP Tryz.prog 87 2 true = true:=zK
theorem ze_84 : nB Tryz.prog 84 = some [.int .i64 0,.int .i64 0,.int .i64 0,.int .i64 0,.int .i64 0,.int .i64 0,.int .i64 0,.int .i64 0,.int .i64 0,.int .i64 0,.int .i64 0,.int .i64 0,.int .i64 0,.int .i64 0,.int .i64 0,.int .i64 0,.int .i64 0,.int .i64 0,.int .i64 0,.int .i64 0,.int .i64 0,.int .i64 0,.int .i64 0,.int .i64 0,.int .i64 0,.int .i64 0,.int .i64 0,.int .i64 0,.int .i64 0,.int .i64 0,.int .i64 0,.int .i64 0,.int .i64 0,.int .i64 0,.int .i64 0,.int .i64 0,.int .i64 0,.int .i64 0,.int .i64 0,.int .i64 0,.int .i64 0,.int .i64 0,.int .i64 0,.int .i64 0,.int .i64 0,.int .i64 0,.int .i64 0,.int .i64 0,.int .i64 0,.int .i64 0,.int .i64 0,.int .i64 0,.int .i64 0,.int .i64 0,.int .i64 0,.int .i64 0,.int .i64 0,.int .i64 0,.int .i64 0,.int .i64 0,.int .i64 0,.int .i64 0,.int .i64 0,.int .i64 0,.int .i64 0,.int .i64 0,.int .i64 0,.int .i64 0,.int .i64 0,.int .i64 0,.int .i64 0,.int .i64 0,.int .i64 0,.int .i64 0,.int .i64 0,.int .i64 0,.int .i64 0,.int .i64 0,.int .i64 0,.int .i64 0,.int .i64 0]:=zK
theorem aIa : nB Tryz.prog 87 = some [.int .i64 0,.int .i64 0]:=zK
set_option maxRecDepth 100000 in
set_option maxHeartbeats 1600000 in
theorem aPr (a ao : Option Addr) (c co : Nat) (po : Nat × SObj) (m : Tb) (out : List Int) (g : Value) (oc : XL.Own) (S : CbS) (H : Hp) (hs : SlR tbR H a c m) (hok : okG m) (hacc : Acc (gV .i64) 3 H po ao co out) (hl : out.length ≤ 16) (hgn : match g with | .func ..=>True | _=>False) (hcb : aXe Tryz.prog S g H) (hS : S.Holds [] H oc) : iP Tryz.prog 34 #[.slice a m.length c,.slice ao out.length co,g] H (po :: oc) (eQ (fun v H' own=>∃ bf up d oc',v = .pointer (some ⟨bf,0,none⟩) ∧ FI (m.length + lA m) up (tZ m out m.length).Pl d ∧ S.Holds (tZ m out m.length).l H' oc' ∧ own = (bf,.cells 84 (frC up (tZ m out m.length).p)) :: po :: oc')):=by
 refine iP.intro (args:=[.slice a m.length c,.slice ao out.length co,g]) Tryz.func34 rfl rfl Tryz.ntmps34 rfl rfl rfl fun G rest=>?_;have hH : LeW H H:=Le.refl H;have hlm:=hok.1;have hwm : lA m ≤ 16:=aF5 hok;refine zS ?_;refine zG rfl ?_;refine zN ?_;refine zS ?_;refine zM rfl ?_;refine fH rfl (aNg _ _ m _ hs zO) rfl ?_;refine zG rfl ?_;refine zN ?_;refine zS ?_;refine zM rfl ?_;refine eD (ts:=#[]) rfl gP rfl ?_;refine zM rfl ?_;refine fR rfl rfl (dT zO zO) rfl ?_;refine zM rfl ?_;refine eD (ts:=#[]) rfl bK rfl ?_;refine lK rfl rfl (dT zO zO) rfl ?_;refine mC bk_84 bf_84 ze_84 rfl rfl rfl ?_;refine iW rfl rfl rfl (fun b24=>?_);refine zG rfl ?_;refine zN ?_;refine cO ?_;refine zS ?_;refine zM rfl ?_;refine eD (ts:=#[]) rfl gP rfl ?_;refine zM rfl ?_;refine fR rfl rfl (dT zO zO) rfl ?_;refine zM rfl ?_;refine zN ?_;refine dK ?_;refine eU [29,0,1,2,8,28] rfl ?_;refine gO (base:=[(0,_),(1,_),(2,_),(8,_),(28,_)]) (fun ζ : Nat × (Nat → Nat)=>[(29,.int .i64 (ζ.1 : Nat))]) (fun ζ Hl own=>ζ.1 ≤ (m.length + lA m) ∧ (b24,.cells 84 (frC ζ.2 (((m.length : Int) + (lA m : Nat) - out.length)))) :: po :: (oc ++ rest) = own ∧ (∀ y,y < ζ.1 → ζ.2 y = y)) (fun ζ=>(m.length + lA m) - ζ.1) (0,(fun _=>0)) (zC) zB ⟨eS _,rfl,by intro y hy;omega⟩ ?_;rintro ⟨x,u⟩ Hl0 _ gB ⟨hkx,rfl,hu⟩;replace hs:=hs.mono gB;replace hacc:=hacc.mono gB;replace hS:=hS.mono gB;replace hH:=hH.mono gB;try dsimp only at hkx hu ⊢
 refine zS (zL rfl (zN (cO (fC rfl (fun qK=>?_) (fun qK=>?_)))))
 ·refine eF (bO (cO (dK (zS (zM rfl (zG rfl (zN (dL (zM rfl (zM rfl (zM rfl (iB rfl rfl (bJ rfl aB9 rfl (lO rfl rfl oM gK zF zF rfl (aD1 0 rfl rfl rfl rfl gK rfl (aUf zO) (aRa zO) rfl rfl (bF (fY (bO (dL (fR rfl rfl (dT zO zO) rfl (zM rfl (bF (eW ((x + 1,upd u x x)) (by show (m.length + lA m) - (x + 1) < (m.length + lA m) - x;omega) (zC) (⟨by show x + 1 ≤ (m.length + lA m);omega,rfl,upd_id hu⟩) zB (gB))))))))))))))))))))))))
 refine gI (fE (eY (fU rfl (bO (cO (zS (zM rfl (eD (ts:=#[]) rfl gP rfl (zM rfl (zN (dK (eU [41,0,1,2,8,39,40] rfl (gO (base:=[(0,_),(1,_),(2,_),(8,_),(39,_),(40,_)]) (fun ζ : Nat × (Nat → Nat) × (Nat → Nat) × (XL.Own)=>[(41,.int .i64 (ζ.1 : Nat))]) (fun ζ Hl own=>ζ.1 ≤ m.length ∧ (b24,.cells 84 (frC ζ.2.1 ((tZ m out ζ.1).p))) :: po :: (ζ.2.2.2 ++ rest) = own ∧ (FI (m.length + lA m) ζ.2.1 (tZ m out (ζ.1)).Pl ζ.2.2.1) ∧ (S.Holds (tZ m out (ζ.1)).l Hl ζ.2.2.2) ∧ (Acc (gV .i64) 3 Hl po ao co out)) (fun ζ=>m.length - ζ.1) (0,u,(fun _=>0),oc) (zC) zB ⟨eS _,rfl,FI.init _ (fun y hy=>hu y zO),hS,hacc⟩ ?_)))))))))))));rintro ⟨i,u,d,oc⟩ Hl1 _ iT ⟨hki,rfl,hF,hS,hacc⟩;replace hs:=hs.mono iT;replace hH:=hH.mono iT;try dsimp only at hki hF hS hacc ⊢
 refine zS (zL rfl (zN (cO (fC rfl (fun aCc=>?_) (fun aCc=>?_)))))
 ·refine eF (bO (cO (dK (zS (zM rfl (eV rfl hs rfl gP qL zO rfl ?_))))));rintro eb44 eo44 _ x44 hx44 ⟨ax44,cx44,rfl,hd44⟩ hp44;refine eH rfl (by assumption) qL rfl rfl rfl (zG rfl (zG rfl (zN (zS (zM rfl (eD (ts:=#[]) rfl iZ rfl (zM rfl (zN (dK (eU [48,0,1,2,8,10,39,40,41,46,47] rfl (gO (base:=[(0,_),(1,_),(2,_),(8,_),(10,_),(39,_),(40,_),(41,_),(46,_),(47,_)]) (fun ζ : Nat × (GS) × (Nat → Nat) × (Nat → Nat) × (XL.Own)=>[(48,.int .i64 (ζ.1 : Nat))]) (fun ζ Hl own=>ζ.1 ≤ x44.length ∧ (b24,.cells 84 (frC ζ.2.2.1 ((ζ.2.1).p))) :: po :: (ζ.2.2.2.2 ++ rest) = own ∧ (ζ.2.1 = zH m.length out i x44 ζ.1 (tZ m out (i))) ∧ (FI (m.length + lA m) ζ.2.2.1 (ζ.2.1).Pl ζ.2.2.2.1) ∧ (S.Holds (ζ.2.1).l Hl ζ.2.2.2.2) ∧ (Acc (gV .i64) 3 Hl po ao co out)) (fun ζ=>x44.length - ζ.1) (0,(tZ m out (i)),u,d,oc) (zC) zB ⟨eS _,rfl,rfl,hF,hS,hacc⟩ ?_)))))))))));rintro ⟨j,s,u,d,oc⟩ Hl2 _ jJ ⟨hkj,rfl,hs2,hF,hS,hacc⟩;replace hs:=hs.mono jJ;replace hH:=hH.mono jJ;replace hp44:=hp44.mono jJ;replace hd44:=hd44.mono jJ;replace iT:=iT.trans jJ;try dsimp only at hkj hs2 hF hS hacc ⊢
  refine zS (zL rfl (zN (cO (fC rfl (fun c2_6=>?_) (fun c2_6=>?_)))))
  ·refine eF (bO (cO (dK (zS (zM rfl (eV rfl (by assumption) rfl iZ oA zO rfl ?_))))));rintro eb51 eo51 _ x51 aAg rfl hp51;refine eH rfl (by assumption) oA rfl rfl rfl (zG rfl (zG rfl (zN (zS ?_))));have hsp : -2000 ≤ s.p ∧ s.p ≤ 2000:=by rw [hs2];exact gs_p hok hl hx44 zO
   have hsl : s.l.length < 4000:=by rw [hs2];exact gs_l hok hx44 zO
   have hwx : x44.length = lA m:=(hok.2 _ (cF hx44)).1;refine zM rfl (zM rfl (iM rfl rfl rfl rfl (fun g8=>?_) (fun g8=>?_)))
   ·have g8p:=g8;refine zM rfl (zT rfl g8 (zM rfl (zT rfl g8 (wL 1 rfl (containsO_fn po ao co out (j : Int) _ hacc zO) rfl rfl ?_))));rintro _ HR57 _ hleR57 ⟨rfl,rfl⟩;refine ⟨_,rfl,?_⟩;replace hs:=hs.mono hleR57;replace hH:=hH.mono hleR57;replace hp44:=hp44.mono hleR57;replace hd44:=hd44.mono hleR57;replace hS:=hS.mono hleR57;replace hacc:=hacc.mono hleR57;replace hp51:=hp51.mono hleR57;replace jJ:=jJ.trans hleR57;refine zT rfl g8 (aFf rfl rfl (zV g8 rfl (zM rfl (iM rfl rfl rfl rfl (fun g10=>?_) (fun g10=>?_)))))
    ·have g10p:=eT g10;refine zM rfl (zT rfl g10 (zM rfl (zT rfl g10 (zM rfl (zT rfl g10 (eD (ts:=#[]) rfl gP rfl (zT rfl g10 (zM rfl (zT rfl g10 (fR (c:=((m.length + j : Nat) : Int)) rfl rfl ((dT zO zO).trans zO) rfl (zT rfl g10 (wL 0 rfl (join_fn b24 (m.length + lA m) u s.Pl d s.p _ hF zO i (m.length + j) zO zO hsp) rfl rfl ?_))))))))))));rintro _ HR67 _ hleR67 ⟨rfl,u67,d67,hF67,rfl⟩;refine ⟨_,rfl,?_⟩;replace hs:=hs.mono hleR67;replace hH:=hH.mono hleR67;replace hp44:=hp44.mono hleR67;replace hd44:=hd44.mono hleR67;replace hS:=hS.mono hleR67;replace hacc:=hacc.mono hleR67;replace hp51:=hp51.mono hleR67;replace jJ:=jJ.trans hleR67;refine zV g10 rfl (zN (fC rfl (fun c3_13=>?_) (fun c3_13=>?_)))
     ·have hne : s.Pl i ≠ s.Pl (m.length + j):=zO
      rw [dG hne];refine dL (zM rfl (zM rfl (zM rfl (XO.buildArr lE gK aIa rfl rfl rfl (qQ [_,_] rfl trivial rfl (hcb s.l _ oc ((i : Int),(j : Int)) hH hsl hS) rfl rfl ?_)))));rintro _ HC73 oc73 hleC73 hS73;replace hs:=hs.mono hleC73;replace hH:=hH.mono hleC73;replace hp44:=hp44.mono hleC73;replace hd44:=hd44.mono hleC73;replace hS:=hS.mono hleC73;replace hacc:=hacc.mono hleC73;replace hp51:=hp51.mono hleC73;replace jJ:=jJ.trans hleC73;refine bF (fY (bO (dL (fR rfl rfl (dT zO zO) rfl (zM rfl (bF (eW ((j + 1,⟨jnP s.Pl i (m.length + j),s.p - 1,s.l ++ [((i : Int),(j : Int))]⟩,u67,d67,oc73)) (by show x44.length - (j + 1) < x44.length - j;omega) (zC) (⟨by show j + 1 ≤ x44.length;omega,rfl,by first | exact ((oS hs2 aAg).trans (aEl (by assumption) (by assumption) hne)).symm | exact ((oS hs2 aAg).trans (aEk he)).symm | exact ((oS hs2 aAg).trans (aGz (lV.1 (by assumption)))).symm | exact ((oS hs2 aAg).trans (aEi (by assumption))).symm,by assumption,by assumption,hacc⟩) zB (jJ))))))))
     have he : s.Pl i = s.Pl (m.length + j):=zO
     rw [jnP,eX he] at hF67;rw [eX he];refine eF (fY (bO (dL (fR rfl rfl (dT zO zO) rfl (zM rfl (bF (eW ((j + 1,s,u67,d67,oc)) (by show x44.length - (j + 1) < x44.length - j;omega) (zC) (⟨by show j + 1 ≤ x44.length;omega,rfl,by first | exact ((oS hs2 aAg).trans (aEl (by assumption) (by assumption) hne)).symm | exact ((oS hs2 aAg).trans (aEk he)).symm | exact ((oS hs2 aAg).trans (aGz (lV.1 (by assumption)))).symm | exact ((oS hs2 aAg).trans (aEi (by assumption))).symm,by assumption,by assumption,hacc⟩) zB (jJ))))))))
    have g10p:=fM g10;refine zU rfl g10 (zU rfl g10 (zU rfl g10 (zU rfl g10 (zU rfl g10 (zU rfl g10 (zW g10 rfl (zN (gD rfl rfl (eF (fY (bO (dL (fR rfl rfl (dT zO zO) rfl (zM rfl (bF (eW ((j + 1,s,u,d,oc)) (by show x44.length - (j + 1) < x44.length - j;omega) (zC) (⟨by show j + 1 ≤ x44.length;omega,rfl,by first | exact ((oS hs2 aAg).trans (aEl (by assumption) (by assumption) hne)).symm | exact ((oS hs2 aAg).trans (aEk he)).symm | exact ((oS hs2 aAg).trans (aGz (lV.1 (by assumption)))).symm | exact ((oS hs2 aAg).trans (aEi (by assumption))).symm,by assumption,by assumption,hacc⟩) zB (jJ)))))))))))))))))
   have g8p:=g8;refine zU rfl g8 (zU rfl g8 (zU rfl g8 (zW g8 rfl (zM rfl (zU rfl rfl (zU rfl rfl (zU rfl rfl (zU rfl rfl (zU rfl rfl (zU rfl rfl (zU rfl rfl (zW rfl rfl (zN (gD rfl rfl (eF (fY (bO (dL (fR rfl rfl (dT zO zO) rfl (zM rfl (bF (eW ((j + 1,s,u,d,oc)) (by show x44.length - (j + 1) < x44.length - j;omega) (zC) (⟨by show j + 1 ≤ x44.length;omega,rfl,by first | exact ((oS hs2 aAg).trans (aEl (by assumption) (by assumption) hne)).symm | exact ((oS hs2 aAg).trans (aEk he)).symm | exact ((oS hs2 aAg).trans (aGz (lV.1 (by assumption)))).symm | exact ((oS hs2 aAg).trans (aEi (by assumption))).symm,by assumption,by assumption,hacc⟩) zB (jJ)))))))))))))))))))))))
  obtain rfl : j = x44.length:=zO
  rw [← aKd hx44] at hs2;subst hs2;refine gI (fE (eY (fU rfl (fY (bO (dL (fR rfl rfl (dT zO zO) rfl (zM rfl (bF (eW ((i + 1,u,d,oc)) (by show m.length - (i + 1) < m.length - i;omega) (zC) (⟨by show i + 1 ≤ m.length;omega,rfl,hF,hS,hacc⟩) zB (iT)))))))))))
 obtain rfl : i = m.length:=zO
 refine gI (fE (eY (fU rfl (bO (zS (zM rfl (zG rfl (zN (eP ?_)))))))));refine ⟨rfl,_,(_ :: _ :: oc),rfl,zA,eQ.mk ?_⟩;exact ⟨_,_,_,_,rfl,hF,hS,rfl⟩
theorem nop41_fn (x : Int × Int) (H : Hp) : iP Tryz.prog 35 #[.agg ⟨[.int .i64 x.1,.int .i64 x.2]⟩] H [] (eQ (fun v _ own=>v = .tuple #[] ∧ own = [])):=by
 refine iP.intro (args:=[.agg ⟨[.int .i64 x.1,.int .i64 x.2]⟩]) Tryz.func35 rfl rfl Tryz.ntmps35 rfl rfl rfl fun G rest=>?_;refine dL ?_;refine iW rfl rfl rfl (fun b1=>?_);refine bF ?_;refine ⟨rfl,_,[],rfl,zA,eQ.mk ?_⟩;exact ⟨rfl,rfl⟩
theorem nop41_cb (H : Hp) : aXe Tryz.prog aXu (.func (.func 35) #[] #[]) H:=by
 intro l H' oc x _ _ hS;obtain rfl : oc = []:=hS;refine (wH.of_fn (cap:=[]) (args:=[.agg ⟨[.int .i64 x.1,.int .i64 x.2]⟩]) (nop41_fn x H')).mono ?_;intro e _ _ _ h;cases e with
 | returned v=>exact h.2
 | panicked _=>exact h.elim
 | outgrown=>exact h.elim
theorem add_fn (bm : Nat) (pa : Nat × SObj) (a : Option Addr) (c : Nat) (l : List (Int × Int)) (x : Int × Int) (H : Hp) (hacc : Acc aEz 87 H pa a c l) (hl : l.length < 4000) : iP Tryz.prog 37 #[.pointer (some ⟨bm,0,none⟩),.agg ⟨[.int .i64 x.1,.int .i64 x.2]⟩] H [pa,(bm,.cells 91 [.slice a l.length c])] (eQ (fun _ H' own=>∃ pa2 a2 c2,own = [pa2,(bm,.cells 91 [.slice a2 (l ++ [x]).length c2])] ∧ Acc aEz 87 H' pa2 a2 c2 (l ++ [x]))):=by
 refine iP.intro (args:=[.pointer (some ⟨bm,0,none⟩),.agg ⟨[.int .i64 x.1,.int .i64 x.2]⟩]) Tryz.func37 rfl rfl Tryz.ntmps37 rfl rfl rfl fun G rest=>?_;refine zS ?_;refine iW rfl rfl rfl (fun b3=>?_);refine jM (gW _ _ _) ?_;refine zN ?_;refine eU [0,3] rfl ?_;apply aGd (fun _=>True) trivial 7 (fun p H=>Acc aEz 87 H p a c l) (fun v p H=>∃ a2 c2,v = .slice a2 (l ++ [x]).length c2 ∧ Acc aEz 87 H p a2 c2 (l ++ [x])) (fun _ _ _ hle h=>h.mono hle) (fun _ _ _ _ hle ⟨a2,c2,h1,h2⟩=>⟨a2,c2,h1,h2.mono hle⟩) 8 [gC _,gC _,gC _,gC _,gC _,gC _,slF aEz [x],vA] follows zK ⟨aH _,aH _,aH _,aH _,aH _,aH _,oQ _ _,lN,trivial⟩ rfl rfl hacc ?steps1 ?tail1
 case steps1 =>
  refine iQ rfl ?_ ?_
  ·intro X e HD bI _ hfa;exact aO rfl (zM rfl (bF (fF trivial rfl (by unfold foV;rw [dG zD]))))
  refine iQ rfl ?_ ?_
  ·intro X e HD bI _ hfa;exact aO rfl (zM rfl (bF (fF trivial rfl (by unfold foV;rw [dG zD]))))
  refine iQ rfl ?_ ?_
  ·intro X e HD bI _ hfa;exact fX rfl (aO rfl (iB rfl rfl (bF (fF trivial rfl (by unfold foV;rw [dG zD])))))
  refine iQ rfl ?_ ?_
  ·intro X e HD bI _ hfa;exact fX rfl (aO rfl (bJ rfl aOw rfl (bF (fF trivial rfl (by unfold foV;rw [dG zD])))))
  refine iQ rfl ?_ ?_
  ·intro X e HD bI _ hfa;exact fX rfl (aO rfl (bT 2 rfl rfl aVe rfl rfl rfl (bF (fF trivial rfl (by unfold foV;rw [dG zD])))))
  refine iQ rfl ?_ ?_
  ·intro X e HD bI _ hfa;exact aO rfl (bT 1 rfl rfl aF2 rfl rfl rfl (bF (fF trivial rfl (by unfold foV;rw [dG zD]))))
  refine iQ rfl ?_ ?_
  ·intro X e HD bI _ hfa;refine fX rfl (aO rfl (fS rfl Tryz.underlying40 aF2 aIa rfl rfl rfl (fun b10=>fT 0 rfl rfl rfl (fun HP10 oP10 hleP10 hbP10 hoP10=>?_))));have hsl10:=SlR.lit (ρ:=aEz) (l:=[x]) hbP10 hoP10 (iH.one1 rfl);exact bF (fF trivial (⟨_,rfl,hsl10⟩) (by unfold foV;rw [dG zD]))
  refine iQ rfl ?_ ?_
  ·intro X e HD bI _ hfa;refine fX rfl (eR rfl rfl ?_);rintro _ ⟨bs10,rfl,hsl10⟩;refine aO rfl ?_;have hfa:=hfa rfl
   skip
   exact iV 0 rfl rfl hfa rfl rfl hsl10 rfl Tryz.underlying40 aF2 aIa rfl by_87 zI rfl (fun p11 a11 c11 hacc11=>bF (fF trivial (trivial) (by unfold foV;rw [eX rfl];exact ⟨_,_,rfl,hacc11⟩)))
  exact aBx rfl
 case tail1 =>
  intro HD bI _;refine fX rfl (fX rfl (fX rfl (fX rfl (fX rfl (fX rfl (eR rfl rfl ?_))))));rintro _ ⟨bs10,rfl,hsl10⟩;refine eR rfl rfl ?_;rintro _ _;refine aO rfl ?_;intro e he;obtain ⟨a2,c2,hv2,hacc2⟩:=he _ rfl;subst hv2;refine iB rfl rfl (bJ rfl aOw rfl (eG 2 rfl rfl rfl rfl aVe rfl rfl rfl rfl rfl (bF ?_)));refine ⟨rfl,_,[e,(bm,.cells 91 [.slice a2 (l ++ [x]).length c2])],rfl,zB,eQ.mk ?_⟩;exact ⟨_,_,_,rfl,hacc2⟩
theorem add_cb (bm : Nat) (H : Hp) : aXe Tryz.prog (aXy bm) (.func (.func 37) #[.pointer (some ⟨bm,0,none⟩)] #[]) H:=by
 intro l H' oc x _ hl hS;obtain ⟨pa,a,c,rfl,hacc⟩:=hS;refine (wH.of_first (fst:=[.pointer (some ⟨bm,0,none⟩)]) (args:=[.agg ⟨[.int .i64 x.1,.int .i64 x.2]⟩]) (cap:=[]) (add_fn bm pa a c l x H' hacc hl)).mono ?_;intro e _ _ _ h;cases e with
 | returned v=>obtain ⟨pa2,a2,c2,h1,h2⟩:=h;exact ⟨pa2,a2,c2,h1,h2⟩
 | panicked _=>exact h.elim
 | outgrown=>exact h.elim
end Go.Proofs

namespace Go.Proofs
abbrev Ed:=List (Nat × Nat)
def jG (n : Nat) (s : GS) (e : Nat × Nat) : GS:=if s.Pl e.1 ≠ s.Pl (n + e.2) then ⟨jnP s.Pl e.1 (n + e.2),s.p - 1,s.l ++ [((e.1 : Int),(e.2 : Int))]⟩ else s
def aRg (out : List Int) (i : Nat) (row : List Bool) : Nat → Ed
 | 0=>[]
 | k + 1=>aRg out i row k ++ (if row.getD k false = true ∧ (k : Int) ∉ out then [(i,k)] else [])
def aPn (m : Tb) (out : List Int) : Nat → Ed
 | 0=>[]
 | i + 1=>aPn m out i ++ aRg out i (m.getD i []) (m.getD i []).length
theorem aVi {n : Nat} {out : List Int} {i : Nat} {row : List Bool} {s : GS} : ∀ k : Nat,zH n out i row k s = (aRg out i row k).foldl (jG n) s
 | 0=>rfl
 | k + 1=>by
  rw [zH,aRg,List.foldl_append,← aVi k];by_cases h : row.getD k false = true ∧ (k : Int) ∉ out
  ·rw [eX h];simp only [List.foldl_cons,List.foldl_nil,stepG,jG,h.1,h.2,true_and,not_false_eq_true]
  rw [dG h];simp only [List.foldl_nil,stepG];rw [dG (fun h2=>h ⟨h2.1,h2.2.1⟩)]
def aF6 (m : Tb) (out : List Int) : GS:=⟨fun x=>x,(m.length : Int) + (lA m : Nat) - out.length,[]⟩
theorem aJ6 {m : Tb} {out : List Int} : ∀ k : Nat,tZ m out k = (aPn m out k).foldl (jG m.length) (aF6 m out)
 | 0=>rfl
 | k + 1=>by rw [tZ,aPn,List.foldl_append,← aJ6 k,aVi]
theorem aPi {out : List Int} {i : Nat} {row : List Bool} {e : Nat × Nat} : ∀ k : Nat,e ∈ aRg out i row k ↔ e.1 = i ∧ e.2 < k ∧ row.getD e.2 false = true ∧ (e.2 : Int) ∉ out
 | 0=>by simp [aRg]
 | k + 1=>by
  obtain ⟨a,b⟩:=e;rw [aRg,gM,aPi k];by_cases h : row.getD k false = true ∧ (k : Int) ∉ out
  ·rw [eX h];simp only [lW,Prod.mk.injEq];constructor
   ·rintro (⟨h1,h2,h3⟩ | ⟨rfl,rfl⟩)
    ·exact ⟨h1,zO,h3⟩
    exact ⟨rfl,zO,h⟩
   rintro ⟨h1,h2,h3⟩;by_cases hb : b = k
   ·exact Or.inr ⟨h1,hb⟩
   exact Or.inl ⟨h1,zO,h3⟩
  rw [dG h];simp only [List.not_mem_nil,or_false];constructor
  ·rintro ⟨h1,h2,h3⟩;exact ⟨h1,zO,h3⟩
  rintro ⟨h1,h2,h3⟩;by_cases hb : b = k
  ·subst hb;exact absurd h3 h
  exact ⟨h1,zO,h3⟩
theorem aJn {m : Tb} {out : List Int} {e : Nat × Nat} : ∀ k : Nat,e ∈ aPn m out k ↔ e.1 < k ∧ (m.getD e.1 []).getD e.2 false = true ∧ (e.2 : Int) ∉ out
 | 0=>by simp [aPn]
 | k + 1=>by
  rw [aPn,gM,aJn k,aPi];constructor
  ·rintro (⟨h1,h2⟩ | ⟨h1,h2,h3⟩)
   ·exact ⟨zO,h2⟩
   rw [h1];exact ⟨zO,h3⟩
  rintro ⟨h1,h2,h3⟩;by_cases hb : e.1 = k
  ·refine Or.inr ⟨hb,?_,by rw [← hb];exact h2,h3⟩;rw [← hb];rcases gJ e.2 (m.getD e.1 []).length with h | h
   ·exact h
   rw [dB (i:=e.2),dJ h] at h2;cases h2
  exact Or.inl ⟨zO,h2,h3⟩
def lexE (a b : Nat × Nat) : Prop:=a.1 < b.1 ∨ a.1 = b.1 ∧ a.2 < b.2
inductive Cn (n : Nat) (E : Ed) : Nat → Nat → Prop
 | refl (x : Nat) : Cn n E x x
 | edge (e : Nat × Nat) : e ∈ E → Cn n E e.1 (n + e.2)
 | symm {x y : Nat} : Cn n E x y → Cn n E y x
 | trans {x y z : Nat} : Cn n E x y → Cn n E y z → Cn n E x z
theorem Cn.map {n n' : Nat} {E E' : Ed} {φ : Nat → Nat} (h : ∀ e ∈ E,Cn n' E' (φ e.1) (φ (n + e.2))) {x y : Nat} (hc : Cn n E x y) : Cn n' E' (φ x) (φ y):=by
 induction hc with
 | refl x=>exact .refl _
 | edge e he=>exact h e he
 | symm _ ih=>exact ih.symm
 | trans _ _ h1 h2=>exact h1.trans h2
theorem Cn.mono {n : Nat} {E E' : Ed} (h : ∀ e ∈ E,e ∈ E') {x y : Nat} (hc : Cn n E x y) : Cn n E' x y:=Cn.map (φ:=fun x=>x) (fun e he=>.edge e (h e he)) hc
theorem jnP_eq {Pl : Nat → Nat} {a b x y : Nat} (h : Pl x = Pl y) : jnP Pl a b x = jnP Pl a b y:=by
 unfold jnP;split
 ·exact h
 simp only [ren,h]
theorem jnP_new {Pl : Nat → Nat} {a b : Nat} : jnP Pl a b a = jnP Pl a b b:=by
 unfold jnP;split
 ·assumption
 rename_i h;simp [ren,h]
theorem jnP_inv {Pl : Nat → Nat} {a b x y : Nat} (h : jnP Pl a b x = jnP Pl a b y) : Pl x = Pl y ∨ (Pl x = Pl a ∧ Pl y = Pl b) ∨ (Pl x = Pl b ∧ Pl y = Pl a):=by
 unfold jnP at h;split at h
 ·exact Or.inl h
 simp only [ren] at h;split at h <;> split at h
 ·exact Or.inl zO
 ·exact Or.inr (Or.inr ⟨by assumption,h.symm⟩)
 ·exact Or.inr (Or.inl ⟨h,by assumption⟩)
 exact Or.inl h
theorem aK1 {Pl : Nat → Nat} {a b : Nat} (h : Pl a ≠ Pl b) (x : Nat) : jnP Pl a b x = if Pl x = Pl b then Pl a else Pl x:=by
 rw [jnP,dG h];rfl
theorem aPp {Pl : Nat → Nat} {a b : Nat} (h : ∀ x,Pl (Pl x) = Pl x) (x : Nat) : jnP Pl a b (jnP Pl a b x) = jnP Pl a b x:=by
 by_cases he : Pl a = Pl b
 ·rw [jnP,eX he];exact h x
 rw [aK1 he x];by_cases h1 : Pl x = Pl b
 ·rw [eX h1,aK1 he,h,dG he]
 rw [dG h1,aK1 he,h,dG h1]
structure SInv (n : Nat) (E : Ed) (s : GS) : Prop where
 fwd : ∀ x y,s.Pl x = s.Pl y → Cn n E x y
 ed : ∀ e ∈ E,s.Pl e.1 = s.Pl (n + e.2)
 idem : ∀ x,s.Pl (s.Pl x) = s.Pl x
theorem SInv.iff {n : Nat} {E : Ed} {s : GS} (h : SInv n E s) (x y : Nat) : s.Pl x = s.Pl y ↔ Cn n E x y:=by
 refine ⟨h.fwd x y,fun hc=>?_⟩
 induction hc with
 | refl=>rfl
 | edge e he=>exact h.ed e he
 | symm _ ih=>exact ih.symm
 | trans _ _ h1 h2=>exact h1.trans h2
theorem aUc {n : Nat} {s : GS} {e : Nat × Nat} : (jG n s e).Pl = jnP s.Pl e.1 (n + e.2):=by
 unfold jG;split
 ·rfl
 rename_i h;rw [jnP,eX (lV.1 h)]
theorem SInv.step {n : Nat} {E : Ed} {s : GS} (h : SInv n E s) (e : Nat × Nat) : SInv n (E ++ [e]) (jG n s e):=by
 refine ⟨?_,?_,?_⟩
 ·intro x y hxy;rw [aUc] at hxy;have hm : ∀ {x y},Cn n E x y → Cn n (E ++ [e]) x y:=fun h=>h.mono (fun e he=>by simp [he]);have he : Cn n (E ++ [e]) e.1 (n + e.2):=.edge e zP;rcases jnP_inv hxy with h1 | ⟨h1,h2⟩ | ⟨h1,h2⟩
  ·exact hm (h.fwd _ _ h1)
  ·exact (hm (h.fwd _ _ h1)).trans (he.trans (hm (h.fwd _ _ h2)).symm)
  exact (hm (h.fwd _ _ h1)).trans (he.symm.trans (hm (h.fwd _ _ h2)).symm)
 ·intro f hf;rw [aUc];rcases gM.1 hf with hf | hf
  ·exact jnP_eq (h.ed f hf)
  simp at hf;subst hf;exact jnP_new
 intro x;rw [aUc];exact aPp h.idem x
theorem SInv.fold {n : Nat} : ∀ (E2 E : Ed) {s : GS},SInv n E s → SInv n (E ++ E2) (E2.foldl (jG n) s)
 | [],E,s,h=>by simpa using h
 | e :: r,E,s,h=>by
  have:=SInv.fold r (E ++ [e]) (h.step e);simpa using this
theorem SInv.init {n : Nat} {m : Tb} {out : List Int} : SInv n [] (aF6 m out):=⟨fun x y h=>by rw [show x = y from h];exact .refl _,fun _ h=>(by cases h),fun _=>rfl⟩
def qE (m : Tb) (out : List Int) : GS:=tZ m out m.length
def aLq (m : Tb) (out : List Int) : Ed:=aPn m out m.length
theorem tU (m : Tb) (out : List Int) : SInv m.length (aLq m out) (qE m out):=by
 have:=SInv.fold (aLq m out) [] (SInv.init (n:=m.length) (m:=m) (out:=out));rw [gN] at this;rwa [show (aLq m out).foldl (jG m.length) (aF6 m out) = qE m out from (aJ6 _).symm] at this
/-! ### How many parts there are -/
def vM (N : Nat) (Pl : Nat → Nat) : List Nat:=(List.range N).filter fun x=>Pl x == x
structure RInv (N : Nat) (s : GS) : Prop where
 lt : ∀ x,x < N → s.Pl x < N
 idem : ∀ x,s.Pl (s.Pl x) = s.Pl x
 cnt : (vM N s.Pl).length + s.l.length = N
theorem aGf : ∀ {l : List Nat} {p q : Nat → Bool} {b : Nat},l.Nodup → b ∈ l → p b = true → (∀ x ∈ l,q x = (p x && x != b)) → (l.filter q).length + 1 = (l.filter p).length
 | [],p,q,b,hnd,hb,hp,hq=>by simp at hb
 | x :: r,p,q,b,hnd,hb,hp,hq=>by
  obtain ⟨hx,hnd⟩:=List.nodup_cons.1 hnd;have hqx:=hq x zP;have hqr : ∀ y ∈ r,q y = (p y && y != b):=fun y hy=>hq y (by simp [hy]);by_cases e : x = b
  ·subst e;have h0 : q x = false:=by rw [hqx];simp
   have h1 : r.filter q = r.filter p:=by
    apply List.filter_congr;intro y hy;rw [hqr y hy];have : (y != x) = true:=by simp;rintro rfl;exact hx hy
    rw [this,Bool.and_true]
   simp [List.filter_cons,h0,hp,h1]
  have hb' : b ∈ r:=by rcases List.mem_cons.1 hb with h | h;exact absurd h.symm e;exact h
  have ih:=aGf hnd hb' hp hqr;have h2 : q x = p x:=by rw [hqx];simp [e]
  cases h3 : p x <;> simp [List.filter_cons,h2,h3,ih]
theorem RInv.step {n N : Nat} {s : GS} (h : RInv N s) {e : Nat × Nat} (h1 : e.1 < N) (h2 : n + e.2 < N) : RInv N (jG n s e):=by
 unfold jG;split
 ·rename_i hne
  refine ⟨?_,?_,?_⟩
  ·intro x hx;show jnP s.Pl e.1 (n + e.2) x < N;rw [aK1 hne];split
   ·exact h.lt _ h1
   exact h.lt x hx
  ·intro x;show jnP s.Pl e.1 (n + e.2) (jnP s.Pl e.1 (n + e.2) x) = jnP s.Pl e.1 (n + e.2) x;exact aPp h.idem x
  show (vM N (jnP s.Pl e.1 (n + e.2))).length + (s.l ++ [((e.1 : Int),(e.2 : Int))]).length = N;have hc:=h.cnt
  have:=aGf (l:=List.range N) (p:=fun x=>s.Pl x == x) (q:=fun x=>jnP s.Pl e.1 (n + e.2) x == x) (b:=s.Pl (n + e.2)) List.nodup_range (fA.2 (h.lt _ h2)) (by simp [h.idem]) (by
   intro x _;simp only [aK1 hne];by_cases h3 : s.Pl x = s.Pl (n + e.2)
   ·rw [eX h3];by_cases h4 : x = s.Pl (n + e.2)
    ·subst h4;simp [hne]
    have h5 : (s.Pl x == x) = false:=by rw [h3];simpa using Ne.symm h4
    rw [h5,Bool.false_and];simp only [beq_eq_false_iff_ne,ne_eq];rintro rfl;rw [h.idem] at h3;exact hne h3
   rw [dG h3];by_cases h4 : s.Pl x = x
   ·have h5 : (s.Pl x == x) = true:=by simp [h4]
    rw [h5,Bool.true_and];symm;simp only [bne_iff_ne,ne_eq];intro h6;apply h3;rw [h4,h6]
   have h5 : (s.Pl x == x) = false:=by simpa using h4
   rw [h5,Bool.false_and])
  unfold vM at hc ⊢;simp only [fQ,jL,List.length_nil];omega
 exact h
theorem RInv.fold {n N : Nat} : ∀ (E : Ed) {s : GS},RInv N s → (∀ e ∈ E,e.1 < N ∧ n + e.2 < N) → RInv N (E.foldl (jG n) s)
 | [],s,h,_=>h
 | e :: r,s,h,hE=>RInv.fold r (h.step (hE e zP).1 (hE e zP).2) (fun f hf=>hE f (by simp [hf]))
theorem aVt {n : Nat} : ∀ (E : Ed) (s : GS),(E.foldl (jG n) s).p + (E.foldl (jG n) s).l.length = s.p + s.l.length
 | [],s=>rfl
 | e :: r,s=>by
  rw [List.foldl_cons,aVt r];unfold jG;split
  ·show s.p - 1 + ((s.l ++ [((e.1 : Int),(e.2 : Int))]).length : Int) = _;simp only [fQ,jL,List.length_nil];omega
  rfl
theorem aOx {m : Tb} {out : List Int} (hok : okG m) {e : Nat × Nat} (he : e ∈ aLq m out) : e.1 < m.length ∧ e.2 < lA m ∧ (e.2 : Int) ∉ out:=by
 obtain ⟨h1,h2,h3⟩:=(aJn _).1 he;refine ⟨h1,?_,h3⟩;obtain ⟨row,hx⟩ : ∃ row,m[e.1]? = some row:=⟨_,aJ h1⟩
 rw [dB (l:=m),hx] at h2;have:=(hok.2 row (cF hx)).1;rcases gJ e.2 row.length with h | h
 ·omega
 rw [Option.getD_some,dB,dJ h] at h2;cases h2
theorem wW {m : Tb} {out : List Int} (hok : okG m) : RInv (m.length + lA m) (qE m out):=by
 rw [qE,aJ6];refine RInv.fold _ ⟨fun x hx=>hx,fun _=>rfl,?_⟩ (fun e he=>by have:=aOx hok (show e ∈ aLq m out from he);omega);show (vM _ fun x=>x).length + 0 = _;rw [vM,List.filter_eq_self.2 zP,List.length_range];rfl
theorem aTx {m : Tb} {out : List Int} (hok : okG m) : (qE m out).p = ((vM (m.length + lA m) (qE m out).Pl).length : Int) - out.length ∧ (qE m out).p + (qE m out).l.length = (m.length : Int) + (lA m : Nat) - out.length:=by
 have h1:=aVt (n:=m.length) (aPn m out m.length) (aF6 m out);rw [← aJ6] at h1;have h2:=(wW (out:=out) hok).cnt;have h3 : (aF6 m out).p + (aF6 m out).l.length = (m.length : Int) + (lA m : Nat) - out.length:=by simp [aF6]
 rw [h3] at h1;unfold qE at h2 ⊢;constructor <;> omega
end Go.Proofs

namespace Go.Proofs
def aS9 (m : Tb) (out : List Int) : Prop:=out.Nodup ∧ ∀ j ∈ out,0 ≤ j ∧ j < (lA m : Nat)
def inN (m : Tb) (out : List Int) (x : Nat) : Prop:=x < m.length + lA m ∧ ∀ j : Nat,x = m.length + j → (j : Int) ∉ out
def AllC (m : Tb) (out : List Int) : Prop:=∀ x y,inN m out x → inN m out y → Cn m.length (aLq m out) x y
def rG (n : Nat) (j : Int) : Nat:=n + j.toNat
theorem not_inN {m : Tb} {out : List Int} {x : Nat} (hx : x < m.length + lA m) (h : ¬ inN m out x) : ∃ j : Int,j ∈ out ∧ 0 ≤ j ∧ x = rG m.length j:=by
 by_cases h1 : ∃ j : Nat,x = m.length + j ∧ (j : Int) ∈ out
 ·obtain ⟨j,h1,h2⟩:=h1;exact ⟨j,h2,zO,by simp [rG,h1]⟩
 exact absurd ⟨hx,fun j hj hm=>h1 ⟨j,hj,hm⟩⟩ h
theorem aMz {m : Tb} {out : List Int} (hok : okG m) {x y : Nat} (h : Cn m.length (aLq m out) x y) : x = y ∨ ((∀ j : Int,j ∈ out → 0 ≤ j → x ≠ rG m.length j) ∧ (∀ j : Int,j ∈ out → 0 ≤ j → y ≠ rG m.length j)):=by
 induction h with
 | refl=>exact Or.inl rfl
 | edge e he =>
  obtain ⟨h1,h2,h3⟩:=aOx hok he;refine Or.inr ⟨fun j hj h0 hx=>?_,fun j hj h0 hx=>?_⟩
  ·unfold rG at hx;omega
  unfold rG at hx;apply h3;have : (e.2 : Int) = j:=zO
  rwa [this]
 | symm _ ih=>rcases ih with h | ⟨h1,h2⟩;exact Or.inl h.symm;exact Or.inr ⟨h2,h1⟩
 | trans _ _ h1 h2 =>
  rcases h1 with rfl | ⟨h3,h4⟩
  ·exact h2
  rcases h2 with rfl | ⟨h5,h6⟩
  ·exact Or.inr ⟨h3,h4⟩
  exact Or.inr ⟨h3,h6⟩
theorem wK {N : Nat} {Pl : Nat → Nat} {x : Nat} : x ∈ vM N Pl ↔ x < N ∧ Pl x = x:=by simp [vM]
theorem aIk (N : Nat) (Pl : Nat → Nat) : (vM N Pl).Nodup:=List.filter_sublist.nodup List.nodup_range
instance (m : Tb) (out : List Int) (x : Nat) : Decidable (inN m out x):=by
 by_cases h1 : x < m.length + lA m
 ·by_cases h2 : m.length ≤ x ∧ ((x - m.length : Nat) : Int) ∈ out
  ·exact .isFalse fun h=>h.2 (x - m.length) zO h2.2
  exact .isTrue ⟨h1,fun j hj hm=>h2 ⟨zO,by rwa [show x - m.length = j by omega]⟩⟩
 exact .isFalse fun h=>h1 h.1
theorem out_root {m : Tb} {out : List Int} (hok : okG m) {j : Int} (hj : j ∈ out) (h0 : 0 ≤ j) : (qE m out).Pl (rG m.length j) = rG m.length j:=by
 have h:=(tU m out).fwd _ _ ((tU m out).idem (rG m.length j));rcases aMz hok h with h | ⟨h1,h2⟩
 ·exact h
 exact absurd rfl (h2 j hj h0)
def rD (m : Tb) (out : List Int) : List Nat:=(vM (m.length + lA m) (qE m out).Pl).filter fun x=>decide (inN m out x)
theorem aDo {α : Type} (p : α → Bool) : ∀ l : List α,(l.filter p).length + (l.filter fun x=>!p x).length = l.length
 | []=>rfl
 | x :: r=>by
  have:=aDo p r;cases h : p x <;> simp [List.filter_cons,h] <;> omega
theorem aQt {m : Tb} {out : List Int} (hok : okG m) (ho : aS9 m out) : ((rD m out).length : Int) = (qE m out).p:=by
 rw [(aTx hok).1];have h1:=aDo (fun x=>decide (inN m out x)) (vM (m.length + lA m) (qE m out).Pl)
 have h2 : ((vM (m.length + lA m) (qE m out).Pl).filter fun x=>!decide (inN m out x)).length = (out.map (rG m.length)).length:=by
  apply Nat.le_antisymm
  ·apply List.Nodup.length_le_of_subset (List.filter_sublist.nodup (aIk _ _));intro x hx;rw [lD,wK] at hx;obtain ⟨j,hj,h0,rfl⟩:=not_inN hx.1.1 (by simpa using hx.2);exact gS.2 ⟨j,hj,rfl⟩
  apply List.Nodup.length_le_of_subset
  ·have : ∀ l : List Int,l.Nodup → (∀ j ∈ l,0 ≤ j) → (l.map (rG m.length)).Nodup:=by
    intro l
    induction l with
    | nil=>intro _ _;exact List.nodup_nil
    | cons a r ih =>
     intro hnd hp;rw [List.map_cons,List.nodup_cons];obtain ⟨h1,h2⟩:=List.nodup_cons.1 hnd;refine ⟨fun hm=>?_,ih h2 fun j hj=>hp j (by simp [hj])⟩;obtain ⟨b,hb,he⟩:=gS.1 hm;have ha0:=hp a zP;have hb0:=hp b (by simp [hb]);unfold rG at he;exact h1 ((show b = a by omega) ▸ hb)
   exact this out ho.1 fun j hj=>(ho.2 j hj).1
  intro x hx;obtain ⟨j,hj,rfl⟩:=gS.1 hx;obtain ⟨h0,hw⟩:=ho.2 j hj;rw [lD,wK];refine ⟨⟨by unfold rG;omega,out_root hok hj h0⟩,?_⟩;simp only [Bool.not_eq_true',decide_eq_false_iff_not];intro h;apply h.2 j.toNat rfl;rwa [show ((j.toNat : Nat) : Int) = j by omega]
 rw [fB] at h2;unfold rD;omega
theorem len_le1 {α : Type} : ∀ {l : List α},l.Nodup → (l.length ≤ 1 ↔ ∀ x ∈ l,∀ y ∈ l,x = y)
 | [],_=>by simp
 | [a],_=>by simp
 | a :: b :: r,h=>by
  constructor
  ·intro h;simp at h
  intro h2;have:=h2 a zP b zP;subst this;simp at h
theorem aKw {m : Tb} {out : List Int} (hok : okG m) {x : Nat} (h : inN m out x) : inN m out ((qE m out).Pl x):=by
 refine ⟨(wW hok).lt _ h.1,fun j hj hm=>?_⟩;have h1:=(tU m out).fwd _ _ ((tU m out).idem x);rcases aMz hok h1 with h2 | ⟨h2,h3⟩
 ·rw [h2] at hj;exact h.2 j hj hm
 exact h2 j hm zO (by rw [hj];simp [rG])
theorem p_iff {m : Tb} {out : List Int} (hok : okG m) (ho : aS9 m out) : (qE m out).p ≤ 1 ↔ AllC m out:=by
 rw [← aQt hok ho];have h1:=len_le1 (l:=rD m out) (List.filter_sublist.nodup (aIk _ _));have h2 : ((rD m out).length : Int) ≤ 1 ↔ (rD m out).length ≤ 1:=zO
 rw [h2,h1];constructor
 ·intro h x y hx hy;rw [← (tU m out).iff];apply h
  ·rw [rD,lD,wK];exact ⟨⟨(wW hok).lt _ hx.1,(tU m out).idem x⟩,by simpa using aKw hok hx⟩
  rw [rD,lD,wK];exact ⟨⟨(wW hok).lt _ hy.1,(tU m out).idem y⟩,by simpa using aKw hok hy⟩
 intro h x hx y hy;rw [rD,lD,wK] at hx hy;have:=((tU m out).iff x y).2 (h x y (by simpa using hx.2) (by simpa using hy.2));rw [hx.1.2,hy.1.2] at this;exact this
theorem p_pos {m : Tb} {out : List Int} (hok : okG m) (ho : aS9 m out) (h : ∃ x,inN m out x) : 1 ≤ (qE m out).p:=by
 rw [← aQt hok ho];obtain ⟨x,hx⟩:=h
 have : (qE m out).Pl x ∈ rD m out:=by
  rw [rD,lD,wK];exact ⟨⟨(wW hok).lt _ hx.1,(tU m out).idem x⟩,by simpa using aKw hok hx⟩
 have:=List.length_pos_of_mem this;omega
theorem aL1 (m : Tb) : aS9 m []:=⟨List.nodup_nil,by simp⟩
theorem aNw {m : Tb} {x : Nat} : inN m [] x ↔ x < m.length + lA m:=⟨fun h=>h.1,fun h=>⟨h,by simp⟩⟩
end Go.Proofs

namespace Go.Proofs
def ie (e : Nat × Nat) : Int × Int:=((e.1 : Int),(e.2 : Int))
def tE (n : Nat) : GS → Ed → Ed
 | _,[]=>[]
 | s,e :: r=>if s.Pl e.1 ≠ s.Pl (n + e.2) then e :: tE n (jG n s e) r else tE n s r
theorem jG_no {n : Nat} {s : GS} {e : Nat × Nat} (h : ¬ s.Pl e.1 ≠ s.Pl (n + e.2)) : jG n s e = s:=dG h
theorem aX0 (n : Nat) : ∀ (E : Ed) (s : GS),(E.foldl (jG n) s).l = s.l ++ (tE n s E).map ie
 | [],s=>by simp [tE]
 | e :: r,s=>by
  rw [List.foldl_cons,aX0 n r,tE];split
  ·rename_i h
   rw [show (jG n s e).l = s.l ++ [ie e] by rw [jG,eX h];rfl];simp
  rename_i h;rw [jG_no h]
def aWu (m : Tb) : Ed:=tE m.length (aF6 m []) (aLq m [])
theorem aUr (m : Tb) : (qE m []).l = (aWu m).map ie:=by
 have:=aX0 m.length (aLq m []) (aF6 m []);rw [aLq,← aJ6] at this;exact this
structure Marks (m x : Tb) (E : Ed) : Prop where
 len : x.length = m.length
 row : ∀ i : Nat,(x.getD i []).length = (m.getD i []).length
 mark : ∀ i j : Nat,(x.getD i []).getD j false = true ↔ (i,j) ∈ E
theorem tree_p {m : Tb} (hok : okG m) : (qE m []).p + (aWu m).length = (m.length : Int) + (lA m : Nat):=by
 have:=(aTx (out:=[]) hok).2;rw [aUr,fB] at this;simpa using this
end Go.Proofs

namespace Go.Proofs
open Go.XL
def aUy (m : Tb) (H : Hp) (v : Value) : Prop :=
 (qV m ≠ 0 → v = .tuple #[.slice none 0 0,.bool false,.int .i64 (qV m)]) ∧ (qV m = 0 → ∃ a c,SlR aEz H a c (qE m []).l ∧ v = .tuple #[.slice a (qE m []).l.length c,.bool (decide ((qE m []).p ≤ 1)),.int .i64 0])
def aL3 (Pl : Nat → Nat) (f n : Nat) : List Int:=((List.range n).filter fun i=>Pl (f + i) == Pl 0).map (fun i : Nat=>(i : Int))
def CutR (m : Tb) (H : Hp) (v : Value) : Prop :=
 (qV m ≠ 0 → v = .tuple #[.slice none 0 0,.slice none 0 0,.bool false,.int .i64 (qV m)]) ∧
 (qV m = 0 → (qE m []).p ≤ 1 → v = .tuple #[.slice none 0 0,.slice none 0 0,.bool false,.int .i64 0]) ∧
 (qV m = 0 → ¬ (qE m []).p ≤ 1 → ∃ a c b d,SlR (gV .i64) H a c (aL3 (qE m []).Pl 0 m.length) ∧ SlR (gV .i64) H b d (aL3 (qE m []).Pl m.length (lA m)) ∧
  v = .tuple #[.slice a (aL3 (qE m []).Pl 0 m.length).length c,.slice b (aL3 (qE m []).Pl m.length (lA m)).length d,.bool true,.int .i64 0])
def renL (l : List Int) (x y : Int) : List Int:=l.map fun z=>if z = x then y else z
def plL (N : Nat) (Pl : Nat → Nat) : List Int:=(List.range N).map fun x=>((Pl x : Nat) : Int)
def PartsR (m : Tb) (H : Hp) (v : Value) : Prop:=∃ a c b d,SlR (gV .i64) H a c (plL (m.length + lA m) (qE m []).Pl) ∧ SlR aEz H b d (qE m []).l ∧
 v = .tuple #[.slice a (plL (m.length + lA m) (qE m []).Pl).length c,.slice b (qE m []).l.length d]
def connB (m : Tb) : Prop:=∀ z ∈ plL (m.length + lA m) (qE m []).Pl,z = ((qE m []).Pl 0 : Nat)
end Go.Proofs
