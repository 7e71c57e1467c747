/- Drawn regions with a store: one operation changes a block that was there before,and what must run before it still finds it a_s it was. No statement of the program stands here. -/
import Derived.Test.YtbeecebebeamiaaGreatDoorB2
import Derived.Lib.AppendStr
import Derived.Lib.ConvBytes
import Derived.Lib.BytesEntry
import Derived.Test.YtbeecebebeamiaaGreatDoorProg
set_option autoImplicit false
set_option linter.unusedSimpArgs false
set_option linter.unusedVariables false
namespace Go.XL
def aEp (l : List Oper) (i0 k : Nat) : Bool:=match l[i0]? with
 | some o=>o.after.toList.any fun e=>Region.binds .any e && Nat.beq e.on k
 | none=>false
def foS (i0 k : Nat) (FOa : Nat × SObj → Hp → Prop) (FO2 : Nat × SObj → Hp → Prop) (e0 : Nat × SObj) : Value → Nat × SObj → Hp → Prop:=fun _ e H=>if k = i0 then FO2 e H else e = e0
def tW (Gd : Hp → Prop) (i0 : Nat) (FOa : Nat × SObj → Hp → Prop) (FO2 : Nat × SObj → Hp → Prop) (C : Ctx) (l : List Oper) (F : List (Value → Hp → Prop)) (env : Env) (df : List Deferred) (H : Hp) (own : Own) (m : Nat) : Nat → List Oper → Prop
  | _,[]=>True
  | k,o :: rest=>bif Nat.blt k m then
      (∀ X e H',Le H H' → Gd H' → ((k = i0 ∨ aEp l i0 k = true) → FOa e H') → iV l F H' (gM o) [] fun acc=>XO C l.toArray (uV Gd o.dst (gC F k) (foS i0 k FOa FO2 e) (acc ++ (env ++ X)) df own) [o] ⟨acc ++ (env ++ X),df,H',e :: own⟩) ∧ tW Gd i0 FOa FO2 C l F env df H own m (k + 1) rest
    else True
theorem eZ {Gd : Hp → Prop} {i0 : Nat} {FOa : Nat × SObj → Hp → Prop} {FO2 : Nat × SObj → Hp → Prop} {C : Ctx} {l : List Oper} {F : List (Value → Hp → Prop)} {env : Env} {df : List Deferred} {H : Hp} {own : Own} {m k : Nat} {o : Oper} {rest : List Oper} (hk : Nat.blt k m = true)
  (h : ∀ X e H',Le H H' → Gd H' → ((k = i0 ∨ aEp l i0 k = true) → FOa e H') → iV l F H' (gM o) [] fun acc=>XO C l.toArray (uV Gd o.dst (gC F k) (foS i0 k FOa FO2 e) (acc ++ (env ++ X)) df own) [o] ⟨acc ++ (env ++ X),df,H',e :: own⟩) (k2 : tW Gd i0 FOa FO2 C l F env df H own m (k + 1) rest) : tW Gd i0 FOa FO2 C l F env df H own m k (o :: rest):=by
 rw [tW,hk];exact ⟨h,k2⟩
theorem xG {Gd : Hp → Prop} {i0 : Nat} {FOa : Nat × SObj → Hp → Prop} {FO2 : Nat × SObj → Hp → Prop} {C : Ctx} {l : List Oper} {F : List (Value → Hp → Prop)} {env : Env} {df : List Deferred} {H : Hp} {own : Own} {m k : Nat} {rest : List Oper} (hk : Nat.blt k m = false) : tW Gd i0 FOa FO2 C l F env df H own m k rest:=by
 cases rest with
 | nil=>trivial
 | cons o r=>rw [tW,hk];trivial
section
variable {C : Ctx} {Q : Exit → St → Prop} {env : Env} {df : List Deferred} {H : Hp} {own : Own}
theorem aD0 {Gd : Hp → Prop} {i0 : Nat} {FOa : Nat × SObj → Hp → Prop} {FO2 : Nat × SObj → Hp → Prop} {l : List Oper} {F : List (Value → Hp → Prop)} {m : Nat} : ∀ (rest : List Oper) (k : Nat),tW Gd i0 FOa FO2 C l F env df H own m k rest → ∀ (i : Nat) (o : Oper),rest[i]? = some o → k + i < m →
    ∀ X e H',Le H H' → Gd H' → ((k + i = i0 ∨ aEp l i0 (k + i) = true) → FOa e H') → iV l F H' (gM o) [] fun acc=>XO C l.toArray (uV Gd o.dst (gC F (k + i)) (foS i0 (k + i) FOa FO2 e) (acc ++ (env ++ X)) df own) [o] ⟨acc ++ (env ++ X),df,H',e :: own⟩
  | [],k,_,i,o,hi,_=>by simp at hi
  | x :: rest,k,h,i,o,hi,hlt=>by
    simp only [tW] at h
    rw [show Nat.blt k m = true by simp;omega] at h
    cases i with
    | zero=>simp only [List.getElem?_cons_zero,Option.some.injEq] at hi;subst hi;exact h.1
    | succ i =>
      have:=aD0 rest (k + 1) h.2 i o (by simpa using hi) (by omega)
      rwa [show k + 1 + i = k + (i + 1) by omega] at this
theorem aB4 (Gd : Hp → Prop) (hG : Gd H) (i0 : Nat) (FOa : Nat × SObj → Hp → Prop) (FO2 : Nat × SObj → Hp → Prop) (hFOa : ∀ p H H',Le H H' → FOa p H → FOa p H') (hFO2 : ∀ p H H',Le H H' → FO2 p H → FO2 p H') {id : Nat} {l : List Oper} (m : Nat) (F : List (Value → Hp → Prop)) (hm : C.P.follows .mixedOrders = true) (hck : rP m l (env.map Prod.fst) = true) (hmono' : aAl F)
    (hi0 : Nat.blt i0 m = true) {q : Nat × SObj} (hq0 : FOa q H) (steps : tW Gd i0 FOa FO2 C l F env df H own m 0 l)
    (tail : ∀ H',Le H H' → Gd H' → iV l F H' (List.range m) [] fun acc=>∀ e,FO2 e H' → XO C l.toArray Q (l.drop m) ⟨acc ++ env,df,H',e :: own⟩) : XC C (.region id l.toArray true) Q ⟨env,df,H,q :: own⟩:=by
  have hmono:=vB hmono'
  intro a₀ w₀ hr₀
  refine wpIn_region_any hm ?_
  simp only [rP,Bool.and_eq_true,List.all_eq_true,List.mem_range] at hck
  obtain ⟨⟨hml,hck1⟩,hck2⟩:=hck
  have hml:=Nat.le_of_ble_eq_true hml
  have hpre : ∀ i,i < m → ∃ o,l[i]? = some o ∧ (∀ t,o.dst = some t → t ∉ env.map Prod.fst ∧ (∀ j,j < m → i ≠ j → eJ l j ≠ some t)) ∧ (∀ e ∈ o.after,Region.binds .any e = true → e.on < i) ∧ (∀ j ∈ gM o,j < m ∧ ∃ e ∈ o.after,Region.binds .any e = true ∧ e.on = j):=by
    intro i hi
    have h:=hck1 i hi
    split at h
    · rename_i o ho
      simp only [Bool.and_eq_true,List.all_eq_true] at h
      obtain ⟨⟨⟨hnd,hd⟩,haf⟩,hp⟩:=h
      refine ⟨o,ho,?_,?_,?_⟩
      · intro t ht
        rw [ht] at hd
        simp only [Bool.and_eq_true,List.all_eq_true,List.mem_range,Bool.not_eq_true',List.contains_eq_mem,decide_eq_false_iff_not] at hd
        refine ⟨hd.1,fun j hj hne he=>?_⟩
        have:=hd.2 j hj
        rw [he] at this
        simp at this
        exact hne this
      · intro e he hb
        have:=haf e (by simpa using he)
        simpa [hb] using this
      intro j hj
      have:=hp j hj
      simp only [List.any_eq_true,Bool.and_eq_true] at this
      obtain ⟨h1,e,he,hb,hon⟩:=this
      exact ⟨by simpa using h1,e,by simpa using he,hb,Nat.eq_of_beq_eq_true hon⟩
    cases h
  have hkey : ∀ i t,i < m → eJ l i = some t → t ∉ env.map Prod.fst:=by
    intro i t hi ht
    obtain ⟨o,ho,hd,_⟩:=hpre i hi
    exact (hd t (by simpa [eJ,ho] using ht)).1
  have hdis : ∀ i j t,i < m → j < m → eJ l i = some t → eJ l j = some t → i = j:=by
    intro i j t hi hj ht ht2
    obtain ⟨o,ho,hd,_⟩:=hpre i hi
    by_cases h : i = j
    · exact h
    exact absurd ht2 ((hd t (by simpa [eJ,ho] using ht)).2 j hj h)
  have htl : ∀ (i : Nat) (o : Oper),m ≤ i → l[i]? = some o → (∀ j,j < i → pF l l.length o j = true) ∧ (∀ e ∈ o.after,Region.binds .any e = true → e.on < i):=by
    intro i o hi ho
    have hlt:=(List.getElem?_eq_some_iff.1 ho).1
    have h:=hck2 i hlt
    rw [ho] at h
    rw [show Nat.blt i m = false from aBy hi] at h
    simp only [Bool.false_or,Bool.and_eq_true,List.all_eq_true,List.mem_range] at h
    refine ⟨fun j hj=>h.1 j hj,fun e he hb=>?_⟩
    · have:=h.2 e (by simpa using he)
      simpa [hb] using this
  have hdc : ∀ (i : Nat) (o : Oper),l[i]? = some o → ∀ e ∈ o.after,Region.binds .any e = true → e.on < i:=by
    intro i o ho
    rcases Nat.lt_or_ge i m with h | h
    · obtain ⟨o2,ho2,_,haf,_⟩:=hpre i h
      rw [ho] at ho2;cases ho2;exact haf
    exact (htl i o h ho).2
  have main : ∀ (fuel : Nat) (L : Array Bool) (a : Act) (w : World) (val : Nat → Value) (ent : Nat × SObj) (H' : Hp),L.size = l.length → unl l.length L ≤ fuel → Le H H' → Gd H' → (∀ (i : Nat) (o : Oper),l[i]? = some o → lst L i = true → ∀ e ∈ o.after,Region.binds .any e = true → lst L e.on = true) → (∀ j,m ≤ j → lst L j = false) →
      a.tmps.size = C.N → (∀ t v,env.get t = some v → a.tmps.getD t undef = v) → (∃ ms : List Nat,a.defers = ms.map oF ++ df ∧ Ok C.G H' ((ent :: own) ++ (ms.map hid ++ C.hid)) w) → (if lst L i0 = true then FO2 ent H' else FOa ent H') →
      (∀ i,i < m → lst L i = true → ∀ t,eJ l i = some t → a.tmps.getD t undef = val i ∧ gC F i (val i) H') →
      wpAnyIn (Fr C.r) 0 C.P .any l.toArray (lA C H Q) fuel L a w:=by
    intro fuel
    have done : ∀ (fuel : Nat) (L : Array Bool) (a : Act) (w : World) (val : Nat → Value) (ent : Nat × SObj) (H' : Hp),L.size = l.length → unl l.length L ≤ fuel → Le H H' → Gd H' → (∀ j,m ≤ j → lst L j = false) →
        a.tmps.size = C.N → (∀ t v,env.get t = some v → a.tmps.getD t undef = v) → (∃ ms : List Nat,a.defers = ms.map oF ++ df ∧ Ok C.G H' ((ent :: own) ++ (ms.map hid ++ C.hid)) w) → (if lst L i0 = true then FO2 ent H' else FOa ent H') →
        (∀ i,i < m → lst L i = true → ∀ t,eJ l i = some t → a.tmps.getD t undef = val i ∧ gC F i (val i) H') → (∀ j,j < m → lst L j = true) →
        wpAnyIn (Fr C.r) 0 C.P .any l.toArray (lA C H Q) fuel L a w:=by
      intro fuel L a w val ent H' hs hu hle hGd hT hsz henv hok hents hfacts hall
      obtain ⟨acc',hk,hmem⟩:=mQ (val:=val) (List.range m) [] _ (tail H' hle hGd) (fun j hj t ht=>(hfacts j (List.mem_range.1 hj) (hall j (List.mem_range.1 hj)) t ht).2)
      have hcount : l.length - m ≤ fuel:=by rw [tM hml hall hT];exact hu
      refine sV (m:=m) htl hdc fuel m L a w (Nat.le_refl _) hs hcount hml ?_ ?_
      · intro j
        rcases Nat.lt_or_ge j m with h | h
        · rw [hall j h];simp [h]
        rw [hT j h];simp;omega
      have him0 : i0 < m:=by simpa using hi0
      have hk2:=hk ent (by rw [if_pos (hall i0 him0)] at hents;exact hents)
      refine jK hle _ _ _ (hk2 a w ⟨hsz,?_,hok⟩)
      intro t v hg
      simp only [List.append_nil] at hg
      rw [Env.get_append] at hg
      cases hga : Env.get acc' t with
      | none=>rw [hga] at hg;exact henv t v (by simpa using hg)
      | some u =>
        rw [hga] at hg;simp at hg;subst hg
        obtain ⟨j,hj,hd,rfl⟩:=hmem t u (gP _ _ _ hga)
        have hj:=List.mem_range.1 hj
        exact (hfacts j hj (hall j hj) t hd).1
    induction fuel with
    | zero =>
      intro L a w val ent H' hs hu hle hGd hdown hT hsz henv hok hents hfacts
      refine done 0 L a w val ent H' hs hu hle hGd hT hsz henv hok hents hfacts ?_
      intro j hj
      cases hx : lst L j with
      | true=>rfl
      | false =>
        have:=nS (L:=L) (i:=j) hs (by omega) hx
        omega
    | succ fuel ih =>
      intro L a w val ent H' hs hu hle hGd hdown hT hsz henv hok hents hfacts
      by_cases hall : ∀ j,j < m → lst L j = true
      · exact done (fuel + 1) L a w val ent H' hs hu hle hGd hT hsz henv hok hents hfacts hall
      constructor
      · intro hnil
        exfalso
        apply hall
        -- the least one that is not listed is ready
        intro j hj
        induction j using Nat.strongRecOn with
        | _ j ihj =>
          cases hx : lst L j with
          | true=>rfl
          | false =>
            exfalso
            obtain ⟨o,ho,_,haf,_⟩:=hpre j hj
            have : j ∈ Region.ready .any l.toArray L:=by
              rw [mem_ready]
              refine ⟨?_,o,by simpa using ho,fun e he hb=>ihj e.on (haf e he hb) (by have:=haf e he hb;omega)⟩
              unfold lst at hx
              rw [Array.getD_eq_getD_getElem?,Array.getElem?_eq_getElem (by omega)] at hx ⊢
              simpa using hx
            rw [hnil] at this;cases this
      intro i hi
      rw [mem_ready] at hi
      obtain ⟨h0,o,ho,hbef⟩:=hi
      have hilt : i < l.length:=by simpa using (Array.getElem?_eq_some_iff.1 ho).1
      have hun : lst L i = false:=by
        unfold lst
        rw [Array.getD_eq_getD_getElem?,Array.getElem?_eq_getElem (by omega)] at h0 ⊢
        simpa using h0
      have ho' : l[i]? = some o:=by simpa using ho
      have him : i < m:=by
        rcases Nat.lt_or_ge i m with h | h
        · exact h
        exfalso
        apply hall
        intro j hj
        exact kY hdown _ o j hbef ((htl i o h ho').1 j (by omega))
      obtain ⟨o2,ho2,hd,haf,hprd⟩:=hpre i him
      rw [ho'] at ho2;cases ho2
      have hdo : eJ l i = o.dst:=by simp [eJ,ho']
      have hst:=aD0 l 0 steps i o ho' (by omega)
      simp only [Nat.zero_add] at hst
      -- all that is known of the slots,a_s one list
      let X : Env:=(List.range m).filterMap fun j=>if lst L j then (eJ l j).map fun t=>(t,val j) else none
      have hpredF : ∀ j ∈ gM o,∀ tj,eJ l j = some tj → gC F j (val j) H':=fun j hj tj hdj=>by
        obtain ⟨hjm,e,he,hb,hon⟩:=hprd j hj
        have hlj : lst L j = true:=by have:=hbef e he hb;rw [hon] at this;exact this
        exact (hfacts j hjm hlj tj hdj).2
      have hX : ∀ t v,(t,v) ∈ X → ∃ j,j < m ∧ lst L j = true ∧ eJ l j = some t ∧ v = val j:=by
        intro t v h
        obtain ⟨j,hj,hjj⟩:=List.mem_filterMap.1 h
        split at hjj
        · rename_i hlj
          cases hdj : eJ l j with
          | none=>rw [hdj] at hjj;cases hjj
          | some tj =>
            rw [hdj] at hjj
            simp only [Option.map_some,Option.some.injEq,Prod.mk.injEq] at hjj
            obtain ⟨rfl,rfl⟩:=hjj
            exact ⟨j,List.mem_range.1 hj,hlj,hdj,rfl⟩
        cases hjj
      have hgets : ∀ acc' : Env,(∀ t v,(t,v) ∈ acc' → ∃ j ∈ gM o,eJ l j = some t ∧ v = val j) → ∀ t v,Env.get (acc' ++ (env ++ X)) t = some v → a.tmps.getD t undef = v:=by
        intro acc' hmem t v hgv
        rw [Env.get_append,Env.get_append] at hgv
        cases hga : Env.get acc' t with
        | some u =>
          rw [hga] at hgv;simp at hgv;subst hgv
          obtain ⟨j,hj,hdj,rfl⟩:=hmem t u (gP _ _ _ hga)
          obtain ⟨hjm,e,he,hb,hon⟩:=hprd j hj
          have hlj : lst L j = true:=by have:=hbef e he hb;rw [hon] at this;exact this
          exact (hfacts j hjm hlj t hdj).1
        | none =>
          rw [hga] at hgv;simp only [Option.none_or] at hgv
          cases hge : Env.get env t with
          | some u=>rw [hge] at hgv;simp at hgv;subst hgv;exact henv t u hge
          | none =>
            rw [hge] at hgv;simp only [Option.none_or] at hgv
            obtain ⟨j,hj,hlj,hdj,rfl⟩:=hX t v (gP _ _ _ hgv)
            exact (hfacts j hj hlj t hdj).1
      have hnextG : ∀ (acc' : Env),(∀ t v,(t,v) ∈ acc' → ∃ j ∈ gM o,eJ l j = some t ∧ v = val j) → ∀ (a' : Act) (w' : World) (σ' : St) (v : Value) (ent' : Nat × SObj),Rel C σ' a' w' → Le H' σ'.H → Gd σ'.H → σ'.df = df → σ'.env = fJ o.dst v (acc' ++ (env ++ X)) → gC F i v σ'.H →
          (∀ ms : List Nat,Ok C.G σ'.H (σ'.own ++ (ms.map hid ++ C.hid)) w' → Ok C.G σ'.H ((ent' :: own) ++ (ms.map hid ++ C.hid)) w') →
          (if lst (L.setIfInBounds i true) i0 = true then FO2 ent' σ'.H else FOa ent' σ'.H) →
          wpAnyIn (Fr C.r) 0 C.P .any l.toArray (lA C H Q) fuel (L.setIfInBounds i true) a' w':=by
        intro acc' hmem a' w' σ' v ent' hr' hle' hGd' hdf' henv' hfv hown' hent'
        refine ih (L.setIfInBounds i true) a' w' (fun j=>if j = i then v else val j) ent' σ'.H (by simpa using hs) ?_ (hle.trans hle') hGd' ?_ ?_ hr'.size ?_ ?_ hent' ?_
        · have:=nS hs hilt hun;omega
        · intro i' o' hi' hl' e he hb
          rw [gE (by omega)] at hl' ⊢
          split
          · rfl
          split at hl'
          · rename_i e1 e2;subst e2;rw [ho'] at hi';cases hi';exact hbef e he hb
          exact hdown i' o' hi' hl' e he hb
        · intro j hj
          rw [gE (by omega),if_neg (by omega)]
          exact hT j hj
        · intro t' v' hg'
          refine hr'.get t' v' ?_
          have hin : t' ∈ env.map Prod.fst:=List.mem_map.2 ⟨(t',v'),gP _ _ _ hg',rfl⟩
          rw [henv',kU (fun e=>(hd t' e).1 hin),Env.get_append,Env.get_append]
          have : Env.get acc' t' = none:=by
            cases hga : Env.get acc' t' with
            | none=>rfl
            | some u =>
              obtain ⟨j,hj,hdj,_⟩:=hmem t' u (gP _ _ _ hga)
              exact absurd hin (hkey j t' (hprd j hj).1 hdj)
          rw [this,hg'];rfl
        · obtain ⟨ms,hd',hok'⟩:=hr'.ok
          exact ⟨ms,by rw [hd',hdf'],hown' ms hok'⟩
        intro j hj hlj tj htj
        rw [gE (by omega)] at hlj
        by_cases hji : j = i
        · subst hji
          rw [hdo] at htj
          simp only [if_true]
          refine ⟨hr'.get tj v ?_,hfv⟩
          rw [henv',htj];simp [fJ,Env.get]
        rw [if_neg hji] at hlj
        obtain ⟨h1,h2⟩:=hfacts j hj hlj tj htj
        simp only [if_neg hji]
        refine ⟨hr'.get tj (val j) ?_,oY hmono hle' h2⟩
        rw [henv',kU (fun e=>hji (hdis j i tj hj him htj (by rw [hdo,e]))),Env.get_append,Env.get_append]
        have hacc : Env.get acc' tj = none ∨ Env.get acc' tj = some (val j):=by
          cases hga : Env.get acc' tj with
          | none=>exact .inl rfl
          | some u =>
            obtain ⟨j',hj',hdj',rfl⟩:=hmem tj u (gP _ _ _ hga)
            obtain rfl:=hdis j' j tj (hprd j' hj').1 hj hdj' htj
            exact .inr rfl
        rcases hacc with hacc | hacc
        · rw [hacc]
          have henvn : Env.get env tj = none:=by
            cases hge : Env.get env tj with
            | none=>rfl
            | some u=>exact absurd (List.mem_map.2 ⟨(tj,u),gP _ _ _ hge,rfl⟩) (hkey j tj hj htj)
          rw [henvn]
          simp only [Option.none_or]
          -- it stands in X,once
          refine sX X (List.mem_filterMap.2 ⟨j,List.mem_range.2 hj,by simp only [hlj,if_true,htj,Option.map_some]⟩) ?_
          intro u hu'
          obtain ⟨j',hj',_,hdj',rfl⟩:=hX tj u hu'
          obtain rfl:=hdis j' j tj hj' hj hdj' htj
          rfl
        rw [hacc];rfl
      have hcase : ∀ (acc' : Env) (own2 : Own) (Q2 : Exit → St → Prop),(∀ e σ,e ≠ .normal → ¬ Q2 e σ) → XO C l.toArray Q2 [o] ⟨acc' ++ (env ++ X),df,H',own2⟩ → Rel C ⟨acc' ++ (env ++ X),df,H',own2⟩ a w →
          (∀ a' w',lA C H' Q2 .normal a' w' → wpAnyIn (Fr C.r) 0 C.P .any l.toArray (lA C H Q) fuel (L.setIfInBounds i true) a' w') → wpOpIn (Fr C.r) 0 C.P l.toArray (lA C H Q) i (fun a' w'=>wpAnyIn (Fr C.r) 0 C.P .any l.toArray (lA C H Q) fuel (L.setIfInBounds i true) a' w') a w:=by
        intro acc' own2 Q2 hno hk hrel hnext
        have hrun:=hk a w hrel
        unfold wpOpIn
        rw [ho]
        simp only [wpListIn] at hrun ⊢
        split
        · rename_i hw
          rw [if_pos hw] at hrun
          refine lM hnext ?_ hrun
          rintro e a' w' he ⟨σ',_,_,hq⟩
          exact absurd hq (hno e σ' he)
        rename_i hw
        rw [if_neg hw] at hrun
        exact ⟨hrun.1,hnext _ _ hrun.2⟩
      obtain ⟨acc',hk,hmem⟩:=mQ (val:=val) (gM o) [] _ (hst X ent H' hle hGd (fun e=>by
        have hno : lst L i0 = false:=by
          rcases e with e | e
          · rw [e] at hun;exact hun
          cases hx : lst L i0 with
          | false=>rfl
          | true =>
            unfold aEp at e
            split at e
            · rename_i o0 ho0
              rw [List.any_eq_true] at e
              obtain ⟨ed,hed,h1⟩:=e
              simp only [Bool.and_eq_true] at h1
              have:=hdown i0 o0 ho0 hx ed (by simpa using hed) h1.1
              rw [Nat.eq_of_beq_eq_true h1.2,hun] at this;cases this
            cases e
        rw [hno,if_neg (by simp)] at hents
        exact hents)) hpredF
      simp only [List.append_nil] at hk
      refine hcase acc' _ _ (fun e σ he=>by cases e <;> first | exact absurd rfl he | exact fun h=>h) hk ⟨hsz,hgets acc' hmem,hok⟩ ?_
      rintro a' w' ⟨σ',hr',hle',hGd',hdf',v,e2,henv',hfv,hown',hfo⟩
      refine hnextG acc' hmem a' w' σ' v e2 hr' hle' hGd' hdf' henv' hfv ?_ ?_
      · intro ms hok'
        rw [hown'] at hok'
        exact hok'
      unfold foS at hfo
      by_cases hii : i = i0
      · rw [if_pos hii] at hfo
        rw [gE (by omega),if_pos hii.symm,if_pos rfl]
        exact hfo
      rw [if_neg hii] at hfo
      subst hfo
      have hne : ¬ i0 = i:=fun e=>hii e.symm
      have hls : lst (L.setIfInBounds i true) i0 = lst L i0:=by rw [gE (by omega),if_neg hne]
      rw [hls]
      split
      · rename_i h5;rw [if_pos h5] at hents;exact hFO2 _ _ _ hle' hents
      rename_i h5;rw [if_neg h5] at hents;exact hFOa _ _ _ hle' hents
  have hlst0 : ∀ j,lst (Array.replicate l.toArray.size false) j = false:=fun j=>by simp [lst,Array.getD_eq_getD_getElem?,Array.getElem?_replicate];split <;> rfl
  exact main l.toArray.size (Array.replicate l.toArray.size false) a₀ _ (fun _=>undef) q H (by simp) (by
      refine Nat.le_trans (List.countP_le_length) (by simp)) (Le.refl _) hG (fun i o _ hl=>by
      have : lst (Array.replicate l.toArray.size false) i = false:=by simp [lst,Array.getD_eq_getD_getElem?,Array.getElem?_replicate];split <;> rfl
      rw [this] at hl;cases hl) (fun j _=>by simp [lst,Array.getD_eq_getD_getElem?,Array.getElem?_replicate];split <;> rfl) hr₀.size hr₀.get
    (let ⟨ms,hd,hok⟩:=hr₀.ok;⟨ms,hd,hok.drew⟩) (by rw [hlst0,if_neg (by simp)];exact hq0) (fun i _ h=>by
      have : lst (Array.replicate l.toArray.size false) i = false:=by simp [lst,Array.getD_eq_getD_getElem?,Array.getElem?_replicate];split <;> rfl
      rw [this] at h;cases h)
end
end Go.XL

namespace Go.XL
abbrev Raw:=Option Addr × Nat × Nat
def aLw : Rep Raw where
 sz:=1
 R:=fun _ cs r=>cs = [.slice r.1 r.2.1 r.2.2]
 len:=fun h=>by subst h;rfl
 one:=fun h=>by subst h;rfl
 mono:=fun _ h=>h
structure RowO (α : Type) where
 p : Nat × SObj
 a : Option Addr
 c : Nat
 l : List α
def RowO.raw {α : Type} (r : RowO α) : Raw:=(r.a,r.l.length,r.c)
def RowsO {α : Type} (ρ : Rep α) (T : TypeId) (H : Hp) (rs : List (RowO α)) : Prop:=∀ r ∈ rs,Acc ρ T H r.p r.a r.c r.l
section
variable {α : Type} {ρ : Rep α} {T : TypeId} {H H' : Hp} {rs : List (RowO α)}
end
section
variable {C : Ctx} {ops : Array Oper} {Q : Exit → St → Prop} {rest : List Oper} {env : Env} {df : List Deferred} {H : Hp} {rst : Own} {α : Type} {ρ : Rep α} {T T2 : TypeId} {rs : List (RowO α)} {px : Nat × SObj} {ax : Option Addr} {cx : Nat}
end
end Go.XL

namespace Go.XL
section
variable {α : Type} {ρ : Rep α} {T : TypeId} {H : Hp} {p : Nat × SObj} {a : Option Addr} {c : Nat}
def aDj (ρ : Rep α) (H : Hp) (rs : List Raw) (l : List (List α)) : Prop:=rs.length = l.length ∧ ∀ (i : Nat) (r : Raw) (x : List α),rs[i]? = some r → l[i]? = some x → r.2.1 = x.length ∧ SlR ρ H r.1 r.2.2 x
theorem aDj.mono {H' : Hp} {rs : List Raw} {l : List (List α)} (h : aDj ρ H rs l) (hle : Le H H') : aDj ρ H' rs l:=⟨h.1,fun i r x h1 h2=>let ⟨a,b⟩:=h.2 i r x h1 h2;⟨a,b.mono hle⟩⟩
theorem eN.fromRaw : ∀ {l : List (List α)} {rs : List Raw} {xs : List Value},eN aLw H xs rs → aDj ρ H rs l → eN (slR ρ) H xs l
  | [],[],xs,h,_=>h
  | [],r :: rs,xs,h,h2=>by have:=h2.1;simp at this
  | u :: l,[],xs,h,h2=>by have:=h2.1;simp at this
  | u :: l,r :: rs,xs,⟨c1,c2,e,h1,h3⟩,h2=>by
    obtain ⟨h4,h5⟩:=h2.2 0 r u rfl rfl
    refine ⟨c1,c2,e,⟨r.1,r.2.2,by rw [← h4];exact h1,h5⟩,eN.fromRaw h3 ⟨by simpa using h2.1,fun i r x hr hx=>h2.2 (i + 1) r x (by simpa using hr) (by simpa using hx)⟩⟩
theorem Acc.fromRaw {l : List (List α)} {rs : List Raw} (h : Acc aLw T H p a c rs) (h2 : aDj ρ H rs l) : Acc (slR ρ) T H p a c l:=by
 rcases h with ⟨h1,h3,h4,h5⟩ | ⟨xs,h1,h3,h4,h5⟩
 ·subst h4
  have:=h2.1
  refine .inl ⟨h1,h3,?_,h5⟩
  cases l with
  | nil=>rfl
  | cons u l=>simp at this
 exact .inr ⟨xs,h1,h3,eN.fromRaw h4 h2,by rw [← h2.1];exact h5⟩
end
end Go.XL

namespace Go.Proofs
open Go.XL
inductive Val where
 | mk (k n : Int) (s : List UInt8) (l : List Val)
namespace Val
def K : Val → Int | mk k _ _ _=>k
def N : Val → Int | mk _ n _ _=>n
def S : Val → List UInt8 | mk _ _ s _=>s
def L : Val → List Val | mk _ _ _ l=>l
end Val
def v0 : Val:=.mk 0 0 [] []
mutual
def vsz : Val → Nat | .mk _ _ _ l=>aMr l + 1
def aMr : List Val → Nat | []=>0 | x :: r=>vsz x + aMr r + 1
end
theorem aJ8 {x : Val} : ∀ {l : List Val},x ∈ l → vsz x < aMr l + 1
  | y :: r,h=>by
    rw [aMr]
    rcases List.mem_cons.1 h with rfl | h
    · omega
    have:=aJ8 h;omega
theorem vsz_lt {k n : Int} {s : List UInt8} {l : List Val} {x : Val} (h : x ∈ l) : vsz x < vsz (.mk k n s l):=by rw [vsz];exact aJ8 h
theorem Val.ind {motive : Val → Prop} (h : ∀ k n s l,(∀ x ∈ l,motive x) → motive (.mk k n s l)) : ∀ v,motive v:=by
  have : ∀ (m : Nat) (v : Val),vsz v < m → motive v:=by
    intro m
    induction m with
    | zero=>intro v h;omega
    | succ m ih =>
      rintro ⟨k,n,s,l⟩ hv
      exact h k n s l fun x hx=>ih x (by have:=vsz_lt (k:=k) (n:=n) (s:=s) hx;omega)
  exact fun v=>this (vsz v + 1) v (by omega)
/-! ### In memory -/
inductive VIs (H : Hp) : List Value → Val → Prop
  | mk (k n : Int) (s : List UInt8) (l : List Val) (a : Option Addr) (c b o : Nat) (css : Nat → List Value) (hle : l.length ≤ c) (hnil : a = none → c = 0)
    (h1 : ∀ (i : Nat) (x : Val),l[i]? = some x → a = some ⟨b,o,none⟩ ∧ PtH H b (o + i * 4) (css i)) (h2 : ∀ (i : Nat) (x : Val),l[i]? = some x → VIs H (css i) x) :
    VIs H [.int .i64 k,.int .i64 n,.string (iW s),.slice a l.length c] (.mk k n s l)
theorem VIs.mono {H H' : Hp} (hle : Le H H') {cs : List Value} {v : Val} (h : VIs H cs v) : VIs H' cs v:=by
 induction h with
 | mk k n s l a c b o css h1 h2 h3 _ ih=>exact .mk k n s l a c b o css h1 h2 (fun i x hx=>⟨(h3 i x hx).1,(h3 i x hx).2.mono hle⟩) ih
def valR : Rep Val where
 sz:=4
 R:=VIs
 len:=fun h=>by cases h;rfl
 one:=fun h=>by cases h;rfl
 mono:=fun hle h=>h.mono hle
theorem mN {H : Hp} {cs : List Value} {k n : Int} {s : List UInt8} {l : List Val} : valR.R H cs (.mk k n s l) ↔ ∃ a c,cs = [.int .i64 k,.int .i64 n,.string (iW s),.slice a l.length c] ∧ SlR valR H a c l:=by
  constructor
  · intro h
    cases h with
    | mk _ _ _ _ a c b o css h1 h2 h3 h4=>exact ⟨a,c,rfl,h1,h2,fun i x hx=>⟨b,o,css i,(h3 i x hx).1,(h3 i x hx).2,h4 i x hx⟩⟩
  rintro ⟨a,c,rfl,hs⟩
  cases l with
  | nil=>exact .mk k n s [] a c 0 0 (fun _=>[]) hs.le hs.nil (fun i x h=>by simp at h) (fun i x h=>by simp at h)
  | cons y r =>
    obtain ⟨b,o,ha⟩:=hs.addr (by simp)
    have hx : ∀ i : Nat,∃ cs,∀ x,(y :: r)[i]? = some x → PtH H b (o + i * 4) cs ∧ VIs H cs x:=by
      intro i
      cases h : (y :: r)[i]? with
      | none=>exact ⟨[],fun x hx=>by cases hx⟩
      | some x =>
        obtain ⟨b',o',cs,h1,h2,h3⟩:=hs.el i x h
        rw [ha] at h1;cases h1
        exact ⟨cs,fun z hz=>by cases hz;exact ⟨h2,h3⟩⟩
    exact .mk k n s _ a c b o (fun i=>Classical.choose (hx i)) hs.le hs.nil (fun i x h=>⟨ha,(Classical.choose_spec (hx i) x h).1⟩) (fun i x h=>(Classical.choose_spec (hx i) x h).2)
def VV (H : Hp) (v : Value) (u : Val) : Prop:=∃ a c,v = .agg ⟨[.int .i64 u.K,.int .i64 u.N,.string (iW u.S),.slice a u.L.length c]⟩ ∧ SlR valR H a c u.L
mutual
def gD : Val → Bool
 | .mk k n s l=>(k == 1 && s.isEmpty && l.isEmpty) || (k == 2 && n == 0 && l.isEmpty) || (k == 3 && n == 0 && s.isEmpty && kN l)
def kN : List Val → Bool | []=>true | x :: r=>gD x && kN r
end
mutual
def jU : Val → Nat | .mk k _ _ l=>if k = 3 then kR l + 1 else 0
def kR : List Val → Nat | []=>0 | x :: r=>max (jU x) (kR r)
end
def uT (v : Val) : Int:=if gD v = true then (if 16 < jU v then 2 else 0) else 1
theorem formedL_snoc {l : List Val} {x : Val} : kN (l ++ [x]) = (kN l && gD x):=by
 induction l with
 | nil=>simp [kN]
 | cons y r ih=>simp [kN,ih,Bool.and_assoc]
theorem depthL_snoc {l : List Val} {x : Val} : kR (l ++ [x]) = max (kR l) (jU x):=by
 induction l with
 | nil=>simp [kR]
 | cons y r ih=>simp only [List.cons_append,kR,ih];omega
theorem uP {l : List Val} : kN l = true ↔ ∀ x ∈ l,gD x = true:=by
 induction l with
 | nil=>simp [kN]
 | cons y r ih=>simp [kN,ih]
def fdV (v : Val) : Nat:=if gD v = true then jU v else 0
def fdR (v : Val) : Value:=.tuple #[.int .i64 (fdV v : Nat),.bool (gD v)]
theorem aD2 {v : Val} (h : gD v = false) : Value.tuple #[.int .i64 0,.bool false] = fdR v:=by
 unfold fdR fdV;rw [h];rfl
theorem aIp {v : Val} {d : Int} (h : gD v = true) (hd : d = (jU v : Nat)) : Value.tuple #[.int .i64 d,.bool true] = fdR v:=by
 unfold fdR fdV;rw [h,hd];rfl
section
variable {n : Int} {s : List UInt8} {l : List Val}
theorem aE5 : gD (.mk 1 n s l) = true ↔ s = [] ∧ l = []:=by simp [gD]
theorem aEz : gD (.mk 2 n s l) = true ↔ n = 0 ∧ l = []:=by simp [gD]
theorem wH : gD (.mk 3 n s l) = true ↔ (n = 0 ∧ s = []) ∧ kN l = true:=by simp [gD]
theorem aFv {k : Int} (h : k ≠ 1 ∧ k ≠ 2 ∧ k ≠ 3) : gD (.mk k n s l) = false:=by simp [gD,h.1,h.2.1,h.2.2]
theorem aF1 {b : Bool} (h : ¬ b = true) : b = false:=by simpa using h
theorem fl_yes {i : Nat} {x : Val} (hx : l[i]? = some x) (h1 : kN (l.take i) = true) (h2 : gD x = true) : kN (l.take (i + 1)) = true:=by
 rw [fP hx,formedL_snoc,h1,h2];rfl
theorem dl_max {i : Nat} {x : Val} (hx : l[i]? = some x) : kR (l.take (i + 1)) = max (kR (l.take i)) (jU x):=by rw [fP hx,depthL_snoc]
end
theorem chk_1 {v : Val} (h : gD v = false) : uT v = 1:=by unfold uT;rw [h];rfl
theorem chk_2 {v : Val} (h : gD v = true) (hd : 16 < jU v) : uT v = 2:=by unfold uT;rw [if_pos h,if_pos hd]
theorem aM8 {v : Val} (h : gD v = true) (hd : ¬ 16 < jU v) : uT v = 0:=by unfold uT;rw [if_pos h,if_neg hd]
theorem fd_eq {v : Val} (h : gD v = true) : fdV v = jU v:=if_pos h
/-! ### Encoding -/
def nK (u : Nat) : List UInt8:=if h : u < 128 then [UInt8.ofNat u] else UInt8.ofNat (u % 128 + 128) :: nK (u / 128)
termination_by u
decreasing_by omega
def zA (n : Int) : Nat:=if 0 ≤ n then (2 * n).toNat else (-2 * n - 1).toNat
def aMn (u : Nat) : Int:=if u % 2 = 0 then ((u / 2 : Nat) : Int) else -((u / 2 : Nat) : Int) - 1
theorem aI3 (n : Int) : aMn (zA n) = n:=by
 unfold aMn zA
 split <;> split <;> omega
mutual
def mC : Val → List UInt8
 | .mk k n s l=>if k = 1 then 1 :: nK (zA n) else if k = 2 then 2 :: (nK s.length ++ s) else 3 :: (nK l.length ++ rE l)
def rE : List Val → List UInt8 | []=>[] | x :: r=>mC x ++ rE r
end
theorem aDz {l : List Val} {x : Val} : rE (l ++ [x]) = rE l ++ mC x:=by
 induction l with
 | nil=>simp [rE]
 | cons y r ih=>simp [rE,ih]
/-! ### How large a value is -/
mutual
def mK : Val → Nat | .mk _ _ s l=>20 + s.length + pI l
def pI : List Val → Nat | []=>0 | x :: r=>mK x + pI r
end
theorem wszL_snoc {l : List Val} {x : Val} : pI (l ++ [x]) = pI l + mK x:=by
 induction l with
 | nil=>simp [pI]
 | cons y r ih=>simp only [List.cons_append,pI,ih];omega
theorem aE7 {x : Val} : ∀ {l : List Val},x ∈ l → mK x ≤ pI l
  | y :: r,h=>by
    rw [pI]
    rcases List.mem_cons.1 h with rfl | h
    · omega
    have:=aE7 h;omega
theorem aFt : ∀ {l : List Val},20 * l.length ≤ pI l
  | []=>by simp
  | x :: r=>by
    have:=aFt (l:=r)
    cases x
    rw [pI,mK,List.length_cons];omega
theorem aHc {l : List Val} : ∀ k,pI (l.take k) ≤ pI l:=by
  induction l with
  | nil=>intro k;simp
  | cons x r ih =>
    intro k
    cases k with
    | zero=>simp [pI]
    | succ k=>rw [List.take_succ_cons,pI,pI];have:=ih k;omega
theorem wU : ∀ {l : List Val},(∀ x ∈ l,jU x ≤ mK x) → kR l ≤ pI l
  | [],_=>by simp [kR]
  | x :: r,h=>by
    have h1:=h x (by simp)
    have h2:=wU fun y hy=>h y (List.mem_cons_of_mem _ hy)
    rw [kR,pI];omega
theorem depth_wsz (v : Val) : jU v ≤ mK v:=by
 refine Val.ind (motive:=fun v=>jU v ≤ mK v) ?_ v
 intro k n s l ih
 have:=wU ih
 rw [jU,mK];split <;> omega
theorem aGd : ∀ (j u : Nat),u < 128 ^ (j + 1) → (nK u).length ≤ j + 1
  | 0,u,h=>by
    rw [nK,dif_pos (by simpa using h)];simp
  | j + 1,u,h=>by
    rw [nK];split
    · simp
    have:=aGd j (u / 128) (by rw [Nat.pow_succ] at h;omega)
    simp;omega
theorem wB {u : Nat} (h : u < 2 ^ 64) : (nK u).length ≤ 10:=aGd 9 u (Nat.lt_of_lt_of_le h (by decide))
inductive Fit : Val → Prop
 | mk (k n : Int) (s : List UInt8) (l : List Val) (hn : -9223372036854775808 ≤ n ∧ n ≤ 9223372036854775807) (hs : s.length < 2 ^ 63) (hl : l.length < 2 ^ 63) (h : ∀ x ∈ l,Fit x) : Fit (.mk k n s l)
theorem Fit.of {k n : Int} {s : List UInt8} {l : List Val} (h : Fit (.mk k n s l)) : (-9223372036854775808 ≤ n ∧ n ≤ 9223372036854775807) ∧ s.length < 9223372036854775808 ∧ l.length < 9223372036854775808 ∧ ∀ x ∈ l,Fit x:=by
 cases h with
 | mk _ _ _ _ h1 h2 h3 h4=>exact ⟨h1,h2,h3,h4⟩
/-! ### Bits -/
theorem qB (n : Int) : IntKind.u64.wrap n = n % 18446744073709551616:=by
 simp [IntKind.wrap,IntKind.bits,IntKind.signed]
theorem aAv (n : Int) : IntKind.u8.wrap n = n % 256:=by
 simp [IntKind.wrap,IntKind.bits,IntKind.signed]
theorem xor_0 {x : Int} (h : 0 ≤ x ∧ x < 18446744073709551616) : (BitVec.ofInt 64 x ^^^ BitVec.ofInt 64 0).toNat = x.toNat:=by
 rw [show BitVec.ofInt 64 0 = 0#64 from rfl,BitVec.xor_zero,BitVec.toNat_ofInt]
 rw [show ((2 ^ 64 : Nat) : Int) = 18446744073709551616 from rfl,Int.emod_eq_of_lt h.1 h.2]
theorem xor_1 {x y : Int} (h : 0 ≤ x ∧ x < 18446744073709551616) (hy : y = 18446744073709551615 ∨ y = -1) : (BitVec.ofInt 64 x ^^^ BitVec.ofInt 64 y).toNat = 18446744073709551615 - x.toNat:=by
 have e : BitVec.ofInt 64 y = BitVec.allOnes 64:=by rcases hy with rfl | rfl <;> rfl
 rw [e,BitVec.xor_allOnes,BitVec.toNat_not,BitVec.toNat_ofInt]
 rw [show ((2 ^ 64 : Nat) : Int) = 18446744073709551616 from rfl,Int.emod_eq_of_lt h.1 h.2]
theorem or_128 : ∀ x : Nat,x < 256 → (BitVec.ofInt 8 (x : Nat) ||| BitVec.ofInt 8 128).toNat = x % 128 + 128:=by decide +kernel
theorem uns_bits {n : Int} (h : -9223372036854775808 ≤ n ∧ n ≤ 9223372036854775807) :
  IntKind.u64.wrap ((BitVec.ofInt 64 (IntKind.u64.wrap (n % 18446744073709551616 * 2 ^ min (1 : Int).toNat 64)) ^^^ BitVec.ofInt 64 (IntKind.u64.wrap (n.fdiv (2 ^ min (63 : Int).toNat 64)))).toNat : Nat) = (zA n : Nat):=by
 rw [show min (1 : Int).toNat 64 = 1 from rfl,show min (63 : Int).toNat 64 = 63 from rfl,show (2 : Int) ^ 1 = 2 from rfl,show (2 : Int) ^ 63 = 9223372036854775808 from rfl,qB,qB,qB,Int.fdiv_eq_ediv_of_nonneg _ (by omega)]
 unfold zA
 rcases Int.lt_or_le n 0 with hn | hn
 ·rw [show n / 9223372036854775808 % 18446744073709551616 = 18446744073709551615 by omega,xor_1 (by omega) (Or.inl rfl),if_neg (by omega)]
  omega
 rw [show n / 9223372036854775808 % 18446744073709551616 = 0 by omega,xor_0 (by omega),if_pos hn]
 omega
mutual
def sameV : Val → Val → Bool
 | .mk k n s l,.mk k' n' s' l'=>k == k' && n == n' && s == s' && aNn l l'
def aNn : List Val → List Val → Bool
 | [],[]=>true
 | x :: r,y :: r'=>sameV x y && aNn r r'
 | _,_=>false
end
abbrev wL (H : Hp) (p : Nat × SObj) (a : Option Addr) (c : Nat) (l : List UInt8) : Prop:=XL.Acc u8R 5 H p a c l
def FOl (f : Nat → List UInt8) (a : Option Addr) (c : Nat) (j : Nat) (v : Value) (p : Nat × SObj) (H : Hp) : Prop:=(j = 0 → wL H p a c (f 0)) ∧ (0 < j → ∃ a2 c2,v = .slice a2 (f j).length c2 ∧ wL H p a2 c2 (f j))
theorem aCl (f : Nat → List UInt8) (a : Option Addr) (c : Nat) : ∀ (j : Nat) (v : Value) (p : Nat × SObj) (H H' : Hp),Le H H' → FOl f a c j v p H → FOl f a c j v p H' :=
 fun _ _ _ _ _ hle h=>⟨fun h0=>(h.1 h0).mono hle,fun h0=>let ⟨a2,c2,h1,h2⟩:=h.2 h0;⟨a2,c2,h1,h2.mono hle⟩⟩
theorem aLq {f : Nat → List UInt8} {a : Option Addr} {c : Nat} {v : Value} {p : Nat × SObj} {H : Hp} (h : wL H p a c (f 0)) : FOl f a c 0 v p H:=⟨fun _=>h,fun h0=>absurd h0 (by omega)⟩
theorem aJ2 {f : Nat → List UInt8} {a a2 : Option Addr} {c c2 j : Nat} {p : Nat × SObj} {H : Hp} (h : wL H p a2 c2 (f (j + 1))) : FOl f a c (j + 1) (.slice a2 (f (j + 1)).length c2) p H:=⟨fun h0=>absurd h0 (by omega),fun _=>⟨a2,c2,rfl,h⟩⟩
def aHz (b1 : Nat) (k : Int) : Value:=if k = 1 then .func (.func 150) #[] #[] else if k = 2 then .func (.func 153) #[] #[] else .func (.func 154) #[] #[.pointer (some ⟨b1,0,none⟩)]
structure WrH (H : Hp) (bw b1 : Nat) : Prop where
 p : PtH H b1 0 [.pointer (some ⟨bw,0,none⟩)]
 f1 : PtH H bw 1 [aHz b1 1]
 f2 : PtH H bw 2 [aHz b1 2]
 f3 : PtH H bw 3 [aHz b1 3]
theorem WrH.mono {H H' : Hp} {bw b1 : Nat} (h : WrH H bw b1) (hle : Le H H') : WrH H' bw b1:=⟨h.p.mono hle,h.f1.mono hle,h.f2.mono hle,h.f3.mono hle⟩
theorem WrH.at {H : Hp} {bw b1 : Nat} (h : WrH H bw b1) {k : Int} (hk : k = 1 ∨ k = 2 ∨ k = 3) : PtH H bw (0 + k.toNat * 1 + 0) [aHz b1 k]:=by
 rcases hk with rfl | rfl | rfl
 ·exact h.f1
 ·exact h.f2
 exact h.f3
theorem uU {k n : Int} {s : List UInt8} {l : List Val} (h : gD (.mk k n s l) = true) : k = 1 ∨ k = 2 ∨ k = 3:=Decidable.byContradiction fun hn=>by
 rw [aFv (by omega)] at h;cases h
theorem encV1 {n : Int} {s : List UInt8} {l : List Val} : mC (.mk 1 n s l) = [1] ++ nK (zA n):=by rw [mC,if_pos rfl];rfl
theorem encV2 {n : Int} {s : List UInt8} {l : List Val} : mC (.mk 2 n s l) = ([2] ++ nK s.length) ++ s:=by rw [mC,if_neg (by decide),if_pos rfl];rfl
theorem encV3 {n : Int} {s : List UInt8} {l : List Val} : mC (.mk 3 n s l) = ([3] ++ nK l.length) ++ rE l:=by rw [mC,if_neg (by decide),if_neg (by decide)];rfl
theorem aJa (v : Val) : Fit v → (mC v).length ≤ mK v:=by
  refine Val.ind (motive:=fun v=>Fit v → (mC v).length ≤ mK v) ?_ v
  intro k n s l ih hf
  obtain ⟨f1,f2,f3,f4⟩:=hf.of
  have hl : (rE l).length ≤ pI l:=by
    clear f3
    induction l with
    | nil=>simp [rE]
    | cons x r ihr =>
      rw [rE,pI,List.length_append]
      have h1:=ih x (by simp) (f4 x (by simp))
      have h2:=ihr (fun y hy=>ih y (by simp [hy])) (by
        refine .mk k n s r f1 (by omega) ?_ (fun y hy=>f4 y (by simp [hy]))
        have:=hf.of.2.2.1;simp at this;omega) (fun y hy=>f4 y (by simp [hy]))
      omega
  have n1:=wB (u:=zA n) (by unfold zA;split <;> omega)
  have n2:=wB (u:=s.length) (by omega)
  have n3:=wB (u:=l.length) (by omega)
  rw [mK]
  rw [mC]
  split
  · simp;omega
  split <;> simp <;> omega
theorem encL_wsz {l : List Val} (h : ∀ x ∈ l,Fit x) : (rE l).length ≤ pI l:=by
  induction l with
  | nil=>simp [rE]
  | cons x r ih =>
    rw [rE,pI,List.length_append]
    have:=aJa x (h x (by simp))
    have:=ih fun y hy=>h y (by simp [hy])
    omega
theorem or_bits (w : Nat) : IntKind.u8.wrap ((BitVec.ofInt (IntKind.bits .u8) ((w % 256 : Nat) : Int) ||| BitVec.ofInt (IntKind.bits .u8) 128).toNat : Nat) = (((UInt8.ofNat (w % 128 + 128)).toNat : Nat) : Int):=by
 rw [show IntKind.bits .u8 = 8 from rfl,or_128 (w % 256) (by omega),aAv]
 have : (UInt8.ofNat (w % 128 + 128)).toNat = w % 128 + 128:=by rw [UInt8.toNat_ofNat'];omega
 rw [this];omega
theorem shr7 (w : Nat) : ((w : Nat) : Int).fdiv (2 ^ min (7 : Int).toNat (IntKind.bits .u64)) = ((w / 128 : Nat) : Int):=by
 rw [show (2 : Int) ^ min (7 : Int).toNat (IntKind.bits .u64) = 128 from rfl,Int.fdiv_eq_ediv_of_nonneg _ (by omega)];omega
theorem numL_yes {w : Nat} (h : 128 ≤ w) (o : List UInt8) : (o ++ [UInt8.ofNat (w % 128 + 128)]) ++ nK (w / 128) = o ++ nK w:=by
 have e : nK w = UInt8.ofNat (w % 128 + 128) :: nK (w / 128):=by rw [nK,dif_neg (by omega)]
 rw [e];simp
theorem numL_last {w : Nat} (h : w < 128) : nK w = [UInt8.ofNat w]:=by rw [nK,dif_pos h]
theorem lP {α : Type} {l : List α} {k : Nat} {x : α} {p : α → Prop} (h : ∀ y ∈ l.take k,p y) (hx : l[k]? = some x) (hp : p x) : ∀ y ∈ l.take (k + 1),p y:=by
 intro y hy
 rw [fP hx,List.mem_append] at hy
 rcases hy with hy | hy
 ·exact h y hy
 simp only [List.mem_singleton] at hy;subst hy;exact hp
theorem aLl {H : Hp} {b : Nat} {cs : List Value} (h : PtH H b 0 cs) (i : Nat) {v : Value} (hv : cs[i]? = some v) : PtH H b i [v]:=by
 obtain ⟨c,T,fz,h1,h2⟩:=h;refine ⟨c,T,fz,h1,fun j u hj=>?_⟩
 cases j with
 | zero=>simp at hj;subst hj;have:=h2 i v hv;simpa using this
 | succ j=>simp at hj
def eB (v : Val) : List UInt8:=if uT v = 0 then mC v else []
def aHo (u : Val) (H : Hp) (v : Value) : Prop:=∃ a c,SlR u8R H a c (eB u) ∧ v = .tuple #[.slice a (eB u).length c,.int .i64 (uT u)]
theorem enc_no {u : Val} {H : Hp} (h : uT u ≠ 0) : aHo u H (.tuple #[.slice none 0 0,.int .i64 (uT u)]):=by
 have e : eB u = []:=by unfold eB;rw [if_neg h]
 exact ⟨none,0,by rw [e];exact SlR.nil0 _ _,by rw [e];rfl⟩
theorem enc_yes {u : Val} {H : Hp} {a : Option Addr} {c : Nat} (h : uT u = 0) (hs : SlR u8R H a c (mC u)) : aHo u H (.tuple #[.slice a (mC u).length c,.int .i64 0]):=by
 have e : eB u = mC u:=by unfold eB;rw [if_pos h]
 exact ⟨a,c,by rw [e];exact hs,by rw [e,h]⟩
theorem chk0_formed {v : Val} (h : uT v = 0) : gD v = true:=by
 unfold uT at h
 split at h
 ·assumption
 cases h
theorem uns_lt2 {n : Int} (h : -9223372036854775808 ≤ n ∧ n ≤ 9223372036854775807) : zA n < 18446744073709551616:=by
 unfold zA;split <;> omega
end Go.Proofs

namespace Go.Proofs
open Go.XL
def aH2 : Nat → Nat → List UInt8 → Option (Nat × List UInt8)
 | _,_,[]=>none
 | i,u,c :: r=>if (i = 0 ∨ c.toNat ≠ 0) ∧ (i < 9 ∨ c.toNat ≤ 1) then
   (if c.toNat < 128 then some (u + c.toNat * 2 ^ (7 * i),r) else aH2 (i + 1) (u + (c.toNat % 128) * 2 ^ (7 * i)) r) else none
def aJ3 (f : List UInt8 → Option (Val × List UInt8)) : Nat → List UInt8 → Option (List Val × List UInt8)
  | 0,r=>some ([],r)
  | n + 1,r=>match f r with
    | none=>none
    | some (v,r2)=>match aJ3 f n r2 with
      | none=>none
      | some (l,r3)=>some (v :: l,r3)
def aLx (r : List UInt8) : Option (Nat × List UInt8):=aH2 0 0 r
def aL2 (r : List UInt8) : Option (Nat × List UInt8):=match aLx r with
 | none=>none
 | some (u,r2)=>if u ≤ r2.length then some (u,r2) else none
def valP : Nat → List UInt8 → Option (Val × List UInt8)
  | _,[]=>none
  | 0,c :: r =>
    if c.toNat = 1 then (match aLx r with | none=>none | some (u,r2)=>some (.mk 1 (aMn u) [] [],r2))
    else if c.toNat = 2 then (match aL2 r with | none=>none | some (u,r2)=>some (.mk 2 0 (r2.take u) [],r2.drop u))
    else none
  | d + 1,c :: r =>
    if c.toNat = 1 then (match aLx r with | none=>none | some (u,r2)=>some (.mk 1 (aMn u) [] [],r2))
    else if c.toNat = 2 then (match aL2 r with | none=>none | some (u,r2)=>some (.mk 2 0 (r2.take u) [],r2.drop u))
    else if c.toNat = 3 then (match aL2 r with | none=>none | some (u,r2)=>match aJ3 (valP d) u r2 with
      | none=>none
      | some (l,r3)=>some (.mk 3 0 [] l,r3))
    else none
def decV (b : List UInt8) : Val × Int:=match valP 16 b with
 | some (v,[])=>(v,0)
 | _=>(v0,10)
theorem uL {n : Nat} (h : n < 256) : (UInt8.ofNat n).toNat = n:=by
 rw [UInt8.toNat_ofNat'];omega
theorem numP_to : ∀ (x i u : Nat) (r : List UInt8),x < 2 ^ (64 - 7 * i) → i ≤ 9 → (0 < i → 0 < x) → aH2 i u (nK x ++ r) = some (u + x * 2 ^ (7 * i),r):=by
 intro x
 refine Nat.strongRecOn x ?_
 intro x ih i u r hx hi h0
 rw [nK]
 by_cases h : x < 128
 ·rw [dif_pos h]
  show aH2 i u (UInt8.ofNat x :: r) = _
  rw [aH2,uL (by omega),if_pos,if_pos h]
  refine ⟨?_,?_⟩
  ·rcases Nat.eq_zero_or_pos i with hz | hz
   ·exact Or.inl hz
   exact Or.inr (by have:=h0 hz;omega)
  rcases Nat.lt_or_ge i 9 with h9 | h9
  ·exact Or.inl h9
  obtain rfl : i = 9:=by omega
  exact Or.inr (by have : x < 2 ^ 1:=hx;omega)
 rw [dif_neg h]
 show aH2 i u (UInt8.ofNat (x % 128 + 128) :: (nK (x / 128) ++ r)) = _
 have h9 : i < 9:=by
  rcases Nat.lt_or_ge i 9 with h9 | h9
  ·exact h9
  obtain rfl : i = 9:=by omega
  have : x < 2 ^ 1:=hx
  omega
 rw [aH2,uL (by omega),if_pos ⟨Or.inr (by omega),Or.inl h9⟩,if_neg (by omega),show (x % 128 + 128) % 128 = x % 128 by omega]
 have hp : 2 ^ (64 - 7 * i) = 2 ^ (64 - 7 * (i + 1)) * 2 ^ 7:=by rw [← Nat.pow_add];congr 1;omega
 rw [ih (x / 128) (by omega) (i + 1) _ r (by omega) (by omega) (fun _=>by omega)]
 congr 2
 rw [show 7 * (i + 1) = 7 * i + 7 by omega,Nat.pow_add,Nat.add_assoc]
 congr 1
 rw [show 2 ^ 7 = 128 from rfl,← Nat.mul_assoc,Nat.mul_right_comm,← Nat.add_mul]
 congr 1
 omega
theorem aFm {x : Nat} (r : List UInt8) (hx : x < 2 ^ 64) : aLx (nK x ++ r) = some (x,r):=by
 have:=numP_to x 0 0 r hx (by omega) (fun h=>by omega)
 simpa [aLx] using this
theorem depthL_le {l : List Val} {d : Nat} : kR l ≤ d ↔ ∀ v ∈ l,jU v ≤ d:=by
 induction l with
 | nil=>simp [kR]
 | cons x r ih=>simp only [kR,List.mem_cons,forall_eq_or_imp,← ih];omega
theorem encV_pos (v : Val) : 0 < (mC v).length:=by
 cases v;rw [mC];split
 ·simp
 split <;> simp
theorem encL_len {l : List Val} : l.length ≤ (rE l).length:=by
 induction l with
 | nil=>simp
 | cons x r ih=>have:=encV_pos x;simp only [rE,List.length_append,List.length_cons];omega
theorem aFy {u : Nat} {r : List UInt8} (hu : u < 2 ^ 64) (h : u ≤ r.length) : aL2 (nK u ++ r) = some (u,r):=by
 rw [aL2,aFm r hu];simp only;rw [if_pos h]
theorem aLf {n : Int} (h : -9223372036854775808 ≤ n ∧ n ≤ 9223372036854775807) : zA n < 2 ^ 64:=by
 unfold zA;split <;> omega
theorem aHg {f : List UInt8 → Option (Val × List UInt8)} : ∀ {l : List Val} (r : List UInt8),(∀ x ∈ l,∀ r,f (mC x ++ r) = some (x,r)) → aJ3 f l.length (rE l ++ r) = some (l,r)
  | [],r,_=>rfl
  | x :: l,r,h=>by
    rw [List.length_cons,aJ3,rE,List.append_assoc,h x (by simp)]
    simp only
    rw [aHg r fun y hy=>h y (by simp [hy])]
theorem aI6 : ∀ (d : Nat) (v : Val) (r : List UInt8),gD v = true → jU v ≤ d → Fit v → valP d (mC v ++ r) = some (v,r):=by
  intro d
  induction d with
  | zero =>
    rintro ⟨k,n,s,l⟩ r hf hd hfit
    cases hfit with
    | mk _ _ _ _ hn hs hl hx =>
      rw [gD] at hf
      simp only [Bool.or_eq_true,Bool.and_eq_true,beq_iff_eq,List.isEmpty_iff] at hf
      rcases hf with (⟨⟨rfl,rfl⟩,rfl⟩ | ⟨⟨rfl,rfl⟩,rfl⟩) | ⟨⟨⟨rfl,rfl⟩,rfl⟩,hf⟩
      · rw [mC,if_pos rfl,List.cons_append,valP,if_pos (by decide),aFm r (aLf hn)]
        simp only [aI3]
      · rw [mC,if_neg (by decide),if_pos rfl,List.cons_append,List.append_assoc,valP,if_neg (by decide),if_pos (by decide),aFy (by omega) (by simp)]
        simp
      rw [jU,if_pos rfl] at hd;omega
  | succ d ih =>
    rintro ⟨k,n,s,l⟩ r hf hd hfit
    cases hfit with
    | mk _ _ _ _ hn hs hl hx =>
      rw [gD] at hf
      simp only [Bool.or_eq_true,Bool.and_eq_true,beq_iff_eq,List.isEmpty_iff] at hf
      rcases hf with (⟨⟨rfl,rfl⟩,rfl⟩ | ⟨⟨rfl,rfl⟩,rfl⟩) | ⟨⟨⟨rfl,rfl⟩,rfl⟩,hf⟩
      · rw [mC,if_pos rfl,List.cons_append,valP,if_pos (by decide),aFm r (aLf hn)]
        simp only [aI3]
      · rw [mC,if_neg (by decide),if_pos rfl,List.cons_append,List.append_assoc,valP,if_neg (by decide),if_pos (by decide),aFy (by omega) (by simp)]
        simp
      rw [jU,if_pos rfl] at hd
      have hdl:=depthL_le.1 (show kR l ≤ d by omega)
      have hfl:=uP.1 hf
      have hle:=encL_len (l:=l)
      rw [mC,if_neg (by decide),if_neg (by decide),List.cons_append,List.append_assoc,valP,if_neg (by decide),if_neg (by decide),if_pos (by decide),aFy (by omega) (by rw [List.length_append];omega)]
      simp only
      rw [aHg r fun x hxl r=>ih x r (hfl x hxl) (hdl x hxl) (hx x hxl)]
end Go.Proofs

namespace Go.XL
def vH (l : List Oper) (m : Nat) : List Nat → Bool
 | []=>true
 | [a]=>Nat.blt a m
 | a :: b :: r=>Nat.blt a m && aEp l b a && vH l m (b :: r)
def tB : List Nat → Nat → Option Nat
 | [],_=>none
 | a :: r,k=>bif Nat.beq a k then some 0 else match tB r k with | some j=>some (j + 1) | none=>none
theorem wZ : ∀ {mods : List Nat} {k j : Nat},tB mods k = some j → mods[j]? = some k ∧ j < mods.length
  | [],k,j,h=>by cases h
  | a :: r,k,j,h=>by
    rw [tB] at h
    cases hb : Nat.beq a k with
    | true=>rw [hb] at h;cases h;exact ⟨by rw [Nat.eq_of_beq_eq_true hb];rfl,by simp⟩
    | false =>
      rw [hb] at h
      simp only [cond_false] at h
      split at h
      · rename_i j' hj;cases h
        have:=wZ hj
        exact ⟨by simpa using this.1,by simpa using this.2⟩
      cases h
theorem aB0 : ∀ {mods : List Nat} {k : Nat},tB mods k = none → ∀ q,q < mods.length → mods.getD q 0 ≠ k
  | [],k,h,q,hq,_=>by simp at hq
  | a :: r,k,h,q,hq,e=>by
    rw [tB] at h
    cases hb : Nat.beq a k with
    | true=>rw [hb] at h;cases h
    | false =>
      rw [hb] at h
      simp only [cond_false] at h
      split at h
      · cases h
      rename_i hn
      cases q with
      | zero=>simp at e;subst e;simp at hb
      | succ q=>exact aB0 hn q (by simpa using hq) (by simpa using e)
def uS (mods : List Nat) (val : Nat → Value) : Nat → Value
 | 0=>undef
 | j + 1=>val (mods.getD j 0)
def entJ (mods : List Nat) (L : Nat → Bool) (j : Nat) : Prop:=(∀ q,q < j → L (mods.getD q 0) = true) ∧ (∀ q,j ≤ q → q < mods.length → L (mods.getD q 0) = false)
def aMq (mods : List Nat) (FO : Nat → Value → Nat × SObj → Hp → Prop) (L : Nat → Bool) (val : Nat → Value) (e : Nat × SObj) (H : Hp) : Prop :=
 ∃ j,j ≤ mods.length ∧ (∀ q,q < j → L (mods.getD q 0) = true) ∧ (∀ q,j ≤ q → q < mods.length → L (mods.getD q 0) = false) ∧ FO j (uS mods val j) e H
theorem entQ_at {mods : List Nat} {FO : Nat → Value → Nat × SObj → Hp → Prop} {L : Nat → Bool} {val : Nat → Value} {e : Nat × SObj} {H : Hp} (h : aMq mods FO L val e H) {r : Nat} (hr : r < mods.length) (hA : ∀ q,q < r → L (mods.getD q 0) = true) (hB : ∀ q,r ≤ q → q < mods.length → L (mods.getD q 0) = false) : FO r (uS mods val r) e H:=by
 obtain ⟨j,hj,h1,h2,h3⟩:=h
 have : j = r:=by
  rcases Nat.lt_trichotomy j r with hl | hl | hl
  ·have a:=hA j hl;rw [h2 j (Nat.le_refl _) (by omega)] at a;cases a
  ·exact hl
  have a:=h1 r hl;rw [hB r (Nat.le_refl _) hr] at a;cases a
 subst this;exact h3
def yX (l : List Oper) (mods : List Nat) (FO : Nat → Value → Nat × SObj → Hp → Prop) (k : Nat) (acc : Env) (e : Nat × SObj) (H : Hp) : Prop :=
 match tB mods k with
 | none=>True
 | some 0=>FO 0 undef e H
 | some (j + 1)=>∀ t v,eJ l (mods.getD j 0) = some t → Env.get acc t = some v → FO (j + 1) v e H
def foQ (mods : List Nat) (k : Nat) (FO : Nat → Value → Nat × SObj → Hp → Prop) (e0 : Nat × SObj) : Value → Nat × SObj → Hp → Prop:=fun v e H =>
 match tB mods k with
 | none=>e = e0
 | some j=>FO (j + 1) v e H
def aKi (l : List Oper) (mods : List Nat) (FO : Nat → Value → Nat × SObj → Hp → Prop) (acc : Env) (e : Nat × SObj) (H : Hp) : Prop :=
 match mods.length with
 | 0=>FO 0 undef e H
 | n + 1=>∀ t v,eJ l (mods.getD n 0) = some t → Env.get acc t = some v → FO (n + 1) v e H
theorem wC {l : List Oper} {m : Nat} : ∀ {mods : List Nat},vH l m mods = true → ∀ {q : Nat},q < mods.length → mods.getD q 0 < m
  | [],_,q,hq=>by simp at hq
  | [a],h,q,hq=>by
    obtain rfl : q = 0:=by simpa using hq
    simpa [vH] using h
  | a :: b :: r,h,q,hq=>by
    simp only [vH,Bool.and_eq_true] at h
    cases q with
    | zero=>simpa using h.1.1
    | succ q=>exact wC h.2 (q:=q) (by simpa using hq)
theorem wV {l : List Oper} {m : Nat} : ∀ {mods : List Nat},vH l m mods = true → ∀ q,q + 1 < mods.length → aEp l (mods.getD (q + 1) 0) (mods.getD q 0) = true
  | [],_,q,hq=>by simp at hq
  | [a],_,q,hq=>by simp at hq
  | a :: b :: r,h,q,hq=>by
    simp only [vH,Bool.and_eq_true] at h
    cases q with
    | zero=>simpa using h.1.2
    | succ q=>exact wV h.2 q (by simpa using hq)
theorem chainB_mono {l : List Oper} {m : Nat} {mods : List Nat} (h : vH l m mods = true) (hdc : ∀ (i : Nat) (o : Oper),l[i]? = some o → ∀ e ∈ o.after,Region.binds .any e = true → e.on < i) : ∀ {r q : Nat},r < q → q < mods.length → mods.getD r 0 < mods.getD q 0:=by
  have one : ∀ q,q + 1 < mods.length → mods.getD q 0 < mods.getD (q + 1) 0:=by
    intro q hq
    have hb:=wV h q hq
    unfold aEp at hb
    split at hb
    · rename_i o ho
      simp only [List.any_eq_true,Bool.and_eq_true] at hb
      obtain ⟨ed,hed,h4,h5⟩:=hb
      have:=hdc _ o ho ed (by simpa using hed) h4
      rwa [Nat.eq_of_beq_eq_true h5] at this
    cases hb
  intro r q hrq hq
  induction q with
  | zero=>omega
  | succ q ih =>
    have h1:=one q hq
    by_cases he : r = q
    · subst he;exact h1
    have:=ih (by omega) (by omega);omega
def tH (Gd : Hp → Prop) (mods : List Nat) (FO : Nat → Value → Nat × SObj → Hp → Prop) (C : Ctx) (l : List Oper) (F : List (Value → Hp → Prop)) (env : Env) (df : List Deferred) (H : Hp) (own : Own) (m : Nat) : Nat → List Oper → Prop
  | _,[]=>True
  | k,o :: rest=>bif Nat.blt k m then
      (∀ X e H',Le H H' → Gd H' → iV l F H' (gM o) [] fun acc=>yX l mods FO k acc e H' → XO C l.toArray (uV Gd o.dst (gC F k) (foQ mods k FO e) (acc ++ (env ++ X)) df own) [o] ⟨acc ++ (env ++ X),df,H',e :: own⟩) ∧ tH Gd mods FO C l F env df H own m (k + 1) rest
    else True
theorem gA {Gd : Hp → Prop} {mods : List Nat} {FO : Nat → Value → Nat × SObj → Hp → Prop} {C : Ctx} {l : List Oper} {F : List (Value → Hp → Prop)} {env : Env} {df : List Deferred} {H : Hp} {own : Own} {m k : Nat} {o : Oper} {rest : List Oper} (hk : Nat.blt k m = true)
  (h : ∀ X e H',Le H H' → Gd H' → iV l F H' (gM o) [] fun acc=>yX l mods FO k acc e H' → XO C l.toArray (uV Gd o.dst (gC F k) (foQ mods k FO e) (acc ++ (env ++ X)) df own) [o] ⟨acc ++ (env ++ X),df,H',e :: own⟩) (k2 : tH Gd mods FO C l F env df H own m (k + 1) rest) : tH Gd mods FO C l F env df H own m k (o :: rest):=by
 rw [tH,hk];exact ⟨h,k2⟩
theorem xN {Gd : Hp → Prop} {mods : List Nat} {FO : Nat → Value → Nat × SObj → Hp → Prop} {C : Ctx} {l : List Oper} {F : List (Value → Hp → Prop)} {env : Env} {df : List Deferred} {H : Hp} {own : Own} {m k : Nat} {rest : List Oper} (hk : Nat.blt k m = false) : tH Gd mods FO C l F env df H own m k rest:=by
 cases rest with
 | nil=>trivial
 | cons o r=>rw [tH,hk];trivial
section
variable {C : Ctx} {Q : Exit → St → Prop} {env : Env} {df : List Deferred} {H : Hp} {own : Own}
theorem aDv {Gd : Hp → Prop} {mods : List Nat} {FO : Nat → Value → Nat × SObj → Hp → Prop} {l : List Oper} {F : List (Value → Hp → Prop)} {m : Nat} : ∀ (rest : List Oper) (k : Nat),tH Gd mods FO C l F env df H own m k rest → ∀ (i : Nat) (o : Oper),rest[i]? = some o → k + i < m →
    ∀ X e H',Le H H' → Gd H' → iV l F H' (gM o) [] fun acc=>yX l mods FO (k + i) acc e H' → XO C l.toArray (uV Gd o.dst (gC F (k + i)) (foQ mods (k + i) FO e) (acc ++ (env ++ X)) df own) [o] ⟨acc ++ (env ++ X),df,H',e :: own⟩
  | [],k,_,i,o,hi,_=>by simp at hi
  | x :: rest,k,h,i,o,hi,hlt=>by
    simp only [tH] at h
    rw [show Nat.blt k m = true by simp;omega] at h
    cases i with
    | zero=>simp only [List.getElem?_cons_zero,Option.some.injEq] at hi;subst hi;exact h.1
    | succ i =>
      have:=aDv rest (k + 1) h.2 i o (by simpa using hi) (by omega)
      rwa [show k + 1 + i = k + (i + 1) by omega] at this
theorem aCf (Gd : Hp → Prop) (hG : Gd H) (mods : List Nat) (FO : Nat → Value → Nat × SObj → Hp → Prop) (hFO : ∀ j v p H H',Le H H' → FO j v p H → FO j v p H') {id : Nat} {l : List Oper} (m : Nat) (F : List (Value → Hp → Prop)) (hm : C.P.follows .mixedOrders = true) (hck : rP m l (env.map Prod.fst) = true) (hmono' : aAl F)
    (hch : vH l m mods = true) {q : Nat × SObj} (hq0 : FO 0 undef q H) (steps : tH Gd mods FO C l F env df H own m 0 l)
    (tail : ∀ H',Le H H' → Gd H' → iV l F H' (List.range m) [] fun acc=>∀ e,aKi l mods FO acc e H' → XO C l.toArray Q (l.drop m) ⟨acc ++ env,df,H',e :: own⟩) : XC C (.region id l.toArray true) Q ⟨env,df,H,q :: own⟩:=by
  have hmono:=vB hmono'
  intro a₀ w₀ hr₀
  refine wpIn_region_any hm ?_
  simp only [rP,Bool.and_eq_true,List.all_eq_true,List.mem_range] at hck
  obtain ⟨⟨hml,hck1⟩,hck2⟩:=hck
  have hml:=Nat.le_of_ble_eq_true hml
  have hpre : ∀ i,i < m → ∃ o,l[i]? = some o ∧ (∀ t,o.dst = some t → t ∉ env.map Prod.fst ∧ (∀ j,j < m → i ≠ j → eJ l j ≠ some t)) ∧ (∀ e ∈ o.after,Region.binds .any e = true → e.on < i) ∧ (∀ j ∈ gM o,j < m ∧ ∃ e ∈ o.after,Region.binds .any e = true ∧ e.on = j):=by
    intro i hi
    have h:=hck1 i hi
    split at h
    · rename_i o ho
      simp only [Bool.and_eq_true,List.all_eq_true] at h
      obtain ⟨⟨⟨hnd,hd⟩,haf⟩,hp⟩:=h
      refine ⟨o,ho,?_,?_,?_⟩
      · intro t ht
        rw [ht] at hd
        simp only [Bool.and_eq_true,List.all_eq_true,List.mem_range,Bool.not_eq_true',List.contains_eq_mem,decide_eq_false_iff_not] at hd
        refine ⟨hd.1,fun j hj hne he=>?_⟩
        have:=hd.2 j hj
        rw [he] at this
        simp at this
        exact hne this
      · intro e he hb
        have:=haf e (by simpa using he)
        simpa [hb] using this
      intro j hj
      have:=hp j hj
      simp only [List.any_eq_true,Bool.and_eq_true] at this
      obtain ⟨h1,e,he,hb,hon⟩:=this
      exact ⟨by simpa using h1,e,by simpa using he,hb,Nat.eq_of_beq_eq_true hon⟩
    cases h
  have hkey : ∀ i t,i < m → eJ l i = some t → t ∉ env.map Prod.fst:=by
    intro i t hi ht
    obtain ⟨o,ho,hd,_⟩:=hpre i hi
    exact (hd t (by simpa [eJ,ho] using ht)).1
  have hdis : ∀ i j t,i < m → j < m → eJ l i = some t → eJ l j = some t → i = j:=by
    intro i j t hi hj ht ht2
    obtain ⟨o,ho,hd,_⟩:=hpre i hi
    by_cases h : i = j
    · exact h
    exact absurd ht2 ((hd t (by simpa [eJ,ho] using ht)).2 j hj h)
  have htl : ∀ (i : Nat) (o : Oper),m ≤ i → l[i]? = some o → (∀ j,j < i → pF l l.length o j = true) ∧ (∀ e ∈ o.after,Region.binds .any e = true → e.on < i):=by
    intro i o hi ho
    have hlt:=(List.getElem?_eq_some_iff.1 ho).1
    have h:=hck2 i hlt
    rw [ho] at h
    rw [show Nat.blt i m = false from aBy hi] at h
    simp only [Bool.false_or,Bool.and_eq_true,List.all_eq_true,List.mem_range] at h
    refine ⟨fun j hj=>h.1 j hj,fun e he hb=>?_⟩
    · have:=h.2 e (by simpa using he)
      simpa [hb] using this
  have hdc : ∀ (i : Nat) (o : Oper),l[i]? = some o → ∀ e ∈ o.after,Region.binds .any e = true → e.on < i:=by
    intro i o ho
    rcases Nat.lt_or_ge i m with h | h
    · obtain ⟨o2,ho2,_,haf,_⟩:=hpre i h
      rw [ho] at ho2;cases ho2;exact haf
    exact (htl i o h ho).2
  have main : ∀ (fuel : Nat) (L : Array Bool) (a : Act) (w : World) (val : Nat → Value) (ent : Nat × SObj) (H' : Hp),L.size = l.length → unl l.length L ≤ fuel → Le H H' → Gd H' → (∀ (i : Nat) (o : Oper),l[i]? = some o → lst L i = true → ∀ e ∈ o.after,Region.binds .any e = true → lst L e.on = true) → (∀ j,m ≤ j → lst L j = false) →
      a.tmps.size = C.N → (∀ t v,env.get t = some v → a.tmps.getD t undef = v) → (∃ ms : List Nat,a.defers = ms.map oF ++ df ∧ Ok C.G H' ((ent :: own) ++ (ms.map hid ++ C.hid)) w) → aMq mods FO (lst L) val ent H' →
      (∀ i,i < m → lst L i = true → ∀ t,eJ l i = some t → a.tmps.getD t undef = val i ∧ gC F i (val i) H') →
      wpAnyIn (Fr C.r) 0 C.P .any l.toArray (lA C H Q) fuel L a w:=by
    intro fuel
    have done : ∀ (fuel : Nat) (L : Array Bool) (a : Act) (w : World) (val : Nat → Value) (ent : Nat × SObj) (H' : Hp),L.size = l.length → unl l.length L ≤ fuel → Le H H' → Gd H' → (∀ j,m ≤ j → lst L j = false) →
        a.tmps.size = C.N → (∀ t v,env.get t = some v → a.tmps.getD t undef = v) → (∃ ms : List Nat,a.defers = ms.map oF ++ df ∧ Ok C.G H' ((ent :: own) ++ (ms.map hid ++ C.hid)) w) → aMq mods FO (lst L) val ent H' →
        (∀ i,i < m → lst L i = true → ∀ t,eJ l i = some t → a.tmps.getD t undef = val i ∧ gC F i (val i) H') → (∀ j,j < m → lst L j = true) →
        wpAnyIn (Fr C.r) 0 C.P .any l.toArray (lA C H Q) fuel L a w:=by
      intro fuel L a w val ent H' hs hu hle hGd hT hsz henv hok hents hfacts hall
      obtain ⟨acc',hk,hmem⟩:=mQ (val:=val) (List.range m) [] _ (tail H' hle hGd) (fun j hj t ht=>(hfacts j (List.mem_range.1 hj) (hall j (List.mem_range.1 hj)) t ht).2)
      have hcount : l.length - m ≤ fuel:=by rw [tM hml hall hT];exact hu
      refine sV (m:=m) htl hdc fuel m L a w (Nat.le_refl _) hs hcount hml ?_ ?_
      · intro j
        rcases Nat.lt_or_ge j m with h | h
        · rw [hall j h];simp [h]
        rw [hT j h];simp;omega
      have hk2:=hk ent (by
        obtain ⟨j,hj,h1,h2,h3⟩:=hents
        have hjl : j = mods.length:=by
          rcases Nat.lt_or_ge j mods.length with h | h
          · have:=h2 j (Nat.le_refl _) h
            rw [hall _ (wC hch h)] at this;cases this
          omega
        subst hjl
        unfold aKi
        cases hm : mods.length with
        | zero=>rw [hm] at h3;simpa [uS] using h3
        | succ n =>
          intro t v hdt hg
          rw [hm] at h3
          obtain ⟨j',hj',hdj,rfl⟩:=hmem t v (nC (by simpa using hg))
          obtain rfl:=hdis _ j' t (wC hch (by omega)) (List.mem_range.1 hj') hdt hdj
          simpa [uS] using h3)
      refine jK hle _ _ _ (hk2 a w ⟨hsz,?_,hok⟩)
      intro t v hg
      simp only [List.append_nil] at hg
      rw [Env.get_append] at hg
      cases hga : Env.get acc' t with
      | none=>rw [hga] at hg;exact henv t v (by simpa using hg)
      | some u =>
        rw [hga] at hg;simp at hg;subst hg
        obtain ⟨j,hj,hd,rfl⟩:=hmem t u (gP _ _ _ hga)
        have hj:=List.mem_range.1 hj
        exact (hfacts j hj (hall j hj) t hd).1
    induction fuel with
    | zero =>
      intro L a w val ent H' hs hu hle hGd hdown hT hsz henv hok hents hfacts
      refine done 0 L a w val ent H' hs hu hle hGd hT hsz henv hok hents hfacts ?_
      intro j hj
      cases hx : lst L j with
      | true=>rfl
      | false =>
        have:=nS (L:=L) (i:=j) hs (by omega) hx
        omega
    | succ fuel ih =>
      intro L a w val ent H' hs hu hle hGd hdown hT hsz henv hok hents hfacts
      by_cases hall : ∀ j,j < m → lst L j = true
      · exact done (fuel + 1) L a w val ent H' hs hu hle hGd hT hsz henv hok hents hfacts hall
      constructor
      · intro hnil
        exfalso
        apply hall
        -- the least one that is not listed is ready
        intro j hj
        induction j using Nat.strongRecOn with
        | _ j ihj =>
          cases hx : lst L j with
          | true=>rfl
          | false =>
            exfalso
            obtain ⟨o,ho,_,haf,_⟩:=hpre j hj
            have : j ∈ Region.ready .any l.toArray L:=by
              rw [mem_ready]
              refine ⟨?_,o,by simpa using ho,fun e he hb=>ihj e.on (haf e he hb) (by have:=haf e he hb;omega)⟩
              unfold lst at hx
              rw [Array.getD_eq_getD_getElem?,Array.getElem?_eq_getElem (by omega)] at hx ⊢
              simpa using hx
            rw [hnil] at this;cases this
      intro i hi
      rw [mem_ready] at hi
      obtain ⟨h0,o,ho,hbef⟩:=hi
      have hilt : i < l.length:=by simpa using (Array.getElem?_eq_some_iff.1 ho).1
      have hun : lst L i = false:=by
        unfold lst
        rw [Array.getD_eq_getD_getElem?,Array.getElem?_eq_getElem (by omega)] at h0 ⊢
        simpa using h0
      have ho' : l[i]? = some o:=by simpa using ho
      have him : i < m:=by
        rcases Nat.lt_or_ge i m with h | h
        · exact h
        exfalso
        apply hall
        intro j hj
        exact kY hdown _ o j hbef ((htl i o h ho').1 j (by omega))
      obtain ⟨o2,ho2,hd,haf,hprd⟩:=hpre i him
      rw [ho'] at ho2;cases ho2
      have hdo : eJ l i = o.dst:=by simp [eJ,ho']
      have hst:=aDv l 0 steps i o ho' (by omega)
      simp only [Nat.zero_add] at hst
      -- all that is known of the slots,a_s one list
      let X : Env:=(List.range m).filterMap fun j=>if lst L j then (eJ l j).map fun t=>(t,val j) else none
      have hpredF : ∀ j ∈ gM o,∀ tj,eJ l j = some tj → gC F j (val j) H':=fun j hj tj hdj=>by
        obtain ⟨hjm,e,he,hb,hon⟩:=hprd j hj
        have hlj : lst L j = true:=by have:=hbef e he hb;rw [hon] at this;exact this
        exact (hfacts j hjm hlj tj hdj).2
      have hX : ∀ t v,(t,v) ∈ X → ∃ j,j < m ∧ lst L j = true ∧ eJ l j = some t ∧ v = val j:=by
        intro t v h
        obtain ⟨j,hj,hjj⟩:=List.mem_filterMap.1 h
        split at hjj
        · rename_i hlj
          cases hdj : eJ l j with
          | none=>rw [hdj] at hjj;cases hjj
          | some tj =>
            rw [hdj] at hjj
            simp only [Option.map_some,Option.some.injEq,Prod.mk.injEq] at hjj
            obtain ⟨rfl,rfl⟩:=hjj
            exact ⟨j,List.mem_range.1 hj,hlj,hdj,rfl⟩
        cases hjj
      have hgets : ∀ acc' : Env,(∀ t v,(t,v) ∈ acc' → ∃ j ∈ gM o,eJ l j = some t ∧ v = val j) → ∀ t v,Env.get (acc' ++ (env ++ X)) t = some v → a.tmps.getD t undef = v:=by
        intro acc' hmem t v hgv
        rw [Env.get_append,Env.get_append] at hgv
        cases hga : Env.get acc' t with
        | some u =>
          rw [hga] at hgv;simp at hgv;subst hgv
          obtain ⟨j,hj,hdj,rfl⟩:=hmem t u (gP _ _ _ hga)
          obtain ⟨hjm,e,he,hb,hon⟩:=hprd j hj
          have hlj : lst L j = true:=by have:=hbef e he hb;rw [hon] at this;exact this
          exact (hfacts j hjm hlj t hdj).1
        | none =>
          rw [hga] at hgv;simp only [Option.none_or] at hgv
          cases hge : Env.get env t with
          | some u=>rw [hge] at hgv;simp at hgv;subst hgv;exact henv t u hge
          | none =>
            rw [hge] at hgv;simp only [Option.none_or] at hgv
            obtain ⟨j,hj,hlj,hdj,rfl⟩:=hX t v (gP _ _ _ hgv)
            exact (hfacts j hj hlj t hdj).1
      have hnextG : ∀ (acc' : Env),(∀ t v,(t,v) ∈ acc' → ∃ j ∈ gM o,eJ l j = some t ∧ v = val j) → ∀ (a' : Act) (w' : World) (σ' : St) (v : Value) (ent' : Nat × SObj),Rel C σ' a' w' → Le H' σ'.H → Gd σ'.H → σ'.df = df → σ'.env = fJ o.dst v (acc' ++ (env ++ X)) → gC F i v σ'.H →
          (∀ ms : List Nat,Ok C.G σ'.H (σ'.own ++ (ms.map hid ++ C.hid)) w' → Ok C.G σ'.H ((ent' :: own) ++ (ms.map hid ++ C.hid)) w') →
          aMq mods FO (lst (L.setIfInBounds i true)) (fun j=>if j = i then v else val j) ent' σ'.H →
          wpAnyIn (Fr C.r) 0 C.P .any l.toArray (lA C H Q) fuel (L.setIfInBounds i true) a' w':=by
        intro acc' hmem a' w' σ' v ent' hr' hle' hGd' hdf' henv' hfv hown' hent'
        refine ih (L.setIfInBounds i true) a' w' (fun j=>if j = i then v else val j) ent' σ'.H (by simpa using hs) ?_ (hle.trans hle') hGd' ?_ ?_ hr'.size ?_ ?_ hent' ?_
        · have:=nS hs hilt hun;omega
        · intro i' o' hi' hl' e he hb
          rw [gE (by omega)] at hl' ⊢
          split
          · rfl
          split at hl'
          · rename_i e1 e2;subst e2;rw [ho'] at hi';cases hi';exact hbef e he hb
          exact hdown i' o' hi' hl' e he hb
        · intro j hj
          rw [gE (by omega),if_neg (by omega)]
          exact hT j hj
        · intro t' v' hg'
          refine hr'.get t' v' ?_
          have hin : t' ∈ env.map Prod.fst:=List.mem_map.2 ⟨(t',v'),gP _ _ _ hg',rfl⟩
          rw [henv',kU (fun e=>(hd t' e).1 hin),Env.get_append,Env.get_append]
          have : Env.get acc' t' = none:=by
            cases hga : Env.get acc' t' with
            | none=>rfl
            | some u =>
              obtain ⟨j,hj,hdj,_⟩:=hmem t' u (gP _ _ _ hga)
              exact absurd hin (hkey j t' (hprd j hj).1 hdj)
          rw [this,hg'];rfl
        · obtain ⟨ms,hd',hok'⟩:=hr'.ok
          exact ⟨ms,by rw [hd',hdf'],hown' ms hok'⟩
        intro j hj hlj tj htj
        rw [gE (by omega)] at hlj
        by_cases hji : j = i
        · subst hji
          rw [hdo] at htj
          simp only [if_true]
          refine ⟨hr'.get tj v ?_,hfv⟩
          rw [henv',htj];simp [fJ,Env.get]
        rw [if_neg hji] at hlj
        obtain ⟨h1,h2⟩:=hfacts j hj hlj tj htj
        simp only [if_neg hji]
        refine ⟨hr'.get tj (val j) ?_,oY hmono hle' h2⟩
        rw [henv',kU (fun e=>hji (hdis j i tj hj him htj (by rw [hdo,e]))),Env.get_append,Env.get_append]
        have hacc : Env.get acc' tj = none ∨ Env.get acc' tj = some (val j):=by
          cases hga : Env.get acc' tj with
          | none=>exact .inl rfl
          | some u =>
            obtain ⟨j',hj',hdj',rfl⟩:=hmem tj u (gP _ _ _ hga)
            obtain rfl:=hdis j' j tj (hprd j' hj').1 hj hdj' htj
            exact .inr rfl
        rcases hacc with hacc | hacc
        · rw [hacc]
          have henvn : Env.get env tj = none:=by
            cases hge : Env.get env tj with
            | none=>rfl
            | some u=>exact absurd (List.mem_map.2 ⟨(tj,u),gP _ _ _ hge,rfl⟩) (hkey j tj hj htj)
          rw [henvn]
          simp only [Option.none_or]
          -- it stands in X,once
          refine sX X (List.mem_filterMap.2 ⟨j,List.mem_range.2 hj,by simp only [hlj,if_true,htj,Option.map_some]⟩) ?_
          intro u hu'
          obtain ⟨j',hj',_,hdj',rfl⟩:=hX tj u hu'
          obtain rfl:=hdis j' j tj hj' hj hdj' htj
          rfl
        rw [hacc];rfl
      have hcase : ∀ (acc' : Env) (own2 : Own) (Q2 : Exit → St → Prop),(∀ e σ,e ≠ .normal → ¬ Q2 e σ) → XO C l.toArray Q2 [o] ⟨acc' ++ (env ++ X),df,H',own2⟩ → Rel C ⟨acc' ++ (env ++ X),df,H',own2⟩ a w →
          (∀ a' w',lA C H' Q2 .normal a' w' → wpAnyIn (Fr C.r) 0 C.P .any l.toArray (lA C H Q) fuel (L.setIfInBounds i true) a' w') → wpOpIn (Fr C.r) 0 C.P l.toArray (lA C H Q) i (fun a' w'=>wpAnyIn (Fr C.r) 0 C.P .any l.toArray (lA C H Q) fuel (L.setIfInBounds i true) a' w') a w:=by
        intro acc' own2 Q2 hno hk hrel hnext
        have hrun:=hk a w hrel
        unfold wpOpIn
        rw [ho]
        simp only [wpListIn] at hrun ⊢
        split
        · rename_i hw
          rw [if_pos hw] at hrun
          refine lM hnext ?_ hrun
          rintro e a' w' he ⟨σ',_,_,hq⟩
          exact absurd hq (hno e σ' he)
        rename_i hw
        rw [if_neg hw] at hrun
        exact ⟨hrun.1,hnext _ _ hrun.2⟩
      obtain ⟨acc',hk0,hmem⟩:=mQ (val:=val) (gM o) [] _ (hst X ent H' hle hGd) hpredF
      have hch2:=wV hch
      have hrank : ∀ r,mods[r]? = some i → entJ mods (lst L) r:=by
        intro r hr
        obtain ⟨j,hj,h1,h2,h3⟩:=hents
        have hrl : r < mods.length:=(List.getElem?_eq_some_iff.1 hr).1
        have hri : mods.getD r 0 = i:=by rw [List.getD_eq_getElem?_getD,hr];rfl
        have hrj : j ≤ r:=by
          rcases Nat.lt_or_ge r j with h | h
          · have:=h1 r h;rw [hri,hun] at this;cases this
          exact h
        refine ⟨fun q hq=>?_,fun q hq hql=>h2 q (by omega) hql⟩
        have hall2 : ∀ d q,q + d + 1 = r → lst L (mods.getD q 0) = true:=by
          intro d
          induction d with
          | zero =>
            intro q hq
            have hb:=hch2 q (by omega)
            rw [show q + 1 = r by omega,hri] at hb
            unfold aEp at hb
            rw [ho'] at hb
            simp only [List.any_eq_true,Bool.and_eq_true] at hb
            obtain ⟨ed,hed,h4,h5⟩:=hb
            have:=hbef ed (by simpa using hed) h4
            rwa [Nat.eq_of_beq_eq_true h5] at this
          | succ d ihd =>
            intro q hq
            have hn:=ihd (q + 1) (by omega)
            have hb:=hch2 q (by omega)
            unfold aEp at hb
            split at hb
            · rename_i o3 ho3
              simp only [List.any_eq_true,Bool.and_eq_true] at hb
              obtain ⟨ed,hed,h4,h5⟩:=hb
              have:=hdown _ o3 ho3 hn ed (by simpa using hed) h4
              rwa [Nat.eq_of_beq_eq_true h5] at this
            cases hb
        exact hall2 (r - q - 1) q (by omega)
      have hk:=hk0 (by
        unfold yX
        cases hr : tB mods i with
        | none=>trivial
        | some r =>
          obtain ⟨hr1,hr2⟩:=wZ hr
          obtain ⟨hA,hB⟩:=hrank r hr1
          have h3:=entQ_at hents hr2 hA hB
          cases r with
          | zero=>simpa [uS] using h3
          | succ r =>
            intro t v hdt hg
            obtain ⟨j',hj',hdj,rfl⟩:=hmem t v (nC (by simpa using hg))
            obtain rfl:=hdis _ j' t (wC hch (by omega)) (hprd j' hj').1 hdt hdj
            simpa [uS] using h3)
      simp only [List.append_nil] at hk
      refine hcase acc' _ _ (fun e σ he=>by cases e <;> first | exact absurd rfl he | exact fun h=>h) hk ⟨hsz,hgets acc' hmem,hok⟩ ?_
      rintro a' w' ⟨σ',hr',hle',hGd',hdf',v,e2,henv',hfv,hown',hfo⟩
      refine hnextG acc' hmem a' w' σ' v e2 hr' hle' hGd' hdf' henv' hfv ?_ ?_
      · intro ms hok'
        rw [hown'] at hok'
        exact hok'
      unfold foQ at hfo
      cases hr : tB mods i with
      | none =>
        rw [hr] at hfo
        simp only at hfo
        subst hfo
        obtain ⟨j,hj,h1,h2,h3⟩:=hents
        have hne : ∀ q,q < mods.length → mods.getD q 0 ≠ i:=fun q hq e=>aB0 hr q hq e
        refine ⟨j,hj,fun q hq=>?_,fun q hq hql=>?_,?_⟩
        · rw [gE (by omega),if_neg (hne q (by omega))];exact h1 q hq
        · rw [gE (by omega),if_neg (hne q hql)];exact h2 q hq hql
        have e : uS mods (fun j=>if j = i then v else val j) j = uS mods val j:=by
          unfold uS
          cases j with
          | zero=>rfl
          | succ j=>simp only;rw [if_neg (hne j (by omega))]
        rw [e];exact hFO _ _ _ _ _ hle' h3
      | some r =>
        rw [hr] at hfo
        simp only at hfo
        obtain ⟨hr1,hr2⟩:=wZ hr
        obtain ⟨hA,hB⟩:=hrank r hr1
        have hri : mods.getD r 0 = i:=by rw [List.getD_eq_getElem?_getD,hr1];rfl
        refine ⟨r + 1,hr2,fun q hq=>?_,fun q hq hql=>?_,?_⟩
        · rw [gE (by omega)]
          split
          · rfl
          rename_i hne
          have : q ≠ r:=fun e=>by rw [e,hri] at hne;exact hne rfl
          exact hA q (by omega)
        · have hlt:=chainB_mono hch hdc (show r < q by omega) hql
          rw [gE (by omega),if_neg (by rw [← hri];omega)]
          exact hB q (by omega) hql
        simp only [uS]
        rw [hri,if_pos rfl];exact hfo
  have hlst0 : ∀ j,lst (Array.replicate l.toArray.size false) j = false:=fun j=>by simp [lst,Array.getD_eq_getD_getElem?,Array.getElem?_replicate];split <;> rfl
  exact main l.toArray.size (Array.replicate l.toArray.size false) a₀ _ (fun _=>undef) q H (by simp) (by
      refine Nat.le_trans (List.countP_le_length) (by simp)) (Le.refl _) hG (fun i o _ hl=>by
      have : lst (Array.replicate l.toArray.size false) i = false:=by simp [lst,Array.getD_eq_getD_getElem?,Array.getElem?_replicate];split <;> rfl
      rw [this] at hl;cases hl) (fun j _=>by simp [lst,Array.getD_eq_getD_getElem?,Array.getElem?_replicate];split <;> rfl) hr₀.size hr₀.get
    (let ⟨ms,hd,hok⟩:=hr₀.ok;⟨ms,hd,hok.drew⟩) ⟨0,Nat.zero_le _,fun q hq=>absurd hq (by omega),fun q _ _=>hlst0 _,by simpa [uS] using hq0⟩ (fun i _ h=>by
      have : lst (Array.replicate l.toArray.size false) i = false:=by simp [lst,Array.getD_eq_getD_getElem?,Array.getElem?_replicate];split <;> rfl
      rw [this] at h;cases h)
end
theorem lU {mods : List Nat} {k : Nat} {FO : Nat → Value → Nat × SObj → Hp → Prop} {e : Nat × SObj} {v : Value} {H : Hp} (hr : tB mods k = none) : foQ mods k FO e v e H:=by unfold foQ;rw [hr]
theorem aA5 {mods : List Nat} {k j : Nat} {FO : Nat → Value → Nat × SObj → Hp → Prop} {e0 e : Nat × SObj} {v : Value} {H : Hp} (hr : tB mods k = some j) (h : FO (j + 1) v e H) : foQ mods k FO e0 v e H:=by unfold foQ;rw [hr];exact h
theorem aFg {l : List Oper} {mods : List Nat} {FO : Nat → Value → Nat × SObj → Hp → Prop} {k : Nat} {acc : Env} {e : Nat × SObj} {H : Hp} (hr : tB mods k = some 0) (h : yX l mods FO k acc e H) : FO 0 undef e H:=by unfold yX at h;rw [hr] at h;exact h
theorem factQ_s {l : List Oper} {mods : List Nat} {FO : Nat → Value → Nat × SObj → Hp → Prop} {k j : Nat} {acc : Env} {e : Nat × SObj} {H : Hp} {t : Tmp} {v : Value} (hr : tB mods k = some (j + 1)) (h : yX l mods FO k acc e H) (ht : eJ l (mods.getD j 0) = some t) (hv : Env.get acc t = some v) : FO (j + 1) v e H:=by unfold yX at h;rw [hr] at h;exact h t v ht hv
theorem aE2 {l : List Oper} {mods : List Nat} {FO : Nat → Value → Nat × SObj → Hp → Prop} {n : Nat} {acc : Env} {e : Nat × SObj} {H : Hp} {t : Tmp} {v : Value} (hm : mods.length = n + 1) (h : aKi l mods FO acc e H) (ht : eJ l (mods.getD n 0) = some t) (hv : Env.get acc t = some v) : FO (n + 1) v e H:=by unfold aKi at h;rw [hm] at h;exact h t v ht hv
end Go.XL

namespace Go.XL
theorem aOe (m : List UInt8) : Go.Lib.strCells (iW m) = m.map fun b=>Value.int .u8 (b.toNat : Nat):=by
 simp [Go.Lib.strCells,iW]
theorem aEn (H : Hp) : ∀ m : List UInt8,eN u8R H (m.map fun b=>Value.int .u8 (b.toNat : Nat)) m
 | []=>rfl
 | x :: r=>⟨[.int .u8 (x.toNat : Nat)],_,rfl,rfl,aEn H r⟩
theorem aHn (m : List UInt8) : (iW m).size = m.length:=by simp [iW,ByteArray.size]
theorem run_append_accS {H : Hp} {own : Own} {P : Program} {G : World} {w : World} {fr : Own} {t u e t' : TypeId} {i : Nat} {p : Nat × SObj} {a : Option Addr} {c : Nat} {l m : List UInt8} {zs : List Value} {agg : Bool}
    (hok : Ok G H (own ++ fr) w) (hp : Own.at own i = some p) (hacc : Acc u8R e H p a c l) (ht : P.underlying t = some (.slice e)) (hu : P.underlying u = some .string) (he : tyF P e 1 agg = true) (hz : gH P e = some zs) (hzl : Nat.beq zs.length 1 = true) (hby : Nat.ble (P.bytesOf e) 4096 = true) (hn : l.length + m.length ≤ 1073741824) :
    ∃ p' a'' c'' w',(Builtin.append_ #[t,u] t' #[.slice a l.length c,.string (iW m)]).run P w = .ok (.slice a'' (l ++ m).length c'') w' ∧ Acc u8R e H p' a'' c'' (l ++ m) ∧ Ok G H (Own.set2 own i p' ++ fr) w':=by
  obtain ⟨_,inf,hi,hsz⟩:=nQ he
  have hzl:=Nat.eq_of_beq_eq_true hzl
  have hby:=Nat.le_of_ble_eq_true hby
  have hby' : inf.bytes ≤ 4096:=by simpa [Program.bytesOf,hi] using hby
  have hmul : (l.length + m.length) * inf.bytes ≤ 140737488355328:=Nat.le_trans (Nat.mul_le_mul hn hby') (by decide)
  obtain ⟨z,hzz,hzc⟩ : ∃ z,inf.zero = some z ∧ z.cells = zs.toArray:=by
    unfold gH at hz
    rw [hi] at hz
    simp only at hz
    split at hz
    · rename_i z hzz;exact ⟨z,hzz,lQ hz⟩
    cases hz
  have hrows:=aEn H m
  have hss:=aHn m
  cases hl' : m with
  | nil =>
    have hc:=hacc.le
    refine ⟨p,a,c,w,?_,by simpa using hacc,by rw [Own.set2_at hp];exact hok⟩
    have hlc : l.length ≤ c:=hc
    simp only [List.append_nil,List.length_nil]
    have hs0 : (iW []).size = 0:=rfl
    simp [Builtin.append_,dR ht,dR hu,sizeOf,typeInfo,hi,Builtin.lenOf,hlc,Builtin.firstCells,hs0]
    cases a <;> simp [storeCells,Sem.run,Pure.pure,hlc,hs0]
  | cons x0 lt =>
    rw [← hl']
    have hpos : 0 < m.length:=by rw [hl'];simp
    have rF : (m.map fun b=>Value.int .u8 ((b.toNat : Nat) : Int)).length = m.length:=by simp
    rcases hacc with ⟨rfl,rfl,rfl,hnone⟩ | ⟨xs,rfl,hrow,hxs,hlc⟩
    · have hrun:=Go.run_append_nil_string (P:=P) (w:=w) t u t' e inf z ht hu hi hzz (iW m) (by rw [hss];exact hpos) (by rw [hss];simp at hn;omega) (by rw [hss];simp at hmul;omega)
      rw [hss] at hrun
      have hge:=grownCap_ge w m.length 0 e
      refine ⟨(w.heap.size,.row e (grownCap w m.length 0 e * 1) (m.map fun b=>Value.int .u8 (b.toNat : Nat))),_,_,_,by simpa using hrun,.inr ⟨_,rfl,rfl,by simpa using hrows,by simpa using hge⟩,?_⟩
      refine hok.swap hp ⟨(Builtin.zeroCells z.cells (grownCap w m.length 0 e - m.length)).toList,by simp [iW],?_⟩
      rw [hzc,List.length_append,kK,hzl,rF]
      omega
    obtain ⟨b,s⟩:=p
    simp only at hrow hp ⊢
    subst hrow
    obtain ⟨ct,hbw,hbn⟩:=aEw hok (List.mem_append_left fr (Own.at_mem hp))
    have hxl : xs.length = l.length:=by have:=hxs.length;rw [this,show u8R.sz = 1 from rfl,Nat.mul_one]
    have hu1 : u8R.sz = 1:=rfl
    by_cases hroom : l.length + m.length ≤ c
    · have hfit : l.length + (iW m).size ≤ (xs ++ ct).toArray.size:=by
        simp only [List.size_toArray]
        rw [hbn,hss,hu1];omega
      have hrun:=Go.Lib.run_append_room_string (P:=P) (w:=w) t u t' e inf ht hu hi hsz b l.length c (xs ++ ct).toArray hbw (iW m) (by rw [hss];exact hroom) hfit
      rw [aOe,hss] at hrun
      refine ⟨(b,.row e (c * 1) (xs ++ m.map fun b=>Value.int .u8 (b.toNat : Nat))),_,_,_,by simpa using hrun,.inr ⟨_,rfl,rfl,hxs.append hrows,by simpa using hroom⟩,?_⟩
      refine hok.write2 hp rfl hbw ⟨(xs ++ ct).drop (l.length + m.length),?_,?_⟩
      · rw [List.take_append_of_le_length (by simp [hxl]),List.take_of_length_le (by simp [hxl])]
        try simp only [List.append_assoc]
      have h5 : (xs ++ ct).length = c * 1:=hbn
      simp only [List.length_append,List.length_drop,List.length_map] at h5 ⊢
      omega
    have hrun:=Go.Lib.run_append_grow_string (P:=P) (w:=w) t u t' e inf z ht hu hi hzz ⟨b,0,none⟩ l.length c xs (by rw [hsz,hxl,Nat.mul_one])
      (fun j v hj=>by
        have hj':=(List.getElem?_eq_some_iff.1 hj).1
        rw [jV];simp only [World.cell?,hbw,Nat.zero_add]
        simp only [Option.isSome_none,Bool.false_eq_true,if_false,List.getElem?_toArray]
        rw [List.getElem?_append_left hj',hj])
      (iW m) (by rw [hss];omega) (by rw [hss];omega) (by rw [hss];exact growslice_fits (by omega) hmul)
    rw [aOe,hss] at hrun
    have hge:=grownCap_ge w (l.length + m.length) c e
    refine ⟨(w.heap.size,.row e (grownCap w (l.length + m.length) c e * 1) (xs ++ m.map fun b=>Value.int .u8 (b.toNat : Nat))),_,_,_,by simpa using hrun,.inr ⟨_,rfl,rfl,hxs.append hrows,by simpa using hge⟩,?_⟩
    refine hok.swap hp ⟨(Builtin.zeroCells z.cells (grownCap w (l.length + m.length) c e - (l.length + m.length))).toList,by simp,?_⟩
    rw [hzc,List.length_append,kK,hzl,List.length_append,hxl,rF]
    omega
section
variable {C : Ctx} {ops : Array Oper} {Q : Exit → St → Prop} {rest : List Oper} {env : Env} {df : List Deferred} {H : Hp} {own : Own} {dst : Option Tmp} {ty : TypeId} {pos : String} {af : Array Edge}
theorem XO.appendS (i : Nat) {t u e : TypeId} {x y : Operand} {p : Nat × SObj} {a : Option Addr} {c n : Nat} {l m : List UInt8} {zs : List Value} {agg : Bool}
  (hx : ev env x = some (.slice a n c)) (hp : Own.at own i = some p) (hacc : Acc u8R e H p a c l) (hln : n = l.length) (hy : ev env y = some (.string (iW m)))
  (ht : C.P.underlying t = some (.slice e)) (hu : C.P.underlying u = some .string) (he : tyF C.P e 1 agg = true) (hz : gH C.P e = some zs) (hzl : Nat.beq zs.length 1 = true) (hby : Nat.ble (C.P.bytesOf e) 4096 = true) (hn : l.length + m.length ≤ 1073741824) (hd : eP C.N dst = true)
  (h : ∀ p' a'' c'',Acc u8R e H p' a'' c'' (l ++ m) → XO C ops Q rest ⟨fJ dst (.slice a'' (l ++ m).length c'') env,df,H,Own.set2 own i p'⟩) :
  XO C ops Q (⟨dst,.call { callee:=.builtin .append,args:=#[x,y],argTypes:=#[t,u] },ty,pos,af,none⟩ :: rest) ⟨env,df,H,own⟩:=by
 refine lJ rfl rfl hd fun ρ' w fr ha hok=>?_
 subst hln
 obtain ⟨p',a'',c'',w',hrun,hacc',hok'⟩:=run_append_accS (P:=C.P) (t:=t) (u:=u) (t':=ty) (m:=m) hok hp hacc ht hu he hz hzl hby hn;refine ⟨.value (.slice a'' (l ++ m).length c''),_,w',H,_,?_,.inl rfl,Le.refl _,hok',h _ _ _ hacc'⟩
 simp only [execOp,resolve,Sem.run_bind]
 simp only [Pure.pure,Sem.run,Result.andThen,invoke,builtin,Sem.run_bind]
 simp [ha _ _ hx,ha _ _ hy,hrun,Result.andThen,Sem.run]
theorem XO.lenStr {t : TypeId} {x : Operand} {s : List UInt8} (hx : ev env x = some (.string (iW s))) (ht : C.P.underlying t = some .string) (hs : s.length < 9223372036854775808) (hd : eP C.N dst = true)
  (h : XO C ops Q rest ⟨fJ dst (.int .i64 (s.length : Nat)) env,df,H,own⟩) :
  XO C ops Q (⟨dst,.call { callee:=.builtin .len,args:=#[x],argTypes:=#[t] },ty,pos,af,none⟩ :: rest) ⟨env,df,H,own⟩ :=
 fN rfl rfl hd (fun ρ ha w=>by
  simp only [execOp,resolve,Sem.run_bind]
  simp only [Pure.pure,Sem.run,Result.andThen,invoke,builtin,Sem.run_bind,Builtin.len_]
  simp [ha _ _ hx,Sem.run_bind,dR ht,Result.andThen,goInt,Pure.pure,Sem.run,aHn]) h
end
end Go.XL

namespace Go.XL
def stepQP (Pn : List PanicEntry → St → Prop) (Gd : Hp → Prop) (dst : Option Tmp) (f : Value → Hp → Prop) (fo : Value → Nat × SObj → Hp → Prop) (env : Env) (df : List Deferred) (own : Own) : Exit → St → Prop
 | .normal,σ=>Gd σ.H ∧ σ.df = df ∧ ∃ v e,σ.env = fJ dst v env ∧ f v σ.H ∧ σ.own = e :: own ∧ fo v e σ.H
 | .panic ch,σ=>Pn ch σ
 | _,_=>False
def stepsP (Pn : List PanicEntry → St → Prop) (Gd : Hp → Prop) (mods : List Nat) (FO : Nat → Value → Nat × SObj → Hp → Prop) (C : Ctx) (l : List Oper) (F : List (Value → Hp → Prop)) (env : Env) (df : List Deferred) (H : Hp) (own : Own) (m : Nat) : Nat → List Oper → Prop
  | _,[]=>True
  | k,o :: rest=>bif Nat.blt k m then
      (∀ X e H',Le H H' → Gd H' → iV l F H' (gM o) [] fun acc=>yX l mods FO k acc e H' → XO C l.toArray (stepQP Pn Gd o.dst (gC F k) (foQ mods k FO e) (acc ++ (env ++ X)) df own) [o] ⟨acc ++ (env ++ X),df,H',e :: own⟩) ∧ stepsP Pn Gd mods FO C l F env df H own m (k + 1) rest
    else True
section
variable {C : Ctx} {Q : Exit → St → Prop} {env : Env} {df : List Deferred} {H : Hp} {own : Own}
end
end Go.XL

namespace Go.XL
section
variable {C : Ctx} {ops : Array Oper} {Q : Exit → St → Prop} {rest : List Oper} {env : Env} {df : List Deferred} {H : Hp} {own : Own} {dst : Option Tmp} {ty : TypeId} {pos : String} {af : Array Edge}
end
end Go.XL

namespace Go.XL
section
variable {C : Ctx} {ops : Array Oper} {Q : Exit → St → Prop} {rest : List Oper} {env : Env} {df : List Deferred} {H : Hp} {own : Own} {dst : Option Tmp} {ty : TypeId} {pos : String} {af : Array Edge}
theorem bytesWorld_eq (w : World) (e : TypeId) (s : ByteArray) : Go.Lib.bytesWorld w e s = { w.drew with heap:=w.heap.push (.cells (Go.Lib.bytesCells w e s) e ((Go.Lib.bytesCells w e s).size,(Go.Lib.bytesCells w e s).size + 1)) }:=by
 have h:=Go.Lib.bytesWorld_at_new w e s
 have hs:=Go.Lib.bytesWorld_size w e s
 have ho:=Go.Lib.bytesWorld_at_old w e s
 have hh : (Go.Lib.bytesWorld w e s).heap = w.heap.push (.cells (Go.Lib.bytesCells w e s) e ((Go.Lib.bytesCells w e s).size,(Go.Lib.bytesCells w e s).size + 1)):=by
  apply Array.ext_getElem?
  intro j
  rcases Nat.lt_trichotomy j w.heap.size with hj | hj | hj
  ·rw [ho j hj,Array.getElem?_push_lt hj,Array.getElem?_eq_getElem hj]
  ·subst hj;rw [h];simp
  rw [Array.getElem?_eq_none (by omega),Array.getElem?_eq_none (by simp;omega)]
 have : Go.Lib.bytesWorld w e s = { w.drew with heap:=(Go.Lib.bytesWorld w e s).heap }:=rfl
 rw [this,hh]
theorem XO.s2b {s t e : TypeId} {x : Operand} {l : List UInt8} (hx : ev env x = some (.string (iW l))) (hs : C.P.underlying s = some .string) (ht : C.P.underlying t = some (.slice e)) (he : C.P.underlying e = some (.int .u8)) (hd : eP C.N dst = true)
    (h : ∀ H' a c,Le H H' → SlR u8R H' a c l → XO C ops Q rest ⟨fJ dst (.slice a l.length c) env,df,H',own⟩) : XO C ops Q (⟨dst,.convert s t x,ty,pos,af,none⟩ :: rest) ⟨env,df,H,own⟩:=by
  refine lJ rfl rfl hd fun ρ' w fr ha hok=>?_
  have hsz : (iW l).size = l.length:=aHn l
  have hge:=grownCap_ge w (iW l).size 0 e
  have h1:=(hok.drew).new (o:=.cells (Go.Lib.bytesCells w e (iW l)) e ((Go.Lib.bytesCells w e (iW l)).size,(Go.Lib.bytesCells w e (iW l)).size + 1)) (s:=.obj _) rfl
  obtain ⟨H',o,hle,hb,hso,hok'⟩:=Ok.publish (pre:=[]) (s:=.obj _) h1 rfl
  cases hso
  refine ⟨_,_,Go.Lib.bytesWorld w e (iW l),H',own,?_,.inl rfl,hle,?_,h H' (some ⟨w.heap.size,0,none⟩) (grownCap w (iW l).size 0 e) hle ?_⟩
  · simp only [execOp,ha _ _ hx,Sem.run_bind,Go.Lib.run_convert_string_bytes w s t e (iW l) hs ht he,Result.andThen]
    rw [hsz];rfl
  · rw [bytesWorld_eq];exact hok'
  refine ⟨by rw [← hsz];exact hge,fun h=>(by cases h),fun i x hi=>⟨w.heap.size,0,[.int .u8 (x.toNat : Nat)],rfl,⟨_,_,_,hb,fun j u hj=>?_⟩,rfl⟩⟩
  cases j with
  | zero =>
    simp at hj;subst hj
    have hil:=(List.getElem?_eq_some_iff.1 hi).1
    simp [Go.Lib.bytesCells,iW,Array.getElem?_append,hil,hi,u8R]
    have hx2 : l[i] = x:=(List.getElem?_eq_some_iff.1 hi).2
    rw [hx2]
  | succ j=>simp at hj
end
end Go.XL

namespace Go.XL
def OpensN (N : Nat) (P : Program) (t : TypeId) {α : Type} (ρ : Rep α) (wf : α → Prop) : Prop:=∀ {H : Type} (enc : TypeId × Value → H) (w : World) (base : Nat) (spare : Nat → Bool) (held : Bool) (fuel : Nat) (cs : List Value) (x : DataW H × List MemPlace),
 fuel ≤ N → DataW.trod enc P w base spare held fuel t cs = some x → ∃ u,ρ.R (aH7 w) cs u ∧ wf u
end Go.XL

namespace Go.XL
def maskA (m n : Nat) : Array Bool:=(List.replicate m true ++ List.replicate (n - m) false).toArray
def XAny (C : Ctx) (l : List Oper) (Q : Exit → St → Prop) (L : Array Bool) (σ : St) : Prop :=
 ∀ H0,Le H0 σ.H → ∀ fuel a w,unl l.length L ≤ fuel → Rel C σ a w → wpAnyIn (Fr C.r) 0 C.P .any l.toArray (lA C H0 Q) fuel L a w
def anyQ (C : Ctx) (l : List Oper) (Q : Exit → St → Prop) (L : Array Bool) : Exit → St → Prop
 | .normal,σ=>XAny C l Q L σ
 | e,σ=>Q e σ
section
variable {C : Ctx} {l : List Oper} {Q : Exit → St → Prop} {L : Array Bool} {σ : St}
end
def drawOkA (m : Nat) (l : List Oper) (keys : List Nat) : Bool :=
  Nat.ble m l.length && (List.range m).all (fun i=>match l[i]? with
    | some o=>qH o.op && (match o.dst with
      | some t=>!keys.contains t && (List.range m).all (fun j=>Nat.beq i j || !(eJ l j == some t))
      | none=>true) && (o.after.toList.all fun e=>!Region.binds .any e || Nat.blt e.on i) && (gM o).all (fun j=>Nat.blt j m && o.after.toList.any fun e=>Region.binds .any e && Nat.beq e.on j)
    | none=>false) &&
  (List.range l.length).all (fun i=>Nat.blt i m || match l[i]? with
    | some o=>(List.range m).all (fun j=>pF l l.length o j) && (o.after.toList.all fun e=>!Region.binds .any e || Nat.blt e.on i)
    | none=>false)
section
variable {C : Ctx} {Q : Exit → St → Prop} {env : Env} {df : List Deferred} {H : Hp} {own : Own}
end
end Go.XL

set_option linter.unnecessarySimpa false
namespace Go.XL
def aNz {α β : Type} (P : Program) (f : FuncId) (cap : List Value) (H : Hp) (ownI : Own) (enc : α → β → List Value) (lend : α → β → Hp → Own → Prop) (xs : List α) : Prop :=
 ∀ (g : Fn) (J : JS α) (K : Hp → Own → Prop) (ownY : Own),YOk P (.func g #[] #[]) H enc lend xs J K → J.Holds [] H ownY →
  FnC P f ((.func g #[] #[] :: cap).toArray) H (ownI ++ ownY) (bX fun v H' own'=>v = .tuple #[] ∧ ∃ ownI' ownY',own' = ownI' ++ ownY' ∧ (J.Holds xs H' ownY' ∨ K H' ownY'))
section
variable {C : Ctx} {Q : Exit → St → Prop} {env : Env} {df : List Deferred} {H : Hp} {own : Own}
theorem XC.rangeFuncF {α β : Type} {g : Operand} {ps : List Tmp} {assign body : Code} {f : FuncId} {cap : List Value} {enc : α → β → List Value} {lend : α → β → Hp → Own → Prop} {xs : List α} {ownI own2 : Own}
    (hg : ev env g = some (.func (.func f) #[] cap.toArray)) (hseq : aNz C.P f cap H ownI enc lend xs) (hps : ∀ x b,(enc x b).length = ps.length) (hpN : (ps.all fun p=>Nat.blt p C.N) = true)
    (ho : own = ownI ++ own2) (I : List α → Hp → Own → Prop) (Kx : Code → Hp → Own → Prop) (hI : ∀ p H H' o,Le H H' → I p H o → I p H' o) (h0 : I [] H own2)
    (hround : C.r = none ∨ ∃ l0 r0,C.r = some l0 ∧ (l0,SObj.obj (.loop r0)) ∈ C.hid)
    (hbody : ∀ G l hd1 hd2,(∃ r0,(l,SObj.obj (.loop r0)) ∈ hd2) → ∀ pre x post,xs = pre ++ x :: post → ∀ bx H' ol own',Le H H' → I pre H' own' → lend x bx H' ol →
      XC ⟨C.P,G,C.N,some l,hd1⟩ assign (aF4 ⟨C.P,G,C.N,some l,hd2⟩ body (aL8 l (fun p H2 o=>∃ o3,o = ol ++ o3 ∧ I p H2 o3) Kx (pre ++ [x]))) ⟨aBp ps (enc x bx) env,[],H',ol ++ own'⟩)
    (hdone : ∀ H' own',Le H H' → I xs H' own' → Q .normal ⟨env,df,H',own'⟩)
    (hjump : ∀ c H' own',Le H H' → Kx c H' own' → XC C c Q ⟨env,df,H',own'⟩) : XC C (.rangeFunc g ps.toArray assign body) Q ⟨env,df,H,own⟩:=by
  intro a w hr
  refine wpIn_rangeFunc ?_
  intro fn hfn
  subst ho
  obtain ⟨l,mk,w₁,D,ms',hrun,hdf,hok₁⟩:=aCy (fn:=fn) (ps:=ps.toArray) («a_s»:=assign) (bd:=body) hr hround
  have hga:=hr.eval hg
  let rec0 : Loop:={ state:=.ready,pending:=none,fn,tmps:=a.tmps,params:=ps.toArray,assign:=assign,body:=body,defers:=D }
  let yv : Value:=.func (.yield l) #[] #[]
  let J : JS α:=⟨fun pre H' ownY=>∃ own2',ownY = (l,.obj (.loop rec0)) :: own2' ∧ I pre H' own2',fun p H1 H2 o hle ⟨o2,e,h⟩=>⟨o2,e,hI p H1 H2 o2 hle h⟩⟩
  let K : Hp → Own → Prop:=fun H' ownY=>∃ own2' c,ownY = (l,.obj (.loop { rec0 with state:=.done,pending:=some c })) :: own2' ∧ Kx c H' own2'
  have hcall:=hseq (.yield l) J K ((l,.obj (.loop rec0)) :: own2) (by
    rintro pre x post hxs bx H' ol ownY hle ⟨own2',rfl,hI⟩ hlend
    intro G rst w hok
    have hok' : Ok G H' ((l,.obj (.loop rec0)) :: ((ol ++ own2') ++ rst)) w:=hok.perm (by
      simp only [List.append_assoc,List.cons_append];exact List.perm_middle.symm)
    have hl:=hok'.objAt
    refine ⟨{ target:=.fn (.yield l) #[],args:=#[] ++ (enc x bx).toArray },.round l fn ((ps.toArray.zip (enc x bx).toArray).foldl (fun tmps (t,a)=>tmps.setIfInBounds t a) a.tmps) assign body,w,rfl,?_,?_⟩
    · have:=run_yield (P:=C.P) (args:=(enc x bx).toArray) hl (by simp [rec0,hps])
      show (Instr.yield l (#[] ++ (enc x bx).toArray)).run C.P w = _
      rw [Array.empty_append]
      exact this
    refine roundIn_of_wpIn trivial ?_
    have hfold : ((ps.toArray.zip (enc x bx).toArray).foldl (fun tmps (t,a)=>tmps.setIfInBounds t a) a.tmps) = ((ps.zip (enc x bx)).foldl (fun (tmps : Array Value) (x : Tmp × Value)=>tmps.setIfInBounds x.1 x.2) a.tmps):=by
      rw [← Array.foldl_toList];simp
    rw [hfold]
    obtain ⟨hsz,hget⟩:=aC5 ps (enc x bx) env a.tmps (by simp [hps]) (fun p hp=>by
      have:=List.all_eq_true.1 hpN p hp
      rw [hr.size];simpa using this) hr.get
    have hX:=hbody G l ((l,.obj (.loop rec0)) :: rst) ((l,.obj (.loop { rec0 with state:=.busy })) :: rst) ⟨_,List.mem_cons_self⟩ pre x post hxs bx H' ol own2' hle hI hlend
    have hrel : Rel ⟨C.P,G,C.N,some l,(l,.obj (.loop rec0)) :: rst⟩ ⟨aBp ps (enc x bx) env,[],H',ol ++ own2'⟩ { tmps:=((ps.zip (enc x bx)).foldl (fun (tmps : Array Value) (x : Tmp × Value)=>tmps.setIfInBounds x.1 x.2) a.tmps),defers:=[] } w :=
      ⟨by rw [← hr.size];exact hsz,hget,[],rfl,hok'.perm (by simp only [List.map_nil,List.nil_append];exact List.perm_middle)⟩
    refine Go.wpIn_mono (hX _ _ hrel) ?_
    rintro e a₁ w₁ ⟨σ,hr₁,hle₁,hq⟩
    cases e with
    | normal =>
      obtain ⟨ms₁,hd₁,hok₁⟩:=hr₁.ok
      have hok₂ : Ok G σ.H ((l,.obj (.loop rec0)) :: (σ.own ++ (ms₁.map hid ++ rst))) w₁:=hok₁.perm (by
        rw [← List.append_assoc,← List.append_assoc];exact List.perm_middle.symm)
      have hbeg:=run_beginRound (P:=C.P) hok₂.objAt rfl
      refine ⟨_,hbeg,?_⟩
      have hok₃:=hok₂.putObj (o':=.loop { rec0 with state:=.busy })
      have hrel₂ : Rel ⟨C.P,G,C.N,some l,(l,.obj (.loop { rec0 with state:=.busy })) :: rst⟩ σ a₁ (w₁.putObj l (.loop { rec0 with state:=.busy })) :=
        ⟨hr₁.size,hr₁.get,ms₁,hd₁,hok₃.perm (by rw [← List.append_assoc,← List.append_assoc];exact List.perm_middle)⟩
      refine Go.wpIn_mono (hq _ _ hrel₂) ?_
      rintro e a₂ w₂ ⟨τ,hr₂,hle₂,hq₂⟩
      obtain ⟨ms₂,hd₂,hok₄⟩:=hr₂.ok
      have hok₅ : Ok G τ.H ((l,.obj (.loop { rec0 with state:=.busy })) :: (τ.own ++ (ms₂.map hid ++ rst))) w₂:=hok₄.perm (by
        rw [← List.append_assoc,← List.append_assoc];exact List.perm_middle.symm)
      have hend:=fun j=>run_endRound (P:=C.P) j hok₅.objAt
      have leave : ∀ (c : Code),(∃ o,o.Sublist τ.own ∧ Kx c τ.H o) → ∃ v w',(Instr.endRound l (some c)).run C.P w₂ = .ok v w' ∧ (Ending.returned v ≠ .outgrown ∧ ∃ H'' own'',Le H' H'' ∧ Ok G H'' (own'' ++ rst) w' ∧ bX (fun v H'' own''=>(v = .bool true ∧ ∃ own3,own'' = ol ++ own3 ∧ J.Holds (pre ++ [x]) H'' own3) ∨ (v = .bool false ∧ K H'' own'')) (.returned v) H'' own''):=by
        rintro c ⟨o,hs,hk⟩
        refine ⟨_,_,hend (some c),by simp,τ.H,(l,.obj (.loop { rec0 with state:=.done,pending:=some c })) :: o,hle₁.trans hle₂,?_,.inr ⟨rfl,o,c,rfl,hk⟩⟩
        refine (hok₅.putObj (o':=.loop { rec0 with state:=.done,pending:=some c })).shrink (Le.refl _) ?_
        exact List.Sublist.cons_cons _ (hs.append (List.sublist_append_right _ _))
      cases e with
      | normal =>
        obtain ⟨_,o,hs,o3,rfl,hI'⟩:=hq₂
        refine ⟨_,_,hend none,by simp,τ.H,ol ++ (l,.obj (.loop rec0)) :: o3,hle₁.trans hle₂,?_,.inl ⟨rfl,_,rfl,o3,rfl,hI'⟩⟩
        have hk:=(hok₅.putObj (o':=.loop rec0)).shrink (Le.refl _) (List.Sublist.cons_cons _ (hs.append (List.sublist_append_right _ _)) : ((l,SObj.obj (.loop rec0)) :: ((ol ++ o3) ++ rst)).Sublist _)
        refine hk.perm ?_
        simp only [List.append_assoc,List.cons_append];exact List.perm_middle
      | exit id=>exact leave _ hq₂.2
      | goto t=>exact leave _ hq₂.2
      | ret=>exact leave _ hq₂.2
      | panic ch=>exact hq₂.elim
      | outgrown=>exact hq₂.elim
    | exit id=>exact hq.elim
    | goto t=>exact hq.elim
    | ret=>exact hq.elim
    | panic ch=>exact hq.elim
    | outgrown=>exact hq.elim) ⟨own2,rfl,h0⟩
  refine ⟨l,mk,w₁,{ target:=.fn (.func f) cap.toArray,args:=#[] ++ #[yv] },w₁,f,(yv :: cap).toArray,w₁,hrun,?_,fun _ _=>trivial,?_,fun h=>(by cases h),?_⟩
  · have hm : Array.map a.eval #[Operand.const (Value.func (Fn.yield l) #[] #[])] = #[yv]:=by simp [Act.eval,yv]
    simp only [resolve,rangeCall,hga,hm]
    rfl
  · have:=hcall.1 (yv :: cap).toArray w₁
    show (callFunc f ((#[] ++ #[yv]) ++ cap.toArray)).run C.P w₁ = _
    have e : (#[] ++ #[yv] ++ cap.toArray : Array Value) = (yv :: cap).toArray:=by simp
    rw [e]
    exact this
  have hok₂ : Ok C.G H ((ownI ++ (l,.obj (.loop rec0)) :: own2) ++ (ms'.map hid ++ C.hid)) w₁:=hok₁.perm (by
    simp only [List.append_assoc,List.cons_append];exact List.perm_middle)
  have hc : CallsIn Fence.wide (0 - 1) C.P f (yv :: cap).toArray w₁ _:=callsIn_wide.2 (hcall.2 C.G _ w₁ hok₂)
  have hc2 : CallsIn (Fr C.r) (0 - 1) C.P f (yv :: cap).toArray w₁ _:=hc
  refine ⟨hc2.1,fun cs hcs=>?_⟩
  obtain ⟨e,w₃,fr,⟨hne,H',own',hle,hok₃,hR⟩,hx⟩:=hc2.2 cs hcs
  refine ⟨e,w₃,fr,?_,hx⟩
  cases e with
  | outgrown=>exact absurd rfl hne
  | panicked ch=>exact hR.elim
  | returned v =>
    obtain ⟨_,ownI',ownY',rfl,hJK⟩:=hR
    have key : ∀ (r : Loop) (o : Own),ownY' = (l,.obj (.loop r)) :: o → r.state ≠ .busy → (Instr.endLoop l).run C.P w₃ = .ok r.pending (w₃.putObj l (.loop { r with state:=.exhausted })) ∧
        Rel C ⟨env,df,H',o⟩ { a with defers:=mk ++ a.defers } (w₃.putObj l (.loop { r with state:=.exhausted })):=by
      rintro r o rfl hb
      have hok₄ : Ok C.G H' ((l,.obj (.loop r)) :: (ownI' ++ (o ++ (ms'.map hid ++ C.hid)))) w₃:=hok₃.perm (by
        simp only [List.append_assoc,List.cons_append];exact List.perm_middle.symm)
      refine ⟨run_endLoop hok₄.objAt hb,hr.size,hr.get,ms',hdf,?_⟩
      exact (hok₄.putObj (o':=.loop { r with state:=.exhausted })).shrink (Le.refl _) (.cons _ (List.sublist_append_right _ _))
    rcases hJK with ⟨o,ho,hI⟩ | ⟨o,c,ho,hk⟩
    · obtain ⟨h1,h2⟩:=key rec0 o ho (by simp [rec0])
      exact ⟨none,_,h1,⟨_,h2,hle,hdone H' o hle hI⟩⟩
    obtain ⟨h1,h2⟩:=key { rec0 with state:=.done,pending:=some c } o ho (by simp)
    exact ⟨some c,_,h1,Go.wpIn_mono (hjump c H' o hle hk _ _ h2) fun _ _ _ lf=>oG lf hle fun _ _ q=>q⟩
end
end Go.XL

namespace Go.XL
abbrev ivs (l : List Int) : List Value:=l.map fun x=>Value.int .i64 x
def QuI (e : TypeId) (p : Nat × SObj) (a : Option Addr) (c : Nat) (l : List Int) : Prop :=
 (c = 0 ∧ l = [] ∧ ∃ b o,a = some ⟨b,o,none⟩) ∨ ∃ js : List Value,a = some ⟨p.1,js.length,none⟩ ∧ p.2 = .row e (js.length + c) (js ++ ivs l) ∧ l.length ≤ c
section
variable {C : Ctx} {ops : Array Oper} {Q : Exit → St → Prop} {rest : List Oper} {env : Env} {df : List Deferred} {H : Hp} {own : Own} {dst : Option Tmp} {ty : TypeId} {pos : String} {af : Array Edge}
theorem iU (i : Nat) {t kt et : TypeId} {x y z : Operand} {b : Nat} {kd : IntKind} {k : Int} {v : Value} {es : Array MapEntry} {cl : Nat} {m : List (Int × Value)}
    (hx : ev env x = some (.map (some b))) (hy : ev env y = some (.int kd k)) (hz : ev env z = some v) (ho : Own.at own i = some (b,.obj (.map es cl))) (hm : sG kd es m) (ht : C.P.underlying t = some (.map kt et)) (hk : C.P.underlying kt = some (.int kd)) (hd : eP C.N dst = true)
    (h : ∀ es' cl',sG kd es' (tO m k v) → XO C ops Q rest ⟨fJ dst undef env,df,H,Own.set2 own i (b,.obj (.map es' cl'))⟩) :
    XO C ops Q (⟨dst,.insert t x y z,ty,pos,af,none⟩ :: rest) ⟨env,df,H,own⟩:=by
  refine lJ rfl rfl hd fun ρ w fr ha hok=>?_
  have hb:=Ok.objIn hok ho
  have hput : ∀ o',∃ own',Own.put own i (.obj o') = some own' ∧ own' = Own.set2 own i (b,.obj o'):=by
    intro o'
    obtain ⟨pre,post,rfl,rfl⟩:=Own.at_split ho
    exact ⟨_,Own.put_split,Own.set2_split.symm⟩
  have run1 : ∀ {nx w'},(Instr.mapUpdate t (.map (some b)) (.int kd k) v).run C.P w = .ok nx w' → (execOp ρ ⟨dst,.insert t x y z,ty,pos,af,none⟩).run C.P w = .ok .skip w':=by
    intro nx w' hr
    simp only [execOp,ha _ _ hx,ha _ _ hy,ha _ _ hz,Sem.run_bind,hr,Result.andThen]
    rfl
  rcases rQ es.toList m 0 hm with ⟨h1,h2⟩ | ⟨j,v',h1,h2,h3,h4,h5⟩
  · obtain ⟨own',hown,hse⟩:=hput (.map (es.push { key:=.int kd k,val:=v,born:=cl }) (cl + 1))
    refine ⟨.skip,undef,w.putObj b (.map (es.push { key:=.int kd k,val:=v,born:=cl }) (cl + 1)),H,own',run1 (nx:=()) ?_,.inr ⟨rfl,rfl⟩,Le.refl _,Ok.putIn hok ho hown,(hse ▸ h _ _ ?_)⟩
    · unfold Instr.mapUpdate
      rw [Sem.run_bind,dR ht]
      simp only [Result.andThen,Sem.run_bind,mW hb,mG (x:=k) hk,nG (x:=k) hk h2,tG _ hb]
    have : ∀ (m : List (Int × Value)),tN m k = none → tO m k v = m ++ [(k,v)]:=by
      intro m
      induction m with
      | nil=>intro _;rfl
      | cons p m ih =>
        obtain ⟨k',v''⟩:=p
        intro hg
        simp only [tN] at hg
        split at hg
        · cases hg
        rename_i hne;simp [tO,hne,ih hg]
    unfold sG at hm ⊢
    rw [this m h1]
    simp [hm]
  obtain ⟨own',hown,hse⟩:=hput (.map (es.modify j fun e=>{ e with key:=.int kd k,val:=v }) cl)
  refine ⟨.skip,undef,w.putObj b (.map (es.modify j fun e=>{ e with key:=.int kd k,val:=v }) cl),H,own',run1 (nx:=()) ?_,.inr ⟨rfl,rfl⟩,Le.refl _,Ok.putIn hok ho hown,(hse ▸ h _ _ ?_)⟩
  · simp only [Nat.zero_add] at h2
    unfold Instr.mapUpdate
    rw [Sem.run_bind,dR ht]
    simp only [Result.andThen,Sem.run_bind,mW hb,mG (x:=k) hk,nG (x:=k) hk h2]
    have hkey : ((es[j]?).map (·.key)).getD (Value.int kd k) = .int kd k:=by
      have : (es[j]?).map (·.key) = some (.int kd k):=by simpa using h4
      rw [this];rfl
    rw [hkey]
    have hst : (Instr.keyThatStays (.int kd k) (.int kd k)).run C.P w = .ok (.int kd k) w:=by
      simp [Instr.keyThatStays,Instr.sameBits,Sem.run,Pure.pure]
    rw [hst]
    simp only [tG _ hb]
  unfold sG
  rw [← h5 v]
  simp
end
section
variable {C : Ctx} {ops : Array Oper} {Q : Exit → St → Prop} {rest : List Oper} {env : Env} {df : List Deferred} {H : Hp} {own : Own}
variable {dst : Option Tmp} {ty : TypeId} {pos : String} {af : Array Edge}
theorem tE (i : Nat) {t kt et : TypeId} {x y : Operand} {b : Nat} {kd : IntKind} {k : Int} {es : Array MapEntry} {cl : Nat} {m : List (Int × Value)} {z v : Value} {q : Bool} (hx : ev env x = some (.map (some b))) (hy : ev env y = some (.int kd k)) (ho : Own.at own i = some (b,.obj (.map es cl))) (hm : sG kd es m)
  (ht : C.P.underlying t = some (.map kt et)) (hk : C.P.underlying kt = some (.int kd)) (hz : aGi C.P et = some z) (hd : eP C.N dst = true) (hv : (tN m k).getD z = v) (hq : (tN m k).isSome = q)
  (h : XO C ops Q rest ⟨fJ dst (.tuple #[v,.bool q]) env,df,H,own⟩) :
  XO C ops Q (⟨dst,.lookup t x y true,ty,pos,af,none⟩ :: rest) ⟨env,df,H,own⟩:=XO.mapGet i hx hy ho hm ht hk hz hd (by subst hv;subst hq;exact h)
end
end Go.XL

namespace Go.XL
def uJ : List UInt8 → List UInt8 → Int
 | [],[]=>0
 | [],_ :: _=>-1
 | _ :: _,[]=>1
 | a :: x,b :: y=>if a < b then -1 else if b < a then 1 else uJ x y
theorem aHe : ∀ (l m : List UInt8),Go.Lib.compareBytes l m = uJ l m
  | [],[]=>rfl
  | [],_ :: _=>rfl
  | _ :: _,[]=>rfl
  | a :: x,b :: y=>by
    rw [Go.Lib.compareBytes,uJ,aHe x y]
theorem aJ0 {P : Program} {G : World} {H : Hp} {own : Own} {w : World} {a : Option Addr} {c : Nat} {l : List UInt8} (hok : Ok G H own w) (hs : SlR u8R H a c l) : (Extern.Bytes.bytesOf (.slice a l.length c)).run P w = .ok (iW l) w:=by
  cases l with
  | nil =>
    cases a with
    | none=>rfl
    | some a=>rfl
  | cons u l =>
    obtain ⟨b,o,cs,ha',_,_⟩:=hs.el 0 u rfl
    subst ha'
    have hl:=Go.Lib.run_loadBytesX (P:=P) w ((u :: l).map fun x=>(x.toNat : Int)) ⟨b,o,none⟩ .empty (fun j x hj=>by
      rw [List.getElem?_map] at hj
      cases hx : (u :: l)[j]? with
      | none=>rw [hx] at hj;cases hj
      | some y =>
        rw [hx] at hj;simp only [Option.map_some,Option.some.injEq] at hj;subst hj
        obtain ⟨b',o',cs',hb',hp,hR⟩:=hs.el j y hx
        cases hb'
        obtain rfl : cs' = _:=hR
        obtain ⟨cc,T,fz,hH,hcc⟩:=hp
        have:=hok.pub _ _ hH
        rw [jV]
        have h3:=hcc 0 _ rfl
        simp only [u8R,Nat.mul_one,Nat.add_zero] at h3
        simp [World.cell?,this,h3])
    rw [List.length_map] at hl
    show (Extern.Bytes.loadBytes ⟨b,o,none⟩ (u :: l).length .empty).run P w = _
    rw [hl]
    congr 1
    apply ByteArray.ext
    have e : ∀ (l : List UInt8),Go.Lib.bytesOf (l.map fun x=>(x.toNat : Int)) = l:=by
      intro l
      induction l with
      | nil=>rfl
      | cons x l ih=>simp only [Go.Lib.bytesOf,List.map_cons,List.cons.injEq] at ih ⊢;exact ⟨by simp,ih⟩
    rw [e]
    simp
section
variable {C : Ctx} {ops : Array Oper} {Q : Exit → St → Prop} {rest : List Oper} {env : Env} {df : List Deferred} {H : Hp} {own : Own} {dst : Option Tmp} {ty : TypeId} {pos : String} {af : Array Edge}
theorem XO.cmpBytes {f : FuncId} {fn : Func} {x y : Operand} {ts : Array TypeId} {a a' : Option Addr} {c c' : Nat} {l m : List UInt8} (hx : ev env x = some (.slice a l.length c)) (hs : SlR u8R H a c l) (hy : ev env y = some (.slice a' m.length c')) (ht : SlR u8R H a' c' m)
  (hf : C.P.funcs[f]? = some fn) (hname : (fn.name == "runtime.NumGoroutine") = false) (hb : fn.body.isNone = true) (hn : Extern.findNext fn = none) (he : Extern.find fn = some Extern.BytealgCompare.compare) (hd : eP C.N dst = true)
  (h : XO C ops Q rest ⟨fJ dst (.int .i64 (uJ l m)) env,df,H,own⟩) :
  XO C ops Q (⟨dst,.call { callee:=.value (.func f),args:=#[x,y],argTypes:=ts },ty,pos,af,none⟩ :: rest) ⟨env,df,H,own⟩:=by
 refine lJ rfl rfl hd fun ρ' w fr ha hok=>⟨.value (.int .i64 (uJ l m)),.int .i64 (uJ l m),w,H,own,?_,.inl rfl,Le.refl _,hok,h⟩
 have hc : (callFunc f #[.slice a l.length c,.slice a' m.length c']).run C.P w = .ok (.value (.int .i64 (uJ l m))) w:=by
  rw [run_callFunc_extern hf hname hb hn he]
  change (Sem.run C.P (do Pure.pure (goInt (Extern.BytealgCompare.cmp (← Extern.Bytes.bytesOf (.slice a l.length c)) (← Extern.Bytes.bytesOf (.slice a' m.length c'))))) w).andThen _ = _
  simp only [Sem.run_bind,aJ0 hok hs,aJ0 hok ht,Result.andThen,Sem.run_pure,Go.Lib.cmp_eq,aHe]
  rfl
 have hm : Array.map ρ' #[x,y] = #[.slice a l.length c,.slice a' m.length c']:=by simp [ha _ _ hx,ha _ _ hy]
 have hfv : ρ' (.func f) = .func (.func f) #[] #[]:=ha _ _ rfl
 simp only [execOp,resolve,Sem.run_bind,hm,hfv]
 simp only [Deferred.ofValue,Sem.run_bind,Sem.run_pure,Result.andThen,invoke,Array.append_empty]
 simpa using hc
end
theorem aG2 {P : Program} {e : TypeId} {k0 q : IntKind} {l m : List Int} (h0 : P.underlying e = some (.int k0)) (d : Nat) (hlm : l.length = m.length) : ∀ (n s : Nat) (w : World),s + n = l.length →
    (Op.eqItems (d + 1) e 1 (l.map (Value.int q)).toArray (m.map (Value.int q)).toArray (List.range' s n)).run P w = .ok (decide (l.drop s = m.drop s)) w
  | 0,s,w,hs=>by
    rw [List.drop_of_length_le (by omega),List.drop_of_length_le (by omega)]
    simp [Op.eqItems,Sem.run,Pure.pure]
  | n + 1,s,w,hs=>by
    have hx : l[s]? = some l[s]:=List.getElem?_eq_getElem (by omega)
    have hy : m[s]? = some m[s]:=List.getElem?_eq_getElem (by omega)
    have p0 : ∀ w : World,(part e (l.map (Value.int q)).toArray (s * 1)).run P w = .ok (.int q l[s]) w:=fun w=>tJ h0 (by simp [hx])
    have p1 : ∀ w : World,(part e (m.map (Value.int q)).toArray (s * 1)).run P w = .ok (.int q m[s]) w:=fun w=>tJ h0 (by simp [hy])
    have dl : l.drop s = l[s] :: l.drop (s + 1):=List.drop_eq_getElem_cons (by omega)
    have dm : m.drop s = m[s] :: m.drop (s + 1):=List.drop_eq_getElem_cons (by omega)
    rw [List.range'_succ]
    simp only [Op.eqItems,Sem.run_bind,p0,p1,Result.andThen,run_equalIn_int w _ _ _ _ _ _ h0]
    by_cases he : l[s] = m[s]
    · have ih:=aG2 (l:=l) (m:=m) (q:=q) h0 d hlm n (s + 1) w (by omega)
      simp only [he,beq_self_eq_true,Bool.not_true,Bool.false_eq_true,if_false]
      rw [dl,dm,he]
      simp only [List.cons.injEq,true_and]
      simpa using ih
    have hne : ¬ l.drop s = m.drop s:=fun e=>he (by rw [dl,dm] at e;exact (List.cons.inj e).1)
    rw [decide_eq_false hne]
    simp [he,Sem.run,Pure.pure]
theorem aDu {P : Program} {t e : TypeId} {k0 q : IntKind} {l m : List Int} {n : Nat} {w : World} (ht : P.underlying t = some (.array n e)) (h0 : P.underlying e = some (.int k0)) (hs : tyF P e 1 false = true) (hl : l.length = n) (hm : m.length = n) :
  (Op.equal t (.agg (l.map (Value.int q)).toArray) (.agg (m.map (Value.int q)).toArray)).run P w = .ok (decide (l = m)) w:=by
 obtain ⟨⟨_,_,_⟩,i,hi,hsz⟩:=nQ hs
 unfold Op.equal Op.maxDepth
 have hc : P.cellsOf e = 1:=by simp [Program.cellsOf,hi,hsz]
 rw [show (10000 : Nat) = 9999 + 1 from rfl,run_equalIn_array w 9999 _ _ ht hi,hc]
 rw [show (9999 : Nat) = 9998 + 1 from rfl,List.range_eq_range',aG2 (q:=q) h0 9998 (by omega) n 0 w (by omega)]
 simp
section
variable {C : Ctx} {ops : Array Oper} {Q : Exit → St → Prop} {rest : List Oper} {env : Env} {df : List Deferred} {H : Hp} {own : Own} {dst : Option Tmp} {ty : TypeId} {pos : String} {af : Array Edge}
theorem aCm {xt yt e : TypeId} {x y : Operand} {k0 q : IntKind} {l m : List Int} {n : Nat} {u v : Array Value} (hx : ev env x = some (.agg u)) (hy : ev env y = some (.agg v)) (hu : u = (l.map (Value.int q)).toArray) (hv : v = (m.map (Value.int q)).toArray) (hl : l.length = n) (hm : m.length = n) (ht : C.P.underlying xt = some (.array n e))
  (he : C.P.eqGuardType C.P.depth xt = false) (h0 : C.P.underlying e = some (.int k0)) (hs : tyF C.P e 1 false = true) (hd : eP C.N dst = true)
  (h : XO C ops Q rest ⟨fJ dst (.bool (decide (l = m))) env,df,H,own⟩) : XO C ops Q (⟨dst,.binOp .eql xt x y yt,ty,pos,af,none⟩ :: rest) ⟨env,df,H,own⟩:=by
 subst hu;subst hv
 exact fN rfl rfl hd (fun ρ ha w=>by
  have hgd:=fun w=>run_eqGuard_agg (P:=C.P) w .eql xt x y (l.map (Value.int q)).toArray (m.map (Value.int q)).toArray he
  simp only [execOp,ha _ _ hx,ha _ _ hy,Sem.run_bind,hgd]
  simp only [Result.andThen,binOp,Sem.run_bind,aDu ht h0 hs hl hm]
  simp [Sem.run,Pure.pure]) h
theorem aCr {xt yt e : TypeId} {x y : Operand} {k0 q : IntKind} {l m : List Int} {n : Nat} {u v : Array Value} (hx : ev env x = some (.agg u)) (hy : ev env y = some (.agg v)) (hu : u = (l.map (Value.int q)).toArray) (hv : v = (m.map (Value.int q)).toArray) (hl : l.length = n) (hm : m.length = n) (ht : C.P.underlying xt = some (.array n e))
  (he : C.P.eqGuardType C.P.depth xt = false) (h0 : C.P.underlying e = some (.int k0)) (hs : tyF C.P e 1 false = true) (hd : eP C.N dst = true)
  (h : XO C ops Q rest ⟨fJ dst (.bool (decide (¬ l = m))) env,df,H,own⟩) : XO C ops Q (⟨dst,.binOp .neq xt x y yt,ty,pos,af,none⟩ :: rest) ⟨env,df,H,own⟩:=by
 subst hu;subst hv
 exact fN rfl rfl hd (fun ρ ha w=>by
  have hgd:=fun w=>run_eqGuard_agg (P:=C.P) w .neq xt x y (l.map (Value.int q)).toArray (m.map (Value.int q)).toArray he
  simp only [execOp,ha _ _ hx,ha _ _ hy,Sem.run_bind,hgd]
  simp only [Result.andThen,binOp,Sem.run_bind,aDu ht h0 hs hl hm]
  simp only [decide_not]
  rfl) h
end
end Go.XL

namespace Go.Proofs
open Go.XL
structure Card where
 R : Int
 E : Int
 J : Int
 C : List Int
 D : List UInt8
deriving DecidableEq
abbrev u8n (D : List UInt8) (i : Nat) : Int:=(((D.getD i 0).toNat : Nat) : Int)
abbrev u8c (D : List UInt8) (i : Nat) : Value:=.int .u8 (u8n D i)
abbrev d32 (D : List UInt8) : List Value:=[u8c D 0,u8c D 1,u8c D 2,u8c D 3,u8c D 4,u8c D 5,u8c D 6,u8c D 7,u8c D 8,u8c D 9,u8c D 10,u8c D 11,u8c D 12,u8c D 13,u8c D 14,u8c D 15,u8c D 16,u8c D 17,u8c D 18,u8c D 19,u8c D 20,u8c D 21,u8c D 22,u8c D 23,u8c D 24,u8c D 25,u8c D 26,u8c D 27,u8c D 28,u8c D 29,u8c D 30,u8c D 31]
abbrev n32 (D : List UInt8) : List Int:=[u8n D 0,u8n D 1,u8n D 2,u8n D 3,u8n D 4,u8n D 5,u8n D 6,u8n D 7,u8n D 8,u8n D 9,u8n D 10,u8n D 11,u8n D 12,u8n D 13,u8n D 14,u8n D 15,u8n D 16,u8n D 17,u8n D 18,u8n D 19,u8n D 20,u8n D 21,u8n D 22,u8n D 23,u8n D 24,u8n D 25,u8n D 26,u8n D 27,u8n D 28,u8n D 29,u8n D 30,u8n D 31]
abbrev fA (R E J : Int) (n : Nat) (D : List UInt8) (a : Option Addr) (c : Nat) : List Value:=.int .i64 R :: .int .i64 E :: .int .i64 J :: .slice a n c :: d32 D
def eV : Rep Card where
 sz:=36
 R:=fun H cs s=>∃ a c,cs = fA s.R s.E s.J s.C.length s.D a c ∧ SlR (eO .i64) H a c s.C ∧ s.D.length = 32
 len:=fun ⟨_,_,h,_⟩=>by subst h;rfl
 one:=fun ⟨_,_,h,_⟩=>by subst h;rfl
 mono:=fun hle ⟨a,c,h,hs,hd⟩=>⟨a,c,h,hs.mono hle,hd⟩
abbrev aM3:=List Card
abbrev Box:=List (List Card)
def iB (n : Int) : Val:=.mk 1 n [] []
def uH (s : Card) : Val:=.mk 3 0 [] [iB s.R,iB s.E,iB s.J,.mk 3 0 [] (s.C.map iB),.mk 2 0 s.D []]
def kA (s : Card) : List UInt8:=eB (uH s)
abbrev aKo (s : Card) : Prop:=((0 ≤ s.R ∧ s.R ≤ 7) ∧ (0 ≤ s.E ∧ s.E ≤ 4095)) ∧ (0 ≤ s.J ∧ s.J ≤ 255)
abbrev nB (l : List Int) (m : Int) : Prop:=(1 ≤ l.length ∧ l.length ≤ 64) ∧ ∀ x ∈ l,0 ≤ x ∧ x ≤ m
abbrev okC (s : Card) : Prop:=aKo s ∧ nB s.C 1073741788
def aKj (s : Card) : Int:=if okC s then 0 else 340
end Go.Proofs

namespace Go.Proofs
open Go.XL
def sgn (a b : Int) : Int:=if a < b then -1 else if a > b then 1 else 0
def iD : List Int → List Int → Int
 | [],[]=>0
 | [],_ :: _=>-1
 | _ :: _,[]=>1
 | x :: a,y :: b=>if sgn x y = 0 then iD a b else sgn x y
theorem iT {α : Type} {l : List α} {k : Nat} {x : α} (h : l[k]? = some x) : l.drop k = x :: l.drop (k + 1):=by
 have hk : k < l.length:=(List.getElem?_eq_some_iff.1 h).1
 rw [List.drop_eq_getElem_cons hk]
 congr 1
 exact (List.getElem?_eq_some_iff.1 h).2
theorem uK {a b : Int} (h : a < b) : sgn a b = -1:=if_pos h
theorem aEo {a b : Int} (h : b < a) : sgn a b = 1:=by unfold sgn;rw [if_neg (by omega),if_pos (by omega)]
theorem aFd {a b : Int} (h1 : ¬ a < b) (h2 : ¬ a > b) : sgn a b = 0:=by unfold sgn;rw [if_neg h1,if_neg h2]
theorem wQ {a b : Int} : sgn a b = 0 ↔ a = b:=by unfold sgn;split <;> (try split) <;> omega
theorem cmp_eq {l m : List Int} {k : Nat} {x y c : Int} (h : c = iD (l.drop k) (m.drop k)) (hx : l[k]? = some x) (hy : m[k]? = some y) (h0 : sgn x y = 0) : c = iD (l.drop (k + 1)) (m.drop (k + 1)):=by
 rw [h,iT hx,iT hy,iD,if_pos h0]
theorem aFa {l m : List Int} {k : Nat} {x y : Int} (h : iD l m = iD (l.drop k) (m.drop k)) (hx : l[k]? = some x) (hy : m[k]? = some y) (h0 : sgn x y ≠ 0) : sgn x y = iD l m:=by
 rw [h,iT hx,iT hy,iD,if_neg h0]
theorem yE {l m : List Int} {k : Nat} {x : Int} (h : iD l m = iD (l.drop k) (m.drop k)) (hx : l[k]? = some x) (hm : m.length ≤ k) : (1 : Int) = iD l m:=by
 rw [h,iT hx,List.drop_of_length_le hm];rfl
theorem cmp_end {l m : List Int} {k : Nat} (h : iD l m = iD (l.drop k) (m.drop k)) (hk : l.length ≤ k) : iD l m = if k < m.length then -1 else 0:=by
 rw [h,List.drop_of_length_le hk]
 split
 ·rename_i h1
  rw [iT (List.getElem?_eq_getElem h1)];rfl
 rw [List.drop_of_length_le (by omega)];rfl
def orL (l : List Int) : Int:=(l.find? fun x=>decide (x ≠ 0)).getD 0
theorem aNr {l : List Int} {k : Nat} {x : Int} (h : ∀ y ∈ l.take k,¬ y ≠ 0) (hx : l[k]? = some x) (h0 : x ≠ 0) : x = orL l:=by
 unfold orL
 have e : l = l.take k ++ x :: l.drop (k + 1):=by rw [← iT hx,List.take_append_drop]
 rw [e,List.find?_append,List.find?_eq_none.2 (fun y hy=>by simpa using h y hy),Option.none_or,List.find?_cons_of_pos (by simpa using h0)];rfl
theorem aM7 {l : List Int} (h : ∀ y ∈ l,¬ y ≠ 0) : (0 : Int) = orL l:=by
 unfold orL;rw [List.find?_eq_none.2 (fun y hy=>by simpa using h y hy)];rfl
theorem aHq (a b : Int) : orL [a,b] = if a = 0 then b else a:=by
 unfold orL
 by_cases ha : a = 0
 ·by_cases hb : b = 0 <;> simp [ha,hb]
 simp [ha]
theorem sgn_anti (a b : Int) : sgn b a = - sgn a b:=by unfold sgn;split <;> split <;> (try split) <;> (try split) <;> omega
theorem mT {a b : Int} : sgn a b < 0 ↔ a < b:=by unfold sgn;split <;> (try split) <;> omega
theorem aIe {a b : Int} : sgn a b ≤ 0 ↔ a ≤ b:=by unfold sgn;split <;> (try split) <;> omega
theorem uY : ∀ a b : List Int,iD b a = - iD a b
  | [],[]=>rfl
  | [],_ :: _=>rfl
  | _ :: _,[]=>rfl
  | x :: a,y :: b=>by
    have h:=sgn_anti x y
    rw [iD,iD]
    by_cases h0 : sgn x y = 0
    · rw [if_pos h0,if_pos (by omega)];exact uY a b
    rw [if_neg h0,if_neg (by omega)];exact h
theorem wO : ∀ {a b : List Int},iD a b = 0 ↔ a = b
  | [],[]=>by simp [iD]
  | [],_ :: _=>by simp [iD]
  | _ :: _,[]=>by simp [iD]
  | x :: a,y :: b=>by
    rw [iD]
    by_cases h0 : sgn x y = 0
    · rw [if_pos h0,wO,wQ.1 h0];simp
    rw [if_neg h0]
    exact ⟨fun h=>absurd h h0,fun h=>absurd (wQ.2 (List.cons.inj h).1) h0⟩
theorem zO : ∀ {a b c : List Int},iD a b ≤ 0 → iD b c ≤ 0 → iD a c ≤ 0
  | [],b,[],_,_=>by simp [iD]
  | [],b,_ :: _,_,_=>by simp [iD]
  | _ :: _,[],c,h,_=>by simp [iD] at h
  | _ :: _,_ :: _,[],_,h=>by simp [iD] at h
  | x :: a,y :: b,z :: c,h1,h2=>by
    rw [iD] at h1 h2 ⊢
    by_cases e1 : sgn x y = 0
    · rw [if_pos e1] at h1
      obtain rfl:=wQ.1 e1
      by_cases e2 : sgn x z = 0
      · rw [if_pos e2] at h2 ⊢;exact zO h1 h2
      rw [if_neg e2] at h2 ⊢;exact h2
    rw [if_neg e1] at h1
    by_cases e2 : sgn y z = 0
    · obtain rfl:=wQ.1 e2
      rw [if_neg e1];exact h1
    rw [if_neg e2] at h2
    have:=aIe.1 h1;have:=aIe.1 h2
    have : ¬ x = y:=fun e=>e1 (wQ.2 e)
    rw [if_neg (fun e=>by have:=wQ.1 e;omega)]
    exact aIe.2 (by omega)
def slCap {α : Type} (ρ : Rep α) (l : List α) : Value → Hp → Prop:=fun v H=>∃ a c,v = .slice a l.length c ∧ SlR ρ H a c l ∧ c ≤ l.length
end Go.Proofs

namespace Go.Proofs
open Go.XL
theorem mR : fW Tryz.prog 162 0 = some 0:=by kernel_rfl
theorem qM : fW Tryz.prog 162 1 = some 1:=by kernel_rfl
theorem qP : fW Tryz.prog 162 2 = some 2:=by kernel_rfl
theorem kF : fW Tryz.prog 162 3 = some 3:=by kernel_rfl
theorem nR : tyF Tryz.prog 160 1 false = true:=by kernel_rfl
theorem iE : tyF Tryz.prog 162 4 true = true:=by kernel_rfl
theorem vL : tyF Tryz.prog 229 4 true = true:=by kernel_rfl
theorem dT : tyF Tryz.prog 3 1 false = true:=by kernel_rfl
theorem mU : tyF Tryz.prog 4 1 false = true:=by kernel_rfl
theorem aIa : tyF Tryz.prog 9 1 false = true:=by kernel_rfl
theorem jJ : gH Tryz.prog 162 = some [.int .i64 0,.int .i64 0,.string ⟨#[]⟩,.slice none 0 0]:=by kernel_rfl
theorem mJ : gH Tryz.prog 229 = some [.bool false,.bool false,.bool false,.bool false]:=by kernel_rfl
theorem follows : Tryz.prog.follows .mixedOrders = true:=by kernel_rfl
set_option maxRecDepth 100000 in
set_option maxHeartbeats 1600000 in
theorem formed_all : ∀ (m : Nat) (k n : Int) (s : List UInt8) (l : List Val) (a : Option Addr) (c : Nat) (H : Hp),mK (.mk k n s l) ≤ m → m ≤ 1000000 → SlR valR H a c l → FnC Tryz.prog 149 #[.agg ⟨[.int .i64 k,.int .i64 n,.string (iW s),.slice a l.length c]⟩] H [] (bX (fun v _ _=>v = fdR (.mk k n s l))):=by
 intro m
 refine Nat.strongRecOn m ?_
 clear m
 intro m ih k n s l a c H hw hm hs
 have hwl:=aFt (l:=l)
 rw [mK] at hw
 refine FnC.intro (args:=[.agg ⟨[.int .i64 k,.int .i64 n,.string (iW s),.slice a l.length c]⟩]) Tryz.func149 rfl rfl Tryz.ntmps149 rfl rfl rfl fun G rest=>?_
 refine aZ (aH (dZ rfl rfl rfl (fun b1=>bA rfl rfl (bA rfl rfl (aE (aR (XC.join (base:=[(1,_),(2,_)]) (fun ζ : (Nat) × (Bool) × (Bool) × (Bool)=>[(4,.pointer (some ⟨ζ.1,0,none⟩))]) (fun ζ Hl own=>(ζ.1,.cells 229 [.bool false,.bool ζ.2.1,.bool ζ.2.2.1,.bool ζ.2.2.2]) :: (b1,.cells 162 [.int .i64 k,.int .i64 n,.string (iW s),.slice a l.length c]) :: rest = own ∧ (ζ.2.1 = true ↔ s = [] ∧ l = []) ∧ (ζ.2.2.1 = true ↔ n = 0 ∧ l = []) ∧ (ζ.2.2.2 = true ↔ n = 0 ∧ s = [])) (aQ rfl (aQ rfl bP)) (fun hleJ1=>?_) ?_)))))))
 ·skip
  refine aH (bD rfl qP rfl (bK 0 rfl rfl aIa rfl rfl rfl (xW rfl rfl rfl (aU rfl rfl (eW rfl rfl rfl rfl (fun g2=>?_) (fun g2=>?_))))))
  ·have g2p:=of_decide_eq_true g2
   refine bD rfl kF rfl (bE rfl rfl (g2) rfl (bK 0 rfl rfl nR rfl rfl rfl (bE rfl rfl (g2) rfl (cH (ts:=#[]) rfl Tryz.underlying160 rfl (bE rfl rfl (g2) rfl (fY rfl rfl rfl (dE rfl (g2) rfl rfl (bD rfl qM rfl (bK 0 rfl rfl dT rfl rfl rfl (fY rfl rfl rfl (aU rfl rfl (eW rfl rfl rfl rfl (fun g3=>?_) (fun g3=>?_)))))))))))))
   ·have g3p:=of_decide_eq_true g3
    refine bD rfl kF rfl (bE rfl rfl (g3) rfl (bK 0 rfl rfl nR rfl rfl rfl (bE rfl rfl (g3) rfl (cH (ts:=#[]) rfl Tryz.underlying160 rfl (bE rfl rfl (g3) rfl (fY rfl rfl rfl (dE rfl (g3) rfl rfl (bD rfl qM rfl (bK 0 rfl rfl dT rfl rfl rfl (fY rfl rfl rfl (aU rfl rfl (eW rfl rfl rfl rfl (fun g4=>?_) (fun g4=>?_)))))))))))))
    ·have g4p:=of_decide_eq_true g4
     refine bD rfl qP rfl (bE rfl rfl (g4) rfl (bK 0 rfl rfl aIa rfl rfl rfl (bE rfl rfl (g4) rfl (xW rfl rfl rfl (dE rfl (g4) rfl rfl (jL Tryz.underlying229 mU mJ rfl rfl rfl (dC mJ rfl (fun b4=>bZ 0 rfl rfl rfl rfl vL rfl rfl rfl rfl rfl (aE (lO (b4,decide ((l.length : Int) = 0),decide ((l.length : Int) = 0),decide (s = [])) (aQ rfl (aQ rfl (aQ rfl bP))) (⟨rfl,by simp_all,by simp_all,by simp_all⟩) (by repeat(first|exact sL _|apply sD|apply sC)) hleJ1))))))))))
    have g4p:=of_decide_eq_false g4
    refine bL rfl rfl (g4) rfl rfl (bL rfl rfl (g4) rfl rfl (dL rfl (g4) rfl rfl (jL Tryz.underlying229 mU mJ rfl rfl rfl (dC mJ rfl (fun b4=>bZ 0 rfl rfl rfl rfl vL rfl rfl rfl rfl rfl (aE (lO (b4,decide ((l.length : Int) = 0),decide ((l.length : Int) = 0),false) (aQ rfl (aQ rfl (aQ rfl bP))) (⟨rfl,by simp_all,by simp_all,by simp_all⟩) (by repeat(first|exact sL _|apply sD|apply sC)) hleJ1)))))))
   have g3p:=of_decide_eq_false g3
   refine bL rfl rfl (g3) rfl rfl (bL rfl rfl (g3) rfl rfl (bL rfl rfl (g3) rfl rfl (dL rfl (g3) rfl rfl (bD rfl qM rfl (bK 0 rfl rfl dT rfl rfl rfl (fY rfl rfl rfl (aU rfl rfl (eW rfl rfl rfl rfl (fun g5=>?_) (fun g5=>?_)))))))))
   ·have g5p:=of_decide_eq_true g5
    refine bD rfl qP rfl (bE rfl rfl (g5) rfl (bK 0 rfl rfl aIa rfl rfl rfl (bE rfl rfl (g5) rfl (xW rfl rfl rfl (dE rfl (g5) rfl rfl (jL Tryz.underlying229 mU mJ rfl rfl rfl (dC mJ rfl (fun b4=>bZ 0 rfl rfl rfl rfl vL rfl rfl rfl rfl rfl (aE (lO (b4,decide ((l.length : Int) = 0),false,decide (s = [])) (aQ rfl (aQ rfl (aQ rfl bP))) (⟨rfl,by simp_all,by simp_all,by simp_all⟩) (by repeat(first|exact sL _|apply sD|apply sC)) hleJ1))))))))))
   have g5p:=of_decide_eq_false g5
   refine bL rfl rfl (g5) rfl rfl (bL rfl rfl (g5) rfl rfl (dL rfl (g5) rfl rfl (jL Tryz.underlying229 mU mJ rfl rfl rfl (dC mJ rfl (fun b4=>bZ 0 rfl rfl rfl rfl vL rfl rfl rfl rfl rfl (aE (lO (b4,decide ((l.length : Int) = 0),false,false) (aQ rfl (aQ rfl (aQ rfl bP))) (⟨rfl,by simp_all,by simp_all,by simp_all⟩) (by repeat(first|exact sL _|apply sD|apply sC)) hleJ1)))))))
  have g2p:=of_decide_eq_false g2
  refine bL rfl rfl (g2) rfl rfl (bL rfl rfl (g2) rfl rfl (bL rfl rfl (g2) rfl rfl (dL rfl (g2) rfl rfl (bD rfl qM rfl (bK 0 rfl rfl dT rfl rfl rfl (fY rfl rfl rfl (aU rfl rfl (eW rfl rfl rfl rfl (fun g6=>?_) (fun g6=>?_)))))))))
  ·have g6p:=of_decide_eq_true g6
   refine bD rfl kF rfl (bE rfl rfl (g6) rfl (bK 0 rfl rfl nR rfl rfl rfl (bE rfl rfl (g6) rfl (cH (ts:=#[]) rfl Tryz.underlying160 rfl (bE rfl rfl (g6) rfl (fY rfl rfl rfl (dE rfl (g6) rfl rfl (bD rfl qM rfl (bK 0 rfl rfl dT rfl rfl rfl (fY rfl rfl rfl (aU rfl rfl (eW rfl rfl rfl rfl (fun g7=>?_) (fun g7=>?_)))))))))))))
   ·have g7p:=of_decide_eq_true g7
    refine bD rfl qP rfl (bE rfl rfl (g7) rfl (bK 0 rfl rfl aIa rfl rfl rfl (bE rfl rfl (g7) rfl (xW rfl rfl rfl (dE rfl (g7) rfl rfl (jL Tryz.underlying229 mU mJ rfl rfl rfl (dC mJ rfl (fun b4=>bZ 0 rfl rfl rfl rfl vL rfl rfl rfl rfl rfl (aE (lO (b4,false,decide ((l.length : Int) = 0),decide (s = [])) (aQ rfl (aQ rfl (aQ rfl bP))) (⟨rfl,by simp_all,by simp_all,by simp_all⟩) (by repeat(first|exact sL _|apply sD|apply sC)) hleJ1))))))))))
   have g7p:=of_decide_eq_false g7
   refine bL rfl rfl (g7) rfl rfl (bL rfl rfl (g7) rfl rfl (dL rfl (g7) rfl rfl (jL Tryz.underlying229 mU mJ rfl rfl rfl (dC mJ rfl (fun b4=>bZ 0 rfl rfl rfl rfl vL rfl rfl rfl rfl rfl (aE (lO (b4,false,decide ((l.length : Int) = 0),false) (aQ rfl (aQ rfl (aQ rfl bP))) (⟨rfl,by simp_all,by simp_all,by simp_all⟩) (by repeat(first|exact sL _|apply sD|apply sC)) hleJ1)))))))
  have g6p:=of_decide_eq_false g6
  refine bL rfl rfl (g6) rfl rfl (bL rfl rfl (g6) rfl rfl (bL rfl rfl (g6) rfl rfl (dL rfl (g6) rfl rfl (bD rfl qM rfl (bK 0 rfl rfl dT rfl rfl rfl (fY rfl rfl rfl (aU rfl rfl (eW rfl rfl rfl rfl (fun g8=>?_) (fun g8=>?_)))))))))
  ·have g8p:=of_decide_eq_true g8
   refine bD rfl qP rfl (bE rfl rfl (g8) rfl (bK 0 rfl rfl aIa rfl rfl rfl (bE rfl rfl (g8) rfl (xW rfl rfl rfl (dE rfl (g8) rfl rfl (jL Tryz.underlying229 mU mJ rfl rfl rfl (dC mJ rfl (fun b4=>bZ 0 rfl rfl rfl rfl vL rfl rfl rfl rfl rfl (aE (lO (b4,false,false,decide (s = [])) (aQ rfl (aQ rfl (aQ rfl bP))) (⟨rfl,by simp_all,by simp_all,by simp_all⟩) (by repeat(first|exact sL _|apply sD|apply sC)) hleJ1))))))))))
  have g8p:=of_decide_eq_false g8
  refine bL rfl rfl (g8) rfl rfl (bL rfl rfl (g8) rfl rfl (dL rfl (g8) rfl rfl (jL Tryz.underlying229 mU mJ rfl rfl rfl (dC mJ rfl (fun b4=>bZ 0 rfl rfl rfl rfl vL rfl rfl rfl rfl rfl (aE (lO (b4,false,false,false) (aQ rfl (aQ rfl (aQ rfl bP))) (⟨rfl,by simp_all,by simp_all,by simp_all⟩) (by repeat(first|exact sL _|apply sD|apply sC)) hleJ1)))))))
 rintro ⟨b4,u1,u2,u3⟩ Hl _ hleK1 ⟨rfl,h1,h2,h3⟩;replace hs:=hs.mono hleK1
 try dsimp only at h1 h2 h3⊢ 
 refine aZ (aZ (aH (bD rfl mR rfl (bK 1 rfl rfl dT rfl rfl rfl (dN rfl rfl rfl (aU rfl rfl (eW rfl rfl rfl rfl (fun g9=>?_) (fun g9=>?_))))))))
 ·have g9p:=of_decide_eq_false g9
  refine bD rfl mR rfl (bE rfl rfl (g9) rfl (bK 1 rfl rfl dT rfl rfl rfl (bE rfl rfl (g9) rfl (lT rfl rfl rfl (dL rfl (g9) rfl rfl (aU rfl rfl (eW rfl rfl rfl rfl (fun g10=>?_) (fun g10=>?_))))))))
  ·have g10p:=of_decide_eq_false g10
   refine bD rfl mR rfl (bE rfl rfl (g10) rfl (bK 1 rfl rfl dT rfl rfl rfl (bE rfl rfl (g10) rfl ?_)))
   have hk3 : k = 1 ∨ k = 2 ∨ k = 3:=by omega
   rcases hk3 with rfl | rfl | rfl
   ·skip
    refine eF rfl rfl Tryz.underlying229 mU (by decide) (by decide) rfl (bE rfl rfl (g10) rfl (bK 0 rfl rfl mU rfl rfl rfl (bE rfl rfl (g10) rfl (fC rfl rfl (dL rfl (g10) rfl rfl (aE (aR (gN rfl (fun c0_11=>?_) (fun c0_11=>?_)))))))))
    ·refine aZ (aH (bA rfl rfl (bA rfl rfl (aE (aR (bW (bY ?_)))))));refine ⟨rfl,_,[],rfl,(by repeat(first|exact sL _|apply sC)),bX.mk ?_⟩
     exact aD2 (aF1 fun h=>by have h9:=(aE5.1 h);simp_all)
    refine bS (aR (aZ (aZ (aH (bD rfl mR rfl (bK 1 rfl rfl dT rfl rfl rfl (dN rfl rfl rfl (aE (aR (eY rfl rfl (aZ (aH (bA rfl rfl (bA rfl rfl (aE (aR (bW (bY ?_))))))))))))))))));refine ⟨rfl,_,[],rfl,(by repeat(first|exact sL _|apply sC)),bX.mk ?_⟩
    exact aIp (aE5.2 (h1.1 (by simp_all))) (by rw [jU];rfl)
   ·skip
    refine eF rfl rfl Tryz.underlying229 mU (by decide) (by decide) rfl (bE rfl rfl (g10) rfl (bK 0 rfl rfl mU rfl rfl rfl (bE rfl rfl (g10) rfl (fC rfl rfl (dL rfl (g10) rfl rfl (aE (aR (gN rfl (fun c0_12=>?_) (fun c0_12=>?_)))))))))
    ·refine aZ (aH (bA rfl rfl (bA rfl rfl (aE (aR (bW (bY ?_)))))));refine ⟨rfl,_,[],rfl,(by repeat(first|exact sL _|apply sC)),bX.mk ?_⟩
     exact aD2 (aF1 fun h=>by have h9:=(aEz.1 h);simp_all)
    refine bS (aR (aZ (aZ (aH (bD rfl mR rfl (bK 1 rfl rfl dT rfl rfl rfl (dN rfl rfl rfl (aE (aR (eY rfl rfl (aZ (aH (bA rfl rfl (bA rfl rfl (aE (aR (bW (bY ?_))))))))))))))))));refine ⟨rfl,_,[],rfl,(by repeat(first|exact sL _|apply sC)),bX.mk ?_⟩
    exact aIp (aEz.2 (h2.1 (by simp_all))) (by rw [jU];rfl)
   skip
   refine eF rfl rfl Tryz.underlying229 mU (by decide) (by decide) rfl (bE rfl rfl (g10) rfl (bK 0 rfl rfl mU rfl rfl rfl (bE rfl rfl (g10) rfl (fC rfl rfl (dL rfl (g10) rfl rfl (aE (aR (gN rfl (fun c0_13=>?_) (fun c0_13=>?_)))))))))
   ·refine aZ (aH (bA rfl rfl (bA rfl rfl (aE (aR (bW (bY ?_)))))));refine ⟨rfl,_,[],rfl,(by repeat(first|exact sL _|apply sC)),bX.mk ?_⟩
    exact aD2 (aF1 fun h=>by have h9:=(wH.1 h);simp_all)
   refine bS (aR (aZ (aZ (aH (bD rfl mR rfl (bK 1 rfl rfl dT rfl rfl rfl (dN rfl rfl rfl (aE (aR (dY rfl rfl (bS (aR (aZ (aZ (aH (bD rfl kF rfl (bK 1 rfl rfl nR rfl rfl rfl (cH (ts:=#[]) rfl Tryz.underlying160 rfl (aU rfl rfl (aE (aR (bT (cE [2,57,55,56] rfl (eE (base:=[(55,_),(56,_)]) (fun ζ : Nat=>[(2,.int .i64 ((kR (l.take ζ) : Nat) : Int)),(57,.int .i64 (ζ : Nat))]) (fun ζ Hl own=>ζ ≤ l.length ∧ rest = own ∧ (kN (l.take ζ) = true)) (fun ζ=>l.length - ζ) 0 (aQ rfl (aQ rfl (aQ rfl (aQ rfl bP)))) (by repeat(first|exact sL _|apply sD|apply sC)) ⟨Nat.zero_le _,rfl,rfl⟩ ?_))))))))))))))))))))))));rintro i Hl0 _ bM ⟨hki,rfl,hfo⟩;replace hs:=hs.mono bM
   try dsimp only at ⊢
   refine aZ (aH (dN rfl rfl rfl (aE (aR (aZ (cW rfl (fun c2_14=>?_) (fun c2_14=>?_)))))))
   ·refine bS (aR (aZ (bT (aZ (aH (dK rfl hs rfl Tryz.underlying160 iE (by omega) rfl ?_))))));rintro eb59 eo59 _ x59 hx59 hR59 hp59;obtain ⟨k59,n59,s59,l59⟩:=x59;obtain ⟨a59,c59,rfl,hd59⟩:=mN.1 hR59;refine cQ rfl (by assumption) iE rfl rfl rfl (dC jJ rfl (fun b6=>bZ 0 rfl rfl rfl rfl iE rfl rfl rfl rfl rfl (aE (aR (aZ (aH ?_))))))
    have hwx:=aE7 (List.mem_of_getElem? hx59)
    have hwt:=aHc (l:=l) i
    refine bK 0 rfl rfl iE rfl rfl rfl ?_
    have hcall16:=ih (mK (.mk k59 n59 s59 l59)) (by omega) k59 n59 s59 l59 a59 c59 _ (Nat.le_refl _) (by omega) hd59
    refine bR rfl hcall16 rfl (aU rfl rfl (bV rfl rfl rfl (bV rfl rfl rfl (bA rfl rfl (bA rfl rfl (aE (aR (aZ (aZ (aH (aU rfl rfl (fC rfl rfl (aE (aR (gN rfl (fun c3_17=>?_) (fun c3_17=>?_))))))))))))))))
    ·refine aZ (aH (bA rfl rfl (bA rfl rfl (aE (aR (bW (bY (dQ (bY (eG (dQ (bY ?_))))))))))));refine ⟨rfl,_,[],rfl,(by repeat(first|exact sL _|apply sC)),bX.mk ?_⟩
     exact aD2 (aF1 fun h=>by have h9:=uP.1 (wH.1 h).2 _ (List.mem_of_getElem? hx59);simp_all)
    have hfx : gD (.mk k59 n59 s59 l59) = true:=by simpa using c3_17
    refine bS (aR (aH (aU rfl rfl (aU rfl rfl ?_))));refine XO.maxI (c:=((kR (l.take (i + 1)) : Nat) : Int)) rfl rfl (by rw [dl_max hx59];unfold fdV;rw [if_pos hfx];split <;> omega) rfl ?_;refine bA rfl rfl (aE (dP (aR (aH (dJ rfl rfl (bU (by omega) (by omega)) rfl (aU rfl rfl (aE (cR (i + 1) (by show l.length - (i + 1) < l.length - i;omega) (aQ rfl (aQ rfl (aQ rfl (aQ rfl bP)))) (⟨by show i + 1 ≤ l.length;omega,rfl,fl_yes hx59 hfo (by simp_all)⟩) (by repeat(first|exact sL _|apply sD|apply sC)) (bM)))))))))
   obtain rfl : i = l.length:=by omega
   rw [List.take_length] at hfo ⊢
   have hdw:=wU (l:=l) (fun x _=>depth_wsz x)
   refine dX (dA (cZ (dI rfl (aR (aZ (aH (aU rfl rfl (dJ rfl rfl (bU (by omega) (by omega)) rfl (bA rfl rfl (bA rfl rfl (aE (aR (bW ?_)))))))))))));refine ⟨rfl,_,[],rfl,(by repeat(first|exact sL _|apply sC)),bX.mk ?_⟩
   exact aIp (wH.2 ⟨h3.1 (by simp_all),hfo⟩) (by rw [jU,if_pos rfl];omega)
  have g10p:=of_decide_eq_true g10
  refine bL rfl rfl (g10) rfl rfl (bL rfl rfl (g10) rfl rfl (bL rfl rfl (g10) rfl rfl (bL rfl rfl (g10) rfl rfl (dE rfl (g10) rfl rfl (aE (aR (eY rfl rfl (aZ (aH (bA rfl rfl (bA rfl rfl (aE (aR (bW (bY ?_)))))))))))))));refine ⟨rfl,_,[],rfl,(by repeat(first|exact sL _|apply sC)),bX.mk ?_⟩
  exact aD2 (aFv (by omega))
 have g9p:=of_decide_eq_true g9
 refine bL rfl rfl (g9) rfl rfl (bL rfl rfl (g9) rfl rfl (dE rfl (g9) rfl rfl (aU rfl rfl (bL rfl rfl rfl rfl rfl (bL rfl rfl rfl rfl rfl (bL rfl rfl rfl rfl rfl (bL rfl rfl rfl rfl rfl (bL rfl rfl rfl rfl rfl (dE rfl rfl rfl rfl (aE (aR (eY rfl rfl (aZ (aH (bA rfl rfl (bA rfl rfl (aE (aR (bW (bY ?_))))))))))))))))))));refine ⟨rfl,_,[],rfl,(by repeat(first|exact sL _|apply sC)),bX.mk ?_⟩
 exact aD2 (aFv (by omega))
theorem check_fn (k n : Int) (s : List UInt8) (l : List Val) (a : Option Addr) (c : Nat) (H : Hp) (hw : mK (.mk k n s l) ≤ 1000000) (hs : SlR valR H a c l) : FnC Tryz.prog 131 #[.agg ⟨[.int .i64 k,.int .i64 n,.string (iW s),.slice a l.length c]⟩] H [] (bX (fun v _ _=>v = .int .i64 (uT (.mk k n s l)))):=by
 refine FnC.intro (args:=[.agg ⟨[.int .i64 k,.int .i64 n,.string (iW s),.slice a l.length c]⟩]) Tryz.func131 rfl rfl Tryz.ntmps131 rfl rfl rfl fun G rest=>?_
 refine aZ (aH (dZ rfl rfl rfl (fun b1=>bA rfl rfl (aE (aR (aZ (aH (bK 0 rfl rfl iE rfl rfl rfl ?_))))))))
 have hcall:=formed_all 1000000 k n s l a c _ hw (Nat.le_refl _) hs
 refine bR rfl hcall rfl (aU rfl rfl (bV rfl rfl rfl (bV rfl rfl rfl (bA rfl rfl (bA rfl rfl (aE (aR (aZ (bT (aZ (aH (aU rfl rfl (fC rfl rfl (bA rfl rfl (aE (aR (gN rfl (fun nT=>?_) (fun nT=>?_))))))))))))))))))
 ·have hf : gD (.mk k n s l) = false:=by simpa using nT
  refine aZ (aH (bA rfl rfl (aE (aR (bW (dQ (bY ?_)))))));refine ⟨rfl,_,[],rfl,(by repeat(first|exact sL _|apply sC)),bX.mk ?_⟩
  exact congrArg (Value.int .i64) (chk_1 hf).symm
 have hf : gD (.mk k n s l) = true:=by simpa using nT
 have hfd:=fd_eq hf
 refine aZ (aH (aU rfl rfl (lT rfl rfl rfl (bA rfl rfl (aE (aR (cW rfl (fun qU=>?_) (fun qU=>?_))))))))
 ·refine aZ (aH (bA rfl rfl (aE (aR (bW (dQ (bY ?_)))))));refine ⟨rfl,_,[],rfl,(by repeat(first|exact sL _|apply sC)),bX.mk ?_⟩
  exact congrArg (Value.int .i64) (chk_2 hf (by omega)).symm
 refine bS (dP (aR (aZ (aH (bA rfl rfl (aE (aR (bW ?_))))))));refine ⟨rfl,_,[],rfl,(by repeat(first|exact sL _|apply sC)),bX.mk ?_⟩
 exact congrArg (Value.int .i64) (aM8 hf (by omega)).symm
theorem uns_fn (n : Int) (hn : -9223372036854775808 ≤ n ∧ n ≤ 9223372036854775807) (H : Hp) : FnC Tryz.prog 152 #[.int .i64 n] H [] (bX (fun v _ _=>v = .int .u64 (zA n : Nat))):=by
 refine FnC.intro (args:=[.int .i64 n]) Tryz.func152 rfl rfl Tryz.ntmps152 rfl rfl rfl fun G rest=>?_
 refine aZ (aH (bA rfl rfl (aE (aR (aZ (aH (aU rfl rfl (gT rfl Tryz.underlying3 Tryz.underlying220 (qB _) rfl (aH8 rfl rfl (by omega) rfl (aU rfl rfl (qF rfl rfl (by omega) rfl (gT rfl Tryz.underlying3 Tryz.underlying220 rfl rfl (pT rfl rfl rfl (bA rfl rfl (aE (aR (bW ?_)))))))))))))))));refine ⟨rfl,_,[],rfl,(by repeat(first|exact sL _|apply sC)),bX.mk ?_⟩
 exact congrArg (Value.int .u64) (uns_bits hn)
end Go.Proofs

namespace Go.Proofs
open Go.XL
end Go.Proofs

namespace Go.Proofs
open Go.XL
theorem aE3 : Nat.ble (Tryz.prog.bytesOf 5) 4096 = true:=by kernel_rfl
theorem lR : tyF Tryz.prog 5 1 false = true:=by kernel_rfl
theorem yN : gH Tryz.prog 5 = some [.int .u8 0]:=by kernel_rfl
theorem aH9 (po : Nat × SObj) (ao : Option Addr) (co : Nat) (l0 : List UInt8) (u : Nat) (H : Hp) (hacc : wL H po ao co l0) (hu : u < 18446744073709551616) (hl : l0.length ≤ 100000000) : FnC Tryz.prog 151 #[.slice ao l0.length co,.int .u64 (u : Nat)] H [po] (bX (fun v H2 own=>∃ po2 a2 c2,own = [po2] ∧ v = .slice a2 (l0 ++ nK u).length c2 ∧ wL H2 po2 a2 c2 (l0 ++ nK u))):=by
 refine FnC.intro (args:=[.slice ao l0.length co,.int .u64 (u : Nat)]) Tryz.func151 rfl rfl Tryz.ntmps151 rfl rfl rfl fun G rest=>?_
 have hnu:=wB (u:=u) hu
 refine aZ (aH (bA rfl rfl (aE (aR (aZ (bT (cE [0,1] rfl (eE (base:=[]) (fun ζ : Nat × (Nat) × (List UInt8) × ((Nat × SObj) × Option Addr × Nat)=>[(0,.slice ζ.2.2.2.2.1 (ζ.2.2.1).length ζ.2.2.2.2.2),(1,.int .u64 (ζ.2.1 : Nat))]) (fun ζ Hl own=>ζ.2.2.2.1 :: rest = own ∧ Acc u8R 5 Hl ζ.2.2.2.1 ζ.2.2.2.2.1 ζ.2.2.2.2.2 (ζ.2.2.1) ∧ (ζ.2.2.1 ++ nK ζ.2.1 = l0 ++ nK u) ∧ (ζ.2.1 < 18446744073709551616)) (fun ζ=>ζ.2.1) (0,u,l0,(po,ao,co)) (aQ rfl (aQ rfl bP)) (by repeat(first|exact sL _|apply sD|apply sC)) ⟨rfl,hacc,rfl,hu⟩ ?_))))))));rintro ⟨q,w,o,⟨po,ao,co⟩⟩ Hl0 _ bM ⟨rfl,hacco,hwo,hwu⟩
 try dsimp only at hacco hwo hwu ⊢
 have hlo : o.length ≤ l0.length + 10:=by have:=congrArg List.length hwo;rw [List.length_append,List.length_append] at this;omega
 refine aZ (aZ (aH (aU rfl rfl (jC rfl rfl rfl (aE (aR (cW rfl (fun gJ=>?_) (fun gJ=>?_))))))))
 ·refine bS (aR (aZ (bT (aH (aU rfl rfl (aU rfl rfl (gT (c:=((w % 256 : Nat) : Int)) rfl Tryz.underlying220 Tryz.underlying5 (by rw [aAv];omega) rfl (aBo rfl rfl rfl ?_))))))))
  rw [or_bits]
  refine dB rfl Tryz.underlying157 lR yN rfl rfl rfl (fun b13=>?_);refine dF 0 rfl rfl rfl (fun HP13 oP13 hleP13 hbP13 hoP13=>?_)
  have hsl13:=SlR.lit (ρ:=u8R) (l:=[UInt8.ofNat (w % 128 + 128)]) hbP13 hoP13 (eN.one1 rfl)
  replace hacco:=hacco.mono hleP13;replace bM:=bM.trans hleP13;refine fB 0 rfl rfl hacco rfl rfl hsl13 rfl Tryz.underlying157 lR yN rfl aE3 (by simp;omega) rfl (fun p14 a14 c14 hacc14=>bA rfl rfl (aE (dP (aR (aH (aU rfl rfl (qF rfl rfl (by decide) rfl ?_)))))))
  rw [shr7]
  refine bA rfl rfl (aE (cR ((q,w / 128,o ++ [UInt8.ofNat (w % 128 + 128)],(p14,a14,c14))) (by show w / 128 < w;omega) (aQ (by first | rfl) (aQ rfl bP)) (⟨rfl,by first | (exact hacc14),(numL_yes (by omega) o).trans hwo,by (try dsimp only);omega⟩) (by repeat(first|exact sL _|apply sD|apply sC)) (bM)))
 rw [numL_last (by omega)] at hwo
 refine dX (dA (cZ (dI rfl (aR (aZ (aH (aU rfl rfl (aU rfl rfl (gT (c:=(((UInt8.ofNat w).toNat : Nat) : Int)) rfl Tryz.underlying220 Tryz.underlying5 (by rw [uL (by omega)];exact wrap_u8 (by omega) (by omega)) rfl (dB rfl Tryz.underlying157 lR yN rfl rfl rfl (fun b18=>dF 0 rfl rfl rfl (fun HP18 oP18 hleP18 hbP18 hoP18=>?_))))))))))))
 have hsl18:=SlR.lit (ρ:=u8R) (l:=[UInt8.ofNat w]) hbP18 hoP18 (eN.one1 rfl)
 replace hacco:=hacco.mono hleP18;replace bM:=bM.trans hleP18;refine fB 0 rfl rfl hacco rfl rfl hsl18 rfl Tryz.underlying157 lR yN rfl aE3 (by simp;omega) rfl (fun p19 a19 c19 hacc19=>bA rfl rfl (aE (aR (bW ?_))));refine ⟨rfl,_,[_],rfl,(by repeat(first|exact sL _|apply sC)),bX.mk ?_⟩
 rw [← hwo]
 exact ⟨_,_,_,rfl,rfl,by assumption⟩
end Go.Proofs

namespace Go.Proofs
open Go.XL
theorem w1_fn (n : Int) (s : List UInt8) (l : List Val) (a : Option Addr) (c : Nat) (hn : -9223372036854775808 ≤ n ∧ n ≤ 9223372036854775807) (po : Nat × SObj) (ao : Option Addr) (co : Nat) (l0 : List UInt8) (H : Hp) (hacc : wL H po ao co l0) (hl0 : l0.length ≤ 60000000) : FnC Tryz.prog 150 #[.slice ao l0.length co,.agg ⟨[.int .i64 1,.int .i64 n,.string (iW s),.slice a l.length c]⟩] H [po] (bX (fun v H2 own=>∃ po2 a2 c2,own = [po2] ∧ v = .slice a2 (l0 ++ mC (.mk 1 n s l)).length c2 ∧ wL H2 po2 a2 c2 (l0 ++ mC (.mk 1 n s l)))):=by
 refine FnC.intro (args:=[.slice ao l0.length co,.agg ⟨[.int .i64 1,.int .i64 n,.string (iW s),.slice a l.length c]⟩]) Tryz.func150 rfl rfl Tryz.ntmps150 rfl rfl rfl fun G rest=>?_
 have hu:=uns_lt2 hn
 refine aZ (aH (dZ rfl rfl rfl (fun b3=>tF (List.Perm.swap _ _ _) (bA rfl rfl (aE (aR (aZ (cE [0,3] rfl ?_))))))))
 apply aCf (fun _=>True) trivial [2] (FOl (fun j=>[l0,l0 ++ [1]].getD j []) ao co) (aCl _ _ _) 5 [eqF _,slF u8R [1],rC,eqF _,eqF _] follows (by kernel_rfl) ⟨bB _,gX _ _,gR,bB _,bB _,trivial⟩ (by kernel_rfl) (aLq hacc) ?steps1 ?tail1
 case steps1 =>
  refine gA rfl ?_ ?_
  ·intro X e HD aD _
   replace hacc:=hacc.mono aD;refine bG rfl ?_
   intro hfa
   refine aU rfl rfl (aE ?_)
   exact eH trivial rfl (lU rfl)
  refine gA rfl ?_ ?_
  ·intro X e HD aD _
   replace hacc:=hacc.mono aD;refine bG rfl ?_
   intro hfa
   refine dB rfl Tryz.underlying157 lR yN rfl rfl rfl (fun b6=>?_);refine dF 0 rfl rfl rfl (fun HP6 oP6 hleP6 hbP6 hoP6=>?_)
   have hsl6:=SlR.lit (ρ:=u8R) (l:=[1]) hbP6 hoP6 (eN.one1 rfl)
   replace hacc:=hacc.mono hleP6;refine aE ?_
   exact eH trivial (⟨_,rfl,hsl6⟩) (lU rfl)
  refine gA rfl ?_ ?_
  ·intro X e HD aD _
   replace hacc:=hacc.mono aD;refine wQq rfl rfl rfl (dD rfl rfl ?_);rintro _ ⟨bs6,rfl,hsl6⟩;refine bG rfl ?_
   intro hfa
   have hfa0:=(aFg rfl hfa).1 rfl
   refine fB 0 rfl rfl hfa0 rfl rfl hsl6 rfl Tryz.underlying157 lR yN rfl aE3 (by simp;omega) rfl (fun p7 a7 c7 hacc7=>?_);refine aE ?_
   exact eH trivial (trivial) (aA5 rfl (by exact aJ2 hacc7))
  refine gA rfl ?_ ?_
  ·intro X e HD aD _
   replace hacc:=hacc.mono aD;refine bG rfl ?_
   intro hfa
   refine bD rfl qM rfl (aE ?_)
   exact eH trivial rfl (lU rfl)
  refine gA rfl ?_ ?_
  ·intro X e HD aD _
   replace hacc:=hacc.mono aD;refine wQq rfl rfl rfl (bG rfl ?_)
   intro hfa
   refine bK 1 rfl rfl dT rfl rfl rfl (aE ?_)
   exact eH trivial rfl (lU rfl)
  exact xN rfl
 case tail1 =>
  intro HD aD _
  replace hacc:=hacc.mono aD;refine wQq rfl rfl rfl (dD rfl rfl ?_);rintro _ ⟨bs6,rfl,hsl6⟩;refine dD rfl rfl ?_;rintro _ _;refine wQq rfl rfl rfl (wQq rfl rfl rfl (bG rfl ?_))
  intro e he
  have hfb:=aE2 rfl he rfl rfl
  obtain ⟨a7,c7,hv7,hacc7⟩:=hfb.2 (by decide)
  subst hv7
  refine bR rfl (uns_fn n hn _) rfl ?_
  have hcall:=aH9 e a7 c7 (l0 ++ [1]) (zA n) _ hacc7 (by omega) (by simp;omega)
  refine pA 0 rfl hcall rfl rfl ?_;rintro _ HN11 _ hleN11 ⟨p11,a11,c11,rfl,rfl,hacc11⟩;refine ⟨_,rfl,?_⟩;replace hacc:=hacc.mono hleN11;replace hsl6:=hsl6.mono hleN11;refine bA rfl rfl (aE (aR (bW ?_)));refine ⟨rfl,_,[_],rfl,(by repeat(first|exact sL _|apply sD|apply sC)),bX.mk ?_⟩
  rw [encV1,← List.append_assoc]
  exact ⟨_,_,_,rfl,rfl,by assumption⟩
theorem w2_fn (n : Int) (s : List UInt8) (l : List Val) (a : Option Addr) (c : Nat) (po : Nat × SObj) (ao : Option Addr) (co : Nat) (l0 : List UInt8) (H : Hp) (hacc : wL H po ao co l0) (hl0 : l0.length + s.length ≤ 60000000) : FnC Tryz.prog 153 #[.slice ao l0.length co,.agg ⟨[.int .i64 2,.int .i64 n,.string (iW s),.slice a l.length c]⟩] H [po] (bX (fun v H2 own=>∃ po2 a2 c2,own = [po2] ∧ v = .slice a2 (l0 ++ mC (.mk 2 n s l)).length c2 ∧ wL H2 po2 a2 c2 (l0 ++ mC (.mk 2 n s l)))):=by
 refine FnC.intro (args:=[.slice ao l0.length co,.agg ⟨[.int .i64 2,.int .i64 n,.string (iW s),.slice a l.length c]⟩]) Tryz.func153 rfl rfl Tryz.ntmps153 rfl rfl rfl fun G rest=>?_
 have hnl:=wB (u:=s.length) (by omega)
 refine aZ (aH (dZ rfl rfl rfl (fun b3=>tF (List.Perm.swap _ _ _) (bA rfl rfl (aE (aR (aZ (cE [0,3] rfl ?_))))))))
 apply aCf (fun _=>True) trivial [2,7] (FOl (fun j=>[l0,l0 ++ [2],(l0 ++ [2]) ++ nK s.length].getD j []) ao co) (aCl _ _ _) 10 [eqF _,slF u8R [2],rC,eqF _,eqF _,eqF _,eqF _,rC,eqF _,eqF _] follows (by kernel_rfl) ⟨bB _,gX _ _,gR,bB _,bB _,bB _,bB _,gR,bB _,bB _,trivial⟩ (by kernel_rfl) (aLq hacc) ?steps1 ?tail1
 case steps1 =>
  refine gA rfl ?_ ?_
  ·intro X e HD aD _
   replace hacc:=hacc.mono aD;refine bG rfl ?_
   intro hfa
   refine aU rfl rfl (aE ?_)
   exact eH trivial rfl (lU rfl)
  refine gA rfl ?_ ?_
  ·intro X e HD aD _
   replace hacc:=hacc.mono aD;refine bG rfl ?_
   intro hfa
   refine dB rfl Tryz.underlying157 lR yN rfl rfl rfl (fun b6=>?_);refine dF 0 rfl rfl rfl (fun HP6 oP6 hleP6 hbP6 hoP6=>?_)
   have hsl6:=SlR.lit (ρ:=u8R) (l:=[2]) hbP6 hoP6 (eN.one1 rfl)
   replace hacc:=hacc.mono hleP6;refine aE ?_
   exact eH trivial (⟨_,rfl,hsl6⟩) (lU rfl)
  refine gA rfl ?_ ?_
  ·intro X e HD aD _
   replace hacc:=hacc.mono aD;refine wQq rfl rfl rfl (dD rfl rfl ?_);rintro _ ⟨bs6,rfl,hsl6⟩;refine bG rfl ?_
   intro hfa
   have hfa0:=(aFg rfl hfa).1 rfl
   refine fB 0 rfl rfl hfa0 rfl rfl hsl6 rfl Tryz.underlying157 lR yN rfl aE3 (by simp;omega) rfl (fun p7 a7 c7 hacc7=>?_);refine aE ?_
   exact eH trivial (trivial) (aA5 rfl (by exact aJ2 hacc7))
  refine gA rfl ?_ ?_
  ·intro X e HD aD _
   replace hacc:=hacc.mono aD;refine bG rfl ?_
   intro hfa
   refine bD rfl qP rfl (aE ?_)
   exact eH trivial rfl (lU rfl)
  refine gA rfl ?_ ?_
  ·intro X e HD aD _
   replace hacc:=hacc.mono aD;refine wQq rfl rfl rfl (bG rfl ?_)
   intro hfa
   refine bK 1 rfl rfl aIa rfl rfl rfl (aE ?_)
   exact eH trivial rfl (lU rfl)
  refine gA rfl ?_ ?_
  ·intro X e HD aD _
   replace hacc:=hacc.mono aD;refine wQq rfl rfl rfl (bG rfl ?_)
   intro hfa
   refine XO.lenStr rfl Tryz.underlying9 (by omega) rfl (aE ?_)
   exact eH trivial rfl (lU rfl)
  refine gA rfl ?_ ?_
  ·intro X e HD aD _
   replace hacc:=hacc.mono aD;refine wQq rfl rfl rfl (bG rfl ?_)
   intro hfa
   refine gT (c:=((s.length : Nat) : Int)) rfl Tryz.underlying3 Tryz.underlying220 (nL (by omega) (by omega)) rfl (aE ?_)
   exact eH trivial rfl (lU rfl)
  refine gA rfl ?_ ?_
  ·intro X e HD aD _
   replace hacc:=hacc.mono aD;refine dD rfl rfl ?_;rintro _ _;refine wQq rfl rfl rfl (bG rfl ?_)
   intro hfa
   have hfb:=factQ_s rfl hfa rfl rfl
   obtain ⟨a7,c7,hv7,hfa0⟩:=hfb.2 (by decide)
   subst hv7
   have hcall:=aH9 e a7 c7 (l0 ++ [2]) s.length _ hfa0 (by omega) (by simp;omega)
   refine pA 0 rfl hcall rfl rfl ?_;rintro _ HN12 _ hleN12 ⟨p12,a12,c12,rfl,rfl,hacc12⟩;refine ⟨_,rfl,?_⟩;replace hacc:=hacc.mono hleN12;refine aE ?_
   exact eH trivial (trivial) (aA5 rfl (by exact aJ2 hacc12))
  refine gA rfl ?_ ?_
  ·intro X e HD aD _
   replace hacc:=hacc.mono aD;refine bG rfl ?_
   intro hfa
   refine bD rfl qP rfl (aE ?_)
   exact eH trivial rfl (lU rfl)
  refine gA rfl ?_ ?_
  ·intro X e HD aD _
   replace hacc:=hacc.mono aD;refine wQq rfl rfl rfl (bG rfl ?_)
   intro hfa
   refine bK 1 rfl rfl aIa rfl rfl rfl (aE ?_)
   exact eH trivial rfl (lU rfl)
  exact xN rfl
 case tail1 =>
  intro HD aD _
  replace hacc:=hacc.mono aD;refine wQq rfl rfl rfl (dD rfl rfl ?_);rintro _ ⟨bs6,rfl,hsl6⟩;refine dD rfl rfl ?_;rintro _ _;refine wQq rfl rfl rfl (wQq rfl rfl rfl (wQq rfl rfl rfl (wQq rfl rfl rfl (dD rfl rfl ?_))));rintro _ _;refine wQq rfl rfl rfl (wQq rfl rfl rfl (bG rfl ?_))
  intro e he
  have hfb:=aE2 rfl he rfl rfl
  obtain ⟨a12,c12,hv12,hacc12⟩:=hfb.2 (by decide)
  subst hv12
  refine XO.appendS 0 rfl rfl hacc12 rfl rfl Tryz.underlying157 Tryz.underlying9 lR yN rfl aE3 (by simp;omega) rfl (fun p15 a15 c15 hacc15=>bA rfl rfl (aE (aR (bW ?_))));refine ⟨rfl,_,[_],rfl,(by repeat(first|exact sL _|apply sD|apply sC)),bX.mk ?_⟩
  rw [encV2,← List.append_assoc,← List.append_assoc]
  exact ⟨_,_,_,rfl,rfl,by assumption⟩
def W3 (bw b1 m : Nat) : Prop:=∀ (n : Int) (s : List UInt8) (l : List Val) (a : Option Addr) (c : Nat) (po : Nat × SObj) (ao : Option Addr) (co : Nat) (l0 : List UInt8) (H : Hp),mK (.mk 3 n s l) ≤ m → m ≤ 1000000 → gD (.mk 3 n s l) = true → Fit (.mk 3 n s l) → l0.length + mK (.mk 3 n s l) ≤ 50000000 → WrH H bw b1 → SlR valR H a c l → wL H po ao co l0 →
 FnC Tryz.prog 154 #[.slice ao l0.length co,.agg ⟨[.int .i64 3,.int .i64 n,.string (iW s),.slice a l.length c]⟩,.pointer (some ⟨b1,0,none⟩)] H [po] (bX (fun v H2 own=>∃ po2 a2 c2,own = [po2] ∧ v = .slice a2 (l0 ++ mC (.mk 3 n s l)).length c2 ∧ wL H2 po2 a2 c2 (l0 ++ mC (.mk 3 n s l))))
theorem aLj {bw b1 m : Nat} (ih : W3 bw b1 m) {k n : Int} {s : List UInt8} {l : List Val} {a : Option Addr} {c : Nat} {po : Nat × SObj} {ao : Option Addr} {co : Nat} {l0 : List UInt8} {H : Hp} (hw : mK (.mk k n s l) ≤ m) (hm : m ≤ 1000000) (hf : gD (.mk k n s l) = true) (hfit : Fit (.mk k n s l)) (hl : l0.length + mK (.mk k n s l) ≤ 50000000) (hW : WrH H bw b1) (hs : SlR valR H a c l) (hacc : wL H po ao co l0) :
  FnV Tryz.prog (aHz b1 k) [.slice ao l0.length co,.agg ⟨[.int .i64 k,.int .i64 n,.string (iW s),.slice a l.length c]⟩] H [po] (bX (fun v H2 own=>∃ po2 a2 c2,own = [po2] ∧ v = .slice a2 (l0 ++ mC (.mk k n s l)).length c2 ∧ wL H2 po2 a2 c2 (l0 ++ mC (.mk k n s l)))):=by
 obtain ⟨f1,f2,f3,f4⟩:=hfit.of
 rcases uU hf with rfl | rfl | rfl
 ·exact FnV.of_fn (cap:=[]) (args:=[_,_]) (w1_fn n s l a c f1 po ao co l0 H hacc (by omega))
 ·exact FnV.of_fn (cap:=[]) (args:=[_,_]) (w2_fn n s l a c po ao co l0 H hacc (by rw [mK] at hl;omega))
 exact FnV.of_fn (cap:=[_]) (args:=[_,_]) (ih n s l a c po ao co l0 H hw hm hf hfit hl hW hs hacc)
end Go.Proofs

namespace Go.Proofs
open Go.XL
theorem vG : fW Tryz.prog 197 0 = some 0:=by kernel_rfl
theorem aB7 : tyF Tryz.prog 195 1 false = true:=by kernel_rfl
theorem zZ : tyF Tryz.prog 197 1 true = true:=by kernel_rfl
theorem aAc : tyF Tryz.prog 198 1 false = true:=by kernel_rfl
theorem w3_all (bw b1 : Nat) : ∀ m,W3 bw b1 m:=by
 intro m
 refine Nat.strongRecOn m ?_
 clear m
 intro m ih n s l a c po ao co l0 H hw hm hf hfit hl hWr hs hacc
 obtain ⟨f1,f2,f3,f4⟩:=hfit.of
 have hfl:=uP.1 (wH.1 hf).2
 have hnl:=wB (u:=l.length) (by omega)
 rw [mK] at hw hl
 have hwl:=aFt (l:=l)
 refine FnC.intro (args:=[.slice ao l0.length co,.agg ⟨[.int .i64 3,.int .i64 n,.string (iW s),.slice a l.length c]⟩,.pointer (some ⟨b1,0,none⟩)]) Tryz.func154 rfl rfl Tryz.ntmps154 rfl rfl rfl fun G rest=>?_
 refine aZ (aH (dZ rfl rfl rfl (fun b4=>tF (List.Perm.swap _ _ _) (bA rfl rfl (aE (aR (aZ (cE [0,2,4] rfl ?_))))))))
 apply aCf (fun _=>True) trivial [2] (FOl (fun j=>[l0,l0 ++ [3]].getD j []) ao co) (aCl _ _ _) 7 [eqF _,slF u8R [3],rC,eqF _,eqF _,eqF _,eqF _] follows (by kernel_rfl) ⟨bB _,gX _ _,gR,bB _,bB _,bB _,bB _,trivial⟩ (by kernel_rfl) (aLq hacc) ?steps1 ?tail1
 case steps1 =>
  refine gA rfl ?_ ?_
  ·intro X e HD aD _
   replace hacc:=hacc.mono aD;replace hs:=hs.mono aD;replace hWr:=hWr.mono aD;refine bG rfl ?_
   intro hfa
   refine aU rfl rfl (aE ?_)
   exact eH trivial rfl (lU rfl)
  refine gA rfl ?_ ?_
  ·intro X e HD aD _
   replace hacc:=hacc.mono aD;replace hs:=hs.mono aD;replace hWr:=hWr.mono aD;refine bG rfl ?_
   intro hfa
   refine dB rfl Tryz.underlying157 lR yN rfl rfl rfl (fun b9=>?_);refine dF 0 rfl rfl rfl (fun HP9 oP9 hleP9 hbP9 hoP9=>?_)
   have hsl9:=SlR.lit (ρ:=u8R) (l:=[3]) hbP9 hoP9 (eN.one1 rfl)
   replace hacc:=hacc.mono hleP9;replace hs:=hs.mono hleP9;replace hWr:=hWr.mono hleP9;refine aE ?_
   exact eH trivial (⟨_,rfl,hsl9⟩) (lU rfl)
  refine gA rfl ?_ ?_
  ·intro X e HD aD _
   replace hacc:=hacc.mono aD;replace hs:=hs.mono aD;replace hWr:=hWr.mono aD;refine wQq rfl rfl rfl (dD rfl rfl ?_);rintro _ ⟨bs9,rfl,hsl9⟩;refine bG rfl ?_
   intro hfa
   have hfa0:=(aFg rfl hfa).1 rfl
   refine fB 0 rfl rfl hfa0 rfl rfl hsl9 rfl Tryz.underlying157 lR yN rfl aE3 (by simp;omega) rfl (fun p10 a10 c10 hacc10=>?_);refine aE ?_
   exact eH trivial (trivial) (aA5 rfl (by exact aJ2 hacc10))
  refine gA rfl ?_ ?_
  ·intro X e HD aD _
   replace hacc:=hacc.mono aD;replace hs:=hs.mono aD;replace hWr:=hWr.mono aD;refine bG rfl ?_
   intro hfa
   refine bD rfl kF rfl (aE ?_)
   exact eH trivial rfl (lU rfl)
  refine gA rfl ?_ ?_
  ·intro X e HD aD _
   replace hacc:=hacc.mono aD;replace hs:=hs.mono aD;replace hWr:=hWr.mono aD;refine wQq rfl rfl rfl (bG rfl ?_)
   intro hfa
   refine bK 1 rfl rfl nR rfl rfl rfl (aE ?_)
   exact eH trivial rfl (lU rfl)
  refine gA rfl ?_ ?_
  ·intro X e HD aD _
   replace hacc:=hacc.mono aD;replace hs:=hs.mono aD;replace hWr:=hWr.mono aD;refine wQq rfl rfl rfl (bG rfl ?_)
   intro hfa
   refine cH (ts:=#[]) rfl Tryz.underlying160 rfl (aE ?_)
   exact eH trivial rfl (lU rfl)
  refine gA rfl ?_ ?_
  ·intro X e HD aD _
   replace hacc:=hacc.mono aD;replace hs:=hs.mono aD;replace hWr:=hWr.mono aD;refine wQq rfl rfl rfl (bG rfl ?_)
   intro hfa
   refine gT (c:=((l.length : Nat) : Int)) rfl Tryz.underlying3 Tryz.underlying220 (nL (by omega) (by omega)) rfl (aE ?_)
   exact eH trivial rfl (lU rfl)
  exact xN rfl
 case tail1 =>
  intro HD aD _
  replace hacc:=hacc.mono aD;replace hs:=hs.mono aD;replace hWr:=hWr.mono aD;refine wQq rfl rfl rfl (dD rfl rfl ?_);rintro _ ⟨bs9,rfl,hsl9⟩;refine dD rfl rfl ?_;rintro _ _;refine wQq rfl rfl rfl (wQq rfl rfl rfl (wQq rfl rfl rfl (wQq rfl rfl rfl (bG rfl ?_))))
  intro e he
  have hfb:=aE2 rfl he rfl rfl
  obtain ⟨a10,c10,hv10,hacc10⟩:=hfb.2 (by decide)
  subst hv10
  have hcall:=aH9 e a10 c10 (l0 ++ [3]) l.length _ hacc10 (by omega) (by simp;omega)
  refine pA 0 rfl hcall rfl rfl ?_;rintro _ HN15 _ hleN15 ⟨p15,a15,c15,rfl,rfl,hacc15⟩;refine ⟨_,rfl,?_⟩;replace hacc:=hacc.mono hleN15;replace hs:=hs.mono hleN15;replace hWr:=hWr.mono hleN15;replace hsl9:=hsl9.mono hleN15;refine bA rfl rfl (aE (aR (aZ (aZ (aH (bD rfl kF rfl (bK 1 rfl rfl nR rfl rfl rfl (cH (ts:=#[]) rfl Tryz.underlying160 rfl (aU rfl rfl (aE (aR (bT (cE [0,19,2,17,18] rfl (eE (base:=[(2,_),(17,_),(18,_)]) (fun ζ : Nat × ((Nat × SObj) × Option Addr × Nat)=>[(0,.slice ζ.2.2.1 (((l0 ++ [3]) ++ nK l.length) ++ rE (l.take (ζ.1))).length ζ.2.2.2),(19,.int .i64 (ζ.1 : Nat))]) (fun ζ Hl own=>ζ.1 ≤ l.length ∧ ζ.2.1 :: rest = own ∧ Acc u8R 5 Hl ζ.2.1 ζ.2.2.1 ζ.2.2.2 (((l0 ++ [3]) ++ nK l.length) ++ rE (l.take (ζ.1)))) (fun ζ=>l.length - ζ.1) (0,(p15,a15,c15)) (aQ (by show _ = some (Value.slice _ (_ ++ rE (l.take 0)).length _);rw [show rE (l.take 0) = [] from rfl,List.append_nil];rfl) (aQ rfl (aQ rfl (aQ rfl (aQ rfl bP))))) (by repeat(first|exact sL _|apply sD|apply sC)) ⟨Nat.zero_le _,rfl,(by rw [show rE (l.take 0) = [] from rfl,List.append_nil];exact hacc15)⟩ ?_))))))))))))));rintro ⟨i,⟨po,ao,co⟩⟩ Hl0 _ bM ⟨hki,rfl,hacco⟩;replace hs:=hs.mono bM;replace hWr:=hWr.mono bM;replace hsl9:=hsl9.mono bM
  try dsimp only at hki hacco ⊢
  refine aZ (aH (dN rfl rfl rfl (aE (aR (aZ (cW rfl (fun c0_4=>?_) (fun c0_4=>?_)))))))
  ·refine bS (aR (aZ (bT (aZ (aH (dK rfl hs rfl Tryz.underlying160 iE (by omega) rfl ?_))))));rintro eb21 eo21 _ x21 qD hR21 hp21;obtain ⟨k21,n21,s21,l21⟩:=x21;obtain ⟨a21,c21,rfl,hd21⟩:=mN.1 hR21;refine cQ rfl (by assumption) iE rfl rfl rfl (dC jJ rfl (fun b7=>bZ 0 rfl rfl rfl rfl iE rfl rfl rfl rfl rfl (aE (aR (cE [0,2,7,17,18,19] rfl ?_)))))
   have hfx:=hfl _ (List.mem_of_getElem? qD)
   have hk3:=uU hfx
   have hWp:=hWr.p
   have hWa:=hWr.at hk3
   have hwx:=aE7 (List.mem_of_getElem? qD)
   apply jR 9 [eqF _,eqF _,eqF _,eqF _,eqF _,eqF _,eqF _,eqF _,eqF _] follows (by kernel_rfl) (by kernel_rfl) ⟨bB _,bB _,bB _,bB _,bB _,bB _,bB _,bB _,bB _,trivial⟩ ?steps6 ?tail6
   case steps6 =>
    refine bO rfl ?_ ?_
    ·intro X
     refine aW rfl (cQ rfl (by assumption) aAc rfl rfl rfl (aE ?_))
     exact bH rfl rfl
    refine bO rfl ?_ ?_
    ·intro X
     refine aW rfl (bD rfl mR rfl (aE ?_))
     exact bH rfl rfl
    refine bO rfl ?_ ?_
    ·intro X
     refine wPq rfl rfl rfl (aW rfl (bK 0 rfl rfl dT rfl rfl rfl (aE ?_)))
     exact bH rfl rfl
    refine bO rfl ?_ ?_
    ·intro X
     refine wPq rfl rfl rfl (aW rfl (eC rfl rfl (aE ?_)))
     exact bH rfl rfl
    refine bO rfl ?_ ?_
    ·intro X
     refine wPq rfl rfl rfl (wPq rfl rfl rfl (aW rfl (eF rfl rfl Tryz.underlying218 zZ (by omega) (by omega) rfl (aE ?_))))
     exact bH rfl rfl
    refine bO rfl ?_ ?_
    ·intro X
     refine wPq rfl rfl rfl (aW rfl (bD rfl vG rfl (aE ?_)))
     exact bH rfl rfl
    refine bO rfl ?_ ?_
    ·intro X
     refine wPq rfl rfl rfl (aW rfl (gG rfl (by assumption) aB7 rfl rfl rfl (aE ?_)))
     exact bH rfl rfl
    refine bO rfl ?_ ?_
    ·intro X
     refine aW rfl (aU rfl rfl (aE ?_))
     exact bH rfl rfl
    refine bO rfl ?_ ?_
    ·intro X
     refine aW rfl (bK 0 rfl rfl iE rfl rfl rfl (aE ?_))
     exact bH rfl rfl
    exact eU rfl
   case tail6 =>
    refine wPq rfl rfl rfl (wPq rfl rfl rfl (wPq rfl rfl rfl (wPq rfl rfl rfl (wPq rfl rfl rfl (wPq rfl rfl rfl (wPq rfl rfl rfl (wPq rfl rfl rfl (wPq rfl rfl rfl (aW rfl ?_)))))))))
    have hcall:=aLj (ih (mK (.mk k21 n21 s21 l21)) (by omega)) (Nat.le_refl _) (by omega) hfx (f4 _ (List.mem_of_getElem? qD)) (by have h9:=aHc (l:=l) (i + 1);rw [fP qD,wszL_snoc] at h9;have h8:=encL_wsz (l:=l.take i) (fun x hx=>f4 x (List.mem_of_mem_take hx));simp only [List.length_append,List.length_cons,List.length_nil];omega) hWr hd21 hacco
    refine kX [_] rfl trivial rfl hcall rfl rfl ?_;rintro _ HN32 _ hleN32 ⟨p32,a32,c32,rfl,rfl,hacc32⟩;replace hs:=hs.mono hleN32;replace hWr:=hWr.mono hleN32;replace hsl9:=hsl9.mono hleN32;replace hacco:=hacco.mono hleN32;replace hp21:=hp21.mono hleN32;replace hd21:=hd21.mono hleN32;replace bM:=bM.trans hleN32;refine bA rfl rfl (aE (dP (aR (aH (dJ rfl rfl (bU (by omega) (by omega)) rfl (aU rfl rfl (aE (cR ((i + 1,(p32,a32,c32))) (by show l.length - (i + 1) < l.length - i;omega) (aQ (by first | rfl | (rw [fP qD,aDz,← List.append_assoc];rfl)) (aQ rfl (aQ rfl (aQ rfl (aQ rfl bP))))) (⟨by show i + 1 ≤ l.length;omega,rfl,by first | (exact hacc32) | (rw [fP qD,aDz,← List.append_assoc];exact hacc32)⟩) (by repeat(first|exact sL _|apply sD|apply sC)) (bM)))))))))
  obtain rfl : i = l.length:=by omega
  rw [List.take_length] at hacco ⊢
  refine dX (dA (cZ (dI rfl (aR (aZ (aH (aU rfl rfl (bA rfl rfl (aE (aR (bW ?_)))))))))));refine ⟨rfl,_,[_],rfl,(by repeat(first|exact sL _|apply sD|apply sC)),bX.mk ?_⟩
  rw [encV3,← List.append_assoc,← List.append_assoc]
  exact ⟨_,_,_,rfl,rfl,by assumption⟩
theorem write_all {bw b1 : Nat} {k n : Int} {s : List UInt8} {l : List Val} {a : Option Addr} {c : Nat} {po : Nat × SObj} {ao : Option Addr} {co : Nat} {l0 : List UInt8} {H : Hp} (hm : mK (.mk k n s l) ≤ 1000000) (hf : gD (.mk k n s l) = true) (hfit : Fit (.mk k n s l)) (hl : l0.length + mK (.mk k n s l) ≤ 50000000) (hW : WrH H bw b1) (hs : SlR valR H a c l) (hacc : wL H po ao co l0) :
  FnV Tryz.prog (aHz b1 k) [.slice ao l0.length co,.agg ⟨[.int .i64 k,.int .i64 n,.string (iW s),.slice a l.length c]⟩] H [po] (bX (fun v H2 own=>∃ po2 a2 c2,own = [po2] ∧ v = .slice a2 (l0 ++ mC (.mk k n s l)).length c2 ∧ wL H2 po2 a2 c2 (l0 ++ mC (.mk k n s l)))):=aLj (w3_all bw b1 1000000) hm (Nat.le_refl _) hf hfit hl hW hs hacc
end Go.Proofs

namespace Go.Proofs
open Go.XL
theorem ze_198 : gH Tryz.prog 198 = some [.pointer none]:=by kernel_rfl
theorem ze_218 : gH Tryz.prog 218 = some [.nilFunc,.nilFunc,.nilFunc,.nilFunc]:=by kernel_rfl
theorem newWriter_fn (H : Hp) : FnC Tryz.prog 132 #[] H [] (bX (fun v H2 _=>∃ bw b1,v = .pointer (some ⟨bw,0,none⟩) ∧ WrH H2 bw b1)):=by
 refine FnC.intro (args:=[]) Tryz.func132 rfl rfl Tryz.ntmps132 rfl rfl rfl fun G rest=>?_
 refine aZ (aH (bA rfl rfl (aE (aR (aZ (aH (jL Tryz.underlying218 zZ ze_218 rfl rfl rfl (dZ rfl rfl rfl (fun b3=>dC ze_198 rfl (fun b1=>bZ 0 rfl rfl rfl rfl aAc rfl rfl rfl rfl rfl (aE (aR (aZ (aH (bK 0 rfl rfl aAc rfl rfl rfl (eC rfl rfl (eF rfl rfl Tryz.underlying218 zZ (by first|decide|omega) (by first|decide|omega) rfl (bD rfl vG rfl (bZ 1 rfl rfl rfl rfl aB7 rfl rfl rfl rfl rfl (aE (aR (aZ (aH (bK 0 rfl rfl aAc rfl rfl rfl (eC rfl rfl (eF rfl rfl Tryz.underlying218 zZ (by first|decide|omega) (by first|decide|omega) rfl (bD rfl vG rfl (bZ 1 rfl rfl rfl rfl aB7 rfl rfl rfl rfl rfl (aE (aR ?_))))))))))))))))))))))))))))));refine aZ (aH (bK 0 rfl rfl aAc rfl rfl rfl (gY rfl rfl (eC rfl rfl (eF rfl rfl Tryz.underlying218 zZ (by first|decide|omega) (by first|decide|omega) rfl (bD rfl vG rfl (bZ 1 rfl rfl rfl rfl aB7 rfl rfl rfl rfl rfl (aE (aR (aZ (aH (bK 0 rfl rfl aAc rfl rfl rfl (bA rfl rfl (dF 0 rfl rfl rfl (fun HK1 oK1 hleK1 hbK1 hoK1=>?_)))))))))))))))
 have hp1:=PtH.of_is hbK1 hoK1
 refine dF 0 rfl rfl rfl (fun HK3 oK3 oD hbK3 hoK3=>?_)
 have hp3:=PtH.of_is hbK3 hoK3
 replace hp1:=hp1.mono oD;refine aE (aR (bW ?_));refine ⟨rfl,_,[],rfl,(by repeat(first|exact sL _|apply sC)),bX.mk ?_⟩
 exact ⟨b3,b1,rfl,hp1,aLl hp3 1 rfl,aLl hp3 2 rfl,aLl hp3 3 rfl⟩
end Go.Proofs

namespace Go.Proofs
open Go.XL
theorem aK8 (k n : Int) (s : List UInt8) (l : List Val) (a : Option Addr) (c : Nat) (H : Hp) (hw : mK (.mk k n s l) ≤ 1000000) (hf : Fit (.mk k n s l)) (hs : SlR valR H a c l) : FnC Tryz.prog 92 #[.agg ⟨[.int .i64 k,.int .i64 n,.string (iW s),.slice a l.length c]⟩] H [] (bX (fun v H2 _=>aHo (.mk k n s l) H2 v)):=by
 refine FnC.intro (args:=[.agg ⟨[.int .i64 k,.int .i64 n,.string (iW s),.slice a l.length c]⟩]) Tryz.func92 rfl rfl Tryz.ntmps92 rfl rfl rfl fun G rest=>?_
 refine aZ (aH (dZ rfl rfl rfl (fun b1=>bA rfl rfl (bA rfl rfl (aE (aR (aZ (aZ (aH (bK 0 rfl rfl iE rfl rfl rfl ?_))))))))))
 have hcall:=check_fn k n s l a c _ hw hs
 refine bR rfl hcall rfl (bA rfl rfl (aE (aR (aZ (aH (aU rfl rfl (fZ rfl rfl rfl (aE (aR (cW rfl (fun nT=>?_) (fun nT=>?_)))))))))))
 ·have hch : uT (.mk k n s l) ≠ 0:=nT
  refine aZ (aH (aU rfl rfl (bA rfl rfl (bA rfl rfl (aE (aR (bW (bY ?_))))))));refine ⟨rfl,_,[],rfl,(by repeat(first|exact sL _|apply sC)),bX.mk ?_⟩
  exact enc_no hch
 have hch : uT (.mk k n s l) = 0:=by omega
 refine bS (aR (aZ (cE [1] rfl ?_)))
 have hfm:=chk0_formed hch
 have hk3:=uU hfm
 apply iJ (fun _=>True) trivial 8 [fun v H=>∃ bw b1,v = .pointer (some ⟨bw,0,none⟩) ∧ WrH H bw b1,eqF _,eqF _,fun v H=>∃ bw b1,v = .pointer (some ⟨bw,0,none⟩) ∧ WrH H bw b1,fun v H=>∃ bw b1,v = .pointer (some ⟨bw,0 + k.toNat * 1,none⟩) ∧ WrH H bw b1,fun v H=>∃ bw b1,v = .pointer (some ⟨bw,0 + k.toNat * 1 + 0,none⟩) ∧ WrH H bw b1,fun v H=>∃ bw b1,v = aHz b1 k ∧ WrH H bw b1,eqF _] follows (by kernel_rfl) (by kernel_rfl) ⟨fun _ _ _ hle ⟨bw,b1,h1,h2⟩=>⟨bw,b1,h1,h2.mono hle⟩,bB _,bB _,fun _ _ _ hle ⟨bw,b1,h1,h2⟩=>⟨bw,b1,h1,h2.mono hle⟩,fun _ _ _ hle ⟨bw,b1,h1,h2⟩=>⟨bw,b1,h1,h2.mono hle⟩,fun _ _ _ hle ⟨bw,b1,h1,h2⟩=>⟨bw,b1,h1,h2.mono hle⟩,fun _ _ _ hle ⟨bw,b1,h1,h2⟩=>⟨bw,b1,h1,h2.mono hle⟩,bB _,trivial⟩ ?steps3 ?tail3
 case steps3 =>
  refine bI rfl ?_ ?_
  ·intro X HD aD _
   replace hs:=hs.mono aD;refine aW rfl (fI rfl (newWriter_fn _) rfl ?_);rintro _ HN10 hleN10 ⟨bw10,b110,rfl,hW10⟩;replace hs:=hs.mono hleN10;refine aE ?_
   exact bH trivial (⟨_,_,rfl,hW10⟩)
  refine bI rfl ?_ ?_
  ·intro X HD aD _
   replace hs:=hs.mono aD;refine aW rfl (bD rfl mR rfl (aE ?_))
   exact bH trivial rfl
  refine bI rfl ?_ ?_
  ·intro X HD aD _
   replace hs:=hs.mono aD;refine wPq rfl rfl rfl (aW rfl (bK 0 rfl rfl dT rfl rfl rfl (aE ?_)))
   exact bH trivial rfl
  refine bI rfl ?_ ?_
  ·intro X HD aD _
   replace hs:=hs.mono aD;refine cU rfl rfl ?_;rintro _ ⟨bw0,b0,rfl,hW0⟩;refine aW rfl (eC rfl rfl (aE ?_))
   exact bH trivial (⟨_,_,rfl,hW0⟩)
  refine bI rfl ?_ ?_
  ·intro X HD aD _
   replace hs:=hs.mono aD;refine cU rfl rfl ?_;rintro _ ⟨bw3,b3,rfl,hW3⟩;refine wPq rfl rfl rfl (aW rfl (eF rfl rfl Tryz.underlying218 zZ (by omega) (by omega) rfl (aE ?_)))
   exact bH trivial (⟨_,_,rfl,hW3⟩)
  refine bI rfl ?_ ?_
  ·intro X HD aD _
   replace hs:=hs.mono aD;refine cU rfl rfl ?_;rintro _ ⟨bw4,b4,rfl,hW4⟩;refine aW rfl (bD rfl vG rfl (aE ?_))
   exact bH trivial (⟨_,_,rfl,hW4⟩)
  refine bI rfl ?_ ?_
  ·intro X HD aD _
   replace hs:=hs.mono aD;refine cU rfl rfl ?_;rintro _ ⟨bw5,b5,rfl,hW5⟩;refine aW rfl ?_
   have hWa:=hW5.at hk3
   refine gG rfl hWa aB7 rfl rfl rfl (aE ?_)
   exact bH trivial (⟨_,_,rfl,hW5⟩)
  refine bI rfl ?_ ?_
  ·intro X HD aD _
   replace hs:=hs.mono aD;refine aW rfl (bK 0 rfl rfl iE rfl rfl rfl (aE ?_))
   exact bH trivial rfl
  exact eU rfl
 case tail3 =>
  intro HD aD _
  replace hs:=hs.mono aD;refine cU rfl rfl ?_;rintro _ ⟨bw0,b0,rfl,hW0⟩;refine wPq rfl rfl rfl (wPq rfl rfl rfl (cU rfl rfl ?_));rintro _ ⟨bw3,b3,rfl,hW3⟩;refine cU rfl rfl ?_;rintro _ ⟨bw4,b4,rfl,hW4⟩;refine cU rfl rfl ?_;rintro _ ⟨bw5,b5,rfl,hW5⟩;refine cU rfl rfl ?_;rintro _ ⟨bw6,b6,rfl,hW6⟩;refine wPq rfl rfl rfl (aW rfl (sN (σ:=[]) (fun b0=>?_)))
  have hcall:=write_all (l0:=[]) hw hfm hf (by simp;omega) hW6 hs (Acc.nil u8R 5 _ b0)
  refine kX (lH:=[(b0,.nothing)]) [] rfl trivial rfl hcall rfl rfl ?_;rintro _ HN18 _ hleN18 ⟨p18,a18,c18,rfl,rfl,hacc18⟩;replace hs:=hs.mono hleN18;refine gL 0 rfl hacc18 rfl (fun HQ18 hleQ18 hsQ18=>?_);replace hs:=hs.mono hleQ18;refine bA rfl rfl (bA rfl rfl (aE (aR (bW ?_))));refine ⟨rfl,_,[],rfl,(by repeat(first|exact sL _|apply sC)),bX.mk ?_⟩
  exact enc_yes hch hsQ18
end Go.Proofs

namespace Go.Proofs
open Go.XL
end Go.Proofs
