/- Drawn regions with a store: one operation changes a block that was there before, and what must run before it still finds it as it was. No statement of the program stands here. -/
import Derived.Test.YtapacjfkgiigiaaB2
import Derived.Lib.AppendStr
import Derived.Lib.ConvBytes
import Derived.Test.YtapacjfkgiigiaaProg
set_option autoImplicit false
set_option linter.unusedSimpArgs false
set_option linter.unusedVariables false
namespace Go.XL
def befI (l : List Oper) (i0 k : Nat) : Bool := match l[i0]? with
 | some o => o.after.toList.any fun e => Region.binds .any e && Nat.beq e.on k
 | none => false
def foS (i0 k : Nat) (FOa : Nat × SObj → Hp → Prop) (FO2 : Nat × SObj → Hp → Prop) (e0 : Nat × SObj) : Value → Nat × SObj → Hp → Prop := fun _ e H => if k = i0 then FO2 e H else e = e0
def stepsS (Gd : Hp → Prop) (i0 : Nat) (FOa : Nat × SObj → Hp → Prop) (FO2 : Nat × SObj → Hp → Prop) (C : Ctx) (l : List Oper) (F : List (Value → Hp → Prop)) (env : Env) (df : List Deferred) (H : Hp) (own : Own) (m : Nat) : Nat → List Oper → Prop
  | _, [] => True
  | k, o :: rest => bif Nat.blt k m then
      (∀ X e H', Le H H' → Gd H' → ((k = i0 ∨ befI l i0 k = true) → FOa e H') → withP l F H' (predsG o) [] fun acc => XO C l.toArray (stepQV Gd o.dst (factAt F k) (foS i0 k FOa FO2 e) (acc ++ (env ++ X)) df own) [o] ⟨acc ++ (env ++ X), df, H', e :: own⟩) ∧ stepsS Gd i0 FOa FO2 C l F env df H own m (k + 1) rest
    else True
theorem stepsS_cons {Gd : Hp → Prop} {i0 : Nat} {FOa : Nat × SObj → Hp → Prop} {FO2 : Nat × SObj → Hp → Prop} {C : Ctx} {l : List Oper} {F : List (Value → Hp → Prop)} {env : Env} {df : List Deferred} {H : Hp} {own : Own} {m k : Nat} {o : Oper} {rest : List Oper} (hk : Nat.blt k m = true)
  (h : ∀ X e H', Le H H' → Gd H' → ((k = i0 ∨ befI l i0 k = true) → FOa e H') → withP l F H' (predsG o) [] fun acc => XO C l.toArray (stepQV Gd o.dst (factAt F k) (foS i0 k FOa FO2 e) (acc ++ (env ++ X)) df own) [o] ⟨acc ++ (env ++ X), df, H', e :: own⟩) (k2 : stepsS Gd i0 FOa FO2 C l F env df H own m (k + 1) rest) : stepsS Gd i0 FOa FO2 C l F env df H own m k (o :: rest) := by
 rw [stepsS, hk]; exact ⟨h, k2⟩
theorem stepsS_end {Gd : Hp → Prop} {i0 : Nat} {FOa : Nat × SObj → Hp → Prop} {FO2 : Nat × SObj → Hp → Prop} {C : Ctx} {l : List Oper} {F : List (Value → Hp → Prop)} {env : Env} {df : List Deferred} {H : Hp} {own : Own} {m k : Nat} {rest : List Oper} (hk : Nat.blt k m = false) : stepsS Gd i0 FOa FO2 C l F env df H own m k rest := by
 cases rest with
 | nil => trivial
 | cons o r => rw [stepsS, hk]; trivial
section
variable {C : Ctx} {Q : Exit → St → Prop} {env : Env} {df : List Deferred} {H : Hp} {own : Own}
theorem stepsS_at {Gd : Hp → Prop} {i0 : Nat} {FOa : Nat × SObj → Hp → Prop} {FO2 : Nat × SObj → Hp → Prop} {l : List Oper} {F : List (Value → Hp → Prop)} {m : Nat} : ∀ (rest : List Oper) (k : Nat), stepsS Gd i0 FOa FO2 C l F env df H own m k rest → ∀ (i : Nat) (o : Oper), rest[i]? = some o → k + i < m →
    ∀ X e H', Le H H' → Gd H' → ((k + i = i0 ∨ befI l i0 (k + i) = true) → FOa e H') → withP l F H' (predsG o) [] fun acc => XO C l.toArray (stepQV Gd o.dst (factAt F (k + i)) (foS i0 (k + i) FOa FO2 e) (acc ++ (env ++ X)) df own) [o] ⟨acc ++ (env ++ X), df, H', e :: own⟩
  | [], k, _, i, o, hi, _ => by simp at hi
  | x :: rest, k, h, i, o, hi, hlt => by
    simp only [stepsS] at h
    rw [show Nat.blt k m = true by simp; omega] at h
    cases i with
    | zero => simp only [List.getElem?_cons_zero, Option.some.injEq] at hi; subst hi; exact h.1
    | succ i =>
      have := stepsS_at rest (k + 1) h.2 i o (by simpa using hi) (by omega)
      rwa [show k + 1 + i = k + (i + 1) by omega] at this
theorem XC.drawS (Gd : Hp → Prop) (hG : Gd H) (i0 : Nat) (FOa : Nat × SObj → Hp → Prop) (FO2 : Nat × SObj → Hp → Prop) (hFOa : ∀ p H H', Le H H' → FOa p H → FOa p H') (hFO2 : ∀ p H H', Le H H' → FO2 p H → FO2 p H') {id : Nat} {l : List Oper} (m : Nat) (F : List (Value → Hp → Prop)) (hm : C.P.follows .mixedOrders = true) (hck : drawOkH m l (env.map Prod.fst) = true) (hmono' : monoL F)
    (hi0 : Nat.blt i0 m = true) {q : Nat × SObj} (hq0 : FOa q H) (steps : stepsS Gd i0 FOa FO2 C l F env df H own m 0 l)
    (tail : ∀ H', Le H H' → Gd H' → withP l F H' (List.range m) [] fun acc => ∀ e, FO2 e H' → XO C l.toArray Q (l.drop m) ⟨acc ++ env, df, H', e :: own⟩) : XC C (.region id l.toArray true) Q ⟨env, df, H, q :: own⟩ := by
  have hmono := monoF_of hmono'
  intro a₀ w₀ hr₀
  refine wpIn_region_any hm ?_
  simp only [drawOkH, Bool.and_eq_true, List.all_eq_true, List.mem_range] at hck
  obtain ⟨⟨hml, hck1⟩, hck2⟩ := hck
  have hml := Nat.le_of_ble_eq_true hml
  have hpre : ∀ i, i < m → ∃ o, l[i]? = some o ∧ (∀ t, o.dst = some t → t ∉ env.map Prod.fst ∧ (∀ j, j < m → i ≠ j → dstOf l j ≠ some t)) ∧ (∀ e ∈ o.after, Region.binds .any e = true → e.on < i) ∧ (∀ j ∈ predsG o, j < m ∧ ∃ e ∈ o.after, Region.binds .any e = true ∧ e.on = j) := by
    intro i hi
    have h := hck1 i hi
    split at h
    · rename_i o ho
      simp only [Bool.and_eq_true, List.all_eq_true] at h
      obtain ⟨⟨⟨hnd, hd⟩, haf⟩, hp⟩ := h
      refine ⟨o, ho, ?_, ?_, ?_⟩
      · intro t ht
        rw [ht] at hd
        simp only [Bool.and_eq_true, List.all_eq_true, List.mem_range, Bool.not_eq_true', List.contains_eq_mem, decide_eq_false_iff_not] at hd
        refine ⟨hd.1, fun j hj hne he => ?_⟩
        have := hd.2 j hj
        rw [he] at this
        simp at this
        exact hne this
      · intro e he hb
        have := haf e (by simpa using he)
        simpa [hb] using this
      · intro j hj
        have := hp j hj
        simp only [List.any_eq_true, Bool.and_eq_true] at this
        obtain ⟨h1, e, he, hb, hon⟩ := this
        exact ⟨by simpa using h1, e, by simpa using he, hb, Nat.eq_of_beq_eq_true hon⟩
    · cases h
  have hkey : ∀ i t, i < m → dstOf l i = some t → t ∉ env.map Prod.fst := by
    intro i t hi ht
    obtain ⟨o, ho, hd, _⟩ := hpre i hi
    exact (hd t (by simpa [dstOf, ho] using ht)).1
  have hdis : ∀ i j t, i < m → j < m → dstOf l i = some t → dstOf l j = some t → i = j := by
    intro i j t hi hj ht ht2
    obtain ⟨o, ho, hd, _⟩ := hpre i hi
    by_cases h : i = j
    · exact h
    · exact absurd ht2 ((hd t (by simpa [dstOf, ho] using ht)).2 j hj h)
  have htl : ∀ (i : Nat) (o : Oper), m ≤ i → l[i]? = some o → (∀ j, j < i → waitsB l l.length o j = true) ∧ (∀ e ∈ o.after, Region.binds .any e = true → e.on < i) := by
    intro i o hi ho
    have hlt := (List.getElem?_eq_some_iff.1 ho).1
    have h := hck2 i hlt
    rw [ho] at h
    rw [show Nat.blt i m = false from blt_ge hi] at h
    simp only [Bool.false_or, Bool.and_eq_true, List.all_eq_true, List.mem_range] at h
    refine ⟨fun j hj => h.1 j hj, fun e he hb => ?_⟩
    · have := h.2 e (by simpa using he)
      simpa [hb] using this
  have hdc : ∀ (i : Nat) (o : Oper), l[i]? = some o → ∀ e ∈ o.after, Region.binds .any e = true → e.on < i := by
    intro i o ho
    rcases Nat.lt_or_ge i m with h | h
    · obtain ⟨o2, ho2, _, haf, _⟩ := hpre i h
      rw [ho] at ho2; cases ho2; exact haf
    · exact (htl i o h ho).2
  have main : ∀ (fuel : Nat) (L : Array Bool) (a : Act) (w : World) (val : Nat → Value) (ent : Nat × SObj) (H' : Hp), L.size = l.length → unl l.length L ≤ fuel → Le H H' → Gd H' → (∀ (i : Nat) (o : Oper), l[i]? = some o → lst L i = true → ∀ e ∈ o.after, Region.binds .any e = true → lst L e.on = true) → (∀ j, m ≤ j → lst L j = false) →
      a.tmps.size = C.N → (∀ t v, env.get t = some v → a.tmps.getD t undef = v) → (∃ ms : List Nat, a.defers = ms.map mark ++ df ∧ Ok C.G H' ((ent :: own) ++ (ms.map hid ++ C.hid)) w) → (if lst L i0 = true then FO2 ent H' else FOa ent H') →
      (∀ i, i < m → lst L i = true → ∀ t, dstOf l i = some t → a.tmps.getD t undef = val i ∧ factAt F i (val i) H') →
      wpAnyIn (Fr C.r) 0 C.P .any l.toArray (lift C H Q) fuel L a w := by
    intro fuel
    have done : ∀ (fuel : Nat) (L : Array Bool) (a : Act) (w : World) (val : Nat → Value) (ent : Nat × SObj) (H' : Hp), L.size = l.length → unl l.length L ≤ fuel → Le H H' → Gd H' → (∀ j, m ≤ j → lst L j = false) →
        a.tmps.size = C.N → (∀ t v, env.get t = some v → a.tmps.getD t undef = v) → (∃ ms : List Nat, a.defers = ms.map mark ++ df ∧ Ok C.G H' ((ent :: own) ++ (ms.map hid ++ C.hid)) w) → (if lst L i0 = true then FO2 ent H' else FOa ent H') →
        (∀ i, i < m → lst L i = true → ∀ t, dstOf l i = some t → a.tmps.getD t undef = val i ∧ factAt F i (val i) H') → (∀ j, j < m → lst L j = true) →
        wpAnyIn (Fr C.r) 0 C.P .any l.toArray (lift C H Q) fuel L a w := by
      intro fuel L a w val ent H' hs hu hle hGd hT hsz henv hok hents hfacts hall
      obtain ⟨acc', hk, hmem⟩ := withP_of (val := val) (List.range m) [] _ (tail H' hle hGd) (fun j hj t ht => (hfacts j (List.mem_range.1 hj) (hall j (List.mem_range.1 hj)) t ht).2)
      have hcount : l.length - m ≤ fuel := by rw [count_tail hml hall hT]; exact hu
      refine drawTail (m := m) htl hdc fuel m L a w (Nat.le_refl _) hs hcount hml ?_ ?_
      · intro j
        rcases Nat.lt_or_ge j m with h | h
        · rw [hall j h]; simp [h]
        · rw [hT j h]; simp; omega
      · have him0 : i0 < m := by simpa using hi0
        have hk2 := hk ent (by rw [if_pos (hall i0 him0)] at hents; exact hents)
        refine wpList_mono hle _ _ _ (hk2 a w ⟨hsz, ?_, hok⟩)
        intro t v hg
        simp only [List.append_nil] at hg
        rw [Env.get_append] at hg
        cases hga : Env.get acc' t with
        | none => rw [hga] at hg; exact henv t v (by simpa using hg)
        | some u =>
          rw [hga] at hg; simp at hg; subst hg
          obtain ⟨j, hj, hd, rfl⟩ := hmem t u (get_mem _ _ _ hga)
          have hj := List.mem_range.1 hj
          exact (hfacts j hj (hall j hj) t hd).1
    induction fuel with
    | zero =>
      intro L a w val ent H' hs hu hle hGd hdown hT hsz henv hok hents hfacts
      refine done 0 L a w val ent H' hs hu hle hGd hT hsz henv hok hents hfacts ?_
      intro j hj
      cases hx : lst L j with
      | true => rfl
      | false =>
        have := unl_set (L := L) (i := j) hs (by omega) hx
        omega
    | succ fuel ih =>
      intro L a w val ent H' hs hu hle hGd hdown hT hsz henv hok hents hfacts
      by_cases hall : ∀ j, j < m → lst L j = true
      · exact done (fuel + 1) L a w val ent H' hs hu hle hGd hT hsz henv hok hents hfacts hall
      · constructor
        · intro hnil
          exfalso
          apply hall
          -- the least one that is not listed is ready
          intro j hj
          induction j using Nat.strongRecOn with
          | _ j ihj =>
            cases hx : lst L j with
            | true => rfl
            | false =>
              exfalso
              obtain ⟨o, ho, _, haf, _⟩ := hpre j hj
              have : j ∈ Region.ready .any l.toArray L := by
                rw [mem_ready]
                refine ⟨?_, o, by simpa using ho, fun e he hb => ihj e.on (haf e he hb) (by have := haf e he hb; omega)⟩
                unfold lst at hx
                rw [Array.getD_eq_getD_getElem?, Array.getElem?_eq_getElem (by omega)] at hx ⊢
                simpa using hx
              rw [hnil] at this; cases this
        · intro i hi
          rw [mem_ready] at hi
          obtain ⟨h0, o, ho, hbef⟩ := hi
          have hilt : i < l.length := by simpa using (Array.getElem?_eq_some_iff.1 ho).1
          have hun : lst L i = false := by
            unfold lst
            rw [Array.getD_eq_getD_getElem?, Array.getElem?_eq_getElem (by omega)] at h0 ⊢
            simpa using h0
          have ho' : l[i]? = some o := by simpa using ho
          have him : i < m := by
            rcases Nat.lt_or_ge i m with h | h
            · exact h
            · exfalso
              apply hall
              intro j hj
              exact waits_listed hdown _ o j hbef ((htl i o h ho').1 j (by omega))
          obtain ⟨o2, ho2, hd, haf, hprd⟩ := hpre i him
          rw [ho'] at ho2; cases ho2
          have hdo : dstOf l i = o.dst := by simp [dstOf, ho']
          have hst := stepsS_at l 0 steps i o ho' (by omega)
          simp only [Nat.zero_add] at hst
          -- all that is known of the slots, as one list
          let X : Env := (List.range m).filterMap fun j => if lst L j then (dstOf l j).map fun t => (t, val j) else none
          have hpredF : ∀ j ∈ predsG o, ∀ tj, dstOf l j = some tj → factAt F j (val j) H' := fun j hj tj hdj => by
            obtain ⟨hjm, e, he, hb, hon⟩ := hprd j hj
            have hlj : lst L j = true := by have := hbef e he hb; rw [hon] at this; exact this
            exact (hfacts j hjm hlj tj hdj).2
          have hX : ∀ t v, (t, v) ∈ X → ∃ j, j < m ∧ lst L j = true ∧ dstOf l j = some t ∧ v = val j := by
            intro t v h
            obtain ⟨j, hj, hjj⟩ := List.mem_filterMap.1 h
            split at hjj
            · rename_i hlj
              cases hdj : dstOf l j with
              | none => rw [hdj] at hjj; cases hjj
              | some tj =>
                rw [hdj] at hjj
                simp only [Option.map_some, Option.some.injEq, Prod.mk.injEq] at hjj
                obtain ⟨rfl, rfl⟩ := hjj
                exact ⟨j, List.mem_range.1 hj, hlj, hdj, rfl⟩
            · cases hjj
          have hgets : ∀ acc' : Env, (∀ t v, (t, v) ∈ acc' → ∃ j ∈ predsG o, dstOf l j = some t ∧ v = val j) → ∀ t v, Env.get (acc' ++ (env ++ X)) t = some v → a.tmps.getD t undef = v := by
            intro acc' hmem t v hgv
            rw [Env.get_append, Env.get_append] at hgv
            cases hga : Env.get acc' t with
            | some u =>
              rw [hga] at hgv; simp at hgv; subst hgv
              obtain ⟨j, hj, hdj, rfl⟩ := hmem t u (get_mem _ _ _ hga)
              obtain ⟨hjm, e, he, hb, hon⟩ := hprd j hj
              have hlj : lst L j = true := by have := hbef e he hb; rw [hon] at this; exact this
              exact (hfacts j hjm hlj t hdj).1
            | none =>
              rw [hga] at hgv; simp only [Option.none_or] at hgv
              cases hge : Env.get env t with
              | some u => rw [hge] at hgv; simp at hgv; subst hgv; exact henv t u hge
              | none =>
                rw [hge] at hgv; simp only [Option.none_or] at hgv
                obtain ⟨j, hj, hlj, hdj, rfl⟩ := hX t v (get_mem _ _ _ hgv)
                exact (hfacts j hj hlj t hdj).1
          have hnextG : ∀ (acc' : Env), (∀ t v, (t, v) ∈ acc' → ∃ j ∈ predsG o, dstOf l j = some t ∧ v = val j) → ∀ (a' : Act) (w' : World) (σ' : St) (v : Value) (ent' : Nat × SObj), Rel C σ' a' w' → Le H' σ'.H → Gd σ'.H → σ'.df = df → σ'.env = putE o.dst v (acc' ++ (env ++ X)) → factAt F i v σ'.H →
              (∀ ms : List Nat, Ok C.G σ'.H (σ'.own ++ (ms.map hid ++ C.hid)) w' → Ok C.G σ'.H ((ent' :: own) ++ (ms.map hid ++ C.hid)) w') →
              (if lst (L.setIfInBounds i true) i0 = true then FO2 ent' σ'.H else FOa ent' σ'.H) →
              wpAnyIn (Fr C.r) 0 C.P .any l.toArray (lift C H Q) fuel (L.setIfInBounds i true) a' w' := by
            intro acc' hmem a' w' σ' v ent' hr' hle' hGd' hdf' henv' hfv hown' hent'
            refine ih (L.setIfInBounds i true) a' w' (fun j => if j = i then v else val j) ent' σ'.H (by simpa using hs) ?_ (hle.trans hle') hGd' ?_ ?_ hr'.size ?_ ?_ hent' ?_
            · have := unl_set hs hilt hun; omega
            · intro i' o' hi' hl' e he hb
              rw [lst_set (by omega)] at hl' ⊢
              split
              · rfl
              · split at hl'
                · rename_i e1 e2; subst e2; rw [ho'] at hi'; cases hi'; exact hbef e he hb
                · exact hdown i' o' hi' hl' e he hb
            · intro j hj
              rw [lst_set (by omega), if_neg (by omega)]
              exact hT j hj
            · intro t' v' hg'
              refine hr'.get t' v' ?_
              have hin : t' ∈ env.map Prod.fst := List.mem_map.2 ⟨(t', v'), get_mem _ _ _ hg', rfl⟩
              rw [henv', get_putE_ne (fun e => (hd t' e).1 hin), Env.get_append, Env.get_append]
              have : Env.get acc' t' = none := by
                cases hga : Env.get acc' t' with
                | none => rfl
                | some u =>
                  obtain ⟨j, hj, hdj, _⟩ := hmem t' u (get_mem _ _ _ hga)
                  exact absurd hin (hkey j t' (hprd j hj).1 hdj)
              rw [this, hg']; rfl
            · obtain ⟨ms, hd', hok'⟩ := hr'.ok
              exact ⟨ms, by rw [hd', hdf'], hown' ms hok'⟩
            · intro j hj hlj tj htj
              rw [lst_set (by omega)] at hlj
              by_cases hji : j = i
              · subst hji
                rw [hdo] at htj
                simp only [if_true]
                refine ⟨hr'.get tj v ?_, hfv⟩
                rw [henv', htj]; simp [putE, Env.get]
              · rw [if_neg hji] at hlj
                obtain ⟨h1, h2⟩ := hfacts j hj hlj tj htj
                simp only [if_neg hji]
                refine ⟨hr'.get tj (val j) ?_, factAt_mono hmono hle' h2⟩
                rw [henv', get_putE_ne (fun e => hji (hdis j i tj hj him htj (by rw [hdo, e]))), Env.get_append, Env.get_append]
                have hacc : Env.get acc' tj = none ∨ Env.get acc' tj = some (val j) := by
                  cases hga : Env.get acc' tj with
                  | none => exact .inl rfl
                  | some u =>
                    obtain ⟨j', hj', hdj', rfl⟩ := hmem tj u (get_mem _ _ _ hga)
                    obtain rfl := hdis j' j tj (hprd j' hj').1 hj hdj' htj
                    exact .inr rfl
                rcases hacc with hacc | hacc
                · rw [hacc]
                  have henvn : Env.get env tj = none := by
                    cases hge : Env.get env tj with
                    | none => rfl
                    | some u => exact absurd (List.mem_map.2 ⟨(tj, u), get_mem _ _ _ hge, rfl⟩) (hkey j tj hj htj)
                  rw [henvn]
                  simp only [Option.none_or]
                  -- it stands in X, once
                  refine get_uniq X (List.mem_filterMap.2 ⟨j, List.mem_range.2 hj, by simp only [hlj, if_true, htj, Option.map_some]⟩) ?_
                  intro u hu'
                  obtain ⟨j', hj', _, hdj', rfl⟩ := hX tj u hu'
                  obtain rfl := hdis j' j tj hj' hj hdj' htj
                  rfl
                · rw [hacc]; rfl
          have hcase : ∀ (acc' : Env) (own2 : Own) (Q2 : Exit → St → Prop), (∀ e σ, e ≠ .normal → ¬ Q2 e σ) → XO C l.toArray Q2 [o] ⟨acc' ++ (env ++ X), df, H', own2⟩ → Rel C ⟨acc' ++ (env ++ X), df, H', own2⟩ a w →
              (∀ a' w', lift C H' Q2 .normal a' w' → wpAnyIn (Fr C.r) 0 C.P .any l.toArray (lift C H Q) fuel (L.setIfInBounds i true) a' w') → wpOpIn (Fr C.r) 0 C.P l.toArray (lift C H Q) i (fun a' w' => wpAnyIn (Fr C.r) 0 C.P .any l.toArray (lift C H Q) fuel (L.setIfInBounds i true) a' w') a w := by
            intro acc' own2 Q2 hno hk hrel hnext
            have hrun := hk a w hrel
            unfold wpOpIn
            rw [ho]
            simp only [wpListIn] at hrun ⊢
            split
            · rename_i hw
              rw [if_pos hw] at hrun
              refine wpInOper_mono hnext ?_ hrun
              rintro e a' w' he ⟨σ', _, _, hq⟩
              exact absurd hq (hno e σ' he)
            · rename_i hw
              rw [if_neg hw] at hrun
              exact ⟨hrun.1, hnext _ _ hrun.2⟩
          obtain ⟨acc', hk, hmem⟩ := withP_of (val := val) (predsG o) [] _ (hst X ent H' hle hGd (fun e => by
            have hno : lst L i0 = false := by
              rcases e with e | e
              · rw [e] at hun; exact hun
              · cases hx : lst L i0 with
                | false => rfl
                | true =>
                  unfold befI at e
                  split at e
                  · rename_i o0 ho0
                    rw [List.any_eq_true] at e
                    obtain ⟨ed, hed, h1⟩ := e
                    simp only [Bool.and_eq_true] at h1
                    have := hdown i0 o0 ho0 hx ed (by simpa using hed) h1.1
                    rw [Nat.eq_of_beq_eq_true h1.2, hun] at this; cases this
                  · cases e
            rw [hno, if_neg (by simp)] at hents
            exact hents)) hpredF
          simp only [List.append_nil] at hk
          refine hcase acc' _ _ (fun e σ he => by cases e <;> first | exact absurd rfl he | exact fun h => h) hk ⟨hsz, hgets acc' hmem, hok⟩ ?_
          rintro a' w' ⟨σ', hr', hle', hGd', hdf', v, e2, henv', hfv, hown', hfo⟩
          refine hnextG acc' hmem a' w' σ' v e2 hr' hle' hGd' hdf' henv' hfv ?_ ?_
          · intro ms hok'
            rw [hown'] at hok'
            exact hok'
          · unfold foS at hfo
            by_cases hii : i = i0
            · rw [if_pos hii] at hfo
              rw [lst_set (by omega), if_pos hii.symm, if_pos rfl]
              exact hfo
            · rw [if_neg hii] at hfo
              subst hfo
              have hne : ¬ i0 = i := fun e => hii e.symm
              have hls : lst (L.setIfInBounds i true) i0 = lst L i0 := by rw [lst_set (by omega), if_neg hne]
              rw [hls]
              split
              · rename_i h5; rw [if_pos h5] at hents; exact hFO2 _ _ _ hle' hents
              · rename_i h5; rw [if_neg h5] at hents; exact hFOa _ _ _ hle' hents
  have hlst0 : ∀ j, lst (Array.replicate l.toArray.size false) j = false := fun j => by simp [lst, Array.getD_eq_getD_getElem?, Array.getElem?_replicate]; split <;> rfl
  exact main l.toArray.size (Array.replicate l.toArray.size false) a₀ _ (fun _ => undef) q H (by simp) (by
      refine Nat.le_trans (List.countP_le_length) (by simp)) (Le.refl _) hG (fun i o _ hl => by
      have : lst (Array.replicate l.toArray.size false) i = false := by simp [lst, Array.getD_eq_getD_getElem?, Array.getElem?_replicate]; split <;> rfl
      rw [this] at hl; cases hl) (fun j _ => by simp [lst, Array.getD_eq_getD_getElem?, Array.getElem?_replicate]; split <;> rfl) hr₀.size hr₀.get
    (let ⟨ms, hd, hok⟩ := hr₀.ok; ⟨ms, hd, hok.drew⟩) (by rw [hlst0, if_neg (by simp)]; exact hq0) (fun i _ h => by
      have : lst (Array.replicate l.toArray.size false) i = false := by simp [lst, Array.getD_eq_getD_getElem?, Array.getElem?_replicate]; split <;> rfl
      rw [this] at h; cases h)
end
end Go.XL

/- Tables whose rows are the call's own: a slice of slices, each of them still to be written. No statement of the program stands here. -/
set_option autoImplicit false
set_option linter.unusedSimpArgs false
set_option linter.unusedVariables false
namespace Go.XL
abbrev Raw := Option Addr × Nat × Nat
/-- a slice as such, whatever lies behind it -/
def rawR : Rep Raw where
 sz := 1
 R := fun _ cs r => cs = [.slice r.1 r.2.1 r.2.2]
 len := fun h => by subst h; rfl
 one := fun h => by subst h; rfl
 mono := fun _ h => h
structure RowO (α : Type) where
 p : Nat × SObj
 a : Option Addr
 c : Nat
 l : List α
def RowO.raw {α : Type} (r : RowO α) : Raw := (r.a, r.l.length, r.c)
def RowsO {α : Type} (ρ : Rep α) (T : TypeId) (H : Hp) (rs : List (RowO α)) : Prop := ∀ r ∈ rs, Acc ρ T H r.p r.a r.c r.l
section
variable {α : Type} {ρ : Rep α} {T : TypeId} {H H' : Hp} {rs : List (RowO α)}
theorem RowsO.mono (h : RowsO ρ T H rs) (hle : Le H H') : RowsO ρ T H' rs := fun r hr => (h r hr).mono hle
theorem RowsO.nil : RowsO ρ T H [] := fun r hr => by cases hr
theorem RowsO.set (h : RowsO ρ T H rs) (i : Nat) {r : RowO α} (hr : Acc ρ T H r.p r.a r.c r.l) : RowsO ρ T H (rs.set i r) := by
 intro q hq
 rcases List.mem_or_eq_of_mem_set hq with hq | hq
 ·exact h q hq
 ·subst hq; exact hr
end
section
variable {C : Ctx} {ops : Array Oper} {Q : Exit → St → Prop} {rest : List Oper} {env : Env} {df : List Deferred} {H : Hp} {rst : Own} {α : Type} {ρ : Rep α} {T T2 : TypeId} {rs : List (RowO α)} {px : Nat × SObj} {ax : Option Addr} {cx : Nat}
end
end Go.XL

/- A slice of slices, seen as a slice of bare slices, and back. No statement of the program stands here. -/
set_option autoImplicit false
set_option linter.unusedSimpArgs false
set_option linter.unusedVariables false
namespace Go.XL
section
variable {α : Type} {ρ : Rep α} {T : TypeId} {H : Hp} {p : Nat × SObj} {a : Option Addr} {c : Nat}
def RawOf (ρ : Rep α) (H : Hp) (rs : List Raw) (l : List (List α)) : Prop := rs.length = l.length ∧ ∀ (i : Nat) (r : Raw) (x : List α), rs[i]? = some r → l[i]? = some x → r.2.1 = x.length ∧ SlR ρ H r.1 r.2.2 x
theorem RawOf.mono {H' : Hp} {rs : List Raw} {l : List (List α)} (h : RawOf ρ H rs l) (hle : Le H H') : RawOf ρ H' rs l := ⟨h.1, fun i r x h1 h2 => let ⟨a, b⟩ := h.2 i r x h1 h2; ⟨a, b.mono hle⟩⟩
end
end Go.XL

/- Drawn regions in which one block is changed by several operations, one after the other. No statement of the program stands here. -/
set_option autoImplicit false
set_option linter.unusedSimpArgs false
set_option linter.unusedVariables false
namespace Go.XL
/-- the operations that change the block, each of them bound to run behind the one before it -/
def chainB (l : List Oper) (m : Nat) : List Nat → Bool
 | [] => true
 | [a] => Nat.blt a m
 | a :: b :: r => Nat.blt a m && befI l b a && chainB l m (b :: r)
def rankQ : List Nat → Nat → Option Nat
 | [], _ => none
 | a :: r, k => bif Nat.beq a k then some 0 else match rankQ r k with | some j => some (j + 1) | none => none
def lastV (mods : List Nat) (val : Nat → Value) : Nat → Value
 | 0 => undef
 | j + 1 => val (mods.getD j 0)
def entJ (mods : List Nat) (L : Nat → Bool) (j : Nat) : Prop := (∀ q, q < j → L (mods.getD q 0) = true) ∧ (∀ q, j ≤ q → q < mods.length → L (mods.getD q 0) = false)
def entQ (mods : List Nat) (FO : Nat → Value → Nat × SObj → Hp → Prop) (L : Nat → Bool) (val : Nat → Value) (e : Nat × SObj) (H : Hp) : Prop :=
 ∃ j, j ≤ mods.length ∧ (∀ q, q < j → L (mods.getD q 0) = true) ∧ (∀ q, j ≤ q → q < mods.length → L (mods.getD q 0) = false) ∧ FO j (lastV mods val j) e H
def factQ (l : List Oper) (mods : List Nat) (FO : Nat → Value → Nat × SObj → Hp → Prop) (k : Nat) (acc : Env) (e : Nat × SObj) (H : Hp) : Prop :=
 match rankQ mods k with
 | none => True
 | some 0 => FO 0 undef e H
 | some (j + 1) => ∀ t v, dstOf l (mods.getD j 0) = some t → Env.get acc t = some v → FO (j + 1) v e H
def foQ (mods : List Nat) (k : Nat) (FO : Nat → Value → Nat × SObj → Hp → Prop) (e0 : Nat × SObj) : Value → Nat × SObj → Hp → Prop := fun v e H =>
 match rankQ mods k with
 | none => e = e0
 | some j => FO (j + 1) v e H
def lastQ (l : List Oper) (mods : List Nat) (FO : Nat → Value → Nat × SObj → Hp → Prop) (acc : Env) (e : Nat × SObj) (H : Hp) : Prop :=
 match mods.length with
 | 0 => FO 0 undef e H
 | n + 1 => ∀ t v, dstOf l (mods.getD n 0) = some t → Env.get acc t = some v → FO (n + 1) v e H
def stepsQ (Gd : Hp → Prop) (mods : List Nat) (FO : Nat → Value → Nat × SObj → Hp → Prop) (C : Ctx) (l : List Oper) (F : List (Value → Hp → Prop)) (env : Env) (df : List Deferred) (H : Hp) (own : Own) (m : Nat) : Nat → List Oper → Prop
  | _, [] => True
  | k, o :: rest => bif Nat.blt k m then
      (∀ X e H', Le H H' → Gd H' → withP l F H' (predsG o) [] fun acc => factQ l mods FO k acc e H' → XO C l.toArray (stepQV Gd o.dst (factAt F k) (foQ mods k FO e) (acc ++ (env ++ X)) df own) [o] ⟨acc ++ (env ++ X), df, H', e :: own⟩) ∧ stepsQ Gd mods FO C l F env df H own m (k + 1) rest
    else True
section
variable {C : Ctx} {Q : Exit → St → Prop} {env : Env} {df : List Deferred} {H : Hp} {own : Own}
end
end Go.XL

/- Strings: their length, and their bytes appended to a slice. No statement of the program stands here. -/
set_option autoImplicit false
set_option linter.unusedSimpArgs false
set_option linter.unusedVariables false
namespace Go.XL
section
variable {C : Ctx} {ops : Array Oper} {Q : Exit → St → Prop} {rest : List Oper} {env : Env} {df : List Deferred} {H : Hp} {own : Own} {dst : Option Tmp} {ty : TypeId} {pos : String} {af : Array Edge}
end
end Go.XL

/- Drawn regions in which one block is changed by several operations, and an operation may panic. No statement of the program stands here. -/
set_option autoImplicit false
set_option linter.unusedSimpArgs false
set_option linter.unusedVariables false
namespace Go.XL
def stepQP (Pn : List PanicEntry → St → Prop) (Gd : Hp → Prop) (dst : Option Tmp) (f : Value → Hp → Prop) (fo : Value → Nat × SObj → Hp → Prop) (env : Env) (df : List Deferred) (own : Own) : Exit → St → Prop
 | .normal, σ => Gd σ.H ∧ σ.df = df ∧ ∃ v e, σ.env = putE dst v env ∧ f v σ.H ∧ σ.own = e :: own ∧ fo v e σ.H
 | .panic ch, σ => Pn ch σ
 | _, _ => False
def stepsP (Pn : List PanicEntry → St → Prop) (Gd : Hp → Prop) (mods : List Nat) (FO : Nat → Value → Nat × SObj → Hp → Prop) (C : Ctx) (l : List Oper) (F : List (Value → Hp → Prop)) (env : Env) (df : List Deferred) (H : Hp) (own : Own) (m : Nat) : Nat → List Oper → Prop
  | _, [] => True
  | k, o :: rest => bif Nat.blt k m then
      (∀ X e H', Le H H' → Gd H' → withP l F H' (predsG o) [] fun acc => factQ l mods FO k acc e H' → XO C l.toArray (stepQP Pn Gd o.dst (factAt F k) (foQ mods k FO e) (acc ++ (env ++ X)) df own) [o] ⟨acc ++ (env ++ X), df, H', e :: own⟩) ∧ stepsP Pn Gd mods FO C l F env df H own m (k + 1) rest
    else True
section
variable {C : Ctx} {Q : Exit → St → Prop} {env : Env} {df : List Deferred} {H : Hp} {own : Own}
end
end Go.XL

/- Deferred closures that change two result cells. No statement of the program stands here. -/
set_option autoImplicit false
set_option linter.unusedSimpArgs false
set_option linter.unusedVariables false
namespace Go.XL
section
variable {C : Ctx} {ops : Array Oper} {Q : Exit → St → Prop} {rest : List Oper} {env : Env} {df : List Deferred} {H : Hp} {own : Own} {dst : Option Tmp} {ty : TypeId} {pos : String} {af : Array Edge}
end
end Go.XL

/- A string turned into a slice of bytes. No statement of the program stands here. -/
set_option autoImplicit false
set_option linter.unusedSimpArgs false
set_option linter.unusedVariables false
namespace Go.XL
section
variable {C : Ctx} {ops : Array Oper} {Q : Exit → St → Prop} {rest : List Oper} {env : Env} {df : List Deferred} {H : Hp} {own : Own} {dst : Option Tmp} {ty : TypeId} {pos : String} {af : Array Edge}
end
end Go.XL

/- Values of a type that holds itself, opened: by how deep the reading goes. No statement of the program stands here. -/
set_option autoImplicit false
set_option linter.unusedSimpArgs false
set_option linter.unusedVariables false
namespace Go.XL
/-- as Opens, for readings no deeper than N -/
def OpensN (N : Nat) (P : Program) (t : TypeId) {α : Type} (ρ : Rep α) (wf : α → Prop) : Prop := ∀ {H : Type} (enc : TypeId × Value → H) (w : World) (base : Nat) (spare : Nat → Bool) (held : Bool) (fuel : Nat) (cs : List Value) (x : DataW H × List MemPlace),
 fuel ≤ N → DataW.trod enc P w base spare held fuel t cs = some x → ∃ u, ρ.R (hpOf w) cs u ∧ wf u
theorem OpensN.slice {N : Nat} {P : Program} {t e : TypeId} {α : Type} {ρ : Rep α} {wf : α → Prop} (ht : P.underlying t = some (.slice e)) (hsz : P.cellsOf e = ρ.sz) (hpos : 0 < ρ.sz) (ho : OpensN N P e ρ wf) :
  OpensN (N + 1) P t (slR ρ) (fun l => l.length ≤ maxLen ∧ ∀ u ∈ l, wf u) := by
 intro H enc w base spare held fuel cs x hN h
 rcases DataW.trod_slice ht h with ⟨rfl, _⟩ | ⟨a, len, cap, elems, rest, n, hn, rfl, _, _, hl, hm, hlen, hel, _, _⟩
 ·exact ⟨[], ⟨none, 0, rfl, SlR.nil0 _ _⟩, Nat.zero_le _, by simp⟩
 ·obtain ⟨l, h1, h2⟩ := list_choose (Q := fun i (u : α) => ∃ cs, w.cells? base (a.add (i * ρ.sz)) ρ.sz = some cs ∧ ρ.R (hpOf w) cs u ∧ wf u) len (fun i hi => by
   have h3 := hel i hi
   rw [List.getElem?_eq_getElem (by omega), hsz, Option.bind_eq_some_iff] at h3
   obtain ⟨cs, h4, h5⟩ := h3; obtain ⟨u, h6, h7⟩ := ho enc w base spare held n cs _ (by omega) h5
   exact ⟨u, cs, h4, h6, h7⟩)
  refine ⟨l, ⟨some a, cap, by rw [h1], by omega, by simp, fun i u hu => ?_⟩, by omega, fun u hu => ?_⟩
  ·obtain ⟨cs, h3, h4, h5⟩ := h2 i u hu
   have hi : i < l.length := (List.getElem?_eq_some_iff.1 hu).1
   obtain ⟨cs0, h30, h40, _⟩ := h2 0 l[0] (by rw [List.getElem?_eq_getElem]); obtain ⟨hk1, hk2⟩ := cells?_get h30
   have hsp : a.spot = none := by
    have := hk2 0 cs0[0] (List.getElem?_eq_getElem (by omega))
    simp [Addr.add] at this
    exact World.cell?_spot this
   obtain ⟨b, o, sp⟩ := a
   simp only at hsp; subst hsp
   refine ⟨b, o, cs, rfl, ?_, h4⟩; obtain ⟨hc1, hc2⟩ := cells?_get h3
   have hadd : ∀ j k : Nat, ((⟨b, o, none⟩ : Addr).add j).add k = ⟨b, o + j + k, none⟩ := fun j k => by
    unfold Addr.add; (repeat' split) <;> simp_all
   have hblk : ∃ c T fz, w.heap[b]? = some (.cells c T fz) := by
    have := hc2 0 cs[0] (List.getElem?_eq_getElem (by omega))
    rw [hadd] at this
    unfold World.cell? at this
    split at this
    ·rename_i c T fz hh; exact ⟨c, T, fz, hh⟩
    ·cases this
   obtain ⟨c, T, fz, hh⟩ := hblk; refine ⟨c, T, fz, hh, fun j v hj => ?_⟩
   have := hc2 j v hj
   rw [hadd] at this
   unfold World.cell? at this
   simpa [hh] using this
  ·obtain ⟨i, hi, rfl⟩ := List.getElem_of_mem hu; obtain ⟨_, _, _, h5⟩ := h2 i _ (List.getElem?_eq_getElem hi)
   exact h5
end Go.XL

/- Drawn regions whose later operations may come in several orders: each order is walked. No statement of the program stands here. -/
set_option autoImplicit false
set_option linter.unusedSimpArgs false
set_option linter.unusedVariables false
namespace Go.XL
def maskA (m n : Nat) : Array Bool := (List.replicate m true ++ List.replicate (n - m) false).toArray
/-- What remains of a drawn region, in whatever order. -/
def XAny (C : Ctx) (l : List Oper) (Q : Exit → St → Prop) (L : Array Bool) (σ : St) : Prop :=
 ∀ H0, Le H0 σ.H → ∀ fuel a w, unl l.length L ≤ fuel → Rel C σ a w → wpAnyIn (Fr C.r) 0 C.P .any l.toArray (lift C H0 Q) fuel L a w
def anyQ (C : Ctx) (l : List Oper) (Q : Exit → St → Prop) (L : Array Bool) : Exit → St → Prop
 | .normal, σ => XAny C l Q L σ
 | e, σ => Q e σ
section
variable {C : Ctx} {l : List Oper} {Q : Exit → St → Prop} {L : Array Bool} {σ : St}
theorem XAny.done (hr : Region.ready .any l.toArray L = []) (h : Q .normal σ) : XAny C l Q L σ := fun H0 hle fuel a w _ hrel =>
 wpAnyIn_done hr ⟨σ, hrel, hle, h⟩ fuel
theorem XAny.step {rs : List Nat} (hr : Region.ready .any l.toArray L = rs) (hne : rs ≠ []) (hs : Nat.beq L.size l.length = true)
    (h : ∀ i ∈ rs, ∀ o, l[i]? = some o → XO C l.toArray (anyQ C l Q (L.setIfInBounds i true)) [o] σ) : XAny C l Q L σ := by
  intro H0 hle fuel a w hu hrel
  have hs := Nat.eq_of_beq_eq_true hs
  obtain ⟨i0, hi0⟩ := List.exists_mem_of_ne_nil rs hne
  have hlist : ∀ i, i ∈ rs → i < l.length ∧ lst L i = false := by
    intro i hi
    rw [← hr, mem_ready] at hi
    obtain ⟨h0, o, ho, _⟩ := hi
    have hlt : i < l.length := by simpa using (Array.getElem?_eq_some_iff.1 ho).1
    refine ⟨hlt, ?_⟩
    unfold lst
    rw [Array.getD_eq_getD_getElem?, Array.getElem?_eq_getElem (by omega)] at h0 ⊢
    simpa using h0
  cases fuel with
  | zero =>
    have := unl_set (L := L) (i := i0) hs (hlist i0 hi0).1 (hlist i0 hi0).2
    omega
  | succ fuel =>
    refine wpAnyIn_all hr hne ?_
    intro i hi
    obtain ⟨hlt, hun⟩ := hlist i hi
    have hk : l[i]? = some l[i] := List.getElem?_eq_getElem hlt
    have hrun := h i hi _ hk a w hrel
    simp only [wpListIn] at hrun
    have hnext : ∀ a w, wpListIn (Fr C.r) 0 C.P l.toArray (lift C σ.H (anyQ C l Q (L.setIfInBounds i true))) [] a w → wpAnyIn (Fr C.r) 0 C.P .any l.toArray (lift C H0 Q) fuel (L.setIfInBounds i true) a w := by
      rintro a w ⟨τ, hr', hle', hq⟩
      refine hq H0 (hle.trans hle') fuel a w ?_ hr'
      have := unl_set hs hlt hun; omega
    have hex : ∀ e a w, e ≠ Exit.normal → lift C σ.H (anyQ C l Q (L.setIfInBounds i true)) e a w → lift C H0 Q e a w := by
      intro e a w hne hl
      refine lift_mono hl hle fun τ _ hq => ?_
      cases e with
      | normal => exact absurd rfl hne
      | _ => exact hq
    unfold wpOpIn
    rw [List.getElem?_toArray, hk]
    simp only
    split
    · rename_i hw; rw [if_pos hw] at hrun; exact wpInOper_mono hnext hex hrun
    · rename_i hw; rw [if_neg hw] at hrun; exact ⟨hrun.1, hnext _ _ hrun.2⟩
theorem XAny.one {i : Nat} {o : Oper} (hr : Region.ready .any l.toArray L = [i]) (hs : Nat.beq L.size l.length = true) (ho : l[i]? = some o) (h : XO C l.toArray (anyQ C l Q (L.setIfInBounds i true)) [o] σ) : XAny C l Q L σ :=
 XAny.step hr (by simp) hs fun j hj o' ho' => by
  obtain rfl : j = i := by simpa using hj
  rw [ho] at ho'; cases ho'; exact h
theorem XAny.two {i k : Nat} {o o2 : Oper} (hr : Region.ready .any l.toArray L = [i, k]) (hs : Nat.beq L.size l.length = true) (ho : l[i]? = some o) (ho2 : l[k]? = some o2)
  (h : XO C l.toArray (anyQ C l Q (L.setIfInBounds i true)) [o] σ) (h2 : XO C l.toArray (anyQ C l Q (L.setIfInBounds k true)) [o2] σ) : XAny C l Q L σ :=
 XAny.step hr (by simp) hs fun j hj o' ho' => by
  simp only [List.mem_cons, List.not_mem_nil, or_false] at hj
  rcases hj with rfl | rfl
  ·rw [ho] at ho'; cases ho'; exact h
  ·rw [ho2] at ho'; cases ho'; exact h2
end
/-- as drawOkH, but the later operations need only wait for the first m -/
def drawOkA (m : Nat) (l : List Oper) (keys : List Nat) : Bool :=
  Nat.ble m l.length && (List.range m).all (fun i => match l[i]? with
    | some o => notDefer o.op && (match o.dst with
      | some t => !keys.contains t && (List.range m).all (fun j => Nat.beq i j || !(dstOf l j == some t))
      | none => true) && (o.after.toList.all fun e => !Region.binds .any e || Nat.blt e.on i) && (predsG o).all (fun j => Nat.blt j m && o.after.toList.any fun e => Region.binds .any e && Nat.beq e.on j)
    | none => false) &&
  (List.range l.length).all (fun i => Nat.blt i m || match l[i]? with
    | some o => (List.range m).all (fun j => waitsB l l.length o j) && (o.after.toList.all fun e => !Region.binds .any e || Nat.blt e.on i)
    | none => false)
section
variable {C : Ctx} {Q : Exit → St → Prop} {env : Env} {df : List Deferred} {H : Hp} {own : Own}
end
end Go.XL

/- Loops over functions that keep their yield in a variable. No statement of the program stands here. -/
set_option autoImplicit false
set_option linter.unusedSimpArgs false
set_option linter.unusedVariables false
set_option linter.unnecessarySimpa false
namespace Go.XL
/-- As SeqL, for whatever function stands in for yield. -/
def SeqF {α β : Type} (P : Program) (f : FuncId) (cap : List Value) (H : Hp) (ownI : Own) (enc : α → β → List Value) (lend : α → β → Hp → Own → Prop) (xs : List α) : Prop :=
 ∀ (g : Fn) (J : JS α) (K : Hp → Own → Prop) (ownY : Own), YOk P (.func g #[] #[]) H enc lend xs J K → J.Holds [] H ownY →
  FnC P f ((.func g #[] #[] :: cap).toArray) H (ownI ++ ownY) (RetR fun v H' own' => v = .tuple #[] ∧ ∃ ownI' ownY', own' = ownI' ++ ownY' ∧ (J.Holds xs H' ownY' ∨ K H' ownY'))
section
variable {C : Ctx} {Q : Exit → St → Prop} {env : Env} {df : List Deferred} {H : Hp} {own : Own}
theorem XC.rangeFuncF {α β : Type} {g : Operand} {ps : List Tmp} {assign body : Code} {f : FuncId} {cap : List Value} {enc : α → β → List Value} {lend : α → β → Hp → Own → Prop} {xs : List α} {ownI own2 : Own}
    (hg : ev env g = some (.func (.func f) #[] cap.toArray)) (hseq : SeqF C.P f cap H ownI enc lend xs) (hps : ∀ x b, (enc x b).length = ps.length) (hpN : (ps.all fun p => Nat.blt p C.N) = true)
    (ho : own = ownI ++ own2) (I : List α → Hp → Own → Prop) (Kx : Code → Hp → Own → Prop) (hI : ∀ p H H' o, Le H H' → I p H o → I p H' o) (h0 : I [] H own2)
    (hround : C.r = none ∨ ∃ l0 r0, C.r = some l0 ∧ (l0, SObj.obj (.loop r0)) ∈ C.hid)
    (hbody : ∀ G l hd1 hd2, (∃ r0, (l, SObj.obj (.loop r0)) ∈ hd2) → ∀ pre x post, xs = pre ++ x :: post → ∀ bx H' ol own', Le H H' → I pre H' own' → lend x bx H' ol →
      XC ⟨C.P, G, C.N, some l, hd1⟩ assign (assignQ ⟨C.P, G, C.N, some l, hd2⟩ body (roundQ l (fun p H2 o => ∃ o3, o = ol ++ o3 ∧ I p H2 o3) Kx (pre ++ [x]))) ⟨bindP ps (enc x bx) env, [], H', ol ++ own'⟩)
    (hdone : ∀ H' own', Le H H' → I xs H' own' → Q .normal ⟨env, df, H', own'⟩)
    (hjump : ∀ c H' own', Le H H' → Kx c H' own' → XC C c Q ⟨env, df, H', own'⟩) : XC C (.rangeFunc g ps.toArray assign body) Q ⟨env, df, H, own⟩ := by
  intro a w hr
  refine wpIn_rangeFunc ?_
  intro fn hfn
  subst ho
  obtain ⟨l, mk, w₁, D, ms', hrun, hdf, hok₁⟩ := enter_loop (fn := fn) (ps := ps.toArray) («as» := assign) (bd := body) hr hround
  have hga := hr.eval hg
  let rec0 : Loop := { state := .ready, pending := none, fn, tmps := a.tmps, params := ps.toArray, assign := assign, body := body, defers := D }
  let yv : Value := .func (.yield l) #[] #[]
  let J : JS α := ⟨fun pre H' ownY => ∃ own2', ownY = (l, .obj (.loop rec0)) :: own2' ∧ I pre H' own2', fun p H1 H2 o hle ⟨o2, e, h⟩ => ⟨o2, e, hI p H1 H2 o2 hle h⟩⟩
  let K : Hp → Own → Prop := fun H' ownY => ∃ own2' c, ownY = (l, .obj (.loop { rec0 with state := .done, pending := some c })) :: own2' ∧ Kx c H' own2'
  have hcall := hseq (.yield l) J K ((l, .obj (.loop rec0)) :: own2) (by
    rintro pre x post hxs bx H' ol ownY hle ⟨own2', rfl, hI⟩ hlend
    intro G rst w hok
    have hok' : Ok G H' ((l, .obj (.loop rec0)) :: ((ol ++ own2') ++ rst)) w := hok.perm (by
      simp only [List.append_assoc, List.cons_append]; exact List.perm_middle.symm)
    have hl := hok'.objAt
    refine ⟨{ target := .fn (.yield l) #[], args := #[] ++ (enc x bx).toArray }, .round l fn ((ps.toArray.zip (enc x bx).toArray).foldl (fun tmps (t, a) => tmps.setIfInBounds t a) a.tmps) assign body, w, rfl, ?_, ?_⟩
    · have := run_yield (P := C.P) (args := (enc x bx).toArray) hl (by simp [rec0, hps])
      show (Instr.yield l (#[] ++ (enc x bx).toArray)).run C.P w = _
      rw [Array.empty_append]
      exact this
    · refine roundIn_of_wpIn trivial ?_
      have hfold : ((ps.toArray.zip (enc x bx).toArray).foldl (fun tmps (t, a) => tmps.setIfInBounds t a) a.tmps) = ((ps.zip (enc x bx)).foldl (fun (tmps : Array Value) (x : Tmp × Value) => tmps.setIfInBounds x.1 x.2) a.tmps) := by
        rw [← Array.foldl_toList]; simp
      rw [hfold]
      obtain ⟨hsz, hget⟩ := bind_get ps (enc x bx) env a.tmps (by simp [hps]) (fun p hp => by
        have := List.all_eq_true.1 hpN p hp
        rw [hr.size]; simpa using this) hr.get
      have hX := hbody G l ((l, .obj (.loop rec0)) :: rst) ((l, .obj (.loop { rec0 with state := .busy })) :: rst) ⟨_, List.mem_cons_self⟩ pre x post hxs bx H' ol own2' hle hI hlend
      have hrel : Rel ⟨C.P, G, C.N, some l, (l, .obj (.loop rec0)) :: rst⟩ ⟨bindP ps (enc x bx) env, [], H', ol ++ own2'⟩ { tmps := ((ps.zip (enc x bx)).foldl (fun (tmps : Array Value) (x : Tmp × Value) => tmps.setIfInBounds x.1 x.2) a.tmps), defers := [] } w :=
        ⟨by rw [← hr.size]; exact hsz, hget, [], rfl, hok'.perm (by simp only [List.map_nil, List.nil_append]; exact List.perm_middle)⟩
      refine Go.wpIn_mono (hX _ _ hrel) ?_
      rintro e a₁ w₁ ⟨σ, hr₁, hle₁, hq⟩
      cases e with
      | normal =>
        obtain ⟨ms₁, hd₁, hok₁⟩ := hr₁.ok
        have hok₂ : Ok G σ.H ((l, .obj (.loop rec0)) :: (σ.own ++ (ms₁.map hid ++ rst))) w₁ := hok₁.perm (by
          rw [← List.append_assoc, ← List.append_assoc]; exact List.perm_middle.symm)
        have hbeg := run_beginRound (P := C.P) hok₂.objAt rfl
        refine ⟨_, hbeg, ?_⟩
        have hok₃ := hok₂.putObj (o' := .loop { rec0 with state := .busy })
        have hrel₂ : Rel ⟨C.P, G, C.N, some l, (l, .obj (.loop { rec0 with state := .busy })) :: rst⟩ σ a₁ (w₁.putObj l (.loop { rec0 with state := .busy })) :=
          ⟨hr₁.size, hr₁.get, ms₁, hd₁, hok₃.perm (by rw [← List.append_assoc, ← List.append_assoc]; exact List.perm_middle)⟩
        refine Go.wpIn_mono (hq _ _ hrel₂) ?_
        rintro e a₂ w₂ ⟨τ, hr₂, hle₂, hq₂⟩
        obtain ⟨ms₂, hd₂, hok₄⟩ := hr₂.ok
        have hok₅ : Ok G τ.H ((l, .obj (.loop { rec0 with state := .busy })) :: (τ.own ++ (ms₂.map hid ++ rst))) w₂ := hok₄.perm (by
          rw [← List.append_assoc, ← List.append_assoc]; exact List.perm_middle.symm)
        have hend := fun j => run_endRound (P := C.P) j hok₅.objAt
        have leave : ∀ (c : Code), (∃ o, o.Sublist τ.own ∧ Kx c τ.H o) → ∃ v w', (Instr.endRound l (some c)).run C.P w₂ = .ok v w' ∧ (Ending.returned v ≠ .outgrown ∧ ∃ H'' own'', Le H' H'' ∧ Ok G H'' (own'' ++ rst) w' ∧ RetR (fun v H'' own'' => (v = .bool true ∧ ∃ own3, own'' = ol ++ own3 ∧ J.Holds (pre ++ [x]) H'' own3) ∨ (v = .bool false ∧ K H'' own'')) (.returned v) H'' own'') := by
          rintro c ⟨o, hs, hk⟩
          refine ⟨_, _, hend (some c), by simp, τ.H, (l, .obj (.loop { rec0 with state := .done, pending := some c })) :: o, hle₁.trans hle₂, ?_, .inr ⟨rfl, o, c, rfl, hk⟩⟩
          refine (hok₅.putObj (o' := .loop { rec0 with state := .done, pending := some c })).shrink (Le.refl _) ?_
          exact List.Sublist.cons_cons _ (hs.append (List.sublist_append_right _ _))
        cases e with
        | normal =>
          obtain ⟨_, o, hs, o3, rfl, hI'⟩ := hq₂
          refine ⟨_, _, hend none, by simp, τ.H, ol ++ (l, .obj (.loop rec0)) :: o3, hle₁.trans hle₂, ?_, .inl ⟨rfl, _, rfl, o3, rfl, hI'⟩⟩
          have hk := (hok₅.putObj (o' := .loop rec0)).shrink (Le.refl _) (List.Sublist.cons_cons _ (hs.append (List.sublist_append_right _ _)) : ((l, SObj.obj (.loop rec0)) :: ((ol ++ o3) ++ rst)).Sublist _)
          refine hk.perm ?_
          simp only [List.append_assoc, List.cons_append]; exact List.perm_middle
        | exit id => exact leave _ hq₂.2
        | goto t => exact leave _ hq₂.2
        | ret => exact leave _ hq₂.2
        | panic ch => exact hq₂.elim
        | outgrown => exact hq₂.elim
      | exit id => exact hq.elim
      | goto t => exact hq.elim
      | ret => exact hq.elim
      | panic ch => exact hq.elim
      | outgrown => exact hq.elim) ⟨own2, rfl, h0⟩
  refine ⟨l, mk, w₁, { target := .fn (.func f) cap.toArray, args := #[] ++ #[yv] }, w₁, f, (yv :: cap).toArray, w₁, hrun, ?_, fun _ _ => trivial, ?_, fun h => (by cases h), ?_⟩
  · have hm : Array.map a.eval #[Operand.const (Value.func (Fn.yield l) #[] #[])] = #[yv] := by simp [Act.eval, yv]
    simp only [resolve, rangeCall, hga, hm]
    rfl
  · have := hcall.1 (yv :: cap).toArray w₁
    show (callFunc f ((#[] ++ #[yv]) ++ cap.toArray)).run C.P w₁ = _
    have e : (#[] ++ #[yv] ++ cap.toArray : Array Value) = (yv :: cap).toArray := by simp
    rw [e]
    exact this
  · have hok₂ : Ok C.G H ((ownI ++ (l, .obj (.loop rec0)) :: own2) ++ (ms'.map hid ++ C.hid)) w₁ := hok₁.perm (by
      simp only [List.append_assoc, List.cons_append]; exact List.perm_middle)
    have hc : CallsIn Fence.wide (0 - 1) C.P f (yv :: cap).toArray w₁ _ := callsIn_wide.2 (hcall.2 C.G _ w₁ hok₂)
    have hc2 : CallsIn (Fr C.r) (0 - 1) C.P f (yv :: cap).toArray w₁ _ := hc
    refine ⟨hc2.1, fun cs hcs => ?_⟩
    obtain ⟨e, w₃, fr, ⟨hne, H', own', hle, hok₃, hR⟩, hx⟩ := hc2.2 cs hcs
    refine ⟨e, w₃, fr, ?_, hx⟩
    cases e with
    | outgrown => exact absurd rfl hne
    | panicked ch => exact hR.elim
    | returned v =>
      obtain ⟨_, ownI', ownY', rfl, hJK⟩ := hR
      have key : ∀ (r : Loop) (o : Own), ownY' = (l, .obj (.loop r)) :: o → r.state ≠ .busy → (Instr.endLoop l).run C.P w₃ = .ok r.pending (w₃.putObj l (.loop { r with state := .exhausted })) ∧
          Rel C ⟨env, df, H', o⟩ { a with defers := mk ++ a.defers } (w₃.putObj l (.loop { r with state := .exhausted })) := by
        rintro r o rfl hb
        have hok₄ : Ok C.G H' ((l, .obj (.loop r)) :: (ownI' ++ (o ++ (ms'.map hid ++ C.hid)))) w₃ := hok₃.perm (by
          simp only [List.append_assoc, List.cons_append]; exact List.perm_middle.symm)
        refine ⟨run_endLoop hok₄.objAt hb, hr.size, hr.get, ms', hdf, ?_⟩
        exact (hok₄.putObj (o' := .loop { r with state := .exhausted })).shrink (Le.refl _) (.cons _ (List.sublist_append_right _ _))
      rcases hJK with ⟨o, ho, hI⟩ | ⟨o, c, ho, hk⟩
      · obtain ⟨h1, h2⟩ := key rec0 o ho (by simp [rec0])
        exact ⟨none, _, h1, ⟨_, h2, hle, hdone H' o hle hI⟩⟩
      · obtain ⟨h1, h2⟩ := key { rec0 with state := .done, pending := some c } o ho (by simp)
        exact ⟨some c, _, h1, Go.wpIn_mono (hjump c H' o hle hk _ _ h2) fun _ _ _ lf => lift_mono lf hle fun _ _ q => q⟩
end
end Go.XL

/- Conflicts: what the functions compute, in plain Lean. -/
set_option autoImplicit false
set_option linter.unusedVariables false
set_option linter.unusedSimpArgs false
namespace Go.Proofs
open Go.XL
/-- a fact -/
structure Fa where
 No : Int
 K : Int
 A : Int
 B : Int
 Fr : Int
 Un : Int
 Kn : Int
 Go : Int
deriving DecidableEq
abbrev faV (f : Fa) : List Value := [.int .i64 f.No, .int .i64 f.K, .int .i64 f.A, .int .i64 f.B, .int .i64 f.Fr, .int .i64 f.Un, .int .i64 f.Kn, .int .i64 f.Go]
/-- facts in memory -/
def faR : Rep Fa where
 sz := 8
 R := fun _ cs f => cs = faV f
 len := fun h => by subst h; rfl
 one := fun h => by subst h; rfl
 mono := fun _ h => h
abbrev Fs := List Fa
abbrev idP (n : Int) : Prop := 0 ≤ n ∧ n ≤ 1048576
abbrev spanP (f u : Int) : Prop := (0 ≤ f ∧ f < u) ∧ u ≤ 2097152
abbrev kindP (f : Fa) : Prop := f.K = 1 ∨ ((2 ≤ f.K ∧ f.K ≤ 5) ∧ f.A ≠ f.B)
abbrev validP (f : Fa) : Prop := (((((idP f.No ∧ idP f.A) ∧ idP f.B) ∧ spanP f.Fr f.Un) ∧ spanP f.Kn f.Go) ∧ kindP f)
abbrev cntP (f : Fa) (day time : Int) : Prop := (f.Kn ≤ time ∧ time < f.Go ∧ f.Fr ≤ day) ∧ (day < f.Un ∨ f.K = 2 ∨ f.K = 4)
abbrev joinP (f : Fa) (a b : Int) : Prop := (f.A = a ∧ f.B = b) ∨ (f.A = b ∧ f.B = a)
/-- the other one -/
def othr (f : Fa) (a : Int) : Option Int := if a = f.A then some f.B else if a = f.B then some f.A else none
def othV (f : Fa) (a : Int) : Value := .tuple #[.int .i64 ((othr f a).getD 0), .bool (othr f a).isSome]
def sgn (a b : Int) : Int := if a < b then -1 else if a > b then 1 else 0
/-- lists compared -/
def cmpL : List Int → List Int → Int
 | [], [] => 0
 | [], _ :: _ => -1
 | _ :: _, [] => 1
 | x :: a, y :: b => if sgn x y = 0 then cmpL a b else sgn x y
def ordL (a b : List Int) : Int := if sgn a.length b.length = 0 then cmpL a b else sgn a.length b.length
def befR : List Int → List Int → Bool
 | x :: a, y :: b => if x = y then befR a b else decide (x < y)
 | _, _ => false
def befL (a b : List Int) : Bool := if a.length = b.length then befR a b else decide (a.length < b.length)
theorem drop_cons {α : Type} {l : List α} {k : Nat} {x : α} (h : l[k]? = some x) : l.drop k = x :: l.drop (k + 1) := by
 have hk : k < l.length := (List.getElem?_eq_some_iff.1 h).1
 rw [List.drop_eq_getElem_cons hk]
 congr 1
 exact (List.getElem?_eq_some_iff.1 h).2
theorem sgn_lt {a b : Int} (h : a < b) : sgn a b = -1 := if_pos h
theorem sgn_gt {a b : Int} (h : b < a) : sgn a b = 1 := by unfold sgn; rw [if_neg (by omega), if_pos (by omega)]
theorem sgn_eq {a b : Int} (h1 : ¬ a < b) (h2 : ¬ a > b) : sgn a b = 0 := by unfold sgn; rw [if_neg h1, if_neg h2]
theorem sgn_0 {a b : Int} : sgn a b = 0 ↔ a = b := by unfold sgn; split <;> (try split) <;> omega
theorem cmp_eq {l m : List Int} {k : Nat} {x y c : Int} (h : c = cmpL (l.drop k) (m.drop k)) (hx : l[k]? = some x) (hy : m[k]? = some y) (h0 : sgn x y = 0) : c = cmpL (l.drop (k + 1)) (m.drop (k + 1)) := by
 rw [h, drop_cons hx, drop_cons hy, cmpL, if_pos h0]
theorem cmp_ne {l m : List Int} {k : Nat} {x y : Int} (h : cmpL l m = cmpL (l.drop k) (m.drop k)) (hx : l[k]? = some x) (hy : m[k]? = some y) (h0 : sgn x y ≠ 0) : sgn x y = cmpL l m := by
 rw [h, drop_cons hx, drop_cons hy, cmpL, if_neg h0]
theorem cmp_long {l m : List Int} {k : Nat} {x : Int} (h : cmpL l m = cmpL (l.drop k) (m.drop k)) (hx : l[k]? = some x) (hm : m.length ≤ k) : (1 : Int) = cmpL l m := by
 rw [h, drop_cons hx, List.drop_of_length_le hm]; rfl
theorem cmp_end {l m : List Int} {k : Nat} (h : cmpL l m = cmpL (l.drop k) (m.drop k)) (hk : l.length ≤ k) : cmpL l m = if k < m.length then -1 else 0 := by
 rw [h, List.drop_of_length_le hk]
 split
 ·rename_i h1
  rw [drop_cons (List.getElem?_eq_getElem h1)]; rfl
 ·rw [List.drop_of_length_le (by omega)]; rfl
theorem bef_eq {l m : List Int} {k : Nat} {x y : Int} {c : Bool} (h : c = befR (l.drop k) (m.drop k)) (hx : l[k]? = some x) (hy : m[k]? = some y) (h0 : x = y) : c = befR (l.drop (k + 1)) (m.drop (k + 1)) := by
 rw [h, drop_cons hx, drop_cons hy, befR, if_pos h0]
theorem bef_ne {l m : List Int} {k : Nat} {x y : Int} {c : Bool} (h : c = befR (l.drop k) (m.drop k)) (hx : l[k]? = some x) (hy : m[k]? = some y) (h0 : ¬ x = y) : decide (x < y) = c := by
 rw [h, drop_cons hx, drop_cons hy, befR, if_neg h0]
theorem bef_end {l m : List Int} {k : Nat} {c : Bool} (h : c = befR (l.drop k) (m.drop k)) (hk : l.length ≤ k) : c = false := by
 rw [h, List.drop_of_length_le hk]; cases m.drop k <;> rfl
theorem befL_ne {l m : List Int} (h : ¬ l.length = m.length) : befL l m = decide (l.length < m.length) := if_neg h
theorem befL_eq {l m : List Int} (h : l.length = m.length) : befL l m = befR l m := if_pos h
theorem befR_anti : ∀ {l m : List Int}, l.length = m.length → (befR l m = false ∧ befR m l = false ↔ l = m)
  | [], [], _ => by simp [befR]
  | x :: l, y :: m, h => by
    by_cases hx : x = y
    · subst hx
      simp only [befR, if_true, List.cons.injEq, true_and]
      exact befR_anti (by simpa using h)
    · rw [befR, befR, if_neg hx, if_neg (fun e : y = x => hx e.symm)]
      constructor
      · rintro ⟨h1, h2⟩
        have h3 := of_decide_eq_false h1
        have h4 := of_decide_eq_false h2
        exact absurd (show x = y by omega) hx
      · intro h1
        exact absurd (List.cons.inj h1).1 hx
theorem same_bef {l m : List Int} : l = m ↔ l.length = m.length ∧ ¬ befL l m = true ∧ ¬ befL m l = true := by
 constructor
 ·rintro rfl
  have := (befR_anti (rfl : l.length = l.length)).2 rfl
  rw [befL_eq rfl]; simp [this]
 ·rintro ⟨h1, h2, h3⟩
  rw [befL_eq h1] at h2; rw [befL_eq h1.symm] at h3
  exact (befR_anti h1).1 ⟨by simpa using h2, by simpa using h3⟩
theorem oth_A {f : Fa} {a : Int} (h : a = f.A) : othV f a = .tuple #[.int .i64 f.B, .bool true] := by unfold othV othr; rw [if_pos h]; rfl
theorem oth_B {f : Fa} {a : Int} (h : ¬ a = f.A) (h2 : a = f.B) : othV f a = .tuple #[.int .i64 f.A, .bool true] := by unfold othV othr; rw [if_neg h, if_pos h2]; rfl
theorem oth_no {f : Fa} {a : Int} (h : ¬ a = f.A) (h2 : ¬ a = f.B) : othV f a = .tuple #[.int .i64 0, .bool false] := by unfold othV othr; rw [if_neg h, if_neg h2]; rfl
end Go.Proofs

/- The walks of the functions of conflicts: what each of them computes, at any input. -/
set_option autoImplicit false
set_option linter.unusedVariables false
set_option linter.unusedSimpArgs false
namespace Go.Proofs
open Go.XL

theorem follows : Try.prog.follows .mixedOrders = true := by kernel_rfl
theorem by_3 : Nat.ble (Try.prog.bytesOf 3) 4096 = true := by kernel_rfl
theorem fa_41_0 : fieldF Try.prog 41 0 = some 0 := by kernel_rfl
theorem fa_41_1 : fieldF Try.prog 41 1 = some 1 := by kernel_rfl
theorem fa_41_2 : fieldF Try.prog 41 2 = some 2 := by kernel_rfl
theorem fa_41_3 : fieldF Try.prog 41 3 = some 3 := by kernel_rfl
theorem fa_41_4 : fieldF Try.prog 41 4 = some 4 := by kernel_rfl
theorem fa_41_5 : fieldF Try.prog 41 5 = some 5 := by kernel_rfl
theorem fa_41_6 : fieldF Try.prog 41 6 = some 6 := by kernel_rfl
theorem fa_41_7 : fieldF Try.prog 41 7 = some 7 := by kernel_rfl
theorem ty_3 : tyF Try.prog 3 1 false = true := by kernel_rfl
theorem ze_3 : zeroC Try.prog 3 = some [.int .i64 0] := by kernel_rfl

theorem id_fn (n : Int) (H : Hp) : FnC Try.prog 39 #[.int .i64 n] H [] (RetR (fun v _ _ => v = .bool (decide (idP n)))) := by
 refine FnC.intro (args := [.int .i64 n]) Try.func39 rfl rfl Try.ntmps39 rfl rfl rfl fun G rest => ?_
 refine XC.seq ?_; refine XC.region ?_; refine XO.assign rfl rfl ?_; refine XO.nil ?_; refine XC.seq2 ?_; refine XC.seq ?_; refine XC.region ?_; refine XO.move rfl rfl ?_; refine XO.geq rfl rfl rfl ?_; refine XO.move rfl rfl ?_; refine XO.guardC rfl rfl rfl rfl (fun g1 => ?_) (fun g1 => ?_)
 ·have g1p := of_decide_eq_true g1
  refine XO.move rfl rfl ?_; refine XO.guardT rfl rfl (g1) rfl ?_; refine XO.leq rfl rfl rfl ?_; refine XO.pickT rfl (g1) rfl rfl ?_; refine XO.assign rfl rfl ?_; refine XO.nil ?_; refine XC.seq2 ?_; refine XC.ret ?_; refine ⟨rfl, _, [], rfl, (by repeat (first | exact List.Sublist.refl _ | apply List.Sublist.cons)), RetR.mk ?_⟩
  first | rfl | exact congrArg Value.bool (decide_eq_decide.2 (by omega)) | exact congrArg Value.bool (decide_eq_false (by omega)).symm | exact congrArg Value.bool (decide_eq_true (by omega)).symm
 ·have g1p := of_decide_eq_false g1
  refine XO.guardF rfl rfl (g1) rfl rfl ?_; refine XO.pickF rfl (g1) rfl rfl ?_; refine XO.assign rfl rfl ?_; refine XO.nil ?_; refine XC.seq2 ?_; refine XC.ret ?_; refine ⟨rfl, _, [], rfl, (by repeat (first | exact List.Sublist.refl _ | apply List.Sublist.cons)), RetR.mk ?_⟩
  first | rfl | exact congrArg Value.bool (decide_eq_decide.2 (by omega)) | exact congrArg Value.bool (decide_eq_false (by omega)).symm | exact congrArg Value.bool (decide_eq_true (by omega)).symm

theorem rid_fn (n : Int) (H : Hp) : FnC Try.prog 41 #[.int .i64 n] H [] (RetR (fun v _ _ => v = .bool (decide (idP n)))) := by
 refine FnC.intro (args := [.int .i64 n]) Try.func41 rfl rfl Try.ntmps41 rfl rfl rfl fun G rest => ?_
 refine XC.seq ?_; refine XC.region ?_; refine XO.assign rfl rfl ?_; refine XO.nil ?_; refine XC.seq2 ?_; refine XC.seq ?_; refine XC.region ?_; refine XO.move rfl rfl ?_; refine XO.geq rfl rfl rfl ?_; refine XO.move rfl rfl ?_; refine XO.guardC rfl rfl rfl rfl (fun g1 => ?_) (fun g1 => ?_)
 ·have g1p := of_decide_eq_true g1
  refine XO.move rfl rfl ?_; refine XO.guardT rfl rfl (g1) rfl ?_; refine XO.leq rfl rfl rfl ?_; refine XO.pickT rfl (g1) rfl rfl ?_; refine XO.assign rfl rfl ?_; refine XO.nil ?_; refine XC.seq2 ?_; refine XC.ret ?_; refine ⟨rfl, _, [], rfl, (by repeat (first | exact List.Sublist.refl _ | apply List.Sublist.cons)), RetR.mk ?_⟩
  first | rfl | exact congrArg Value.bool (decide_eq_decide.2 (by omega)) | exact congrArg Value.bool (decide_eq_false (by omega)).symm | exact congrArg Value.bool (decide_eq_true (by omega)).symm
 ·have g1p := of_decide_eq_false g1
  refine XO.guardF rfl rfl (g1) rfl rfl ?_; refine XO.pickF rfl (g1) rfl rfl ?_; refine XO.assign rfl rfl ?_; refine XO.nil ?_; refine XC.seq2 ?_; refine XC.ret ?_; refine ⟨rfl, _, [], rfl, (by repeat (first | exact List.Sublist.refl _ | apply List.Sublist.cons)), RetR.mk ?_⟩
  first | rfl | exact congrArg Value.bool (decide_eq_decide.2 (by omega)) | exact congrArg Value.bool (decide_eq_false (by omega)).symm | exact congrArg Value.bool (decide_eq_true (by omega)).symm

theorem span_fn (f u : Int) (H : Hp) : FnC Try.prog 48 #[.int .i64 f, .int .i64 u] H [] (RetR (fun v _ _ => v = .bool (decide (spanP f u)))) := by
 refine FnC.intro (args := [.int .i64 f, .int .i64 u]) Try.func48 rfl rfl Try.ntmps48 rfl rfl rfl fun G rest => ?_
 refine XC.seq ?_; refine XC.region ?_; refine XO.assign rfl rfl ?_; refine XO.nil ?_; refine XC.seq2 ?_; refine XC.seq ?_; refine XC.region ?_; refine XO.move rfl rfl ?_; refine XO.leq rfl rfl rfl ?_; refine XO.move rfl rfl ?_; refine XO.guardC rfl rfl rfl rfl (fun g1 => ?_) (fun g1 => ?_)
 ·have g1p := of_decide_eq_true g1
  refine XO.move rfl rfl ?_; refine XO.guardT rfl rfl (g1) rfl ?_; refine XO.move rfl rfl ?_; refine XO.guardT rfl rfl (g1) rfl ?_; refine XO.lss rfl rfl rfl ?_; refine XO.pickT rfl (g1) rfl rfl ?_; refine XO.move rfl rfl ?_; refine XO.guardC rfl rfl rfl rfl (fun g2 => ?_) (fun g2 => ?_)
  ·have g2p := of_decide_eq_true g2
   refine XO.move rfl rfl ?_; refine XO.guardT rfl rfl (g2) rfl ?_; refine XO.leq rfl rfl rfl ?_; refine XO.pickT rfl (g2) rfl rfl ?_; refine XO.assign rfl rfl ?_; refine XO.nil ?_; refine XC.seq2 ?_; refine XC.ret ?_; refine ⟨rfl, _, [], rfl, (by repeat (first | exact List.Sublist.refl _ | apply List.Sublist.cons)), RetR.mk ?_⟩
   first | rfl | exact congrArg Value.bool (decide_eq_decide.2 (by omega)) | exact congrArg Value.bool (decide_eq_false (by omega)).symm | exact congrArg Value.bool (decide_eq_true (by omega)).symm
  ·have g2p := of_decide_eq_false g2
   refine XO.guardF rfl rfl (g2) rfl rfl ?_; refine XO.pickF rfl (g2) rfl rfl ?_; refine XO.assign rfl rfl ?_; refine XO.nil ?_; refine XC.seq2 ?_; refine XC.ret ?_; refine ⟨rfl, _, [], rfl, (by repeat (first | exact List.Sublist.refl _ | apply List.Sublist.cons)), RetR.mk ?_⟩
   first | rfl | exact congrArg Value.bool (decide_eq_decide.2 (by omega)) | exact congrArg Value.bool (decide_eq_false (by omega)).symm | exact congrArg Value.bool (decide_eq_true (by omega)).symm
 ·have g1p := of_decide_eq_false g1
  refine XO.guardF rfl rfl (g1) rfl rfl ?_; refine XO.guardF rfl rfl (g1) rfl rfl ?_; refine XO.pickF rfl (g1) rfl rfl ?_; refine XO.move rfl rfl ?_; refine XO.guardF rfl rfl (rfl) rfl rfl ?_; refine XO.guardF rfl rfl (rfl) rfl rfl ?_; refine XO.pickF rfl (rfl) rfl rfl ?_; refine XO.assign rfl rfl ?_; refine XO.nil ?_; refine XC.seq2 ?_; refine XC.ret ?_; refine ⟨rfl, _, [], rfl, (by repeat (first | exact List.Sublist.refl _ | apply List.Sublist.cons)), RetR.mk ?_⟩
  first | rfl | exact congrArg Value.bool (decide_eq_decide.2 (by omega)) | exact congrArg Value.bool (decide_eq_false (by omega)).symm | exact congrArg Value.bool (decide_eq_true (by omega)).symm

theorem rspan_fn (f u : Int) (H : Hp) : FnC Try.prog 49 #[.int .i64 f, .int .i64 u] H [] (RetR (fun v _ _ => v = .bool (decide (spanP f u)))) := by
 refine FnC.intro (args := [.int .i64 f, .int .i64 u]) Try.func49 rfl rfl Try.ntmps49 rfl rfl rfl fun G rest => ?_
 refine XC.seq ?_; refine XC.region ?_; refine XO.assign rfl rfl ?_; refine XO.nil ?_; refine XC.seq2 ?_; refine XC.seq ?_; refine XC.region ?_; refine XO.move rfl rfl ?_; refine XO.geq rfl rfl rfl ?_; refine XO.move rfl rfl ?_; refine XO.guardC rfl rfl rfl rfl (fun g1 => ?_) (fun g1 => ?_)
 ·have g1p := of_decide_eq_true g1
  refine XO.move rfl rfl ?_; refine XO.guardT rfl rfl (g1) rfl ?_; refine XO.move rfl rfl ?_; refine XO.guardT rfl rfl (g1) rfl ?_; refine XO.lss rfl rfl rfl ?_; refine XO.pickT rfl (g1) rfl rfl ?_; refine XO.move rfl rfl ?_; refine XO.guardC rfl rfl rfl rfl (fun g2 => ?_) (fun g2 => ?_)
  ·have g2p := of_decide_eq_true g2
   refine XO.move rfl rfl ?_; refine XO.guardT rfl rfl (g2) rfl ?_; refine XO.leq rfl rfl rfl ?_; refine XO.pickT rfl (g2) rfl rfl ?_; refine XO.assign rfl rfl ?_; refine XO.nil ?_; refine XC.seq2 ?_; refine XC.ret ?_; refine ⟨rfl, _, [], rfl, (by repeat (first | exact List.Sublist.refl _ | apply List.Sublist.cons)), RetR.mk ?_⟩
   first | rfl | exact congrArg Value.bool (decide_eq_decide.2 (by omega)) | exact congrArg Value.bool (decide_eq_false (by omega)).symm | exact congrArg Value.bool (decide_eq_true (by omega)).symm
  ·have g2p := of_decide_eq_false g2
   refine XO.guardF rfl rfl (g2) rfl rfl ?_; refine XO.pickF rfl (g2) rfl rfl ?_; refine XO.assign rfl rfl ?_; refine XO.nil ?_; refine XC.seq2 ?_; refine XC.ret ?_; refine ⟨rfl, _, [], rfl, (by repeat (first | exact List.Sublist.refl _ | apply List.Sublist.cons)), RetR.mk ?_⟩
   first | rfl | exact congrArg Value.bool (decide_eq_decide.2 (by omega)) | exact congrArg Value.bool (decide_eq_false (by omega)).symm | exact congrArg Value.bool (decide_eq_true (by omega)).symm
 ·have g1p := of_decide_eq_false g1
  refine XO.guardF rfl rfl (g1) rfl rfl ?_; refine XO.guardF rfl rfl (g1) rfl rfl ?_; refine XO.pickF rfl (g1) rfl rfl ?_; refine XO.move rfl rfl ?_; refine XO.guardF rfl rfl (rfl) rfl rfl ?_; refine XO.guardF rfl rfl (rfl) rfl rfl ?_; refine XO.pickF rfl (rfl) rfl rfl ?_; refine XO.assign rfl rfl ?_; refine XO.nil ?_; refine XC.seq2 ?_; refine XC.ret ?_; refine ⟨rfl, _, [], rfl, (by repeat (first | exact List.Sublist.refl _ | apply List.Sublist.cons)), RetR.mk ?_⟩
  first | rfl | exact congrArg Value.bool (decide_eq_decide.2 (by omega)) | exact congrArg Value.bool (decide_eq_false (by omega)).symm | exact congrArg Value.bool (decide_eq_true (by omega)).symm

theorem valid_fn (f : Fa) (H : Hp) : FnC Try.prog 31 #[.agg ⟨faV f⟩] H [] (RetR (fun v _ _ => v = .bool (decide (validP f)))) := by
 refine FnC.intro (args := [.agg ⟨faV f⟩]) Try.func31 rfl rfl Try.ntmps31 rfl rfl rfl fun G rest => ?_
 refine XC.seq ?_; refine XC.region ?_; refine XO.box rfl rfl rfl (fun b1 => ?_); refine XO.assign rfl rfl ?_; refine XO.nil ?_; refine XC.seq2 ?_; refine XC.join (base := [(1, _)]) (fun ζ : Unit => []) (fun ζ Hl own => (b1, .cells 41 (faV f)) :: rest = own ∧ (kindP f)) (prov_cons (rfl) prov_nil) (fun hleJ1 => ?_) ?_
 ·skip
  refine XC.seq ?_; refine XC.region ?_; refine XO.fieldAddr rfl fa_41_1 rfl ?_; refine XO.loadO 0 rfl rfl ty_3 rfl rfl rfl ?_; refine XO.nil ?_; refine XC.seq2 ?_; refine XC.block ?_; refine XC.seq ?_; refine XC.region ?_; refine XO.eql rfl rfl rfl ?_; refine XO.assign rfl rfl ?_; refine XO.nil ?_; refine XC.seq2 ?_; refine XC.cond rfl (fun c0_2 => ?_) (fun c0_2 => ?_)
  ·refine XC.skip ?_; refine blockN ?_; refine join_next () (prov_cons (rfl) prov_nil) (⟨rfl, by omega⟩) (by repeat (first | exact List.Sublist.refl _ | apply List.Sublist.cons_cons | apply List.Sublist.cons)) hleJ1
  ·refine XC.seq ?_; refine XC.seq ?_; refine XC.region ?_; refine XO.eql rfl rfl rfl ?_; refine XO.assign rfl rfl ?_; refine XO.nil ?_; refine XC.seq2 ?_; refine XC.cond rfl (fun c1_3 => ?_) (fun c1_3 => ?_)
   ·refine XC.skip ?_; refine XC.seq2 ?_; refine XC.cond rfl (fun c4_4 => ?_) (fun c4_4 => ?_)
    ·refine XC.seq ?_; refine XC.region ?_; refine XO.fieldAddr rfl fa_41_2 rfl ?_; refine XO.loadO 0 rfl rfl ty_3 rfl rfl rfl ?_; refine XO.fieldAddr rfl fa_41_3 rfl ?_; refine XO.loadO 0 rfl rfl ty_3 rfl rfl rfl ?_; refine XO.eql rfl rfl rfl ?_; refine XO.nil ?_; refine XC.seq2 ?_; refine XC.cond rfl (fun c5_5 => ?_) (fun c5_5 => ?_)
     ·refine XC.seq ?_; refine XC.region ?_; refine XO.assign rfl rfl ?_; refine XO.nil ?_; refine XC.seq2 ?_; refine XC.ret ?_; refine blockR ?_; refine joinX_ret ?_; refine ⟨rfl, _, [], rfl, (by repeat (first | exact List.Sublist.refl _ | apply List.Sublist.cons)), RetR.mk ?_⟩
      first | rfl | exact congrArg Value.bool (decide_eq_decide.2 (by omega)) | exact congrArg Value.bool (decide_eq_false (by omega)).symm | exact congrArg Value.bool (decide_eq_true (by omega)).symm
     ·refine XC.skip ?_; refine blockN ?_; refine join_next () (prov_cons (rfl) prov_nil) (⟨rfl, by omega⟩) (by repeat (first | exact List.Sublist.refl _ | apply List.Sublist.cons_cons | apply List.Sublist.cons)) hleJ1
    ·refine XC.seq ?_; refine XC.region ?_; refine XO.assign rfl rfl ?_; refine XO.nil ?_; refine XC.seq2 ?_; refine XC.ret ?_; refine blockR ?_; refine joinX_ret ?_; refine ⟨rfl, _, [], rfl, (by repeat (first | exact List.Sublist.refl _ | apply List.Sublist.cons)), RetR.mk ?_⟩
     first | rfl | exact congrArg Value.bool (decide_eq_decide.2 (by omega)) | exact congrArg Value.bool (decide_eq_false (by omega)).symm | exact congrArg Value.bool (decide_eq_true (by omega)).symm
   ·refine XC.seq ?_; refine XC.region ?_; refine XO.eql rfl rfl rfl ?_; refine XO.assign rfl rfl ?_; refine XO.nil ?_; refine XC.seq2 ?_; refine XC.cond rfl (fun c2_6 => ?_) (fun c2_6 => ?_)
    ·refine XC.skip ?_; refine XC.seq2 ?_; refine XC.cond rfl (fun c4_7 => ?_) (fun c4_7 => ?_)
     ·refine XC.seq ?_; refine XC.region ?_; refine XO.fieldAddr rfl fa_41_2 rfl ?_; refine XO.loadO 0 rfl rfl ty_3 rfl rfl rfl ?_; refine XO.fieldAddr rfl fa_41_3 rfl ?_; refine XO.loadO 0 rfl rfl ty_3 rfl rfl rfl ?_; refine XO.eql rfl rfl rfl ?_; refine XO.nil ?_; refine XC.seq2 ?_; refine XC.cond rfl (fun c5_8 => ?_) (fun c5_8 => ?_)
      ·refine XC.seq ?_; refine XC.region ?_; refine XO.assign rfl rfl ?_; refine XO.nil ?_; refine XC.seq2 ?_; refine XC.ret ?_; refine blockR ?_; refine joinX_ret ?_; refine ⟨rfl, _, [], rfl, (by repeat (first | exact List.Sublist.refl _ | apply List.Sublist.cons)), RetR.mk ?_⟩
       first | rfl | exact congrArg Value.bool (decide_eq_decide.2 (by omega)) | exact congrArg Value.bool (decide_eq_false (by omega)).symm | exact congrArg Value.bool (decide_eq_true (by omega)).symm
      ·refine XC.skip ?_; refine blockN ?_; refine join_next () (prov_cons (rfl) prov_nil) (⟨rfl, by omega⟩) (by repeat (first | exact List.Sublist.refl _ | apply List.Sublist.cons_cons | apply List.Sublist.cons)) hleJ1
     ·refine XC.seq ?_; refine XC.region ?_; refine XO.assign rfl rfl ?_; refine XO.nil ?_; refine XC.seq2 ?_; refine XC.ret ?_; refine blockR ?_; refine joinX_ret ?_; refine ⟨rfl, _, [], rfl, (by repeat (first | exact List.Sublist.refl _ | apply List.Sublist.cons)), RetR.mk ?_⟩
      first | rfl | exact congrArg Value.bool (decide_eq_decide.2 (by omega)) | exact congrArg Value.bool (decide_eq_false (by omega)).symm | exact congrArg Value.bool (decide_eq_true (by omega)).symm
    ·refine XC.seq ?_; refine XC.region ?_; refine XO.eql rfl rfl rfl ?_; refine XO.assign rfl rfl ?_; refine XO.nil ?_; refine XC.seq2 ?_; refine XC.cond rfl (fun c3_9 => ?_) (fun c3_9 => ?_)
     ·refine XC.skip ?_; refine XC.seq2 ?_; refine XC.cond rfl (fun c4_10 => ?_) (fun c4_10 => ?_)
      ·refine XC.seq ?_; refine XC.region ?_; refine XO.fieldAddr rfl fa_41_2 rfl ?_; refine XO.loadO 0 rfl rfl ty_3 rfl rfl rfl ?_; refine XO.fieldAddr rfl fa_41_3 rfl ?_; refine XO.loadO 0 rfl rfl ty_3 rfl rfl rfl ?_; refine XO.eql rfl rfl rfl ?_; refine XO.nil ?_; refine XC.seq2 ?_; refine XC.cond rfl (fun c5_11 => ?_) (fun c5_11 => ?_)
       ·refine XC.seq ?_; refine XC.region ?_; refine XO.assign rfl rfl ?_; refine XO.nil ?_; refine XC.seq2 ?_; refine XC.ret ?_; refine blockR ?_; refine joinX_ret ?_; refine ⟨rfl, _, [], rfl, (by repeat (first | exact List.Sublist.refl _ | apply List.Sublist.cons)), RetR.mk ?_⟩
        first | rfl | exact congrArg Value.bool (decide_eq_decide.2 (by omega)) | exact congrArg Value.bool (decide_eq_false (by omega)).symm | exact congrArg Value.bool (decide_eq_true (by omega)).symm
       ·refine XC.skip ?_; refine blockN ?_; refine join_next () (prov_cons (rfl) prov_nil) (⟨rfl, by omega⟩) (by repeat (first | exact List.Sublist.refl _ | apply List.Sublist.cons_cons | apply List.Sublist.cons)) hleJ1
      ·refine XC.seq ?_; refine XC.region ?_; refine XO.assign rfl rfl ?_; refine XO.nil ?_; refine XC.seq2 ?_; refine XC.ret ?_; refine blockR ?_; refine joinX_ret ?_; refine ⟨rfl, _, [], rfl, (by repeat (first | exact List.Sublist.refl _ | apply List.Sublist.cons)), RetR.mk ?_⟩
       first | rfl | exact congrArg Value.bool (decide_eq_decide.2 (by omega)) | exact congrArg Value.bool (decide_eq_false (by omega)).symm | exact congrArg Value.bool (decide_eq_true (by omega)).symm
     ·refine XC.region ?_; refine XO.eql rfl rfl rfl ?_; refine XO.assign rfl rfl ?_; refine XO.nil ?_; refine XC.seq2 ?_; refine XC.cond rfl (fun c4_12 => ?_) (fun c4_12 => ?_)
      ·refine XC.seq ?_; refine XC.region ?_; refine XO.fieldAddr rfl fa_41_2 rfl ?_; refine XO.loadO 0 rfl rfl ty_3 rfl rfl rfl ?_; refine XO.fieldAddr rfl fa_41_3 rfl ?_; refine XO.loadO 0 rfl rfl ty_3 rfl rfl rfl ?_; refine XO.eql rfl rfl rfl ?_; refine XO.nil ?_; refine XC.seq2 ?_; refine XC.cond rfl (fun c5_13 => ?_) (fun c5_13 => ?_)
       ·refine XC.seq ?_; refine XC.region ?_; refine XO.assign rfl rfl ?_; refine XO.nil ?_; refine XC.seq2 ?_; refine XC.ret ?_; refine blockR ?_; refine joinX_ret ?_; refine ⟨rfl, _, [], rfl, (by repeat (first | exact List.Sublist.refl _ | apply List.Sublist.cons)), RetR.mk ?_⟩
        first | rfl | exact congrArg Value.bool (decide_eq_decide.2 (by omega)) | exact congrArg Value.bool (decide_eq_false (by omega)).symm | exact congrArg Value.bool (decide_eq_true (by omega)).symm
       ·refine XC.skip ?_; refine blockN ?_; refine join_next () (prov_cons (rfl) prov_nil) (⟨rfl, by omega⟩) (by repeat (first | exact List.Sublist.refl _ | apply List.Sublist.cons_cons | apply List.Sublist.cons)) hleJ1
      ·refine XC.seq ?_; refine XC.region ?_; refine XO.assign rfl rfl ?_; refine XO.nil ?_; refine XC.seq2 ?_; refine XC.ret ?_; refine blockR ?_; refine joinX_ret ?_; refine ⟨rfl, _, [], rfl, (by repeat (first | exact List.Sublist.refl _ | apply List.Sublist.cons)), RetR.mk ?_⟩
       first | rfl | exact congrArg Value.bool (decide_eq_decide.2 (by omega)) | exact congrArg Value.bool (decide_eq_false (by omega)).symm | exact congrArg Value.bool (decide_eq_true (by omega)).symm
 ·rintro _ Hl _ hleK1 ⟨rfl, hk⟩; refine XC.seq ?_; refine XC.region ?_; refine XO.fieldAddr rfl fa_41_0 rfl ?_; refine XO.loadO 0 rfl rfl ty_3 rfl rfl rfl ?_; refine XO.callV rfl (id_fn f.No _) rfl ?_; refine XO.move rfl rfl ?_; refine XO.guardC rfl rfl rfl rfl (fun g15 => ?_) (fun g15 => ?_)
  ·have g15p := of_decide_eq_true g15
   refine XO.fieldAddr rfl fa_41_2 rfl ?_; refine XO.guardT rfl rfl (g15) rfl ?_; refine XO.loadO 0 rfl rfl ty_3 rfl rfl rfl ?_; refine XO.guardT rfl rfl (g15) rfl ?_; refine XO.callV rfl (id_fn f.A _) rfl ?_; refine XO.pickT rfl (g15) rfl rfl ?_; refine XO.move rfl rfl ?_; refine XO.guardC rfl rfl rfl rfl (fun g17 => ?_) (fun g17 => ?_)
   ·have g17p := of_decide_eq_true g17
    refine XO.fieldAddr rfl fa_41_3 rfl ?_; refine XO.guardT rfl rfl (g17) rfl ?_; refine XO.loadO 0 rfl rfl ty_3 rfl rfl rfl ?_; refine XO.guardT rfl rfl (g17) rfl ?_; refine XO.callV rfl (id_fn f.B _) rfl ?_; refine XO.pickT rfl (g17) rfl rfl ?_; refine XO.move rfl rfl ?_; refine XO.guardC rfl rfl rfl rfl (fun g19 => ?_) (fun g19 => ?_)
    ·have g19p := of_decide_eq_true g19
     refine XO.fieldAddr rfl fa_41_4 rfl ?_; refine XO.guardT rfl rfl (g19) rfl ?_; refine XO.loadO 0 rfl rfl ty_3 rfl rfl rfl ?_; refine XO.guardT rfl rfl (g19) rfl ?_; refine XO.fieldAddr rfl fa_41_5 rfl ?_; refine XO.guardT rfl rfl (g19) rfl ?_; refine XO.loadO 0 rfl rfl ty_3 rfl rfl rfl ?_; refine XO.guardT rfl rfl (g19) rfl ?_; refine XO.callV rfl (span_fn f.Fr f.Un _) rfl ?_; refine XO.pickT rfl (g19) rfl rfl ?_; refine XO.move rfl rfl ?_; refine XO.guardC rfl rfl rfl rfl (fun g21 => ?_) (fun g21 => ?_)
     ·have g21p := of_decide_eq_true g21
      refine XO.fieldAddr rfl fa_41_6 rfl ?_; refine XO.guardT rfl rfl (g21) rfl ?_; refine XO.loadO 0 rfl rfl ty_3 rfl rfl rfl ?_; refine XO.guardT rfl rfl (g21) rfl ?_; refine XO.fieldAddr rfl fa_41_7 rfl ?_; refine XO.guardT rfl rfl (g21) rfl ?_; refine XO.loadO 0 rfl rfl ty_3 rfl rfl rfl ?_; refine XO.guardT rfl rfl (g21) rfl ?_; refine XO.callV rfl (span_fn f.Kn f.Go _) rfl ?_; refine XO.pickT rfl (g21) rfl rfl ?_; refine XO.assign rfl rfl ?_; refine XO.nil ?_; refine XC.seq2 ?_; refine XC.ret ?_; refine ⟨rfl, _, [], rfl, (by repeat (first | exact List.Sublist.refl _ | apply List.Sublist.cons)), RetR.mk ?_⟩
      first | rfl | exact congrArg Value.bool (decide_eq_decide.2 (by omega)) | exact congrArg Value.bool (decide_eq_false (by omega)).symm | exact congrArg Value.bool (decide_eq_true (by omega)).symm
     ·have g21p := of_decide_eq_false g21
      refine XO.guardF rfl rfl (g21) rfl rfl ?_; refine XO.guardF rfl rfl (g21) rfl rfl ?_; refine XO.guardF rfl rfl (g21) rfl rfl ?_; refine XO.guardF rfl rfl (g21) rfl rfl ?_; refine XO.pickF rfl (g21) rfl rfl ?_; refine XO.assign rfl rfl ?_; refine XO.nil ?_; refine XC.seq2 ?_; refine XC.ret ?_; refine ⟨rfl, _, [], rfl, (by repeat (first | exact List.Sublist.refl _ | apply List.Sublist.cons)), RetR.mk ?_⟩
      first | rfl | exact congrArg Value.bool (decide_eq_decide.2 (by omega)) | exact congrArg Value.bool (decide_eq_false (by omega)).symm | exact congrArg Value.bool (decide_eq_true (by omega)).symm
    ·have g19p := of_decide_eq_false g19
     refine XO.guardF rfl rfl (g19) rfl rfl ?_; refine XO.guardF rfl rfl (g19) rfl rfl ?_; refine XO.guardF rfl rfl (g19) rfl rfl ?_; refine XO.guardF rfl rfl (g19) rfl rfl ?_; refine XO.pickF rfl (g19) rfl rfl ?_; refine XO.move rfl rfl ?_; refine XO.guardF rfl rfl (rfl) rfl rfl ?_; refine XO.guardF rfl rfl (rfl) rfl rfl ?_; refine XO.guardF rfl rfl (rfl) rfl rfl ?_; refine XO.guardF rfl rfl (rfl) rfl rfl ?_; refine XO.guardF rfl rfl (rfl) rfl rfl ?_; refine XO.pickF rfl (rfl) rfl rfl ?_; refine XO.assign rfl rfl ?_; refine XO.nil ?_; refine XC.seq2 ?_; refine XC.ret ?_; refine ⟨rfl, _, [], rfl, (by repeat (first | exact List.Sublist.refl _ | apply List.Sublist.cons)), RetR.mk ?_⟩
     first | rfl | exact congrArg Value.bool (decide_eq_decide.2 (by omega)) | exact congrArg Value.bool (decide_eq_false (by omega)).symm | exact congrArg Value.bool (decide_eq_true (by omega)).symm
   ·have g17p := of_decide_eq_false g17
    refine XO.guardF rfl rfl (g17) rfl rfl ?_; refine XO.guardF rfl rfl (g17) rfl rfl ?_; refine XO.pickF rfl (g17) rfl rfl ?_; refine XO.move rfl rfl ?_; refine XO.guardF rfl rfl (rfl) rfl rfl ?_; refine XO.guardF rfl rfl (rfl) rfl rfl ?_; refine XO.guardF rfl rfl (rfl) rfl rfl ?_; refine XO.guardF rfl rfl (rfl) rfl rfl ?_; refine XO.guardF rfl rfl (rfl) rfl rfl ?_; refine XO.pickF rfl (rfl) rfl rfl ?_; refine XO.move rfl rfl ?_; refine XO.guardF rfl rfl (rfl) rfl rfl ?_; refine XO.guardF rfl rfl (rfl) rfl rfl ?_; refine XO.guardF rfl rfl (rfl) rfl rfl ?_; refine XO.guardF rfl rfl (rfl) rfl rfl ?_; refine XO.guardF rfl rfl (rfl) rfl rfl ?_; refine XO.pickF rfl (rfl) rfl rfl ?_; refine XO.assign rfl rfl ?_; refine XO.nil ?_; refine XC.seq2 ?_; refine XC.ret ?_; refine ⟨rfl, _, [], rfl, (by repeat (first | exact List.Sublist.refl _ | apply List.Sublist.cons)), RetR.mk ?_⟩
    first | rfl | exact congrArg Value.bool (decide_eq_decide.2 (by omega)) | exact congrArg Value.bool (decide_eq_false (by omega)).symm | exact congrArg Value.bool (decide_eq_true (by omega)).symm
  ·have g15p := of_decide_eq_false g15
   refine XO.guardF rfl rfl (g15) rfl rfl ?_; refine XO.guardF rfl rfl (g15) rfl rfl ?_; refine XO.pickF rfl (g15) rfl rfl ?_; refine XO.move rfl rfl ?_; refine XO.guardF rfl rfl (rfl) rfl rfl ?_; refine XO.guardF rfl rfl (rfl) rfl rfl ?_; refine XO.guardF rfl rfl (rfl) rfl rfl ?_; refine XO.pickF rfl (rfl) rfl rfl ?_; refine XO.move rfl rfl ?_; refine XO.guardF rfl rfl (rfl) rfl rfl ?_; refine XO.guardF rfl rfl (rfl) rfl rfl ?_; refine XO.guardF rfl rfl (rfl) rfl rfl ?_; refine XO.guardF rfl rfl (rfl) rfl rfl ?_; refine XO.guardF rfl rfl (rfl) rfl rfl ?_; refine XO.pickF rfl (rfl) rfl rfl ?_; refine XO.move rfl rfl ?_; refine XO.guardF rfl rfl (rfl) rfl rfl ?_; refine XO.guardF rfl rfl (rfl) rfl rfl ?_; refine XO.guardF rfl rfl (rfl) rfl rfl ?_; refine XO.guardF rfl rfl (rfl) rfl rfl ?_; refine XO.guardF rfl rfl (rfl) rfl rfl ?_; refine XO.pickF rfl (rfl) rfl rfl ?_; refine XO.assign rfl rfl ?_; refine XO.nil ?_; refine XC.seq2 ?_; refine XC.ret ?_; refine ⟨rfl, _, [], rfl, (by repeat (first | exact List.Sublist.refl _ | apply List.Sublist.cons)), RetR.mk ?_⟩
   first | rfl | exact congrArg Value.bool (decide_eq_decide.2 (by omega)) | exact congrArg Value.bool (decide_eq_false (by omega)).symm | exact congrArg Value.bool (decide_eq_true (by omega)).symm

theorem counts_fn (f : Fa) (day time : Int) (H : Hp) : FnC Try.prog 42 #[.agg ⟨faV f⟩, .int .i64 day, .int .i64 time] H [] (RetR (fun v _ _ => v = .bool (decide (cntP f day time)))) := by
 refine FnC.intro (args := [.agg ⟨faV f⟩, .int .i64 day, .int .i64 time]) Try.func42 rfl rfl Try.ntmps42 rfl rfl rfl fun G rest => ?_
 refine XC.seq ?_; refine XC.region ?_; refine XO.box rfl rfl rfl (fun b3 => ?_); refine XO.assign rfl rfl ?_; refine XO.nil ?_; refine XC.seq2 ?_; refine XC.seq ?_; refine XC.seq ?_; refine XC.region ?_; refine XO.move rfl rfl ?_; refine XO.fieldAddr rfl fa_41_6 rfl ?_; refine XO.loadO 0 rfl rfl ty_3 rfl rfl rfl ?_; refine XO.lss rfl rfl rfl ?_; refine XO.move rfl rfl ?_; refine XO.guardC rfl rfl rfl rfl (fun g1 => ?_) (fun g1 => ?_)
 ·have g1p := of_decide_eq_false g1
  refine XO.move rfl rfl ?_; refine XO.guardT rfl rfl (g1) rfl ?_; refine XO.fieldAddr rfl fa_41_7 rfl ?_; refine XO.guardT rfl rfl (g1) rfl ?_; refine XO.loadO 0 rfl rfl ty_3 rfl rfl rfl ?_; refine XO.guardT rfl rfl (g1) rfl ?_; refine XO.geq rfl rfl rfl ?_; refine XO.pickF rfl (g1) rfl rfl ?_; refine XO.move rfl rfl ?_; refine XO.guardC rfl rfl rfl rfl (fun g2 => ?_) (fun g2 => ?_)
  ·have g2p := of_decide_eq_false g2
   refine XO.move rfl rfl ?_; refine XO.guardT rfl rfl (g2) rfl ?_; refine XO.fieldAddr rfl fa_41_4 rfl ?_; refine XO.guardT rfl rfl (g2) rfl ?_; refine XO.loadO 0 rfl rfl ty_3 rfl rfl rfl ?_; refine XO.guardT rfl rfl (g2) rfl ?_; refine XO.lss rfl rfl rfl ?_; refine XO.pickF rfl (g2) rfl rfl ?_; refine XO.nil ?_; refine XC.seq2 ?_; refine XC.cond rfl (fun c0_3 => ?_) (fun c0_3 => ?_)
   ·refine XC.seq ?_; refine XC.region ?_; refine XO.assign rfl rfl ?_; refine XO.nil ?_; refine XC.seq2 ?_; refine XC.ret ?_; refine seqX_ret ?_; refine ⟨rfl, _, [], rfl, (by repeat (first | exact List.Sublist.refl _ | apply List.Sublist.cons)), RetR.mk ?_⟩
    first | rfl | exact congrArg Value.bool (decide_eq_decide.2 (by omega)) | exact congrArg Value.bool (decide_eq_false (by omega)).symm | exact congrArg Value.bool (decide_eq_true (by omega)).symm
   ·refine XC.skip ?_; refine XC.seq2 ?_; refine XC.seq ?_; refine XC.region ?_; refine XO.move rfl rfl ?_; refine XO.fieldAddr rfl fa_41_5 rfl ?_; refine XO.loadO 0 rfl rfl ty_3 rfl rfl rfl ?_; refine XO.lss rfl rfl rfl ?_; refine XO.move rfl rfl ?_; refine XO.guardC rfl rfl rfl rfl (fun g4 => ?_) (fun g4 => ?_)
    ·have g4p := of_decide_eq_false g4
     refine XO.fieldAddr rfl fa_41_1 rfl ?_; refine XO.guardT rfl rfl (g4) rfl ?_; refine XO.loadO 0 rfl rfl ty_3 rfl rfl rfl ?_; refine XO.guardT rfl rfl (g4) rfl ?_; refine XO.eql rfl rfl rfl ?_; refine XO.pickF rfl (g4) rfl rfl ?_; refine XO.move rfl rfl ?_; refine XO.guardC rfl rfl rfl rfl (fun g5 => ?_) (fun g5 => ?_)
     ·have g5p := of_decide_eq_false g5
      refine XO.fieldAddr rfl fa_41_1 rfl ?_; refine XO.guardT rfl rfl (g5) rfl ?_; refine XO.loadO 0 rfl rfl ty_3 rfl rfl rfl ?_; refine XO.guardT rfl rfl (g5) rfl ?_; refine XO.eql rfl rfl rfl ?_; refine XO.pickF rfl (g5) rfl rfl ?_; refine XO.assign rfl rfl ?_; refine XO.nil ?_; refine XC.seq2 ?_; refine XC.ret ?_; refine ⟨rfl, _, [], rfl, (by repeat (first | exact List.Sublist.refl _ | apply List.Sublist.cons)), RetR.mk ?_⟩
      first | rfl | exact congrArg Value.bool (decide_eq_decide.2 (by omega)) | exact congrArg Value.bool (decide_eq_false (by omega)).symm | exact congrArg Value.bool (decide_eq_true (by omega)).symm
     ·have g5p := of_decide_eq_true g5
      refine XO.guardF rfl rfl (g5) rfl rfl ?_; refine XO.guardF rfl rfl (g5) rfl rfl ?_; refine XO.pickT rfl (g5) rfl rfl ?_; refine XO.assign rfl rfl ?_; refine XO.nil ?_; refine XC.seq2 ?_; refine XC.ret ?_; refine ⟨rfl, _, [], rfl, (by repeat (first | exact List.Sublist.refl _ | apply List.Sublist.cons)), RetR.mk ?_⟩
      first | rfl | exact congrArg Value.bool (decide_eq_decide.2 (by omega)) | exact congrArg Value.bool (decide_eq_false (by omega)).symm | exact congrArg Value.bool (decide_eq_true (by omega)).symm
    ·have g4p := of_decide_eq_true g4
     refine XO.guardF rfl rfl (g4) rfl rfl ?_; refine XO.guardF rfl rfl (g4) rfl rfl ?_; refine XO.pickT rfl (g4) rfl rfl ?_; refine XO.move rfl rfl ?_; refine XO.guardF rfl rfl (rfl) rfl rfl ?_; refine XO.guardF rfl rfl (rfl) rfl rfl ?_; refine XO.guardF rfl rfl (rfl) rfl rfl ?_; refine XO.pickT rfl (rfl) rfl rfl ?_; refine XO.assign rfl rfl ?_; refine XO.nil ?_; refine XC.seq2 ?_; refine XC.ret ?_; refine ⟨rfl, _, [], rfl, (by repeat (first | exact List.Sublist.refl _ | apply List.Sublist.cons)), RetR.mk ?_⟩
     first | rfl | exact congrArg Value.bool (decide_eq_decide.2 (by omega)) | exact congrArg Value.bool (decide_eq_false (by omega)).symm | exact congrArg Value.bool (decide_eq_true (by omega)).symm
  ·have g2p := of_decide_eq_true g2
   refine XO.guardF rfl rfl (g2) rfl rfl ?_; refine XO.guardF rfl rfl (g2) rfl rfl ?_; refine XO.guardF rfl rfl (g2) rfl rfl ?_; refine XO.pickT rfl (g2) rfl rfl ?_; refine XO.nil ?_; refine XC.seq2 ?_; refine XC.condT rfl (rfl) ?_; refine XC.seq ?_; refine XC.region ?_; refine XO.assign rfl rfl ?_; refine XO.nil ?_; refine XC.seq2 ?_; refine XC.ret ?_; refine seqX_ret ?_; refine ⟨rfl, _, [], rfl, (by repeat (first | exact List.Sublist.refl _ | apply List.Sublist.cons)), RetR.mk ?_⟩
   first | rfl | exact congrArg Value.bool (decide_eq_decide.2 (by omega)) | exact congrArg Value.bool (decide_eq_false (by omega)).symm | exact congrArg Value.bool (decide_eq_true (by omega)).symm
 ·have g1p := of_decide_eq_true g1
  refine XO.guardF rfl rfl (g1) rfl rfl ?_; refine XO.guardF rfl rfl (g1) rfl rfl ?_; refine XO.guardF rfl rfl (g1) rfl rfl ?_; refine XO.pickT rfl (g1) rfl rfl ?_; refine XO.move rfl rfl ?_; refine XO.guardF rfl rfl (rfl) rfl rfl ?_; refine XO.guardF rfl rfl (rfl) rfl rfl ?_; refine XO.guardF rfl rfl (rfl) rfl rfl ?_; refine XO.guardF rfl rfl (rfl) rfl rfl ?_; refine XO.pickT rfl (rfl) rfl rfl ?_; refine XO.nil ?_; refine XC.seq2 ?_; refine XC.condT rfl (rfl) ?_; refine XC.seq ?_; refine XC.region ?_; refine XO.assign rfl rfl ?_; refine XO.nil ?_; refine XC.seq2 ?_; refine XC.ret ?_; refine seqX_ret ?_; refine ⟨rfl, _, [], rfl, (by repeat (first | exact List.Sublist.refl _ | apply List.Sublist.cons)), RetR.mk ?_⟩
  first | rfl | exact congrArg Value.bool (decide_eq_decide.2 (by omega)) | exact congrArg Value.bool (decide_eq_false (by omega)).symm | exact congrArg Value.bool (decide_eq_true (by omega)).symm

theorem rcounts_fn (f : Fa) (day time : Int) (H : Hp) : FnC Try.prog 23 #[.agg ⟨faV f⟩, .int .i64 day, .int .i64 time] H [] (RetR (fun v _ _ => v = .bool (decide (cntP f day time)))) := by
 refine FnC.intro (args := [.agg ⟨faV f⟩, .int .i64 day, .int .i64 time]) Try.func23 rfl rfl Try.ntmps23 rfl rfl rfl fun G rest => ?_
 refine XC.seq ?_; refine XC.region ?_; refine XO.box rfl rfl rfl (fun b3 => ?_); refine XO.assign rfl rfl ?_; refine XO.nil ?_; refine XC.seq2 ?_; refine XC.seq ?_; refine XC.seq ?_; refine XC.region ?_; refine XO.move rfl rfl ?_; refine XO.fieldAddr rfl fa_41_6 rfl ?_; refine XO.loadO 0 rfl rfl ty_3 rfl rfl rfl ?_; refine XO.lss rfl rfl rfl ?_; refine XO.move rfl rfl ?_; refine XO.guardC rfl rfl rfl rfl (fun g1 => ?_) (fun g1 => ?_)
 ·have g1p := of_decide_eq_false g1
  refine XO.move rfl rfl ?_; refine XO.guardT rfl rfl (g1) rfl ?_; refine XO.fieldAddr rfl fa_41_7 rfl ?_; refine XO.guardT rfl rfl (g1) rfl ?_; refine XO.loadO 0 rfl rfl ty_3 rfl rfl rfl ?_; refine XO.guardT rfl rfl (g1) rfl ?_; refine XO.geq rfl rfl rfl ?_; refine XO.pickF rfl (g1) rfl rfl ?_; refine XO.move rfl rfl ?_; refine XO.guardC rfl rfl rfl rfl (fun g2 => ?_) (fun g2 => ?_)
  ·have g2p := of_decide_eq_false g2
   refine XO.move rfl rfl ?_; refine XO.guardT rfl rfl (g2) rfl ?_; refine XO.fieldAddr rfl fa_41_4 rfl ?_; refine XO.guardT rfl rfl (g2) rfl ?_; refine XO.loadO 0 rfl rfl ty_3 rfl rfl rfl ?_; refine XO.guardT rfl rfl (g2) rfl ?_; refine XO.lss rfl rfl rfl ?_; refine XO.pickF rfl (g2) rfl rfl ?_; refine XO.nil ?_; refine XC.seq2 ?_; refine XC.cond rfl (fun c0_3 => ?_) (fun c0_3 => ?_)
   ·refine XC.seq ?_; refine XC.region ?_; refine XO.assign rfl rfl ?_; refine XO.nil ?_; refine XC.seq2 ?_; refine XC.ret ?_; refine seqX_ret ?_; refine ⟨rfl, _, [], rfl, (by repeat (first | exact List.Sublist.refl _ | apply List.Sublist.cons)), RetR.mk ?_⟩
    first | rfl | exact congrArg Value.bool (decide_eq_decide.2 (by omega)) | exact congrArg Value.bool (decide_eq_false (by omega)).symm | exact congrArg Value.bool (decide_eq_true (by omega)).symm
   ·refine XC.skip ?_; refine XC.seq2 ?_; refine XC.seq ?_; refine XC.region ?_; refine XO.move rfl rfl ?_; refine XO.fieldAddr rfl fa_41_5 rfl ?_; refine XO.loadO 0 rfl rfl ty_3 rfl rfl rfl ?_; refine XO.lss rfl rfl rfl ?_; refine XO.move rfl rfl ?_; refine XO.guardC rfl rfl rfl rfl (fun g4 => ?_) (fun g4 => ?_)
    ·have g4p := of_decide_eq_false g4
     refine XO.fieldAddr rfl fa_41_1 rfl ?_; refine XO.guardT rfl rfl (g4) rfl ?_; refine XO.loadO 0 rfl rfl ty_3 rfl rfl rfl ?_; refine XO.guardT rfl rfl (g4) rfl ?_; refine XO.eql rfl rfl rfl ?_; refine XO.pickF rfl (g4) rfl rfl ?_; refine XO.move rfl rfl ?_; refine XO.guardC rfl rfl rfl rfl (fun g5 => ?_) (fun g5 => ?_)
     ·have g5p := of_decide_eq_false g5
      refine XO.fieldAddr rfl fa_41_1 rfl ?_; refine XO.guardT rfl rfl (g5) rfl ?_; refine XO.loadO 0 rfl rfl ty_3 rfl rfl rfl ?_; refine XO.guardT rfl rfl (g5) rfl ?_; refine XO.eql rfl rfl rfl ?_; refine XO.pickF rfl (g5) rfl rfl ?_; refine XO.assign rfl rfl ?_; refine XO.nil ?_; refine XC.seq2 ?_; refine XC.ret ?_; refine ⟨rfl, _, [], rfl, (by repeat (first | exact List.Sublist.refl _ | apply List.Sublist.cons)), RetR.mk ?_⟩
      first | rfl | exact congrArg Value.bool (decide_eq_decide.2 (by omega)) | exact congrArg Value.bool (decide_eq_false (by omega)).symm | exact congrArg Value.bool (decide_eq_true (by omega)).symm
     ·have g5p := of_decide_eq_true g5
      refine XO.guardF rfl rfl (g5) rfl rfl ?_; refine XO.guardF rfl rfl (g5) rfl rfl ?_; refine XO.pickT rfl (g5) rfl rfl ?_; refine XO.assign rfl rfl ?_; refine XO.nil ?_; refine XC.seq2 ?_; refine XC.ret ?_; refine ⟨rfl, _, [], rfl, (by repeat (first | exact List.Sublist.refl _ | apply List.Sublist.cons)), RetR.mk ?_⟩
      first | rfl | exact congrArg Value.bool (decide_eq_decide.2 (by omega)) | exact congrArg Value.bool (decide_eq_false (by omega)).symm | exact congrArg Value.bool (decide_eq_true (by omega)).symm
    ·have g4p := of_decide_eq_true g4
     refine XO.guardF rfl rfl (g4) rfl rfl ?_; refine XO.guardF rfl rfl (g4) rfl rfl ?_; refine XO.pickT rfl (g4) rfl rfl ?_; refine XO.move rfl rfl ?_; refine XO.guardF rfl rfl (rfl) rfl rfl ?_; refine XO.guardF rfl rfl (rfl) rfl rfl ?_; refine XO.guardF rfl rfl (rfl) rfl rfl ?_; refine XO.pickT rfl (rfl) rfl rfl ?_; refine XO.assign rfl rfl ?_; refine XO.nil ?_; refine XC.seq2 ?_; refine XC.ret ?_; refine ⟨rfl, _, [], rfl, (by repeat (first | exact List.Sublist.refl _ | apply List.Sublist.cons)), RetR.mk ?_⟩
     first | rfl | exact congrArg Value.bool (decide_eq_decide.2 (by omega)) | exact congrArg Value.bool (decide_eq_false (by omega)).symm | exact congrArg Value.bool (decide_eq_true (by omega)).symm
  ·have g2p := of_decide_eq_true g2
   refine XO.guardF rfl rfl (g2) rfl rfl ?_; refine XO.guardF rfl rfl (g2) rfl rfl ?_; refine XO.guardF rfl rfl (g2) rfl rfl ?_; refine XO.pickT rfl (g2) rfl rfl ?_; refine XO.nil ?_; refine XC.seq2 ?_; refine XC.condT rfl (rfl) ?_; refine XC.seq ?_; refine XC.region ?_; refine XO.assign rfl rfl ?_; refine XO.nil ?_; refine XC.seq2 ?_; refine XC.ret ?_; refine seqX_ret ?_; refine ⟨rfl, _, [], rfl, (by repeat (first | exact List.Sublist.refl _ | apply List.Sublist.cons)), RetR.mk ?_⟩
   first | rfl | exact congrArg Value.bool (decide_eq_decide.2 (by omega)) | exact congrArg Value.bool (decide_eq_false (by omega)).symm | exact congrArg Value.bool (decide_eq_true (by omega)).symm
 ·have g1p := of_decide_eq_true g1
  refine XO.guardF rfl rfl (g1) rfl rfl ?_; refine XO.guardF rfl rfl (g1) rfl rfl ?_; refine XO.guardF rfl rfl (g1) rfl rfl ?_; refine XO.pickT rfl (g1) rfl rfl ?_; refine XO.move rfl rfl ?_; refine XO.guardF rfl rfl (rfl) rfl rfl ?_; refine XO.guardF rfl rfl (rfl) rfl rfl ?_; refine XO.guardF rfl rfl (rfl) rfl rfl ?_; refine XO.guardF rfl rfl (rfl) rfl rfl ?_; refine XO.pickT rfl (rfl) rfl rfl ?_; refine XO.nil ?_; refine XC.seq2 ?_; refine XC.condT rfl (rfl) ?_; refine XC.seq ?_; refine XC.region ?_; refine XO.assign rfl rfl ?_; refine XO.nil ?_; refine XC.seq2 ?_; refine XC.ret ?_; refine seqX_ret ?_; refine ⟨rfl, _, [], rfl, (by repeat (first | exact List.Sublist.refl _ | apply List.Sublist.cons)), RetR.mk ?_⟩
  first | rfl | exact congrArg Value.bool (decide_eq_decide.2 (by omega)) | exact congrArg Value.bool (decide_eq_false (by omega)).symm | exact congrArg Value.bool (decide_eq_true (by omega)).symm

theorem odd_fn (n : Int) (H : Hp) : FnC Try.prog 38 #[.int .i64 n] H [] (RetR (fun v _ _ => v = .bool (decide (¬ idP n)))) := by
 refine FnC.intro (args := [.int .i64 n]) Try.func38 rfl rfl Try.ntmps38 rfl rfl rfl fun G rest => ?_
 refine XC.seq ?_; refine XC.region ?_; refine XO.assign rfl rfl ?_; refine XO.nil ?_; refine XC.seq2 ?_; refine XC.seq ?_; refine XC.region ?_; refine XO.move rfl rfl ?_; refine XO.callV rfl (id_fn n _) rfl ?_; refine XO.not rfl rfl ?_; refine XO.assign rfl rfl ?_; refine XO.nil ?_; refine XC.seq2 ?_; refine XC.ret ?_; refine ⟨rfl, _, [], rfl, (by repeat (first | exact List.Sublist.refl _ | apply List.Sublist.cons)), RetR.mk ?_⟩
 rfl

theorem joins_fn (f : Fa) (a b : Int) (H : Hp) : FnC Try.prog 52 #[.agg ⟨faV f⟩, .int .i64 a, .int .i64 b] H [] (RetR (fun v _ _ => v = .bool (decide (joinP f a b)))) := by
 refine FnC.intro (args := [.agg ⟨faV f⟩, .int .i64 a, .int .i64 b]) Try.func52 rfl rfl Try.ntmps52 rfl rfl rfl fun G rest => ?_
 refine XC.seq ?_; refine XC.region ?_; refine XO.box rfl rfl rfl (fun b3 => ?_); refine XO.assign rfl rfl ?_; refine XO.nil ?_; refine XC.seq2 ?_; refine XC.seq ?_; refine XC.region ?_; refine XO.fieldAddr rfl fa_41_2 rfl ?_; refine XO.loadO 0 rfl rfl ty_3 rfl rfl rfl ?_; refine XO.move rfl rfl ?_; refine XO.eql rfl rfl rfl ?_; refine XO.move rfl rfl ?_; refine XO.guardC rfl rfl rfl rfl (fun g1 => ?_) (fun g1 => ?_)
 ·have g1p := of_decide_eq_true g1
  refine XO.fieldAddr rfl fa_41_3 rfl ?_; refine XO.guardT rfl rfl (g1) rfl ?_; refine XO.loadO 0 rfl rfl ty_3 rfl rfl rfl ?_; refine XO.guardT rfl rfl (g1) rfl ?_; refine XO.move rfl rfl ?_; refine XO.guardT rfl rfl (g1) rfl ?_; refine XO.eql rfl rfl rfl ?_; refine XO.pickT rfl (g1) rfl rfl ?_; refine XO.move rfl rfl ?_; refine XO.guardC rfl rfl rfl rfl (fun g2 => ?_) (fun g2 => ?_)
  ·have g2p := of_decide_eq_false g2
   refine XO.fieldAddr rfl fa_41_2 rfl ?_; refine XO.guardT rfl rfl (g2) rfl ?_; refine XO.loadO 0 rfl rfl ty_3 rfl rfl rfl ?_; refine XO.guardT rfl rfl (g2) rfl ?_; refine XO.move rfl rfl ?_; refine XO.guardT rfl rfl (g2) rfl ?_; refine XO.eql rfl rfl rfl ?_; refine XO.guardT rfl rfl (g2) rfl ?_; refine XO.move rfl rfl ?_; refine XO.guardC rfl rfl rfl rfl (fun g3 => ?_) (fun g3 => ?_)
   ·have g3p := of_decide_eq_true g3
    refine XO.fieldAddr rfl fa_41_3 rfl ?_; refine XO.guardT rfl rfl (g3) rfl ?_; refine XO.loadO 0 rfl rfl ty_3 rfl rfl rfl ?_; refine XO.guardT rfl rfl (g3) rfl ?_; refine XO.move rfl rfl ?_; refine XO.guardT rfl rfl (g3) rfl ?_; refine XO.eql rfl rfl rfl ?_; refine XO.guardT rfl rfl (g2) rfl ?_; refine XO.pickT rfl (g3) rfl rfl ?_; refine XO.pickF rfl (g2) rfl rfl ?_; refine XO.assign rfl rfl ?_; refine XO.nil ?_; refine XC.seq2 ?_; refine XC.ret ?_; refine ⟨rfl, _, [], rfl, (by repeat (first | exact List.Sublist.refl _ | apply List.Sublist.cons)), RetR.mk ?_⟩
    first | rfl | exact congrArg Value.bool (decide_eq_decide.2 (by omega)) | exact congrArg Value.bool (decide_eq_false (by omega)).symm | exact congrArg Value.bool (decide_eq_true (by omega)).symm
   ·have g3p := of_decide_eq_false g3
    refine XO.guardF rfl rfl (g3) rfl rfl ?_; refine XO.guardF rfl rfl (g3) rfl rfl ?_; refine XO.guardF rfl rfl (g3) rfl rfl ?_; refine XO.guardT rfl rfl (g2) rfl ?_; refine XO.pickF rfl (g3) rfl rfl ?_; refine XO.pickF rfl (g2) rfl rfl ?_; refine XO.assign rfl rfl ?_; refine XO.nil ?_; refine XC.seq2 ?_; refine XC.ret ?_; refine ⟨rfl, _, [], rfl, (by repeat (first | exact List.Sublist.refl _ | apply List.Sublist.cons)), RetR.mk ?_⟩
    first | rfl | exact congrArg Value.bool (decide_eq_decide.2 (by omega)) | exact congrArg Value.bool (decide_eq_false (by omega)).symm | exact congrArg Value.bool (decide_eq_true (by omega)).symm
  ·have g2p := of_decide_eq_true g2
   refine XO.guardF rfl rfl (g2) rfl rfl ?_; refine XO.guardF rfl rfl (g2) rfl rfl ?_; refine XO.guardF rfl rfl (g2) rfl rfl ?_; refine XO.guardF rfl rfl (g2) rfl rfl ?_; refine XO.guardU rfl rfl rfl rfl ?_; refine XO.guardU rfl rfl rfl rfl ?_; refine XO.guardU rfl rfl rfl rfl ?_; refine XO.guardU rfl rfl rfl rfl ?_; refine XO.guardF rfl rfl (g2) rfl rfl ?_; refine XO.pickT rfl (g2) rfl rfl ?_; refine XO.assign rfl rfl ?_; refine XO.nil ?_; refine XC.seq2 ?_; refine XC.ret ?_; refine ⟨rfl, _, [], rfl, (by repeat (first | exact List.Sublist.refl _ | apply List.Sublist.cons)), RetR.mk ?_⟩
   first | rfl | exact congrArg Value.bool (decide_eq_decide.2 (by omega)) | exact congrArg Value.bool (decide_eq_false (by omega)).symm | exact congrArg Value.bool (decide_eq_true (by omega)).symm
 ·have g1p := of_decide_eq_false g1
  refine XO.guardF rfl rfl (g1) rfl rfl ?_; refine XO.guardF rfl rfl (g1) rfl rfl ?_; refine XO.guardF rfl rfl (g1) rfl rfl ?_; refine XO.pickF rfl (g1) rfl rfl ?_; refine XO.move rfl rfl ?_; refine XO.guardT rfl rfl (rfl) rfl ?_; refine XO.fieldAddr rfl fa_41_2 rfl ?_; refine XO.guardT rfl rfl (rfl) rfl ?_; refine XO.loadO 0 rfl rfl ty_3 rfl rfl rfl ?_; refine XO.guardT rfl rfl (rfl) rfl ?_; refine XO.move rfl rfl ?_; refine XO.guardT rfl rfl (rfl) rfl ?_; refine XO.eql rfl rfl rfl ?_; refine XO.guardT rfl rfl (rfl) rfl ?_; refine XO.move rfl rfl ?_; refine XO.guardC rfl rfl rfl rfl (fun g4 => ?_) (fun g4 => ?_)
  ·have g4p := of_decide_eq_true g4
   refine XO.fieldAddr rfl fa_41_3 rfl ?_; refine XO.guardT rfl rfl (g4) rfl ?_; refine XO.loadO 0 rfl rfl ty_3 rfl rfl rfl ?_; refine XO.guardT rfl rfl (g4) rfl ?_; refine XO.move rfl rfl ?_; refine XO.guardT rfl rfl (g4) rfl ?_; refine XO.eql rfl rfl rfl ?_; refine XO.guardT rfl rfl (rfl) rfl ?_; refine XO.pickT rfl (g4) rfl rfl ?_; refine XO.pickF rfl (rfl) rfl rfl ?_; refine XO.assign rfl rfl ?_; refine XO.nil ?_; refine XC.seq2 ?_; refine XC.ret ?_; refine ⟨rfl, _, [], rfl, (by repeat (first | exact List.Sublist.refl _ | apply List.Sublist.cons)), RetR.mk ?_⟩
   first | rfl | exact congrArg Value.bool (decide_eq_decide.2 (by omega)) | exact congrArg Value.bool (decide_eq_false (by omega)).symm | exact congrArg Value.bool (decide_eq_true (by omega)).symm
  ·have g4p := of_decide_eq_false g4
   refine XO.guardF rfl rfl (g4) rfl rfl ?_; refine XO.guardF rfl rfl (g4) rfl rfl ?_; refine XO.guardF rfl rfl (g4) rfl rfl ?_; refine XO.guardT rfl rfl (rfl) rfl ?_; refine XO.pickF rfl (g4) rfl rfl ?_; refine XO.pickF rfl (rfl) rfl rfl ?_; refine XO.assign rfl rfl ?_; refine XO.nil ?_; refine XC.seq2 ?_; refine XC.ret ?_; refine ⟨rfl, _, [], rfl, (by repeat (first | exact List.Sublist.refl _ | apply List.Sublist.cons)), RetR.mk ?_⟩
   first | rfl | exact congrArg Value.bool (decide_eq_decide.2 (by omega)) | exact congrArg Value.bool (decide_eq_false (by omega)).symm | exact congrArg Value.bool (decide_eq_true (by omega)).symm

theorem other_fn (f : Fa) (a : Int) (H : Hp) : FnC Try.prog 36 #[.agg ⟨faV f⟩, .int .i64 a] H [] (RetR (fun v _ _ => v = othV f a)) := by
 refine FnC.intro (args := [.agg ⟨faV f⟩, .int .i64 a]) Try.func36 rfl rfl Try.ntmps36 rfl rfl rfl fun G rest => ?_
 refine XC.seq ?_; refine XC.region ?_; refine XO.box rfl rfl rfl (fun b2 => ?_); refine XO.assign rfl rfl ?_; refine XO.assign rfl rfl ?_; refine XO.nil ?_; refine XC.seq2 ?_; refine XC.seq ?_; refine XC.seq ?_; refine XC.region ?_; refine XO.move rfl rfl ?_; refine XO.nil ?_; refine XC.seq2 ?_; refine XC.block ?_; refine XC.seq ?_; refine XC.region ?_; refine XO.fieldAddr rfl fa_41_2 rfl ?_; refine XO.loadO 0 rfl rfl ty_3 rfl rfl rfl ?_; refine XO.eql rfl rfl rfl ?_; refine XO.assign rfl rfl ?_; refine XO.nil ?_; refine XC.seq2 ?_; refine XC.cond rfl (fun c0_1 => ?_) (fun c0_1 => ?_)
 ·refine XC.seq ?_; refine XC.region ?_; refine XO.fieldAddr rfl fa_41_3 rfl ?_; refine XO.loadO 0 rfl rfl ty_3 rfl rfl rfl ?_; refine XO.assign rfl rfl ?_; refine XO.assign rfl rfl ?_; refine XO.nil ?_; refine XC.seq2 ?_; refine XC.ret ?_; refine blockR ?_; refine seqX_ret ?_; refine ⟨rfl, _, [], rfl, (by repeat (first | exact List.Sublist.refl _ | apply List.Sublist.cons)), RetR.mk ?_⟩
  first | exact (oth_A (by assumption)).symm | exact (oth_B (by assumption) (by assumption)).symm | exact (oth_no (by assumption) (by assumption)).symm
 ·refine XC.seq ?_; refine XC.region ?_; refine XO.fieldAddr rfl fa_41_3 rfl ?_; refine XO.loadO 0 rfl rfl ty_3 rfl rfl rfl ?_; refine XO.eql rfl rfl rfl ?_; refine XO.assign rfl rfl ?_; refine XO.nil ?_; refine XC.seq2 ?_; refine XC.cond rfl (fun c1_2 => ?_) (fun c1_2 => ?_)
  ·refine XC.seq ?_; refine XC.region ?_; refine XO.fieldAddr rfl fa_41_2 rfl ?_; refine XO.loadO 0 rfl rfl ty_3 rfl rfl rfl ?_; refine XO.assign rfl rfl ?_; refine XO.assign rfl rfl ?_; refine XO.nil ?_; refine XC.seq2 ?_; refine XC.ret ?_; refine blockR ?_; refine seqX_ret ?_; refine ⟨rfl, _, [], rfl, (by repeat (first | exact List.Sublist.refl _ | apply List.Sublist.cons)), RetR.mk ?_⟩
   first | exact (oth_A (by assumption)).symm | exact (oth_B (by assumption) (by assumption)).symm | exact (oth_no (by assumption) (by assumption)).symm
  ·refine XC.skip ?_; refine blockN ?_; refine XC.seq2 ?_; refine XC.seq ?_; refine XC.region ?_; refine XO.assign rfl rfl ?_; refine XO.assign rfl rfl ?_; refine XO.nil ?_; refine XC.seq2 ?_; refine XC.ret ?_; refine ⟨rfl, _, [], rfl, (by repeat (first | exact List.Sublist.refl _ | apply List.Sublist.cons)), RetR.mk ?_⟩
   first | exact (oth_A (by assumption)).symm | exact (oth_B (by assumption) (by assumption)).symm | exact (oth_no (by assumption) (by assumption)).symm

theorem has_fn (a : Option Addr) (c : Nat) (l : List Int) (H : Hp) (hs : SlR (intR .i64) H a c l) (hl : l.length < 9223372036854775808) (x : Int) : FnC Try.prog 47 #[.slice a l.length c, .int .i64 x] H [] (RetR (fun v _ _ => v = .bool (decide (x ∈ l)))) := by
 refine FnC.intro (args := [.slice a l.length c, .int .i64 x]) Try.func47 rfl rfl Try.ntmps47 rfl rfl rfl fun G rest => ?_
 refine XC.seq ?_; refine XC.region ?_; refine XO.assign rfl rfl ?_; refine XO.nil ?_; refine XC.seq2 ?_; refine XC.seq ?_; refine XC.seq ?_; refine XC.region ?_; refine XO.assign rfl rfl ?_; refine XO.nil ?_; refine XC.seq2 ?_; refine XC.block ?_; refine XC.keep [5, 0, 1] rfl ?_; refine XC.loop (base := [(0, _), (1, _)]) (fun ζ : Nat => [(5, .int .i64 (ζ : Nat))]) (fun ζ Hl own => ζ ≤ l.length ∧ rest = own ∧ (∀ y ∈ l.take ζ, ¬ (y = x))) (fun ζ => l.length - ζ) 0 (prov_cons (rfl) (prov_cons (rfl) (prov_cons (rfl) prov_nil))) (by repeat (first | exact List.Sublist.refl _ | apply List.Sublist.cons_cons | apply List.Sublist.cons)) ⟨Nat.zero_le _, rfl, by simp⟩ ?_; rintro k Hl0 _ hle0 ⟨hkk, rfl, hno⟩; replace hs := hs.mono hle0
 try dsimp only at ⊢
 refine XC.seq ?_; refine XC.seq ?_; refine XC.region ?_; refine XO.move rfl rfl ?_; refine XO.move rfl rfl ?_; refine XO.lenS (ts := #[]) rfl Try.underlying25 rfl ?_; refine XO.lss rfl rfl rfl ?_; refine XO.nil ?_; refine XC.seq2 ?_; refine XC.cond rfl (fun c0_1 => ?_) (fun c0_1 => ?_)
 ·refine XC.skip ?_; refine XC.seq2 ?_; refine XC.seq ?_; refine XC.block ?_; refine XC.seq ?_; refine XC.region ?_; refine XO.move rfl rfl ?_; refine XO.move rfl rfl ?_; refine XO.indexN rfl hs rfl Try.underlying25 ty_3 (by omega) rfl ?_; rintro eb14 eo14 _ x14 hx14 rfl hp14; refine XO.loadH rfl (by assumption) ty_3 rfl rfl rfl ?_; refine XO.move rfl rfl ?_; refine XO.eql rfl rfl rfl ?_; refine XO.nil ?_; refine XC.seq2 ?_; refine XC.cond rfl (fun c1_3 => ?_) (fun c1_3 => ?_)
  ·refine XC.seq ?_; refine XC.region ?_; refine XO.assign rfl rfl ?_; refine XO.nil ?_; refine XC.seq2 ?_; refine XC.ret ?_; refine blockR ?_; refine seqX_ret ?_; refine loopX_ret ?_; refine blockR ?_; refine seqX_ret ?_; refine ⟨rfl, _, [], rfl, (by repeat (first | exact List.Sublist.refl _ | apply List.Sublist.cons)), RetR.mk ?_⟩
   exact congrArg Value.bool (decide_eq_true ((show x14 = x by omega) ▸ List.mem_of_getElem? hx14)).symm
  ·refine XC.skip ?_; refine blockN ?_; refine XC.seq2 ?_; refine XC.region ?_; refine XO.move rfl rfl ?_; refine XO.add rfl rfl (wrap_i64 (by omega) (by omega)) rfl ?_; refine XO.assign rfl rfl ?_; refine XO.nil ?_; refine loop_next (k + 1) (by show l.length - (k + 1) < l.length - k; omega) (prov_cons (rfl) (prov_cons (rfl) (prov_cons (rfl) prov_nil))) (⟨by show k + 1 ≤ l.length; omega, rfl, all_snoc hno hx14 (by omega)⟩) (by repeat (first | exact List.Sublist.refl _ | apply List.Sublist.cons_cons | apply List.Sublist.cons)) (hle0)
 ·obtain rfl : k = l.length := by omega
  rw [List.take_length] at hno
  refine XC.exit ?_; refine seqX_exit ?_; refine loopX_exit ?_; refine blockHit rfl ?_; refine XC.seq2 ?_; refine XC.seq ?_; refine XC.region ?_; refine XO.assign rfl rfl ?_; refine XO.nil ?_; refine XC.seq2 ?_; refine XC.ret ?_; refine ⟨rfl, _, [], rfl, (by repeat (first | exact List.Sublist.refl _ | apply List.Sublist.cons)), RetR.mk ?_⟩
  exact congrArg Value.bool (decide_eq_false (fun h => hno x h rfl)).symm

theorem nan_fn (x : Int) (H : Hp) : FnC Try.prog 50 #[.int .i64 x] H [] (RetR (fun v _ _ => v = .bool false)) := by
 refine FnC.intro (args := [.int .i64 x]) Try.func50 rfl rfl Try.ntmps50 rfl rfl rfl fun G rest => ?_
 refine XC.seq ?_; refine XC.region ?_; refine XO.assign rfl rfl ?_; refine XO.nil ?_; refine XC.seq2 ?_; refine XC.seq ?_; refine XC.region ?_; refine XO.move rfl rfl ?_; refine XO.move rfl rfl ?_; refine XO.neq rfl rfl rfl ?_; refine XO.assign rfl rfl ?_; refine XO.nil ?_; refine XC.seq2 ?_; refine XC.ret ?_; refine ⟨rfl, _, [], rfl, (by repeat (first | exact List.Sublist.refl _ | apply List.Sublist.cons)), RetR.mk ?_⟩
 exact congrArg Value.bool (decide_eq_false (fun h => h rfl))

theorem cmp_fn (x y : Int) (H : Hp) : FnC Try.prog 35 #[.int .i64 x, .int .i64 y] H [] (RetR (fun v _ _ => v = .int .i64 (sgn x y))) := by
 refine FnC.intro (args := [.int .i64 x, .int .i64 y]) Try.func35 rfl rfl Try.ntmps35 rfl rfl rfl fun G rest => ?_
 refine XC.seq ?_; refine XC.region ?_; refine XO.assign rfl rfl ?_; refine XO.nil ?_; refine XC.seq2 ?_; refine XC.seq ?_; refine XC.region ?_; refine XO.move rfl rfl ?_; refine XO.callV rfl (nan_fn x _) rfl ?_; refine XO.assign rfl rfl ?_; refine XO.nil ?_; refine XC.seq2 ?_; refine XC.seq ?_; refine XC.region ?_; refine XO.move rfl rfl ?_; refine XO.callV rfl (nan_fn y _) rfl ?_; refine XO.assign rfl rfl ?_; refine XO.nil ?_; refine XC.seq2 ?_; refine XC.seq ?_; refine XC.seq ?_; refine XC.region ?_; refine XO.move rfl rfl ?_; refine XO.nil ?_; refine XC.seq2 ?_; refine XC.condF rfl (rfl) ?_; refine XC.skip ?_; refine XC.seq2 ?_; refine XC.seq ?_; refine XC.seq ?_; refine XC.region ?_; refine XO.move rfl rfl ?_; refine XO.nil ?_; refine XC.seq2 ?_; refine XC.condF rfl (rfl) ?_; refine XC.skip ?_; refine XC.seq2 ?_; refine XC.seq ?_; refine XC.seq ?_; refine XC.region ?_; refine XO.move rfl rfl ?_; refine XO.move rfl rfl ?_; refine XO.lss rfl rfl rfl ?_; refine XO.nil ?_; refine XC.seq2 ?_; refine XC.cond rfl (fun c3_3 => ?_) (fun c3_3 => ?_)
 ·refine XC.seq ?_; refine XC.region ?_; refine XO.assign rfl rfl ?_; refine XO.nil ?_; refine XC.seq2 ?_; refine XC.ret ?_; refine seqX_ret ?_; refine ⟨rfl, _, [], rfl, (by repeat (first | exact List.Sublist.refl _ | apply List.Sublist.cons)), RetR.mk ?_⟩
  first | exact congrArg (Value.int .i64) (sgn_lt (by assumption)).symm | exact congrArg (Value.int .i64) (sgn_gt (by assumption)).symm | exact congrArg (Value.int .i64) (sgn_eq (by assumption) (by assumption)).symm
 ·refine XC.skip ?_; refine XC.seq2 ?_; refine XC.seq ?_; refine XC.seq ?_; refine XC.region ?_; refine XO.move rfl rfl ?_; refine XO.move rfl rfl ?_; refine XO.gtr rfl rfl rfl ?_; refine XO.nil ?_; refine XC.seq2 ?_; refine XC.cond rfl (fun c4_4 => ?_) (fun c4_4 => ?_)
  ·refine XC.seq ?_; refine XC.region ?_; refine XO.assign rfl rfl ?_; refine XO.nil ?_; refine XC.seq2 ?_; refine XC.ret ?_; refine seqX_ret ?_; refine ⟨rfl, _, [], rfl, (by repeat (first | exact List.Sublist.refl _ | apply List.Sublist.cons)), RetR.mk ?_⟩
   first | exact congrArg (Value.int .i64) (sgn_lt (by assumption)).symm | exact congrArg (Value.int .i64) (sgn_gt (by assumption)).symm | exact congrArg (Value.int .i64) (sgn_eq (by assumption) (by assumption)).symm
  ·refine XC.skip ?_; refine XC.seq2 ?_; refine XC.seq ?_; refine XC.region ?_; refine XO.assign rfl rfl ?_; refine XO.nil ?_; refine XC.seq2 ?_; refine XC.ret ?_; refine ⟨rfl, _, [], rfl, (by repeat (first | exact List.Sublist.refl _ | apply List.Sublist.cons)), RetR.mk ?_⟩
   first | exact congrArg (Value.int .i64) (sgn_lt (by assumption)).symm | exact congrArg (Value.int .i64) (sgn_gt (by assumption)).symm | exact congrArg (Value.int .i64) (sgn_eq (by assumption) (by assumption)).symm

theorem compare_fn (a b : Option Addr) (c d : Nat) (l m : List Int) (H : Hp) (hs : SlR (intR .i64) H a c l) (ht : SlR (intR .i64) H b d m) (hl : l.length < 9223372036854775808) (hm : m.length < 9223372036854775808) : FnC Try.prog 57 #[.slice a l.length c, .slice b m.length d] H [] (RetR (fun v _ _ => v = .int .i64 (cmpL l m))) := by
 refine FnC.intro (args := [.slice a l.length c, .slice b m.length d]) Try.func57 rfl rfl Try.ntmps57 rfl rfl rfl fun G rest => ?_
 refine XC.seq ?_; refine XC.region ?_; refine XO.assign rfl rfl ?_; refine XO.nil ?_; refine XC.seq2 ?_; refine XC.seq ?_; refine XC.seq ?_; refine XC.region ?_; refine XO.move rfl rfl ?_; refine XO.lenS (ts := #[]) rfl Try.underlying25 rfl ?_; refine XO.move rfl rfl ?_; refine XO.nil ?_; refine XC.seq2 ?_; refine XC.block ?_; refine XC.keep [11, 0, 1, 9, 10] rfl ?_; refine XC.loop (base := [(0, _), (1, _), (9, _), (10, _)]) (fun ζ : Nat => [(11, .int .i64 (ζ : Nat))]) (fun ζ Hl own => ζ ≤ l.length ∧ rest = own ∧ (cmpL l m = cmpL (l.drop (ζ)) (m.drop (ζ)))) (fun ζ => l.length - ζ) 0 (prov_cons (rfl) (prov_cons (rfl) (prov_cons (rfl) (prov_cons (rfl) (prov_cons (rfl) prov_nil))))) (by repeat (first | exact List.Sublist.refl _ | apply List.Sublist.cons_cons | apply List.Sublist.cons)) ⟨Nat.zero_le _, rfl, rfl⟩ ?_; rintro k Hl0 _ hle0 ⟨hkk, rfl, hc⟩; replace hs := hs.mono hle0; replace ht := ht.mono hle0
 try dsimp only at ⊢
 refine XC.seq ?_; refine XC.region ?_; refine XO.lss rfl rfl rfl ?_; refine XO.nil ?_; refine XC.seq2 ?_; refine XC.seq ?_; refine XC.cond rfl (fun c0_1 => ?_) (fun c0_1 => ?_)
 ·refine XC.skip ?_; refine XC.seq2 ?_; refine XC.seq ?_; refine XC.block ?_; refine XC.seq ?_; refine XC.region ?_; refine XO.move rfl rfl ?_; refine XO.indexN rfl hs rfl Try.underlying25 ty_3 (by omega) rfl ?_; rintro eb14 eo14 _ x14 hx14 rfl hp14; refine XO.loadH rfl (by assumption) ty_3 rfl rfl rfl ?_; refine XO.assign rfl rfl ?_; refine XO.assign rfl rfl ?_; refine XO.nil ?_; refine XC.seq2 ?_; refine XC.seq ?_; refine XC.seq ?_; refine XC.region ?_; refine XO.move rfl rfl ?_; refine XO.move rfl rfl ?_; refine XO.lenS (ts := #[]) rfl Try.underlying25 rfl ?_; refine XO.geq rfl rfl rfl ?_; refine XO.nil ?_; refine XC.seq2 ?_; refine XC.cond rfl (fun c1_3 => ?_) (fun c1_3 => ?_)
  ·refine XC.seq ?_; refine XC.region ?_; refine XO.assign rfl rfl ?_; refine XO.nil ?_; refine XC.seq2 ?_; refine XC.ret ?_; refine seqX_ret ?_; refine blockR ?_; refine seqX_ret ?_; refine loopX_ret ?_; refine blockR ?_; refine seqX_ret ?_; refine ⟨rfl, _, [], rfl, (by repeat (first | exact List.Sublist.refl _ | apply List.Sublist.cons)), RetR.mk ?_⟩
   first | exact congrArg (Value.int .i64) (cmp_long hc hx14 (by omega)) | exact congrArg (Value.int .i64) (cmp_ne hc hx14 hx22 (by assumption)) | exact congrArg (Value.int .i64) (by rw [hce, if_pos (by omega)]) | exact congrArg (Value.int .i64) (by rw [hce, if_neg (by omega)])
  ·refine XC.skip ?_; refine XC.seq2 ?_; refine XC.seq ?_; refine XC.region ?_; refine XO.move rfl rfl ?_; refine XO.move rfl rfl ?_; refine XO.indexN rfl ht rfl Try.underlying25 ty_3 (by omega) rfl ?_; rintro eb22 eo22 _ x22 hx22 rfl hp22; refine XO.loadH rfl (by assumption) ty_3 rfl rfl rfl ?_; refine XO.assign rfl rfl ?_; refine XO.nil ?_; refine XC.seq2 ?_; refine XC.seq ?_; refine XC.region ?_; refine XO.move rfl rfl ?_; refine XO.move rfl rfl ?_; refine XO.callV rfl (cmp_fn x14 x22 _) rfl ?_; refine XO.assign rfl rfl ?_; refine XO.nil ?_; refine XC.seq2 ?_; refine XC.seq ?_; refine XC.region ?_; refine XO.move rfl rfl ?_; refine XO.neq rfl rfl rfl ?_; refine XO.nil ?_; refine XC.seq2 ?_; refine XC.cond rfl (fun c2_6 => ?_) (fun c2_6 => ?_)
   ·refine XC.seq ?_; refine XC.region ?_; refine XO.move rfl rfl ?_; refine XO.assign rfl rfl ?_; refine XO.nil ?_; refine XC.seq2 ?_; refine XC.ret ?_; refine blockR ?_; refine seqX_ret ?_; refine loopX_ret ?_; refine blockR ?_; refine seqX_ret ?_; refine ⟨rfl, _, [], rfl, (by repeat (first | exact List.Sublist.refl _ | apply List.Sublist.cons)), RetR.mk ?_⟩
    first | exact congrArg (Value.int .i64) (cmp_long hc hx14 (by omega)) | exact congrArg (Value.int .i64) (cmp_ne hc hx14 hx22 (by assumption)) | exact congrArg (Value.int .i64) (by rw [hce, if_pos (by omega)]) | exact congrArg (Value.int .i64) (by rw [hce, if_neg (by omega)])
   ·refine XC.skip ?_; refine blockN ?_; refine XC.seq2 ?_; refine XC.region ?_; refine XO.add rfl rfl (wrap_i64 (by omega) (by omega)) rfl ?_; refine XO.move rfl rfl ?_; refine XO.nil ?_; refine loop_next (k + 1) (by show l.length - (k + 1) < l.length - k; omega) (prov_cons (rfl) (prov_cons (rfl) (prov_cons (rfl) (prov_cons (rfl) (prov_cons (rfl) prov_nil))))) (⟨by show k + 1 ≤ l.length; omega, rfl, cmp_eq hc hx14 hx22 (by omega)⟩) (by repeat (first | exact List.Sublist.refl _ | apply List.Sublist.cons_cons | apply List.Sublist.cons)) (hle0)
 ·obtain rfl : k = l.length := by omega
  have hce := cmp_end hc (Nat.le_refl _)
  refine XC.exit ?_; refine seqX_exit ?_; refine loopX_exit ?_; refine blockHit rfl ?_; refine XC.seq2 ?_; refine XC.seq ?_; refine XC.seq ?_; refine XC.region ?_; refine XO.move rfl rfl ?_; refine XO.lenS (ts := #[]) rfl Try.underlying25 rfl ?_; refine XO.move rfl rfl ?_; refine XO.lenS (ts := #[]) rfl Try.underlying25 rfl ?_; refine XO.lss rfl rfl rfl ?_; refine XO.nil ?_; refine XC.seq2 ?_; refine XC.cond rfl (fun c3_7 => ?_) (fun c3_7 => ?_)
  ·refine XC.seq ?_; refine XC.region ?_; refine XO.assign rfl rfl ?_; refine XO.nil ?_; refine XC.seq2 ?_; refine XC.ret ?_; refine seqX_ret ?_; refine ⟨rfl, _, [], rfl, (by repeat (first | exact List.Sublist.refl _ | apply List.Sublist.cons)), RetR.mk ?_⟩
   first | exact congrArg (Value.int .i64) (cmp_long hc hx14 (by omega)) | exact congrArg (Value.int .i64) (cmp_ne hc hx14 hx22 (by assumption)) | exact congrArg (Value.int .i64) (by rw [hce, if_pos (by omega)]) | exact congrArg (Value.int .i64) (by rw [hce, if_neg (by omega)])
  ·refine XC.skip ?_; refine XC.seq2 ?_; refine XC.seq ?_; refine XC.region ?_; refine XO.assign rfl rfl ?_; refine XO.nil ?_; refine XC.seq2 ?_; refine XC.ret ?_; refine ⟨rfl, _, [], rfl, (by repeat (first | exact List.Sublist.refl _ | apply List.Sublist.cons)), RetR.mk ?_⟩
   first | exact congrArg (Value.int .i64) (cmp_long hc hx14 (by omega)) | exact congrArg (Value.int .i64) (cmp_ne hc hx14 hx22 (by assumption)) | exact congrArg (Value.int .i64) (by rw [hce, if_pos (by omega)]) | exact congrArg (Value.int .i64) (by rw [hce, if_neg (by omega)])

end Go.Proofs

/- Conflicts: facts checked, counted and found, in plain Lean. -/
set_option autoImplicit false
set_option linter.unusedVariables false
set_option linter.unusedSimpArgs false
namespace Go.Proofs
open Go.XL
def orL (l : List Int) : Int := (l.find? fun x => decide (x ≠ 0)).getD 0
theorem or_at {l : List Int} {k : Nat} {x : Int} (h : ∀ y ∈ l.take k, ¬ y ≠ 0) (hx : l[k]? = some x) (h0 : x ≠ 0) : x = orL l := by
 unfold orL
 have e : l = l.take k ++ x :: l.drop (k + 1) := by rw [← drop_cons hx, List.take_append_drop]
 rw [e, List.find?_append, List.find?_eq_none.2 (fun y hy => by simpa using h y hy), Option.none_or, List.find?_cons_of_pos (by simpa using h0)]; rfl
theorem or_no {l : List Int} (h : ∀ y ∈ l, ¬ y ≠ 0) : (0 : Int) = orL l := by
 unfold orL; rw [List.find?_eq_none.2 (fun y hy => by simpa using h y hy)]; rfl
theorem or_two (a b : Int) : orL [a, b] = if a = 0 then b else a := by
 unfold orL
 by_cases ha : a = 0
 ·by_cases hb : b = 0 <;> simp [ha, hb]
 ·simp [ha]
theorem ord_or (l m : List Int) : orL [sgn l.length m.length, cmpL l m] = ordL l m := by rw [or_two]; rfl
theorem sb1 {l m : List Int} (h : ¬ (l.length : Int) = (m.length : Int)) : false = decide (l = m) := (decide_eq_false fun e => h (by rw [e])).symm
theorem sb2 {l m : List Int} (h : (!befL l m) = false) : false = decide (l = m) := (decide_eq_false fun e => by have := (same_bef.1 e).2.1; simp_all).symm
theorem sb3 {l m : List Int} (h : (l.length : Int) = (m.length : Int)) (h2 : (!befL l m) = true) : (!befL m l) = decide (l = m) := by
 by_cases e : l = m
 ·have := (same_bef.1 e).2.2
  rw [decide_eq_true e]; simpa using this
 ·rw [decide_eq_false e]
  cases h3 : befL m l with
  | true => rfl
  | false => exact absurd (same_bef.2 ⟨by omega, by simpa using h2, by simp [h3]⟩) e
def okB : Int → Fs → Bool
 | _, [] => true
 | last, x :: t => decide (validP x) && decide (last < x.No) && okB x.No t
def chkF (l : Fs) : Int := if 1024 < l.length then 2 else if okB (-1) l = true then 0 else 270
theorem ok_y {last : Int} {l : Fs} {k : Nat} {x : Fa} {b : Bool} (h : b = okB last (l.drop k)) (hx : l[k]? = some x) (h1 : validP x) (h2 : last < x.No) : b = okB x.No (l.drop (k + 1)) := by
 rw [h, drop_cons hx, okB, decide_eq_true h1, decide_eq_true h2]; rfl
theorem ok_n {last : Int} {l : Fs} {k : Nat} {x : Fa} {b : Bool} (h : b = okB last (l.drop k)) (hx : l[k]? = some x) (hn : ¬ (validP x ∧ last < x.No)) : b = false := by
 rw [h, drop_cons hx, okB]
 cases hb : decide (validP x) && decide (last < x.No)
 ·rfl
 ·rw [Bool.and_eq_true, decide_eq_true_eq, decide_eq_true_eq] at hb; exact absurd hb hn
theorem chk_2 {l : Fs} (h : 1024 < l.length) : chkF l = 2 := if_pos h
theorem chk_270 {l : Fs} (h : ¬ 1024 < l.length) (h2 : okB (-1) l = false) : chkF l = 270 := by unfold chkF; rw [if_neg h, if_neg (by rw [h2]; decide)]
theorem chk_0 {l : Fs} (h : ¬ 1024 < l.length) (h2 : okB (-1) l = true) : chkF l = 0 := by unfold chkF; rw [if_neg h, if_pos h2]
def lastN (l : Fs) (k : Nat) : Int := if k = 0 then -1 else (l[k - 1]?.map Fa.No).getD 0
theorem last_at {l : Fs} {k : Nat} {p : Fa} (h : 0 < k) (hp : l[k - 1]? = some p) : lastN l k = p.No := by unfold lastN; rw [if_neg (by omega), hp]; rfl
theorem last_s {l : Fs} {k : Nat} {x : Fa} (hx : l[k]? = some x) : x.No = lastN l (k + 1) := by unfold lastN; rw [if_neg (by omega), Nat.add_sub_cancel, hx]; rfl
def errC (l : Fs) (a b day time : Int) : Int := if chkF l = 0 then (if (((((idP a ∧ idP b) ∧ 0 ≤ day) ∧ day < 2097152) ∧ 0 ≤ time) ∧ time < 2097152) then 0 else 1) else chkF l
theorem err_chk {l : Fs} {a b day time : Int} (h : chkF l ≠ 0) : chkF l = errC l a b day time := by unfold errC; rw [if_neg h]
theorem err_1 {l : Fs} {a b day time : Int} (h : ¬ chkF l ≠ 0) (h2 : ¬ (((((idP a ∧ idP b) ∧ 0 ≤ day) ∧ day < 2097152) ∧ 0 ≤ time) ∧ time < 2097152)) : (1 : Int) = errC l a b day time := by unfold errC; rw [if_pos (Decidable.not_not.1 h), if_neg h2]
theorem err_0 {l : Fs} {a b day time : Int} (h : ¬ chkF l ≠ 0) (h2 : (((((idP a ∧ idP b) ∧ 0 ≤ day) ∧ day < 2097152) ∧ 0 ≤ time) ∧ time < 2097152)) : (0 : Int) = errC l a b day time := by unfold errC; rw [if_pos (Decidable.not_not.1 h), if_pos h2]
def cntF (l : Fs) (day time : Int) : Fs := l.filter fun f => decide (cntP f day time)
theorem cnt_y {l : Fs} {k : Nat} {x : Fa} {day time : Int} (hx : l[k]? = some x) (h : cntP x day time) : cntF (l.take k) day time ++ [x] = cntF (l.take (k + 1)) day time := by
 unfold cntF; rw [take_snoc hx, List.filter_append]; simp [h]
theorem cnt_n {l : Fs} {k : Nat} {x : Fa} {day time : Int} (hx : l[k]? = some x) (h : ¬ cntP x day time) : cntF (l.take k) day time = cntF (l.take (k + 1)) day time := by
 unfold cntF; rw [take_snoc hx, List.filter_append]; simp [h]
theorem cnt_len (l : Fs) (day time : Int) (k : Nat) : (cntF (l.take k) day time).length ≤ k := by
 have h1 := List.length_filter_le (fun f => decide (cntP f day time)) (l.take k)
 unfold cntF
 have h2 : (l.take k).length ≤ k := by rw [List.length_take]; omega
 omega
def f0 : Fa := ⟨0, 0, 0, 0, 0, 0, 0, 0⟩
def findN (l : Fs) (n : Int) : Option Fa := l.find? fun f => decide (f.No = n)
def fndV (o : Option Fa) : Value := .tuple #[.agg ⟨faV (o.getD f0)⟩, .bool o.isSome]
theorem find_at {l : Fs} {k : Nat} {x : Fa} {n : Int} (h : ∀ y ∈ l.take k, ¬ y.No = n) (hx : l[k]? = some x) (h0 : x.No = n) : findN l n = some x := by
 unfold findN
 have e : l = l.take k ++ x :: l.drop (k + 1) := by rw [← drop_cons hx, List.take_append_drop]
 rw [e, List.find?_append, List.find?_eq_none.2 (fun y hy => by simpa using h y hy), Option.none_or, List.find?_cons_of_pos (by simpa using h0)]
theorem find_no {l : Fs} {n : Int} (h : ∀ y ∈ l, ¬ y.No = n) : findN l n = none := List.find?_eq_none.2 fun y hy => by simpa using h y hy
end Go.Proofs
