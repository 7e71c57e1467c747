/- Drawn regions with a store: one operation changes a block that was there before, and what must run before it still finds it as it was. No statement of the program stands here. -/
import Derived.Test.YtamnnngilmgbgaaB2
import Derived.Lib.AppendStr
import Derived.Lib.ConvBytes
import Derived.Lib.BytesEntry
import Derived.Test.YtamnnngilmgbgaaProg
set_option autoImplicit false
set_option linter.unusedSimpArgs false
set_option linter.unusedVariables false
namespace Go.XL
def befI (l : List Oper) (i0 k : Nat) : Bool := match l[i0]? with
 | some o => o.after.toList.any fun e => Region.binds .any e && Nat.beq e.on k
 | none => false
def foS (i0 k : Nat) (FOa : Nat × SObj → Hp → Prop) (FO2 : Nat × SObj → Hp → Prop) (e0 : Nat × SObj) : Value → Nat × SObj → Hp → Prop := fun _ e H => if k = i0 then FO2 e H else e = e0
def stepsS (Gd : Hp → Prop) (i0 : Nat) (FOa : Nat × SObj → Hp → Prop) (FO2 : Nat × SObj → Hp → Prop) (C : Ctx) (l : List Oper) (F : List (Value → Hp → Prop)) (env : Env) (df : List Deferred) (H : Hp) (own : Own) (m : Nat) : Nat → List Oper → Prop
  | _, [] => True
  | k, o :: rest => bif Nat.blt k m then
      (∀ X e H', Le H H' → Gd H' → ((k = i0 ∨ befI l i0 k = true) → FOa e H') → withP l F H' (predsG o) [] fun acc => XO C l.toArray (stepQV Gd o.dst (factAt F k) (foS i0 k FOa FO2 e) (acc ++ (env ++ X)) df own) [o] ⟨acc ++ (env ++ X), df, H', e :: own⟩) ∧ stepsS Gd i0 FOa FO2 C l F env df H own m (k + 1) rest
    else True
theorem stepsS_cons {Gd : Hp → Prop} {i0 : Nat} {FOa : Nat × SObj → Hp → Prop} {FO2 : Nat × SObj → Hp → Prop} {C : Ctx} {l : List Oper} {F : List (Value → Hp → Prop)} {env : Env} {df : List Deferred} {H : Hp} {own : Own} {m k : Nat} {o : Oper} {rest : List Oper} (hk : Nat.blt k m = true)
  (h : ∀ X e H', Le H H' → Gd H' → ((k = i0 ∨ befI l i0 k = true) → FOa e H') → withP l F H' (predsG o) [] fun acc => XO C l.toArray (stepQV Gd o.dst (factAt F k) (foS i0 k FOa FO2 e) (acc ++ (env ++ X)) df own) [o] ⟨acc ++ (env ++ X), df, H', e :: own⟩) (k2 : stepsS Gd i0 FOa FO2 C l F env df H own m (k + 1) rest) : stepsS Gd i0 FOa FO2 C l F env df H own m k (o :: rest) := by
 rw [stepsS, hk]; exact ⟨h, k2⟩
theorem stepsS_end {Gd : Hp → Prop} {i0 : Nat} {FOa : Nat × SObj → Hp → Prop} {FO2 : Nat × SObj → Hp → Prop} {C : Ctx} {l : List Oper} {F : List (Value → Hp → Prop)} {env : Env} {df : List Deferred} {H : Hp} {own : Own} {m k : Nat} {rest : List Oper} (hk : Nat.blt k m = false) : stepsS Gd i0 FOa FO2 C l F env df H own m k rest := by
 cases rest with
 | nil => trivial
 | cons o r => rw [stepsS, hk]; trivial
section
variable {C : Ctx} {Q : Exit → St → Prop} {env : Env} {df : List Deferred} {H : Hp} {own : Own}
theorem stepsS_at {Gd : Hp → Prop} {i0 : Nat} {FOa : Nat × SObj → Hp → Prop} {FO2 : Nat × SObj → Hp → Prop} {l : List Oper} {F : List (Value → Hp → Prop)} {m : Nat} : ∀ (rest : List Oper) (k : Nat), stepsS Gd i0 FOa FO2 C l F env df H own m k rest → ∀ (i : Nat) (o : Oper), rest[i]? = some o → k + i < m →
    ∀ X e H', Le H H' → Gd H' → ((k + i = i0 ∨ befI l i0 (k + i) = true) → FOa e H') → withP l F H' (predsG o) [] fun acc => XO C l.toArray (stepQV Gd o.dst (factAt F (k + i)) (foS i0 (k + i) FOa FO2 e) (acc ++ (env ++ X)) df own) [o] ⟨acc ++ (env ++ X), df, H', e :: own⟩
  | [], k, _, i, o, hi, _ => by simp at hi
  | x :: rest, k, h, i, o, hi, hlt => by
    simp only [stepsS] at h
    rw [show Nat.blt k m = true by simp; omega] at h
    cases i with
    | zero => simp only [List.getElem?_cons_zero, Option.some.injEq] at hi; subst hi; exact h.1
    | succ i =>
      have := stepsS_at rest (k + 1) h.2 i o (by simpa using hi) (by omega)
      rwa [show k + 1 + i = k + (i + 1) by omega] at this
theorem XC.drawS (Gd : Hp → Prop) (hG : Gd H) (i0 : Nat) (FOa : Nat × SObj → Hp → Prop) (FO2 : Nat × SObj → Hp → Prop) (hFOa : ∀ p H H', Le H H' → FOa p H → FOa p H') (hFO2 : ∀ p H H', Le H H' → FO2 p H → FO2 p H') {id : Nat} {l : List Oper} (m : Nat) (F : List (Value → Hp → Prop)) (hm : C.P.follows .mixedOrders = true) (hck : drawOkH m l (env.map Prod.fst) = true) (hmono' : monoL F)
    (hi0 : Nat.blt i0 m = true) {q : Nat × SObj} (hq0 : FOa q H) (steps : stepsS Gd i0 FOa FO2 C l F env df H own m 0 l)
    (tail : ∀ H', Le H H' → Gd H' → withP l F H' (List.range m) [] fun acc => ∀ e, FO2 e H' → XO C l.toArray Q (l.drop m) ⟨acc ++ env, df, H', e :: own⟩) : XC C (.region id l.toArray true) Q ⟨env, df, H, q :: own⟩ := by
  have hmono := monoF_of hmono'
  intro a₀ w₀ hr₀
  refine wpIn_region_any hm ?_
  simp only [drawOkH, Bool.and_eq_true, List.all_eq_true, List.mem_range] at hck
  obtain ⟨⟨hml, hck1⟩, hck2⟩ := hck
  have hml := Nat.le_of_ble_eq_true hml
  have hpre : ∀ i, i < m → ∃ o, l[i]? = some o ∧ (∀ t, o.dst = some t → t ∉ env.map Prod.fst ∧ (∀ j, j < m → i ≠ j → dstOf l j ≠ some t)) ∧ (∀ e ∈ o.after, Region.binds .any e = true → e.on < i) ∧ (∀ j ∈ predsG o, j < m ∧ ∃ e ∈ o.after, Region.binds .any e = true ∧ e.on = j) := by
    intro i hi
    have h := hck1 i hi
    split at h
    · rename_i o ho
      simp only [Bool.and_eq_true, List.all_eq_true] at h
      obtain ⟨⟨⟨hnd, hd⟩, haf⟩, hp⟩ := h
      refine ⟨o, ho, ?_, ?_, ?_⟩
      · intro t ht
        rw [ht] at hd
        simp only [Bool.and_eq_true, List.all_eq_true, List.mem_range, Bool.not_eq_true', List.contains_eq_mem, decide_eq_false_iff_not] at hd
        refine ⟨hd.1, fun j hj hne he => ?_⟩
        have := hd.2 j hj
        rw [he] at this
        simp at this
        exact hne this
      · intro e he hb
        have := haf e (by simpa using he)
        simpa [hb] using this
      · intro j hj
        have := hp j hj
        simp only [List.any_eq_true, Bool.and_eq_true] at this
        obtain ⟨h1, e, he, hb, hon⟩ := this
        exact ⟨by simpa using h1, e, by simpa using he, hb, Nat.eq_of_beq_eq_true hon⟩
    · cases h
  have hkey : ∀ i t, i < m → dstOf l i = some t → t ∉ env.map Prod.fst := by
    intro i t hi ht
    obtain ⟨o, ho, hd, _⟩ := hpre i hi
    exact (hd t (by simpa [dstOf, ho] using ht)).1
  have hdis : ∀ i j t, i < m → j < m → dstOf l i = some t → dstOf l j = some t → i = j := by
    intro i j t hi hj ht ht2
    obtain ⟨o, ho, hd, _⟩ := hpre i hi
    by_cases h : i = j
    · exact h
    · exact absurd ht2 ((hd t (by simpa [dstOf, ho] using ht)).2 j hj h)
  have htl : ∀ (i : Nat) (o : Oper), m ≤ i → l[i]? = some o → (∀ j, j < i → waitsB l l.length o j = true) ∧ (∀ e ∈ o.after, Region.binds .any e = true → e.on < i) := by
    intro i o hi ho
    have hlt := (List.getElem?_eq_some_iff.1 ho).1
    have h := hck2 i hlt
    rw [ho] at h
    rw [show Nat.blt i m = false from blt_ge hi] at h
    simp only [Bool.false_or, Bool.and_eq_true, List.all_eq_true, List.mem_range] at h
    refine ⟨fun j hj => h.1 j hj, fun e he hb => ?_⟩
    · have := h.2 e (by simpa using he)
      simpa [hb] using this
  have hdc : ∀ (i : Nat) (o : Oper), l[i]? = some o → ∀ e ∈ o.after, Region.binds .any e = true → e.on < i := by
    intro i o ho
    rcases Nat.lt_or_ge i m with h | h
    · obtain ⟨o2, ho2, _, haf, _⟩ := hpre i h
      rw [ho] at ho2; cases ho2; exact haf
    · exact (htl i o h ho).2
  have main : ∀ (fuel : Nat) (L : Array Bool) (a : Act) (w : World) (val : Nat → Value) (ent : Nat × SObj) (H' : Hp), L.size = l.length → unl l.length L ≤ fuel → Le H H' → Gd H' → (∀ (i : Nat) (o : Oper), l[i]? = some o → lst L i = true → ∀ e ∈ o.after, Region.binds .any e = true → lst L e.on = true) → (∀ j, m ≤ j → lst L j = false) →
      a.tmps.size = C.N → (∀ t v, env.get t = some v → a.tmps.getD t undef = v) → (∃ ms : List Nat, a.defers = ms.map mark ++ df ∧ Ok C.G H' ((ent :: own) ++ (ms.map hid ++ C.hid)) w) → (if lst L i0 = true then FO2 ent H' else FOa ent H') →
      (∀ i, i < m → lst L i = true → ∀ t, dstOf l i = some t → a.tmps.getD t undef = val i ∧ factAt F i (val i) H') →
      wpAnyIn (Fr C.r) 0 C.P .any l.toArray (lift C H Q) fuel L a w := by
    intro fuel
    have done : ∀ (fuel : Nat) (L : Array Bool) (a : Act) (w : World) (val : Nat → Value) (ent : Nat × SObj) (H' : Hp), L.size = l.length → unl l.length L ≤ fuel → Le H H' → Gd H' → (∀ j, m ≤ j → lst L j = false) →
        a.tmps.size = C.N → (∀ t v, env.get t = some v → a.tmps.getD t undef = v) → (∃ ms : List Nat, a.defers = ms.map mark ++ df ∧ Ok C.G H' ((ent :: own) ++ (ms.map hid ++ C.hid)) w) → (if lst L i0 = true then FO2 ent H' else FOa ent H') →
        (∀ i, i < m → lst L i = true → ∀ t, dstOf l i = some t → a.tmps.getD t undef = val i ∧ factAt F i (val i) H') → (∀ j, j < m → lst L j = true) →
        wpAnyIn (Fr C.r) 0 C.P .any l.toArray (lift C H Q) fuel L a w := by
      intro fuel L a w val ent H' hs hu hle hGd hT hsz henv hok hents hfacts hall
      obtain ⟨acc', hk, hmem⟩ := withP_of (val := val) (List.range m) [] _ (tail H' hle hGd) (fun j hj t ht => (hfacts j (List.mem_range.1 hj) (hall j (List.mem_range.1 hj)) t ht).2)
      have hcount : l.length - m ≤ fuel := by rw [count_tail hml hall hT]; exact hu
      refine drawTail (m := m) htl hdc fuel m L a w (Nat.le_refl _) hs hcount hml ?_ ?_
      · intro j
        rcases Nat.lt_or_ge j m with h | h
        · rw [hall j h]; simp [h]
        · rw [hT j h]; simp; omega
      · have him0 : i0 < m := by simpa using hi0
        have hk2 := hk ent (by rw [if_pos (hall i0 him0)] at hents; exact hents)
        refine wpList_mono hle _ _ _ (hk2 a w ⟨hsz, ?_, hok⟩)
        intro t v hg
        simp only [List.append_nil] at hg
        rw [Env.get_append] at hg
        cases hga : Env.get acc' t with
        | none => rw [hga] at hg; exact henv t v (by simpa using hg)
        | some u =>
          rw [hga] at hg; simp at hg; subst hg
          obtain ⟨j, hj, hd, rfl⟩ := hmem t u (get_mem _ _ _ hga)
          have hj := List.mem_range.1 hj
          exact (hfacts j hj (hall j hj) t hd).1
    induction fuel with
    | zero =>
      intro L a w val ent H' hs hu hle hGd hdown hT hsz henv hok hents hfacts
      refine done 0 L a w val ent H' hs hu hle hGd hT hsz henv hok hents hfacts ?_
      intro j hj
      cases hx : lst L j with
      | true => rfl
      | false =>
        have := unl_set (L := L) (i := j) hs (by omega) hx
        omega
    | succ fuel ih =>
      intro L a w val ent H' hs hu hle hGd hdown hT hsz henv hok hents hfacts
      by_cases hall : ∀ j, j < m → lst L j = true
      · exact done (fuel + 1) L a w val ent H' hs hu hle hGd hT hsz henv hok hents hfacts hall
      · constructor
        · intro hnil
          exfalso
          apply hall
          -- the least one that is not listed is ready
          intro j hj
          induction j using Nat.strongRecOn with
          | _ j ihj =>
            cases hx : lst L j with
            | true => rfl
            | false =>
              exfalso
              obtain ⟨o, ho, _, haf, _⟩ := hpre j hj
              have : j ∈ Region.ready .any l.toArray L := by
                rw [mem_ready]
                refine ⟨?_, o, by simpa using ho, fun e he hb => ihj e.on (haf e he hb) (by have := haf e he hb; omega)⟩
                unfold lst at hx
                rw [Array.getD_eq_getD_getElem?, Array.getElem?_eq_getElem (by omega)] at hx ⊢
                simpa using hx
              rw [hnil] at this; cases this
        · intro i hi
          rw [mem_ready] at hi
          obtain ⟨h0, o, ho, hbef⟩ := hi
          have hilt : i < l.length := by simpa using (Array.getElem?_eq_some_iff.1 ho).1
          have hun : lst L i = false := by
            unfold lst
            rw [Array.getD_eq_getD_getElem?, Array.getElem?_eq_getElem (by omega)] at h0 ⊢
            simpa using h0
          have ho' : l[i]? = some o := by simpa using ho
          have him : i < m := by
            rcases Nat.lt_or_ge i m with h | h
            · exact h
            · exfalso
              apply hall
              intro j hj
              exact waits_listed hdown _ o j hbef ((htl i o h ho').1 j (by omega))
          obtain ⟨o2, ho2, hd, haf, hprd⟩ := hpre i him
          rw [ho'] at ho2; cases ho2
          have hdo : dstOf l i = o.dst := by simp [dstOf, ho']
          have hst := stepsS_at l 0 steps i o ho' (by omega)
          simp only [Nat.zero_add] at hst
          -- all that is known of the slots, as one list
          let X : Env := (List.range m).filterMap fun j => if lst L j then (dstOf l j).map fun t => (t, val j) else none
          have hpredF : ∀ j ∈ predsG o, ∀ tj, dstOf l j = some tj → factAt F j (val j) H' := fun j hj tj hdj => by
            obtain ⟨hjm, e, he, hb, hon⟩ := hprd j hj
            have hlj : lst L j = true := by have := hbef e he hb; rw [hon] at this; exact this
            exact (hfacts j hjm hlj tj hdj).2
          have hX : ∀ t v, (t, v) ∈ X → ∃ j, j < m ∧ lst L j = true ∧ dstOf l j = some t ∧ v = val j := by
            intro t v h
            obtain ⟨j, hj, hjj⟩ := List.mem_filterMap.1 h
            split at hjj
            · rename_i hlj
              cases hdj : dstOf l j with
              | none => rw [hdj] at hjj; cases hjj
              | some tj =>
                rw [hdj] at hjj
                simp only [Option.map_some, Option.some.injEq, Prod.mk.injEq] at hjj
                obtain ⟨rfl, rfl⟩ := hjj
                exact ⟨j, List.mem_range.1 hj, hlj, hdj, rfl⟩
            · cases hjj
          have hgets : ∀ acc' : Env, (∀ t v, (t, v) ∈ acc' → ∃ j ∈ predsG o, dstOf l j = some t ∧ v = val j) → ∀ t v, Env.get (acc' ++ (env ++ X)) t = some v → a.tmps.getD t undef = v := by
            intro acc' hmem t v hgv
            rw [Env.get_append, Env.get_append] at hgv
            cases hga : Env.get acc' t with
            | some u =>
              rw [hga] at hgv; simp at hgv; subst hgv
              obtain ⟨j, hj, hdj, rfl⟩ := hmem t u (get_mem _ _ _ hga)
              obtain ⟨hjm, e, he, hb, hon⟩ := hprd j hj
              have hlj : lst L j = true := by have := hbef e he hb; rw [hon] at this; exact this
              exact (hfacts j hjm hlj t hdj).1
            | none =>
              rw [hga] at hgv; simp only [Option.none_or] at hgv
              cases hge : Env.get env t with
              | some u => rw [hge] at hgv; simp at hgv; subst hgv; exact henv t u hge
              | none =>
                rw [hge] at hgv; simp only [Option.none_or] at hgv
                obtain ⟨j, hj, hlj, hdj, rfl⟩ := hX t v (get_mem _ _ _ hgv)
                exact (hfacts j hj hlj t hdj).1
          have hnextG : ∀ (acc' : Env), (∀ t v, (t, v) ∈ acc' → ∃ j ∈ predsG o, dstOf l j = some t ∧ v = val j) → ∀ (a' : Act) (w' : World) (σ' : St) (v : Value) (ent' : Nat × SObj), Rel C σ' a' w' → Le H' σ'.H → Gd σ'.H → σ'.df = df → σ'.env = putE o.dst v (acc' ++ (env ++ X)) → factAt F i v σ'.H →
              (∀ ms : List Nat, Ok C.G σ'.H (σ'.own ++ (ms.map hid ++ C.hid)) w' → Ok C.G σ'.H ((ent' :: own) ++ (ms.map hid ++ C.hid)) w') →
              (if lst (L.setIfInBounds i true) i0 = true then FO2 ent' σ'.H else FOa ent' σ'.H) →
              wpAnyIn (Fr C.r) 0 C.P .any l.toArray (lift C H Q) fuel (L.setIfInBounds i true) a' w' := by
            intro acc' hmem a' w' σ' v ent' hr' hle' hGd' hdf' henv' hfv hown' hent'
            refine ih (L.setIfInBounds i true) a' w' (fun j => if j = i then v else val j) ent' σ'.H (by simpa using hs) ?_ (hle.trans hle') hGd' ?_ ?_ hr'.size ?_ ?_ hent' ?_
            · have := unl_set hs hilt hun; omega
            · intro i' o' hi' hl' e he hb
              rw [lst_set (by omega)] at hl' ⊢
              split
              · rfl
              · split at hl'
                · rename_i e1 e2; subst e2; rw [ho'] at hi'; cases hi'; exact hbef e he hb
                · exact hdown i' o' hi' hl' e he hb
            · intro j hj
              rw [lst_set (by omega), if_neg (by omega)]
              exact hT j hj
            · intro t' v' hg'
              refine hr'.get t' v' ?_
              have hin : t' ∈ env.map Prod.fst := List.mem_map.2 ⟨(t', v'), get_mem _ _ _ hg', rfl⟩
              rw [henv', get_putE_ne (fun e => (hd t' e).1 hin), Env.get_append, Env.get_append]
              have : Env.get acc' t' = none := by
                cases hga : Env.get acc' t' with
                | none => rfl
                | some u =>
                  obtain ⟨j, hj, hdj, _⟩ := hmem t' u (get_mem _ _ _ hga)
                  exact absurd hin (hkey j t' (hprd j hj).1 hdj)
              rw [this, hg']; rfl
            · obtain ⟨ms, hd', hok'⟩ := hr'.ok
              exact ⟨ms, by rw [hd', hdf'], hown' ms hok'⟩
            · intro j hj hlj tj htj
              rw [lst_set (by omega)] at hlj
              by_cases hji : j = i
              · subst hji
                rw [hdo] at htj
                simp only [if_true]
                refine ⟨hr'.get tj v ?_, hfv⟩
                rw [henv', htj]; simp [putE, Env.get]
              · rw [if_neg hji] at hlj
                obtain ⟨h1, h2⟩ := hfacts j hj hlj tj htj
                simp only [if_neg hji]
                refine ⟨hr'.get tj (val j) ?_, factAt_mono hmono hle' h2⟩
                rw [henv', get_putE_ne (fun e => hji (hdis j i tj hj him htj (by rw [hdo, e]))), Env.get_append, Env.get_append]
                have hacc : Env.get acc' tj = none ∨ Env.get acc' tj = some (val j) := by
                  cases hga : Env.get acc' tj with
                  | none => exact .inl rfl
                  | some u =>
                    obtain ⟨j', hj', hdj', rfl⟩ := hmem tj u (get_mem _ _ _ hga)
                    obtain rfl := hdis j' j tj (hprd j' hj').1 hj hdj' htj
                    exact .inr rfl
                rcases hacc with hacc | hacc
                · rw [hacc]
                  have henvn : Env.get env tj = none := by
                    cases hge : Env.get env tj with
                    | none => rfl
                    | some u => exact absurd (List.mem_map.2 ⟨(tj, u), get_mem _ _ _ hge, rfl⟩) (hkey j tj hj htj)
                  rw [henvn]
                  simp only [Option.none_or]
                  -- it stands in X, once
                  refine get_uniq X (List.mem_filterMap.2 ⟨j, List.mem_range.2 hj, by simp only [hlj, if_true, htj, Option.map_some]⟩) ?_
                  intro u hu'
                  obtain ⟨j', hj', _, hdj', rfl⟩ := hX tj u hu'
                  obtain rfl := hdis j' j tj hj' hj hdj' htj
                  rfl
                · rw [hacc]; rfl
          have hcase : ∀ (acc' : Env) (own2 : Own) (Q2 : Exit → St → Prop), (∀ e σ, e ≠ .normal → ¬ Q2 e σ) → XO C l.toArray Q2 [o] ⟨acc' ++ (env ++ X), df, H', own2⟩ → Rel C ⟨acc' ++ (env ++ X), df, H', own2⟩ a w →
              (∀ a' w', lift C H' Q2 .normal a' w' → wpAnyIn (Fr C.r) 0 C.P .any l.toArray (lift C H Q) fuel (L.setIfInBounds i true) a' w') → wpOpIn (Fr C.r) 0 C.P l.toArray (lift C H Q) i (fun a' w' => wpAnyIn (Fr C.r) 0 C.P .any l.toArray (lift C H Q) fuel (L.setIfInBounds i true) a' w') a w := by
            intro acc' own2 Q2 hno hk hrel hnext
            have hrun := hk a w hrel
            unfold wpOpIn
            rw [ho]
            simp only [wpListIn] at hrun ⊢
            split
            · rename_i hw
              rw [if_pos hw] at hrun
              refine wpInOper_mono hnext ?_ hrun
              rintro e a' w' he ⟨σ', _, _, hq⟩
              exact absurd hq (hno e σ' he)
            · rename_i hw
              rw [if_neg hw] at hrun
              exact ⟨hrun.1, hnext _ _ hrun.2⟩
          obtain ⟨acc', hk, hmem⟩ := withP_of (val := val) (predsG o) [] _ (hst X ent H' hle hGd (fun e => by
            have hno : lst L i0 = false := by
              rcases e with e | e
              · rw [e] at hun; exact hun
              · cases hx : lst L i0 with
                | false => rfl
                | true =>
                  unfold befI at e
                  split at e
                  · rename_i o0 ho0
                    rw [List.any_eq_true] at e
                    obtain ⟨ed, hed, h1⟩ := e
                    simp only [Bool.and_eq_true] at h1
                    have := hdown i0 o0 ho0 hx ed (by simpa using hed) h1.1
                    rw [Nat.eq_of_beq_eq_true h1.2, hun] at this; cases this
                  · cases e
            rw [hno, if_neg (by simp)] at hents
            exact hents)) hpredF
          simp only [List.append_nil] at hk
          refine hcase acc' _ _ (fun e σ he => by cases e <;> first | exact absurd rfl he | exact fun h => h) hk ⟨hsz, hgets acc' hmem, hok⟩ ?_
          rintro a' w' ⟨σ', hr', hle', hGd', hdf', v, e2, henv', hfv, hown', hfo⟩
          refine hnextG acc' hmem a' w' σ' v e2 hr' hle' hGd' hdf' henv' hfv ?_ ?_
          · intro ms hok'
            rw [hown'] at hok'
            exact hok'
          · unfold foS at hfo
            by_cases hii : i = i0
            · rw [if_pos hii] at hfo
              rw [lst_set (by omega), if_pos hii.symm, if_pos rfl]
              exact hfo
            · rw [if_neg hii] at hfo
              subst hfo
              have hne : ¬ i0 = i := fun e => hii e.symm
              have hls : lst (L.setIfInBounds i true) i0 = lst L i0 := by rw [lst_set (by omega), if_neg hne]
              rw [hls]
              split
              · rename_i h5; rw [if_pos h5] at hents; exact hFO2 _ _ _ hle' hents
              · rename_i h5; rw [if_neg h5] at hents; exact hFOa _ _ _ hle' hents
  have hlst0 : ∀ j, lst (Array.replicate l.toArray.size false) j = false := fun j => by simp [lst, Array.getD_eq_getD_getElem?, Array.getElem?_replicate]; split <;> rfl
  exact main l.toArray.size (Array.replicate l.toArray.size false) a₀ _ (fun _ => undef) q H (by simp) (by
      refine Nat.le_trans (List.countP_le_length) (by simp)) (Le.refl _) hG (fun i o _ hl => by
      have : lst (Array.replicate l.toArray.size false) i = false := by simp [lst, Array.getD_eq_getD_getElem?, Array.getElem?_replicate]; split <;> rfl
      rw [this] at hl; cases hl) (fun j _ => by simp [lst, Array.getD_eq_getD_getElem?, Array.getElem?_replicate]; split <;> rfl) hr₀.size hr₀.get
    (let ⟨ms, hd, hok⟩ := hr₀.ok; ⟨ms, hd, hok.drew⟩) (by rw [hlst0, if_neg (by simp)]; exact hq0) (fun i _ h => by
      have : lst (Array.replicate l.toArray.size false) i = false := by simp [lst, Array.getD_eq_getD_getElem?, Array.getElem?_replicate]; split <;> rfl
      rw [this] at h; cases h)
end
end Go.XL

/- Tables whose rows are the call's own: a slice of slices, each of them still to be written. No statement of the program stands here. -/
set_option autoImplicit false
set_option linter.unusedSimpArgs false
set_option linter.unusedVariables false
namespace Go.XL
abbrev Raw := Option Addr × Nat × Nat
/-- a slice as such, whatever lies behind it -/
def rawR : Rep Raw where
 sz := 1
 R := fun _ cs r => cs = [.slice r.1 r.2.1 r.2.2]
 len := fun h => by subst h; rfl
 one := fun h => by subst h; rfl
 mono := fun _ h => h
structure RowO (α : Type) where
 p : Nat × SObj
 a : Option Addr
 c : Nat
 l : List α
def RowO.raw {α : Type} (r : RowO α) : Raw := (r.a, r.l.length, r.c)
def RowsO {α : Type} (ρ : Rep α) (T : TypeId) (H : Hp) (rs : List (RowO α)) : Prop := ∀ r ∈ rs, Acc ρ T H r.p r.a r.c r.l
section
variable {α : Type} {ρ : Rep α} {T : TypeId} {H H' : Hp} {rs : List (RowO α)}
theorem RowsO.mono (h : RowsO ρ T H rs) (hle : Le H H') : RowsO ρ T H' rs := fun r hr => (h r hr).mono hle
theorem RowsO.nil : RowsO ρ T H [] := fun r hr => by cases hr
theorem RowsO.snoc (h : RowsO ρ T H rs) {r : RowO α} (hr : Acc ρ T H r.p r.a r.c r.l) : RowsO ρ T H (rs ++ [r]) := by
 intro q hq
 rcases List.mem_append.1 hq with hq | hq
 ·exact h q hq
 ·simp at hq; subst hq; exact hr
theorem RowsO.set (h : RowsO ρ T H rs) (i : Nat) {r : RowO α} (hr : Acc ρ T H r.p r.a r.c r.l) : RowsO ρ T H (rs.set i r) := by
 intro q hq
 rcases List.mem_or_eq_of_mem_set hq with hq | hq
 ·exact h q hq
 ·subst hq; exact hr
end
section
variable {C : Ctx} {ops : Array Oper} {Q : Exit → St → Prop} {rest : List Oper} {env : Env} {df : List Deferred} {H : Hp} {rst : Own} {α : Type} {ρ : Rep α} {T T2 : TypeId} {rs : List (RowO α)} {px : Nat × SObj} {ax : Option Addr} {cx : Nat}
end
end Go.XL

/- A slice of slices, seen as a slice of bare slices, and back. No statement of the program stands here. -/
set_option autoImplicit false
set_option linter.unusedSimpArgs false
set_option linter.unusedVariables false
namespace Go.XL
section
variable {α : Type} {ρ : Rep α} {T : TypeId} {H : Hp} {p : Nat × SObj} {a : Option Addr} {c : Nat}
def RawOf (ρ : Rep α) (H : Hp) (rs : List Raw) (l : List (List α)) : Prop := rs.length = l.length ∧ ∀ (i : Nat) (r : Raw) (x : List α), rs[i]? = some r → l[i]? = some x → r.2.1 = x.length ∧ SlR ρ H r.1 r.2.2 x
theorem RawOf.mono {H' : Hp} {rs : List Raw} {l : List (List α)} (h : RawOf ρ H rs l) (hle : Le H H') : RawOf ρ H' rs l := ⟨h.1, fun i r x h1 h2 => let ⟨a, b⟩ := h.2 i r x h1 h2; ⟨a, b.mono hle⟩⟩
theorem RowsR.fromRaw : ∀ {l : List (List α)} {rs : List Raw} {xs : List Value}, RowsR rawR H xs rs → RawOf ρ H rs l → RowsR (slR ρ) H xs l
  | [], [], xs, h, _ => h
  | [], r :: rs, xs, h, h2 => by have := h2.1; simp at this
  | u :: l, [], xs, h, h2 => by have := h2.1; simp at this
  | u :: l, r :: rs, xs, ⟨c1, c2, e, h1, h3⟩, h2 => by
    obtain ⟨h4, h5⟩ := h2.2 0 r u rfl rfl
    refine ⟨c1, c2, e, ⟨r.1, r.2.2, by rw [← h4]; exact h1, h5⟩, RowsR.fromRaw h3 ⟨by simpa using h2.1, fun i r x hr hx => h2.2 (i + 1) r x (by simpa using hr) (by simpa using hx)⟩⟩
theorem Acc.fromRaw {l : List (List α)} {rs : List Raw} (h : Acc rawR T H p a c rs) (h2 : RawOf ρ H rs l) : Acc (slR ρ) T H p a c l := by
 rcases h with ⟨h1, h3, h4, h5⟩ | ⟨xs, h1, h3, h4, h5⟩
 ·subst h4
  have := h2.1
  refine .inl ⟨h1, h3, ?_, h5⟩
  cases l with
  | nil => rfl
  | cons u l => simp at this
 ·exact .inr ⟨xs, h1, h3, RowsR.fromRaw h4 h2, by rw [← h2.1]; exact h5⟩
end
end Go.XL

/- The codec's values: what lies in memory, and what its functions compute, in plain Lean. -/
set_option autoImplicit false
set_option linter.unusedVariables false
set_option linter.unusedSimpArgs false
namespace Go.Proofs
open Go.XL
inductive Val where
 | mk (k n : Int) (s : List UInt8) (l : List Val)
namespace Val
def K : Val → Int | mk k _ _ _ => k
def N : Val → Int | mk _ n _ _ => n
def S : Val → List UInt8 | mk _ _ s _ => s
def L : Val → List Val | mk _ _ _ l => l
end Val
def v0 : Val := .mk 0 0 [] []
mutual
def vsz : Val → Nat | .mk _ _ _ l => vszL l + 1
def vszL : List Val → Nat | [] => 0 | x :: r => vsz x + vszL r + 1
end
theorem vsz_mem {x : Val} : ∀ {l : List Val}, x ∈ l → vsz x < vszL l + 1
  | y :: r, h => by
    rw [vszL]
    rcases List.mem_cons.1 h with rfl | h
    · omega
    · have := vsz_mem h; omega
theorem vsz_lt {k n : Int} {s : List UInt8} {l : List Val} {x : Val} (h : x ∈ l) : vsz x < vsz (.mk k n s l) := by rw [vsz]; exact vsz_mem h
/-- induction over values -/
theorem Val.ind {motive : Val → Prop} (h : ∀ k n s l, (∀ x ∈ l, motive x) → motive (.mk k n s l)) : ∀ v, motive v := by
  have : ∀ (m : Nat) (v : Val), vsz v < m → motive v := by
    intro m
    induction m with
    | zero => intro v h; omega
    | succ m ih =>
      rintro ⟨k, n, s, l⟩ hv
      exact h k n s l fun x hx => ih x (by have := vsz_lt (k := k) (n := n) (s := s) hx; omega)
  exact fun v => this (vsz v + 1) v (by omega)
/-! ### In memory -/
inductive VIs (H : Hp) : List Value → Val → Prop
  | mk (k n : Int) (s : List UInt8) (l : List Val) (a : Option Addr) (c b o : Nat) (css : Nat → List Value) (hle : l.length ≤ c) (hnil : a = none → c = 0)
    (h1 : ∀ (i : Nat) (x : Val), l[i]? = some x → a = some ⟨b, o, none⟩ ∧ PtH H b (o + i * 4) (css i)) (h2 : ∀ (i : Nat) (x : Val), l[i]? = some x → VIs H (css i) x) :
    VIs H [.int .i64 k, .int .i64 n, .string (bsOf s), .slice a l.length c] (.mk k n s l)
theorem VIs.mono {H H' : Hp} (hle : Le H H') {cs : List Value} {v : Val} (h : VIs H cs v) : VIs H' cs v := by
 induction h with
 | mk k n s l a c b o css h1 h2 h3 _ ih => exact .mk k n s l a c b o css h1 h2 (fun i x hx => ⟨(h3 i x hx).1, (h3 i x hx).2.mono hle⟩) ih
def valR : Rep Val where
 sz := 4
 R := VIs
 len := fun h => by cases h; rfl
 one := fun h => by cases h; rfl
 mono := fun hle h => h.mono hle
theorem valR_iff {H : Hp} {cs : List Value} {k n : Int} {s : List UInt8} {l : List Val} : valR.R H cs (.mk k n s l) ↔ ∃ a c, cs = [.int .i64 k, .int .i64 n, .string (bsOf s), .slice a l.length c] ∧ SlR valR H a c l := by
  constructor
  · intro h
    cases h with
    | mk _ _ _ _ a c b o css h1 h2 h3 h4 => exact ⟨a, c, rfl, h1, h2, fun i x hx => ⟨b, o, css i, (h3 i x hx).1, (h3 i x hx).2, h4 i x hx⟩⟩
  · rintro ⟨a, c, rfl, hs⟩
    cases l with
    | nil => exact .mk k n s [] a c 0 0 (fun _ => []) hs.le hs.nil (fun i x h => by simp at h) (fun i x h => by simp at h)
    | cons y r =>
      obtain ⟨b, o, ha⟩ := hs.addr (by simp)
      have hx : ∀ i : Nat, ∃ cs, ∀ x, (y :: r)[i]? = some x → PtH H b (o + i * 4) cs ∧ VIs H cs x := by
        intro i
        cases h : (y :: r)[i]? with
        | none => exact ⟨[], fun x hx => by cases hx⟩
        | some x =>
          obtain ⟨b', o', cs, h1, h2, h3⟩ := hs.el i x h
          rw [ha] at h1; cases h1
          exact ⟨cs, fun z hz => by cases hz; exact ⟨h2, h3⟩⟩
      exact .mk k n s _ a c b o (fun i => Classical.choose (hx i)) hs.le hs.nil (fun i x h => ⟨ha, (Classical.choose_spec (hx i) x h).1⟩) (fun i x h => (Classical.choose_spec (hx i) x h).2)
/-- a value as it is handed over -/
def VV (H : Hp) (v : Value) (u : Val) : Prop := ∃ a c, v = .agg ⟨[.int .i64 u.K, .int .i64 u.N, .string (bsOf u.S), .slice a u.L.length c]⟩ ∧ SlR valR H a c u.L
theorem VV.mono {H H' : Hp} {v : Value} {u : Val} (h : VV H v u) (hle : Le H H') : VV H' v u := let ⟨a, c, h1, h2⟩ := h; ⟨a, c, h1, h2.mono hle⟩
/-! ### Form -/
mutual
def formedB : Val → Bool
 | .mk k n s l => (k == 1 && s.isEmpty && l.isEmpty) || (k == 2 && n == 0 && l.isEmpty) || (k == 3 && n == 0 && s.isEmpty && formedL l)
def formedL : List Val → Bool | [] => true | x :: r => formedB x && formedL r
end
mutual
def depthV : Val → Nat | .mk k _ _ l => if k = 3 then depthL l + 1 else 0
def depthL : List Val → Nat | [] => 0 | x :: r => max (depthV x) (depthL r)
end
def chkV (v : Val) : Int := if formedB v = true then (if 16 < depthV v then 2 else 0) else 1
theorem formedL_snoc {l : List Val} {x : Val} : formedL (l ++ [x]) = (formedL l && formedB x) := by
 induction l with
 | nil => simp [formedL]
 | cons y r ih => simp [formedL, ih, Bool.and_assoc]
theorem depthL_snoc {l : List Val} {x : Val} : depthL (l ++ [x]) = max (depthL l) (depthV x) := by
 induction l with
 | nil => simp [depthL]
 | cons y r ih => simp only [List.cons_append, depthL, ih]; omega
theorem formedL_iff {l : List Val} : formedL l = true ↔ ∀ x ∈ l, formedB x = true := by
 induction l with
 | nil => simp [formedL]
 | cons y r ih => simp [formedL, ih]
def fdV (v : Val) : Nat := if formedB v = true then depthV v else 0
def fdR (v : Val) : Value := .tuple #[.int .i64 (fdV v : Nat), .bool (formedB v)]
theorem fd_no {v : Val} (h : formedB v = false) : Value.tuple #[.int .i64 0, .bool false] = fdR v := by
 unfold fdR fdV; rw [h]; rfl
theorem fd_yes {v : Val} {d : Int} (h : formedB v = true) (hd : d = (depthV v : Nat)) : Value.tuple #[.int .i64 d, .bool true] = fdR v := by
 unfold fdR fdV; rw [h, hd]; rfl
section
variable {n : Int} {s : List UInt8} {l : List Val}
theorem formed1 : formedB (.mk 1 n s l) = true ↔ s = [] ∧ l = [] := by simp [formedB]
theorem formed2 : formedB (.mk 2 n s l) = true ↔ n = 0 ∧ l = [] := by simp [formedB]
theorem formed3 : formedB (.mk 3 n s l) = true ↔ (n = 0 ∧ s = []) ∧ formedL l = true := by simp [formedB]
theorem formed0 {k : Int} (h : k ≠ 1 ∧ k ≠ 2 ∧ k ≠ 3) : formedB (.mk k n s l) = false := by simp [formedB, h.1, h.2.1, h.2.2]
theorem bfalse {b : Bool} (h : ¬ b = true) : b = false := by simpa using h
theorem fl_yes {i : Nat} {x : Val} (hx : l[i]? = some x) (h1 : formedL (l.take i) = true) (h2 : formedB x = true) : formedL (l.take (i + 1)) = true := by
 rw [take_snoc hx, formedL_snoc, h1, h2]; rfl
theorem dl_max {i : Nat} {x : Val} (hx : l[i]? = some x) : depthL (l.take (i + 1)) = max (depthL (l.take i)) (depthV x) := by rw [take_snoc hx, depthL_snoc]
end
theorem chk_1 {v : Val} (h : formedB v = false) : chkV v = 1 := by unfold chkV; rw [h]; rfl
theorem chk_2 {v : Val} (h : formedB v = true) (hd : 16 < depthV v) : chkV v = 2 := by unfold chkV; rw [if_pos h, if_pos hd]
theorem chk_0 {v : Val} (h : formedB v = true) (hd : ¬ 16 < depthV v) : chkV v = 0 := by unfold chkV; rw [if_pos h, if_neg hd]
theorem fd_eq {v : Val} (h : formedB v = true) : fdV v = depthV v := if_pos h
/-! ### Encoding -/
def numL (u : Nat) : List UInt8 := if h : u < 128 then [UInt8.ofNat u] else UInt8.ofNat (u % 128 + 128) :: numL (u / 128)
termination_by u
decreasing_by omega
def unsV (n : Int) : Nat := if 0 ≤ n then (2 * n).toNat else (-2 * n - 1).toNat
def sgnV (u : Nat) : Int := if u % 2 = 0 then ((u / 2 : Nat) : Int) else -((u / 2 : Nat) : Int) - 1
theorem sgn_uns (n : Int) : sgnV (unsV n) = n := by
 unfold sgnV unsV
 split <;> split <;> omega
mutual
def encV : Val → List UInt8
 | .mk k n s l => if k = 1 then 1 :: numL (unsV n) else if k = 2 then 2 :: (numL s.length ++ s) else 3 :: (numL l.length ++ encL l)
def encL : List Val → List UInt8 | [] => [] | x :: r => encV x ++ encL r
end
theorem encL_snoc {l : List Val} {x : Val} : encL (l ++ [x]) = encL l ++ encV x := by
 induction l with
 | nil => simp [encL]
 | cons y r ih => simp [encL, ih]
/-! ### How large a value is -/
mutual
def wszV : Val → Nat | .mk _ _ s l => 20 + s.length + wszL l
def wszL : List Val → Nat | [] => 0 | x :: r => wszV x + wszL r
end
theorem wszL_snoc {l : List Val} {x : Val} : wszL (l ++ [x]) = wszL l + wszV x := by
 induction l with
 | nil => simp [wszL]
 | cons y r ih => simp only [List.cons_append, wszL, ih]; omega
theorem wsz_mem {x : Val} : ∀ {l : List Val}, x ∈ l → wszV x ≤ wszL l
  | y :: r, h => by
    rw [wszL]
    rcases List.mem_cons.1 h with rfl | h
    · omega
    · have := wsz_mem h; omega
theorem wsz_len : ∀ {l : List Val}, 20 * l.length ≤ wszL l
  | [] => by simp
  | x :: r => by
    have := wsz_len (l := r)
    cases x
    rw [wszL, wszV, List.length_cons]; omega
theorem wsz_take {l : List Val} : ∀ k, wszL (l.take k) ≤ wszL l := by
  induction l with
  | nil => intro k; simp
  | cons x r ih =>
    intro k
    cases k with
    | zero => simp [wszL]
    | succ k => rw [List.take_succ_cons, wszL, wszL]; have := ih k; omega
theorem depthL_wsz : ∀ {l : List Val}, (∀ x ∈ l, depthV x ≤ wszV x) → depthL l ≤ wszL l
  | [], _ => by simp [depthL]
  | x :: r, h => by
    have h1 := h x (by simp)
    have h2 := depthL_wsz fun y hy => h y (List.mem_cons_of_mem _ hy)
    rw [depthL, wszL]; omega
theorem depth_wsz (v : Val) : depthV v ≤ wszV v := by
 refine Val.ind (motive := fun v => depthV v ≤ wszV v) ?_ v
 intro k n s l ih
 have := depthL_wsz ih
 rw [depthV, wszV]; split <;> omega
theorem numL_len : ∀ (j u : Nat), u < 128 ^ (j + 1) → (numL u).length ≤ j + 1
  | 0, u, h => by
    rw [numL, dif_pos (by simpa using h)]; simp
  | j + 1, u, h => by
    rw [numL]; split
    · simp
    · have := numL_len j (u / 128) (by rw [Nat.pow_succ] at h; omega)
      simp; omega
theorem numL_10 {u : Nat} (h : u < 2 ^ 64) : (numL u).length ≤ 10 := numL_len 9 u (Nat.lt_of_lt_of_le h (by decide))
/-- how long the strings and lists of a value are, and how great its numbers -/
inductive Fit : Val → Prop
 | mk (k n : Int) (s : List UInt8) (l : List Val) (hn : -9223372036854775808 ≤ n ∧ n ≤ 9223372036854775807) (hs : s.length < 2 ^ 63) (hl : l.length < 2 ^ 63) (h : ∀ x ∈ l, Fit x) : Fit (.mk k n s l)
theorem Fit.of {k n : Int} {s : List UInt8} {l : List Val} (h : Fit (.mk k n s l)) : (-9223372036854775808 ≤ n ∧ n ≤ 9223372036854775807) ∧ s.length < 9223372036854775808 ∧ l.length < 9223372036854775808 ∧ ∀ x ∈ l, Fit x := by
 cases h with
 | mk _ _ _ _ h1 h2 h3 h4 => exact ⟨h1, h2, h3, h4⟩
/-! ### Bits -/
theorem wrap_u64_mod (n : Int) : IntKind.u64.wrap n = n % 18446744073709551616 := by
 simp [IntKind.wrap, IntKind.bits, IntKind.signed]
theorem wrap_u8_mod (n : Int) : IntKind.u8.wrap n = n % 256 := by
 simp [IntKind.wrap, IntKind.bits, IntKind.signed]
theorem xor_0 {x : Int} (h : 0 ≤ x ∧ x < 18446744073709551616) : (BitVec.ofInt 64 x ^^^ BitVec.ofInt 64 0).toNat = x.toNat := by
 rw [show BitVec.ofInt 64 0 = 0#64 from rfl, BitVec.xor_zero, BitVec.toNat_ofInt]
 rw [show ((2 ^ 64 : Nat) : Int) = 18446744073709551616 from rfl, Int.emod_eq_of_lt h.1 h.2]
theorem xor_1 {x y : Int} (h : 0 ≤ x ∧ x < 18446744073709551616) (hy : y = 18446744073709551615 ∨ y = -1) : (BitVec.ofInt 64 x ^^^ BitVec.ofInt 64 y).toNat = 18446744073709551615 - x.toNat := by
 have e : BitVec.ofInt 64 y = BitVec.allOnes 64 := by rcases hy with rfl | rfl <;> rfl
 rw [e, BitVec.xor_allOnes, BitVec.toNat_not, BitVec.toNat_ofInt]
 rw [show ((2 ^ 64 : Nat) : Int) = 18446744073709551616 from rfl, Int.emod_eq_of_lt h.1 h.2]
theorem or_128 : ∀ x : Nat, x < 256 → (BitVec.ofInt 8 (x : Nat) ||| BitVec.ofInt 8 128).toNat = x % 128 + 128 := by decide +kernel
/-- the code's way to number integers without a sign -/
theorem uns_bits {n : Int} (h : -9223372036854775808 ≤ n ∧ n ≤ 9223372036854775807) :
  IntKind.u64.wrap ((BitVec.ofInt 64 (IntKind.u64.wrap (n % 18446744073709551616 * 2 ^ min (1 : Int).toNat 64)) ^^^ BitVec.ofInt 64 (IntKind.u64.wrap (n.fdiv (2 ^ min (63 : Int).toNat 64)))).toNat : Nat) = (unsV n : Nat) := by
 rw [show min (1 : Int).toNat 64 = 1 from rfl, show min (63 : Int).toNat 64 = 63 from rfl, show (2 : Int) ^ 1 = 2 from rfl, show (2 : Int) ^ 63 = 9223372036854775808 from rfl, wrap_u64_mod, wrap_u64_mod, wrap_u64_mod, Int.fdiv_eq_ediv_of_nonneg _ (by omega)]
 unfold unsV
 rcases Int.lt_or_le n 0 with hn | hn
 ·rw [show n / 9223372036854775808 % 18446744073709551616 = 18446744073709551615 by omega, xor_1 (by omega) (Or.inl rfl), if_neg (by omega)]
  omega
 ·rw [show n / 9223372036854775808 % 18446744073709551616 = 0 by omega, xor_0 (by omega), if_pos hn]
  omega
mutual
def sameV : Val → Val → Bool
 | .mk k n s l, .mk k' n' s' l' => k == k' && n == n' && s == s' && sameL l l'
def sameL : List Val → List Val → Bool
 | [], [] => true
 | x :: r, y :: r' => sameV x y && sameL r r'
 | _, _ => false
end
abbrev AccB (H : Hp) (p : Nat × SObj) (a : Option Addr) (c : Nat) (l : List UInt8) : Prop := XL.Acc u8R 5 H p a c l
def FOl (f : Nat → List UInt8) (a : Option Addr) (c : Nat) (j : Nat) (v : Value) (p : Nat × SObj) (H : Hp) : Prop := (j = 0 → AccB H p a c (f 0)) ∧ (0 < j → ∃ a2 c2, v = .slice a2 (f j).length c2 ∧ AccB H p a2 c2 (f j))
theorem FOl_mono (f : Nat → List UInt8) (a : Option Addr) (c : Nat) : ∀ (j : Nat) (v : Value) (p : Nat × SObj) (H H' : Hp), Le H H' → FOl f a c j v p H → FOl f a c j v p H' :=
 fun _ _ _ _ _ hle h => ⟨fun h0 => (h.1 h0).mono hle, fun h0 => let ⟨a2, c2, h1, h2⟩ := h.2 h0; ⟨a2, c2, h1, h2.mono hle⟩⟩
theorem FOl_0 {f : Nat → List UInt8} {a : Option Addr} {c : Nat} {v : Value} {p : Nat × SObj} {H : Hp} (h : AccB H p a c (f 0)) : FOl f a c 0 v p H := ⟨fun _ => h, fun h0 => absurd h0 (by omega)⟩
theorem FOl_s {f : Nat → List UInt8} {a a2 : Option Addr} {c c2 j : Nat} {p : Nat × SObj} {H : Hp} (h : AccB H p a2 c2 (f (j + 1))) : FOl f a c (j + 1) (.slice a2 (f (j + 1)).length c2) p H := ⟨fun h0 => absurd h0 (by omega), fun _ => ⟨a2, c2, rfl, h⟩⟩
/-- the function that writes values of a kind -/
def wfun (b1 : Nat) (k : Int) : Value := if k = 1 then .func (.func 71) #[] #[] else if k = 2 then .func (.func 74) #[] #[] else .func (.func 75) #[] #[.pointer (some ⟨b1, 0, none⟩)]
structure WrH (H : Hp) (bw b1 : Nat) : Prop where
 p : PtH H b1 0 [.pointer (some ⟨bw, 0, none⟩)]
 f1 : PtH H bw 1 [wfun b1 1]
 f2 : PtH H bw 2 [wfun b1 2]
 f3 : PtH H bw 3 [wfun b1 3]
theorem WrH.mono {H H' : Hp} {bw b1 : Nat} (h : WrH H bw b1) (hle : Le H H') : WrH H' bw b1 := ⟨h.p.mono hle, h.f1.mono hle, h.f2.mono hle, h.f3.mono hle⟩
theorem WrH.at {H : Hp} {bw b1 : Nat} (h : WrH H bw b1) {k : Int} (hk : k = 1 ∨ k = 2 ∨ k = 3) : PtH H bw (0 + k.toNat * 1 + 0) [wfun b1 k] := by
 rcases hk with rfl | rfl | rfl
 ·exact h.f1
 ·exact h.f2
 ·exact h.f3
theorem formed_kind {k n : Int} {s : List UInt8} {l : List Val} (h : formedB (.mk k n s l) = true) : k = 1 ∨ k = 2 ∨ k = 3 := Decidable.byContradiction fun hn => by
 rw [formed0 (by omega)] at h; cases h
theorem encV1 {n : Int} {s : List UInt8} {l : List Val} : encV (.mk 1 n s l) = [1] ++ numL (unsV n) := by rw [encV, if_pos rfl]; rfl
theorem encV2 {n : Int} {s : List UInt8} {l : List Val} : encV (.mk 2 n s l) = ([2] ++ numL s.length) ++ s := by rw [encV, if_neg (by decide), if_pos rfl]; rfl
theorem encV3 {n : Int} {s : List UInt8} {l : List Val} : encV (.mk 3 n s l) = ([3] ++ numL l.length) ++ encL l := by rw [encV, if_neg (by decide), if_neg (by decide)]; rfl
theorem enc_wsz (v : Val) : Fit v → (encV v).length ≤ wszV v := by
  refine Val.ind (motive := fun v => Fit v → (encV v).length ≤ wszV v) ?_ v
  intro k n s l ih hf
  obtain ⟨f1, f2, f3, f4⟩ := hf.of
  have hl : (encL l).length ≤ wszL l := by
    clear f3
    induction l with
    | nil => simp [encL]
    | cons x r ihr =>
      rw [encL, wszL, List.length_append]
      have h1 := ih x (by simp) (f4 x (by simp))
      have h2 := ihr (fun y hy => ih y (by simp [hy])) (by
        refine .mk k n s r f1 (by omega) ?_ (fun y hy => f4 y (by simp [hy]))
        have := hf.of.2.2.1; simp at this; omega) (fun y hy => f4 y (by simp [hy]))
      omega
  have n1 := numL_10 (u := unsV n) (by unfold unsV; split <;> omega)
  have n2 := numL_10 (u := s.length) (by omega)
  have n3 := numL_10 (u := l.length) (by omega)
  rw [wszV]
  rw [encV]
  split
  · simp; omega
  · split <;> simp <;> omega
theorem encL_wsz {l : List Val} (h : ∀ x ∈ l, Fit x) : (encL l).length ≤ wszL l := by
  induction l with
  | nil => simp [encL]
  | cons x r ih =>
    rw [encL, wszL, List.length_append]
    have := enc_wsz x (h x (by simp))
    have := ih fun y hy => h y (by simp [hy])
    omega
theorem or_bits (w : Nat) : IntKind.u8.wrap ((BitVec.ofInt (IntKind.bits .u8) ((w % 256 : Nat) : Int) ||| BitVec.ofInt (IntKind.bits .u8) 128).toNat : Nat) = (((UInt8.ofNat (w % 128 + 128)).toNat : Nat) : Int) := by
 rw [show IntKind.bits .u8 = 8 from rfl, or_128 (w % 256) (by omega), wrap_u8_mod]
 have : (UInt8.ofNat (w % 128 + 128)).toNat = w % 128 + 128 := by rw [UInt8.toNat_ofNat']; omega
 rw [this]; omega
theorem shr7 (w : Nat) : ((w : Nat) : Int).fdiv (2 ^ min (7 : Int).toNat (IntKind.bits .u64)) = ((w / 128 : Nat) : Int) := by
 rw [show (2 : Int) ^ min (7 : Int).toNat (IntKind.bits .u64) = 128 from rfl, Int.fdiv_eq_ediv_of_nonneg _ (by omega)]; omega
theorem numL_yes {w : Nat} (h : 128 ≤ w) (o : List UInt8) : (o ++ [UInt8.ofNat (w % 128 + 128)]) ++ numL (w / 128) = o ++ numL w := by
 have e : numL w = UInt8.ofNat (w % 128 + 128) :: numL (w / 128) := by rw [numL, dif_neg (by omega)]
 rw [e]; simp
theorem numL_last {w : Nat} (h : w < 128) : numL w = [UInt8.ofNat w] := by rw [numL, dif_pos h]
theorem all_snocP {α : Type} {l : List α} {k : Nat} {x : α} {p : α → Prop} (h : ∀ y ∈ l.take k, p y) (hx : l[k]? = some x) (hp : p x) : ∀ y ∈ l.take (k + 1), p y := by
 intro y hy
 rw [take_snoc hx, List.mem_append] at hy
 rcases hy with hy | hy
 ·exact h y hy
 ·simp only [List.mem_singleton] at hy; subst hy; exact hp
theorem pt_at {H : Hp} {b : Nat} {cs : List Value} (h : PtH H b 0 cs) (i : Nat) {v : Value} (hv : cs[i]? = some v) : PtH H b i [v] := by
 obtain ⟨c, T, fz, h1, h2⟩ := h; refine ⟨c, T, fz, h1, fun j u hj => ?_⟩
 cases j with
 | zero => simp at hj; subst hj; have := h2 i v hv; simpa using this
 | succ j => simp at hj
def eB (v : Val) : List UInt8 := if chkV v = 0 then encV v else []
def EncR (u : Val) (H : Hp) (v : Value) : Prop := ∃ a c, SlR u8R H a c (eB u) ∧ v = .tuple #[.slice a (eB u).length c, .int .i64 (chkV u)]
theorem enc_no {u : Val} {H : Hp} (h : chkV u ≠ 0) : EncR u H (.tuple #[.slice none 0 0, .int .i64 (chkV u)]) := by
 have e : eB u = [] := by unfold eB; rw [if_neg h]
 exact ⟨none, 0, by rw [e]; exact SlR.nil0 _ _, by rw [e]; rfl⟩
theorem enc_yes {u : Val} {H : Hp} {a : Option Addr} {c : Nat} (h : chkV u = 0) (hs : SlR u8R H a c (encV u)) : EncR u H (.tuple #[.slice a (encV u).length c, .int .i64 0]) := by
 have e : eB u = encV u := by unfold eB; rw [if_pos h]
 exact ⟨a, c, by rw [e]; exact hs, by rw [e, h]⟩
theorem chk0_formed {v : Val} (h : chkV v = 0) : formedB v = true := by
 unfold chkV at h
 split at h
 ·assumption
 ·cases h
theorem uns_lt2 {n : Int} (h : -9223372036854775808 ≤ n ∧ n ≤ 9223372036854775807) : unsV n < 18446744073709551616 := by
 unfold unsV; split <;> omega
end Go.Proofs

/- Decoding, in plain Lean: it is the inverse of encoding. -/
set_option autoImplicit false
set_option linter.unusedVariables false
set_option linter.unusedSimpArgs false
namespace Go.Proofs
open Go.XL
def numP : Nat → Nat → List UInt8 → Option (Nat × List UInt8)
 | _, _, [] => none
 | i, u, c :: r => if (i = 0 ∨ c.toNat ≠ 0) ∧ (i < 9 ∨ c.toNat ≤ 1) then
   (if c.toNat < 128 then some (u + c.toNat * 2 ^ (7 * i), r) else numP (i + 1) (u + (c.toNat % 128) * 2 ^ (7 * i)) r) else none
def iterP (f : List UInt8 → Option (Val × List UInt8)) : Nat → List UInt8 → Option (List Val × List UInt8)
  | 0, r => some ([], r)
  | n + 1, r => match f r with
    | none => none
    | some (v, r2) => match iterP f n r2 with
      | none => none
      | some (l, r3) => some (v :: l, r3)
def numG (r : List UInt8) : Option (Nat × List UInt8) := numP 0 0 r
def lenG (r : List UInt8) : Option (Nat × List UInt8) := match numG r with
 | none => none
 | some (u, r2) => if u ≤ r2.length then some (u, r2) else none
def valP : Nat → List UInt8 → Option (Val × List UInt8)
  | _, [] => none
  | 0, c :: r =>
    if c.toNat = 1 then (match numG r with | none => none | some (u, r2) => some (.mk 1 (sgnV u) [] [], r2))
    else if c.toNat = 2 then (match lenG r with | none => none | some (u, r2) => some (.mk 2 0 (r2.take u) [], r2.drop u))
    else none
  | d + 1, c :: r =>
    if c.toNat = 1 then (match numG r with | none => none | some (u, r2) => some (.mk 1 (sgnV u) [] [], r2))
    else if c.toNat = 2 then (match lenG r with | none => none | some (u, r2) => some (.mk 2 0 (r2.take u) [], r2.drop u))
    else if c.toNat = 3 then (match lenG r with | none => none | some (u, r2) => match iterP (valP d) u r2 with
      | none => none
      | some (l, r3) => some (.mk 3 0 [] l, r3))
    else none
def decV (b : List UInt8) : Val × Int := match valP 16 b with
 | some (v, []) => (v, 0)
 | _ => (v0, 10)
theorem ofNat_toNat {n : Nat} (h : n < 256) : (UInt8.ofNat n).toNat = n := by
 rw [UInt8.toNat_ofNat']; omega
theorem toNat_lt (c : UInt8) : c.toNat < 256 := c.toNat_lt
theorem numP_to : ∀ (x i u : Nat) (r : List UInt8), x < 2 ^ (64 - 7 * i) → i ≤ 9 → (0 < i → 0 < x) → numP i u (numL x ++ r) = some (u + x * 2 ^ (7 * i), r) := by
 intro x
 refine Nat.strongRecOn x ?_
 intro x ih i u r hx hi h0
 rw [numL]
 by_cases h : x < 128
 ·rw [dif_pos h]
  show numP i u (UInt8.ofNat x :: r) = _
  rw [numP, ofNat_toNat (by omega), if_pos, if_pos h]
  refine ⟨?_, ?_⟩
  ·rcases Nat.eq_zero_or_pos i with hz | hz
   ·exact Or.inl hz
   ·exact Or.inr (by have := h0 hz; omega)
  ·rcases Nat.lt_or_ge i 9 with h9 | h9
   ·exact Or.inl h9
   ·obtain rfl : i = 9 := by omega
    exact Or.inr (by have : x < 2 ^ 1 := hx; omega)
 ·rw [dif_neg h]
  show numP i u (UInt8.ofNat (x % 128 + 128) :: (numL (x / 128) ++ r)) = _
  have h9 : i < 9 := by
   rcases Nat.lt_or_ge i 9 with h9 | h9
   ·exact h9
   ·obtain rfl : i = 9 := by omega
    have : x < 2 ^ 1 := hx
    omega
  rw [numP, ofNat_toNat (by omega), if_pos ⟨Or.inr (by omega), Or.inl h9⟩, if_neg (by omega), show (x % 128 + 128) % 128 = x % 128 by omega]
  have hp : 2 ^ (64 - 7 * i) = 2 ^ (64 - 7 * (i + 1)) * 2 ^ 7 := by rw [← Nat.pow_add]; congr 1; omega
  rw [ih (x / 128) (by omega) (i + 1) _ r (by omega) (by omega) (fun _ => by omega)]
  congr 2
  rw [show 7 * (i + 1) = 7 * i + 7 by omega, Nat.pow_add, Nat.add_assoc]
  congr 1
  rw [show 2 ^ 7 = 128 from rfl, ← Nat.mul_assoc, Nat.mul_right_comm, ← Nat.add_mul]
  congr 1
  omega
theorem numG_to {x : Nat} (r : List UInt8) (hx : x < 2 ^ 64) : numG (numL x ++ r) = some (x, r) := by
 have := numP_to x 0 0 r hx (by omega) (fun h => by omega)
 simpa [numG] using this
theorem depthL_le {l : List Val} {d : Nat} : depthL l ≤ d ↔ ∀ v ∈ l, depthV v ≤ d := by
 induction l with
 | nil => simp [depthL]
 | cons x r ih => simp only [depthL, List.mem_cons, forall_eq_or_imp, ← ih]; omega
theorem encV_pos (v : Val) : 0 < (encV v).length := by
 cases v; rw [encV]; split
 ·simp
 ·split <;> simp
theorem encL_len {l : List Val} : l.length ≤ (encL l).length := by
 induction l with
 | nil => simp
 | cons x r ih => have := encV_pos x; simp only [encL, List.length_append, List.length_cons]; omega
theorem lenG_to {u : Nat} {r : List UInt8} (hu : u < 2 ^ 64) (h : u ≤ r.length) : lenG (numL u ++ r) = some (u, r) := by
 rw [lenG, numG_to r hu]; simp only; rw [if_pos h]
theorem uns_lt {n : Int} (h : -9223372036854775808 ≤ n ∧ n ≤ 9223372036854775807) : unsV n < 2 ^ 64 := by
 unfold unsV; split <;> omega
theorem iterP_to {f : List UInt8 → Option (Val × List UInt8)} : ∀ {l : List Val} (r : List UInt8), (∀ x ∈ l, ∀ r, f (encV x ++ r) = some (x, r)) → iterP f l.length (encL l ++ r) = some (l, r)
  | [], r, _ => rfl
  | x :: l, r, h => by
    rw [List.length_cons, iterP, encL, List.append_assoc, h x (by simp)]
    simp only
    rw [iterP_to r fun y hy => h y (by simp [hy])]
theorem valP_to : ∀ (d : Nat) (v : Val) (r : List UInt8), formedB v = true → depthV v ≤ d → Fit v → valP d (encV v ++ r) = some (v, r) := by
  intro d
  induction d with
  | zero =>
    rintro ⟨k, n, s, l⟩ r hf hd hfit
    cases hfit with
    | mk _ _ _ _ hn hs hl hx =>
      rw [formedB] at hf
      simp only [Bool.or_eq_true, Bool.and_eq_true, beq_iff_eq, List.isEmpty_iff] at hf
      rcases hf with (⟨⟨rfl, rfl⟩, rfl⟩ | ⟨⟨rfl, rfl⟩, rfl⟩) | ⟨⟨⟨rfl, rfl⟩, rfl⟩, hf⟩
      · rw [encV, if_pos rfl, List.cons_append, valP, if_pos (by decide), numG_to r (uns_lt hn)]
        simp only [sgn_uns]
      · rw [encV, if_neg (by decide), if_pos rfl, List.cons_append, List.append_assoc, valP, if_neg (by decide), if_pos (by decide), lenG_to (by omega) (by simp)]
        simp
      · rw [depthV, if_pos rfl] at hd; omega
  | succ d ih =>
    rintro ⟨k, n, s, l⟩ r hf hd hfit
    cases hfit with
    | mk _ _ _ _ hn hs hl hx =>
      rw [formedB] at hf
      simp only [Bool.or_eq_true, Bool.and_eq_true, beq_iff_eq, List.isEmpty_iff] at hf
      rcases hf with (⟨⟨rfl, rfl⟩, rfl⟩ | ⟨⟨rfl, rfl⟩, rfl⟩) | ⟨⟨⟨rfl, rfl⟩, rfl⟩, hf⟩
      · rw [encV, if_pos rfl, List.cons_append, valP, if_pos (by decide), numG_to r (uns_lt hn)]
        simp only [sgn_uns]
      · rw [encV, if_neg (by decide), if_pos rfl, List.cons_append, List.append_assoc, valP, if_neg (by decide), if_pos (by decide), lenG_to (by omega) (by simp)]
        simp
      · rw [depthV, if_pos rfl] at hd
        have hdl := depthL_le.1 (show depthL l ≤ d by omega)
        have hfl := formedL_iff.1 hf
        have hle := encL_len (l := l)
        rw [encV, if_neg (by decide), if_neg (by decide), List.cons_append, List.append_assoc, valP, if_neg (by decide), if_neg (by decide), if_pos (by decide), lenG_to (by omega) (by rw [List.length_append]; omega)]
        simp only
        rw [iterP_to r fun x hxl r => ih x r (hfl x hxl) (hdl x hxl) (hx x hxl)]
end Go.Proofs

/- Drawn regions in which one block is changed by several operations, one after the other. No statement of the program stands here. -/
set_option autoImplicit false
set_option linter.unusedSimpArgs false
set_option linter.unusedVariables false
namespace Go.XL
/-- the operations that change the block, each of them bound to run behind the one before it -/
def chainB (l : List Oper) (m : Nat) : List Nat → Bool
 | [] => true
 | [a] => Nat.blt a m
 | a :: b :: r => Nat.blt a m && befI l b a && chainB l m (b :: r)
def rankQ : List Nat → Nat → Option Nat
 | [], _ => none
 | a :: r, k => bif Nat.beq a k then some 0 else match rankQ r k with | some j => some (j + 1) | none => none
theorem rankQ_some : ∀ {mods : List Nat} {k j : Nat}, rankQ mods k = some j → mods[j]? = some k ∧ j < mods.length
  | [], k, j, h => by cases h
  | a :: r, k, j, h => by
    rw [rankQ] at h
    cases hb : Nat.beq a k with
    | true => rw [hb] at h; cases h; exact ⟨by rw [Nat.eq_of_beq_eq_true hb]; rfl, by simp⟩
    | false =>
      rw [hb] at h
      simp only [cond_false] at h
      split at h
      · rename_i j' hj; cases h
        have := rankQ_some hj
        exact ⟨by simpa using this.1, by simpa using this.2⟩
      · cases h
theorem rankQ_none : ∀ {mods : List Nat} {k : Nat}, rankQ mods k = none → ∀ q, q < mods.length → mods.getD q 0 ≠ k
  | [], k, h, q, hq, _ => by simp at hq
  | a :: r, k, h, q, hq, e => by
    rw [rankQ] at h
    cases hb : Nat.beq a k with
    | true => rw [hb] at h; cases h
    | false =>
      rw [hb] at h
      simp only [cond_false] at h
      split at h
      · cases h
      · rename_i hn
        cases q with
        | zero => simp at e; subst e; simp at hb
        | succ q => exact rankQ_none hn q (by simpa using hq) (by simpa using e)
def lastV (mods : List Nat) (val : Nat → Value) : Nat → Value
 | 0 => undef
 | j + 1 => val (mods.getD j 0)
def entJ (mods : List Nat) (L : Nat → Bool) (j : Nat) : Prop := (∀ q, q < j → L (mods.getD q 0) = true) ∧ (∀ q, j ≤ q → q < mods.length → L (mods.getD q 0) = false)
def entQ (mods : List Nat) (FO : Nat → Value → Nat × SObj → Hp → Prop) (L : Nat → Bool) (val : Nat → Value) (e : Nat × SObj) (H : Hp) : Prop :=
 ∃ j, j ≤ mods.length ∧ (∀ q, q < j → L (mods.getD q 0) = true) ∧ (∀ q, j ≤ q → q < mods.length → L (mods.getD q 0) = false) ∧ FO j (lastV mods val j) e H
theorem entQ_at {mods : List Nat} {FO : Nat → Value → Nat × SObj → Hp → Prop} {L : Nat → Bool} {val : Nat → Value} {e : Nat × SObj} {H : Hp} (h : entQ mods FO L val e H) {r : Nat} (hr : r < mods.length) (hA : ∀ q, q < r → L (mods.getD q 0) = true) (hB : ∀ q, r ≤ q → q < mods.length → L (mods.getD q 0) = false) : FO r (lastV mods val r) e H := by
 obtain ⟨j, hj, h1, h2, h3⟩ := h
 have : j = r := by
  rcases Nat.lt_trichotomy j r with hl | hl | hl
  ·have a := hA j hl; rw [h2 j (Nat.le_refl _) (by omega)] at a; cases a
  ·exact hl
  ·have a := h1 r hl; rw [hB r (Nat.le_refl _) hr] at a; cases a
 subst this; exact h3
def factQ (l : List Oper) (mods : List Nat) (FO : Nat → Value → Nat × SObj → Hp → Prop) (k : Nat) (acc : Env) (e : Nat × SObj) (H : Hp) : Prop :=
 match rankQ mods k with
 | none => True
 | some 0 => FO 0 undef e H
 | some (j + 1) => ∀ t v, dstOf l (mods.getD j 0) = some t → Env.get acc t = some v → FO (j + 1) v e H
def foQ (mods : List Nat) (k : Nat) (FO : Nat → Value → Nat × SObj → Hp → Prop) (e0 : Nat × SObj) : Value → Nat × SObj → Hp → Prop := fun v e H =>
 match rankQ mods k with
 | none => e = e0
 | some j => FO (j + 1) v e H
def lastQ (l : List Oper) (mods : List Nat) (FO : Nat → Value → Nat × SObj → Hp → Prop) (acc : Env) (e : Nat × SObj) (H : Hp) : Prop :=
 match mods.length with
 | 0 => FO 0 undef e H
 | n + 1 => ∀ t v, dstOf l (mods.getD n 0) = some t → Env.get acc t = some v → FO (n + 1) v e H
theorem chainB_lt {l : List Oper} {m : Nat} : ∀ {mods : List Nat}, chainB l m mods = true → ∀ {q : Nat}, q < mods.length → mods.getD q 0 < m
  | [], _, q, hq => by simp at hq
  | [a], h, q, hq => by
    obtain rfl : q = 0 := by simpa using hq
    simpa [chainB] using h
  | a :: b :: r, h, q, hq => by
    simp only [chainB, Bool.and_eq_true] at h
    cases q with
    | zero => simpa using h.1.1
    | succ q => exact chainB_lt h.2 (q := q) (by simpa using hq)
theorem chainB_bef {l : List Oper} {m : Nat} : ∀ {mods : List Nat}, chainB l m mods = true → ∀ q, q + 1 < mods.length → befI l (mods.getD (q + 1) 0) (mods.getD q 0) = true
  | [], _, q, hq => by simp at hq
  | [a], _, q, hq => by simp at hq
  | a :: b :: r, h, q, hq => by
    simp only [chainB, Bool.and_eq_true] at h
    cases q with
    | zero => simpa using h.1.2
    | succ q => exact chainB_bef h.2 q (by simpa using hq)
theorem chainB_mono {l : List Oper} {m : Nat} {mods : List Nat} (h : chainB l m mods = true) (hdc : ∀ (i : Nat) (o : Oper), l[i]? = some o → ∀ e ∈ o.after, Region.binds .any e = true → e.on < i) : ∀ {r q : Nat}, r < q → q < mods.length → mods.getD r 0 < mods.getD q 0 := by
  have one : ∀ q, q + 1 < mods.length → mods.getD q 0 < mods.getD (q + 1) 0 := by
    intro q hq
    have hb := chainB_bef h q hq
    unfold befI at hb
    split at hb
    · rename_i o ho
      simp only [List.any_eq_true, Bool.and_eq_true] at hb
      obtain ⟨ed, hed, h4, h5⟩ := hb
      have := hdc _ o ho ed (by simpa using hed) h4
      rwa [Nat.eq_of_beq_eq_true h5] at this
    · cases hb
  intro r q hrq hq
  induction q with
  | zero => omega
  | succ q ih =>
    have h1 := one q hq
    by_cases he : r = q
    · subst he; exact h1
    · have := ih (by omega) (by omega); omega
def stepsQ (Gd : Hp → Prop) (mods : List Nat) (FO : Nat → Value → Nat × SObj → Hp → Prop) (C : Ctx) (l : List Oper) (F : List (Value → Hp → Prop)) (env : Env) (df : List Deferred) (H : Hp) (own : Own) (m : Nat) : Nat → List Oper → Prop
  | _, [] => True
  | k, o :: rest => bif Nat.blt k m then
      (∀ X e H', Le H H' → Gd H' → withP l F H' (predsG o) [] fun acc => factQ l mods FO k acc e H' → XO C l.toArray (stepQV Gd o.dst (factAt F k) (foQ mods k FO e) (acc ++ (env ++ X)) df own) [o] ⟨acc ++ (env ++ X), df, H', e :: own⟩) ∧ stepsQ Gd mods FO C l F env df H own m (k + 1) rest
    else True
theorem stepsQ_cons {Gd : Hp → Prop} {mods : List Nat} {FO : Nat → Value → Nat × SObj → Hp → Prop} {C : Ctx} {l : List Oper} {F : List (Value → Hp → Prop)} {env : Env} {df : List Deferred} {H : Hp} {own : Own} {m k : Nat} {o : Oper} {rest : List Oper} (hk : Nat.blt k m = true)
  (h : ∀ X e H', Le H H' → Gd H' → withP l F H' (predsG o) [] fun acc => factQ l mods FO k acc e H' → XO C l.toArray (stepQV Gd o.dst (factAt F k) (foQ mods k FO e) (acc ++ (env ++ X)) df own) [o] ⟨acc ++ (env ++ X), df, H', e :: own⟩) (k2 : stepsQ Gd mods FO C l F env df H own m (k + 1) rest) : stepsQ Gd mods FO C l F env df H own m k (o :: rest) := by
 rw [stepsQ, hk]; exact ⟨h, k2⟩
theorem stepsQ_end {Gd : Hp → Prop} {mods : List Nat} {FO : Nat → Value → Nat × SObj → Hp → Prop} {C : Ctx} {l : List Oper} {F : List (Value → Hp → Prop)} {env : Env} {df : List Deferred} {H : Hp} {own : Own} {m k : Nat} {rest : List Oper} (hk : Nat.blt k m = false) : stepsQ Gd mods FO C l F env df H own m k rest := by
 cases rest with
 | nil => trivial
 | cons o r => rw [stepsQ, hk]; trivial
section
variable {C : Ctx} {Q : Exit → St → Prop} {env : Env} {df : List Deferred} {H : Hp} {own : Own}
theorem stepsQ_at {Gd : Hp → Prop} {mods : List Nat} {FO : Nat → Value → Nat × SObj → Hp → Prop} {l : List Oper} {F : List (Value → Hp → Prop)} {m : Nat} : ∀ (rest : List Oper) (k : Nat), stepsQ Gd mods FO C l F env df H own m k rest → ∀ (i : Nat) (o : Oper), rest[i]? = some o → k + i < m →
    ∀ X e H', Le H H' → Gd H' → withP l F H' (predsG o) [] fun acc => factQ l mods FO (k + i) acc e H' → XO C l.toArray (stepQV Gd o.dst (factAt F (k + i)) (foQ mods (k + i) FO e) (acc ++ (env ++ X)) df own) [o] ⟨acc ++ (env ++ X), df, H', e :: own⟩
  | [], k, _, i, o, hi, _ => by simp at hi
  | x :: rest, k, h, i, o, hi, hlt => by
    simp only [stepsQ] at h
    rw [show Nat.blt k m = true by simp; omega] at h
    cases i with
    | zero => simp only [List.getElem?_cons_zero, Option.some.injEq] at hi; subst hi; exact h.1
    | succ i =>
      have := stepsQ_at rest (k + 1) h.2 i o (by simpa using hi) (by omega)
      rwa [show k + 1 + i = k + (i + 1) by omega] at this
theorem XC.drawQ (Gd : Hp → Prop) (hG : Gd H) (mods : List Nat) (FO : Nat → Value → Nat × SObj → Hp → Prop) (hFO : ∀ j v p H H', Le H H' → FO j v p H → FO j v p H') {id : Nat} {l : List Oper} (m : Nat) (F : List (Value → Hp → Prop)) (hm : C.P.follows .mixedOrders = true) (hck : drawOkH m l (env.map Prod.fst) = true) (hmono' : monoL F)
    (hch : chainB l m mods = true) {q : Nat × SObj} (hq0 : FO 0 undef q H) (steps : stepsQ Gd mods FO C l F env df H own m 0 l)
    (tail : ∀ H', Le H H' → Gd H' → withP l F H' (List.range m) [] fun acc => ∀ e, lastQ l mods FO acc e H' → XO C l.toArray Q (l.drop m) ⟨acc ++ env, df, H', e :: own⟩) : XC C (.region id l.toArray true) Q ⟨env, df, H, q :: own⟩ := by
  have hmono := monoF_of hmono'
  intro a₀ w₀ hr₀
  refine wpIn_region_any hm ?_
  simp only [drawOkH, Bool.and_eq_true, List.all_eq_true, List.mem_range] at hck
  obtain ⟨⟨hml, hck1⟩, hck2⟩ := hck
  have hml := Nat.le_of_ble_eq_true hml
  have hpre : ∀ i, i < m → ∃ o, l[i]? = some o ∧ (∀ t, o.dst = some t → t ∉ env.map Prod.fst ∧ (∀ j, j < m → i ≠ j → dstOf l j ≠ some t)) ∧ (∀ e ∈ o.after, Region.binds .any e = true → e.on < i) ∧ (∀ j ∈ predsG o, j < m ∧ ∃ e ∈ o.after, Region.binds .any e = true ∧ e.on = j) := by
    intro i hi
    have h := hck1 i hi
    split at h
    · rename_i o ho
      simp only [Bool.and_eq_true, List.all_eq_true] at h
      obtain ⟨⟨⟨hnd, hd⟩, haf⟩, hp⟩ := h
      refine ⟨o, ho, ?_, ?_, ?_⟩
      · intro t ht
        rw [ht] at hd
        simp only [Bool.and_eq_true, List.all_eq_true, List.mem_range, Bool.not_eq_true', List.contains_eq_mem, decide_eq_false_iff_not] at hd
        refine ⟨hd.1, fun j hj hne he => ?_⟩
        have := hd.2 j hj
        rw [he] at this
        simp at this
        exact hne this
      · intro e he hb
        have := haf e (by simpa using he)
        simpa [hb] using this
      · intro j hj
        have := hp j hj
        simp only [List.any_eq_true, Bool.and_eq_true] at this
        obtain ⟨h1, e, he, hb, hon⟩ := this
        exact ⟨by simpa using h1, e, by simpa using he, hb, Nat.eq_of_beq_eq_true hon⟩
    · cases h
  have hkey : ∀ i t, i < m → dstOf l i = some t → t ∉ env.map Prod.fst := by
    intro i t hi ht
    obtain ⟨o, ho, hd, _⟩ := hpre i hi
    exact (hd t (by simpa [dstOf, ho] using ht)).1
  have hdis : ∀ i j t, i < m → j < m → dstOf l i = some t → dstOf l j = some t → i = j := by
    intro i j t hi hj ht ht2
    obtain ⟨o, ho, hd, _⟩ := hpre i hi
    by_cases h : i = j
    · exact h
    · exact absurd ht2 ((hd t (by simpa [dstOf, ho] using ht)).2 j hj h)
  have htl : ∀ (i : Nat) (o : Oper), m ≤ i → l[i]? = some o → (∀ j, j < i → waitsB l l.length o j = true) ∧ (∀ e ∈ o.after, Region.binds .any e = true → e.on < i) := by
    intro i o hi ho
    have hlt := (List.getElem?_eq_some_iff.1 ho).1
    have h := hck2 i hlt
    rw [ho] at h
    rw [show Nat.blt i m = false from blt_ge hi] at h
    simp only [Bool.false_or, Bool.and_eq_true, List.all_eq_true, List.mem_range] at h
    refine ⟨fun j hj => h.1 j hj, fun e he hb => ?_⟩
    · have := h.2 e (by simpa using he)
      simpa [hb] using this
  have hdc : ∀ (i : Nat) (o : Oper), l[i]? = some o → ∀ e ∈ o.after, Region.binds .any e = true → e.on < i := by
    intro i o ho
    rcases Nat.lt_or_ge i m with h | h
    · obtain ⟨o2, ho2, _, haf, _⟩ := hpre i h
      rw [ho] at ho2; cases ho2; exact haf
    · exact (htl i o h ho).2
  have main : ∀ (fuel : Nat) (L : Array Bool) (a : Act) (w : World) (val : Nat → Value) (ent : Nat × SObj) (H' : Hp), L.size = l.length → unl l.length L ≤ fuel → Le H H' → Gd H' → (∀ (i : Nat) (o : Oper), l[i]? = some o → lst L i = true → ∀ e ∈ o.after, Region.binds .any e = true → lst L e.on = true) → (∀ j, m ≤ j → lst L j = false) →
      a.tmps.size = C.N → (∀ t v, env.get t = some v → a.tmps.getD t undef = v) → (∃ ms : List Nat, a.defers = ms.map mark ++ df ∧ Ok C.G H' ((ent :: own) ++ (ms.map hid ++ C.hid)) w) → entQ mods FO (lst L) val ent H' →
      (∀ i, i < m → lst L i = true → ∀ t, dstOf l i = some t → a.tmps.getD t undef = val i ∧ factAt F i (val i) H') →
      wpAnyIn (Fr C.r) 0 C.P .any l.toArray (lift C H Q) fuel L a w := by
    intro fuel
    have done : ∀ (fuel : Nat) (L : Array Bool) (a : Act) (w : World) (val : Nat → Value) (ent : Nat × SObj) (H' : Hp), L.size = l.length → unl l.length L ≤ fuel → Le H H' → Gd H' → (∀ j, m ≤ j → lst L j = false) →
        a.tmps.size = C.N → (∀ t v, env.get t = some v → a.tmps.getD t undef = v) → (∃ ms : List Nat, a.defers = ms.map mark ++ df ∧ Ok C.G H' ((ent :: own) ++ (ms.map hid ++ C.hid)) w) → entQ mods FO (lst L) val ent H' →
        (∀ i, i < m → lst L i = true → ∀ t, dstOf l i = some t → a.tmps.getD t undef = val i ∧ factAt F i (val i) H') → (∀ j, j < m → lst L j = true) →
        wpAnyIn (Fr C.r) 0 C.P .any l.toArray (lift C H Q) fuel L a w := by
      intro fuel L a w val ent H' hs hu hle hGd hT hsz henv hok hents hfacts hall
      obtain ⟨acc', hk, hmem⟩ := withP_of (val := val) (List.range m) [] _ (tail H' hle hGd) (fun j hj t ht => (hfacts j (List.mem_range.1 hj) (hall j (List.mem_range.1 hj)) t ht).2)
      have hcount : l.length - m ≤ fuel := by rw [count_tail hml hall hT]; exact hu
      refine drawTail (m := m) htl hdc fuel m L a w (Nat.le_refl _) hs hcount hml ?_ ?_
      · intro j
        rcases Nat.lt_or_ge j m with h | h
        · rw [hall j h]; simp [h]
        · rw [hT j h]; simp; omega
      · have hk2 := hk ent (by
          obtain ⟨j, hj, h1, h2, h3⟩ := hents
          have hjl : j = mods.length := by
            rcases Nat.lt_or_ge j mods.length with h | h
            · have := h2 j (Nat.le_refl _) h
              rw [hall _ (chainB_lt hch h)] at this; cases this
            · omega
          subst hjl
          unfold lastQ
          cases hm : mods.length with
          | zero => rw [hm] at h3; simpa [lastV] using h3
          | succ n =>
            intro t v hdt hg
            rw [hm] at h3
            obtain ⟨j', hj', hdj, rfl⟩ := hmem t v (env_get_mem (by simpa using hg))
            obtain rfl := hdis _ j' t (chainB_lt hch (by omega)) (List.mem_range.1 hj') hdt hdj
            simpa [lastV] using h3)
        refine wpList_mono hle _ _ _ (hk2 a w ⟨hsz, ?_, hok⟩)
        intro t v hg
        simp only [List.append_nil] at hg
        rw [Env.get_append] at hg
        cases hga : Env.get acc' t with
        | none => rw [hga] at hg; exact henv t v (by simpa using hg)
        | some u =>
          rw [hga] at hg; simp at hg; subst hg
          obtain ⟨j, hj, hd, rfl⟩ := hmem t u (get_mem _ _ _ hga)
          have hj := List.mem_range.1 hj
          exact (hfacts j hj (hall j hj) t hd).1
    induction fuel with
    | zero =>
      intro L a w val ent H' hs hu hle hGd hdown hT hsz henv hok hents hfacts
      refine done 0 L a w val ent H' hs hu hle hGd hT hsz henv hok hents hfacts ?_
      intro j hj
      cases hx : lst L j with
      | true => rfl
      | false =>
        have := unl_set (L := L) (i := j) hs (by omega) hx
        omega
    | succ fuel ih =>
      intro L a w val ent H' hs hu hle hGd hdown hT hsz henv hok hents hfacts
      by_cases hall : ∀ j, j < m → lst L j = true
      · exact done (fuel + 1) L a w val ent H' hs hu hle hGd hT hsz henv hok hents hfacts hall
      · constructor
        · intro hnil
          exfalso
          apply hall
          -- the least one that is not listed is ready
          intro j hj
          induction j using Nat.strongRecOn with
          | _ j ihj =>
            cases hx : lst L j with
            | true => rfl
            | false =>
              exfalso
              obtain ⟨o, ho, _, haf, _⟩ := hpre j hj
              have : j ∈ Region.ready .any l.toArray L := by
                rw [mem_ready]
                refine ⟨?_, o, by simpa using ho, fun e he hb => ihj e.on (haf e he hb) (by have := haf e he hb; omega)⟩
                unfold lst at hx
                rw [Array.getD_eq_getD_getElem?, Array.getElem?_eq_getElem (by omega)] at hx ⊢
                simpa using hx
              rw [hnil] at this; cases this
        · intro i hi
          rw [mem_ready] at hi
          obtain ⟨h0, o, ho, hbef⟩ := hi
          have hilt : i < l.length := by simpa using (Array.getElem?_eq_some_iff.1 ho).1
          have hun : lst L i = false := by
            unfold lst
            rw [Array.getD_eq_getD_getElem?, Array.getElem?_eq_getElem (by omega)] at h0 ⊢
            simpa using h0
          have ho' : l[i]? = some o := by simpa using ho
          have him : i < m := by
            rcases Nat.lt_or_ge i m with h | h
            · exact h
            · exfalso
              apply hall
              intro j hj
              exact waits_listed hdown _ o j hbef ((htl i o h ho').1 j (by omega))
          obtain ⟨o2, ho2, hd, haf, hprd⟩ := hpre i him
          rw [ho'] at ho2; cases ho2
          have hdo : dstOf l i = o.dst := by simp [dstOf, ho']
          have hst := stepsQ_at l 0 steps i o ho' (by omega)
          simp only [Nat.zero_add] at hst
          -- all that is known of the slots, as one list
          let X : Env := (List.range m).filterMap fun j => if lst L j then (dstOf l j).map fun t => (t, val j) else none
          have hpredF : ∀ j ∈ predsG o, ∀ tj, dstOf l j = some tj → factAt F j (val j) H' := fun j hj tj hdj => by
            obtain ⟨hjm, e, he, hb, hon⟩ := hprd j hj
            have hlj : lst L j = true := by have := hbef e he hb; rw [hon] at this; exact this
            exact (hfacts j hjm hlj tj hdj).2
          have hX : ∀ t v, (t, v) ∈ X → ∃ j, j < m ∧ lst L j = true ∧ dstOf l j = some t ∧ v = val j := by
            intro t v h
            obtain ⟨j, hj, hjj⟩ := List.mem_filterMap.1 h
            split at hjj
            · rename_i hlj
              cases hdj : dstOf l j with
              | none => rw [hdj] at hjj; cases hjj
              | some tj =>
                rw [hdj] at hjj
                simp only [Option.map_some, Option.some.injEq, Prod.mk.injEq] at hjj
                obtain ⟨rfl, rfl⟩ := hjj
                exact ⟨j, List.mem_range.1 hj, hlj, hdj, rfl⟩
            · cases hjj
          have hgets : ∀ acc' : Env, (∀ t v, (t, v) ∈ acc' → ∃ j ∈ predsG o, dstOf l j = some t ∧ v = val j) → ∀ t v, Env.get (acc' ++ (env ++ X)) t = some v → a.tmps.getD t undef = v := by
            intro acc' hmem t v hgv
            rw [Env.get_append, Env.get_append] at hgv
            cases hga : Env.get acc' t with
            | some u =>
              rw [hga] at hgv; simp at hgv; subst hgv
              obtain ⟨j, hj, hdj, rfl⟩ := hmem t u (get_mem _ _ _ hga)
              obtain ⟨hjm, e, he, hb, hon⟩ := hprd j hj
              have hlj : lst L j = true := by have := hbef e he hb; rw [hon] at this; exact this
              exact (hfacts j hjm hlj t hdj).1
            | none =>
              rw [hga] at hgv; simp only [Option.none_or] at hgv
              cases hge : Env.get env t with
              | some u => rw [hge] at hgv; simp at hgv; subst hgv; exact henv t u hge
              | none =>
                rw [hge] at hgv; simp only [Option.none_or] at hgv
                obtain ⟨j, hj, hlj, hdj, rfl⟩ := hX t v (get_mem _ _ _ hgv)
                exact (hfacts j hj hlj t hdj).1
          have hnextG : ∀ (acc' : Env), (∀ t v, (t, v) ∈ acc' → ∃ j ∈ predsG o, dstOf l j = some t ∧ v = val j) → ∀ (a' : Act) (w' : World) (σ' : St) (v : Value) (ent' : Nat × SObj), Rel C σ' a' w' → Le H' σ'.H → Gd σ'.H → σ'.df = df → σ'.env = putE o.dst v (acc' ++ (env ++ X)) → factAt F i v σ'.H →
              (∀ ms : List Nat, Ok C.G σ'.H (σ'.own ++ (ms.map hid ++ C.hid)) w' → Ok C.G σ'.H ((ent' :: own) ++ (ms.map hid ++ C.hid)) w') →
              entQ mods FO (lst (L.setIfInBounds i true)) (fun j => if j = i then v else val j) ent' σ'.H →
              wpAnyIn (Fr C.r) 0 C.P .any l.toArray (lift C H Q) fuel (L.setIfInBounds i true) a' w' := by
            intro acc' hmem a' w' σ' v ent' hr' hle' hGd' hdf' henv' hfv hown' hent'
            refine ih (L.setIfInBounds i true) a' w' (fun j => if j = i then v else val j) ent' σ'.H (by simpa using hs) ?_ (hle.trans hle') hGd' ?_ ?_ hr'.size ?_ ?_ hent' ?_
            · have := unl_set hs hilt hun; omega
            · intro i' o' hi' hl' e he hb
              rw [lst_set (by omega)] at hl' ⊢
              split
              · rfl
              · split at hl'
                · rename_i e1 e2; subst e2; rw [ho'] at hi'; cases hi'; exact hbef e he hb
                · exact hdown i' o' hi' hl' e he hb
            · intro j hj
              rw [lst_set (by omega), if_neg (by omega)]
              exact hT j hj
            · intro t' v' hg'
              refine hr'.get t' v' ?_
              have hin : t' ∈ env.map Prod.fst := List.mem_map.2 ⟨(t', v'), get_mem _ _ _ hg', rfl⟩
              rw [henv', get_putE_ne (fun e => (hd t' e).1 hin), Env.get_append, Env.get_append]
              have : Env.get acc' t' = none := by
                cases hga : Env.get acc' t' with
                | none => rfl
                | some u =>
                  obtain ⟨j, hj, hdj, _⟩ := hmem t' u (get_mem _ _ _ hga)
                  exact absurd hin (hkey j t' (hprd j hj).1 hdj)
              rw [this, hg']; rfl
            · obtain ⟨ms, hd', hok'⟩ := hr'.ok
              exact ⟨ms, by rw [hd', hdf'], hown' ms hok'⟩
            · intro j hj hlj tj htj
              rw [lst_set (by omega)] at hlj
              by_cases hji : j = i
              · subst hji
                rw [hdo] at htj
                simp only [if_true]
                refine ⟨hr'.get tj v ?_, hfv⟩
                rw [henv', htj]; simp [putE, Env.get]
              · rw [if_neg hji] at hlj
                obtain ⟨h1, h2⟩ := hfacts j hj hlj tj htj
                simp only [if_neg hji]
                refine ⟨hr'.get tj (val j) ?_, factAt_mono hmono hle' h2⟩
                rw [henv', get_putE_ne (fun e => hji (hdis j i tj hj him htj (by rw [hdo, e]))), Env.get_append, Env.get_append]
                have hacc : Env.get acc' tj = none ∨ Env.get acc' tj = some (val j) := by
                  cases hga : Env.get acc' tj with
                  | none => exact .inl rfl
                  | some u =>
                    obtain ⟨j', hj', hdj', rfl⟩ := hmem tj u (get_mem _ _ _ hga)
                    obtain rfl := hdis j' j tj (hprd j' hj').1 hj hdj' htj
                    exact .inr rfl
                rcases hacc with hacc | hacc
                · rw [hacc]
                  have henvn : Env.get env tj = none := by
                    cases hge : Env.get env tj with
                    | none => rfl
                    | some u => exact absurd (List.mem_map.2 ⟨(tj, u), get_mem _ _ _ hge, rfl⟩) (hkey j tj hj htj)
                  rw [henvn]
                  simp only [Option.none_or]
                  -- it stands in X, once
                  refine get_uniq X (List.mem_filterMap.2 ⟨j, List.mem_range.2 hj, by simp only [hlj, if_true, htj, Option.map_some]⟩) ?_
                  intro u hu'
                  obtain ⟨j', hj', _, hdj', rfl⟩ := hX tj u hu'
                  obtain rfl := hdis j' j tj hj' hj hdj' htj
                  rfl
                · rw [hacc]; rfl
          have hcase : ∀ (acc' : Env) (own2 : Own) (Q2 : Exit → St → Prop), (∀ e σ, e ≠ .normal → ¬ Q2 e σ) → XO C l.toArray Q2 [o] ⟨acc' ++ (env ++ X), df, H', own2⟩ → Rel C ⟨acc' ++ (env ++ X), df, H', own2⟩ a w →
              (∀ a' w', lift C H' Q2 .normal a' w' → wpAnyIn (Fr C.r) 0 C.P .any l.toArray (lift C H Q) fuel (L.setIfInBounds i true) a' w') → wpOpIn (Fr C.r) 0 C.P l.toArray (lift C H Q) i (fun a' w' => wpAnyIn (Fr C.r) 0 C.P .any l.toArray (lift C H Q) fuel (L.setIfInBounds i true) a' w') a w := by
            intro acc' own2 Q2 hno hk hrel hnext
            have hrun := hk a w hrel
            unfold wpOpIn
            rw [ho]
            simp only [wpListIn] at hrun ⊢
            split
            · rename_i hw
              rw [if_pos hw] at hrun
              refine wpInOper_mono hnext ?_ hrun
              rintro e a' w' he ⟨σ', _, _, hq⟩
              exact absurd hq (hno e σ' he)
            · rename_i hw
              rw [if_neg hw] at hrun
              exact ⟨hrun.1, hnext _ _ hrun.2⟩
          obtain ⟨acc', hk0, hmem⟩ := withP_of (val := val) (predsG o) [] _ (hst X ent H' hle hGd) hpredF
          have hch2 := chainB_bef hch
          have hrank : ∀ r, mods[r]? = some i → entJ mods (lst L) r := by
            intro r hr
            obtain ⟨j, hj, h1, h2, h3⟩ := hents
            have hrl : r < mods.length := (List.getElem?_eq_some_iff.1 hr).1
            have hri : mods.getD r 0 = i := by rw [List.getD_eq_getElem?_getD, hr]; rfl
            have hrj : j ≤ r := by
              rcases Nat.lt_or_ge r j with h | h
              · have := h1 r h; rw [hri, hun] at this; cases this
              · exact h
            refine ⟨fun q hq => ?_, fun q hq hql => h2 q (by omega) hql⟩
            have hall2 : ∀ d q, q + d + 1 = r → lst L (mods.getD q 0) = true := by
              intro d
              induction d with
              | zero =>
                intro q hq
                have hb := hch2 q (by omega)
                rw [show q + 1 = r by omega, hri] at hb
                unfold befI at hb
                rw [ho'] at hb
                simp only [List.any_eq_true, Bool.and_eq_true] at hb
                obtain ⟨ed, hed, h4, h5⟩ := hb
                have := hbef ed (by simpa using hed) h4
                rwa [Nat.eq_of_beq_eq_true h5] at this
              | succ d ihd =>
                intro q hq
                have hn := ihd (q + 1) (by omega)
                have hb := hch2 q (by omega)
                unfold befI at hb
                split at hb
                · rename_i o3 ho3
                  simp only [List.any_eq_true, Bool.and_eq_true] at hb
                  obtain ⟨ed, hed, h4, h5⟩ := hb
                  have := hdown _ o3 ho3 hn ed (by simpa using hed) h4
                  rwa [Nat.eq_of_beq_eq_true h5] at this
                · cases hb
            exact hall2 (r - q - 1) q (by omega)
          have hk := hk0 (by
            unfold factQ
            cases hr : rankQ mods i with
            | none => trivial
            | some r =>
              obtain ⟨hr1, hr2⟩ := rankQ_some hr
              obtain ⟨hA, hB⟩ := hrank r hr1
              have h3 := entQ_at hents hr2 hA hB
              cases r with
              | zero => simpa [lastV] using h3
              | succ r =>
                intro t v hdt hg
                obtain ⟨j', hj', hdj, rfl⟩ := hmem t v (env_get_mem (by simpa using hg))
                obtain rfl := hdis _ j' t (chainB_lt hch (by omega)) (hprd j' hj').1 hdt hdj
                simpa [lastV] using h3)
          simp only [List.append_nil] at hk
          refine hcase acc' _ _ (fun e σ he => by cases e <;> first | exact absurd rfl he | exact fun h => h) hk ⟨hsz, hgets acc' hmem, hok⟩ ?_
          rintro a' w' ⟨σ', hr', hle', hGd', hdf', v, e2, henv', hfv, hown', hfo⟩
          refine hnextG acc' hmem a' w' σ' v e2 hr' hle' hGd' hdf' henv' hfv ?_ ?_
          · intro ms hok'
            rw [hown'] at hok'
            exact hok'
          · unfold foQ at hfo
            cases hr : rankQ mods i with
            | none =>
              rw [hr] at hfo
              simp only at hfo
              subst hfo
              obtain ⟨j, hj, h1, h2, h3⟩ := hents
              have hne : ∀ q, q < mods.length → mods.getD q 0 ≠ i := fun q hq e => rankQ_none hr q hq e
              refine ⟨j, hj, fun q hq => ?_, fun q hq hql => ?_, ?_⟩
              · rw [lst_set (by omega), if_neg (hne q (by omega))]; exact h1 q hq
              · rw [lst_set (by omega), if_neg (hne q hql)]; exact h2 q hq hql
              · have e : lastV mods (fun j => if j = i then v else val j) j = lastV mods val j := by
                  unfold lastV
                  cases j with
                  | zero => rfl
                  | succ j => simp only; rw [if_neg (hne j (by omega))]
                rw [e]; exact hFO _ _ _ _ _ hle' h3
            | some r =>
              rw [hr] at hfo
              simp only at hfo
              obtain ⟨hr1, hr2⟩ := rankQ_some hr
              obtain ⟨hA, hB⟩ := hrank r hr1
              have hri : mods.getD r 0 = i := by rw [List.getD_eq_getElem?_getD, hr1]; rfl
              refine ⟨r + 1, hr2, fun q hq => ?_, fun q hq hql => ?_, ?_⟩
              · rw [lst_set (by omega)]
                split
                · rfl
                · rename_i hne
                  have : q ≠ r := fun e => by rw [e, hri] at hne; exact hne rfl
                  exact hA q (by omega)
              · have hlt := chainB_mono hch hdc (show r < q by omega) hql
                rw [lst_set (by omega), if_neg (by rw [← hri]; omega)]
                exact hB q (by omega) hql
              · simp only [lastV]
                rw [hri, if_pos rfl]; exact hfo
  have hlst0 : ∀ j, lst (Array.replicate l.toArray.size false) j = false := fun j => by simp [lst, Array.getD_eq_getD_getElem?, Array.getElem?_replicate]; split <;> rfl
  exact main l.toArray.size (Array.replicate l.toArray.size false) a₀ _ (fun _ => undef) q H (by simp) (by
      refine Nat.le_trans (List.countP_le_length) (by simp)) (Le.refl _) hG (fun i o _ hl => by
      have : lst (Array.replicate l.toArray.size false) i = false := by simp [lst, Array.getD_eq_getD_getElem?, Array.getElem?_replicate]; split <;> rfl
      rw [this] at hl; cases hl) (fun j _ => by simp [lst, Array.getD_eq_getD_getElem?, Array.getElem?_replicate]; split <;> rfl) hr₀.size hr₀.get
    (let ⟨ms, hd, hok⟩ := hr₀.ok; ⟨ms, hd, hok.drew⟩) ⟨0, Nat.zero_le _, fun q hq => absurd hq (by omega), fun q _ _ => hlst0 _, by simpa [lastV] using hq0⟩ (fun i _ h => by
      have : lst (Array.replicate l.toArray.size false) i = false := by simp [lst, Array.getD_eq_getD_getElem?, Array.getElem?_replicate]; split <;> rfl
      rw [this] at h; cases h)
end
theorem foQ_no {mods : List Nat} {k : Nat} {FO : Nat → Value → Nat × SObj → Hp → Prop} {e : Nat × SObj} {v : Value} {H : Hp} (hr : rankQ mods k = none) : foQ mods k FO e v e H := by unfold foQ; rw [hr]
theorem foQ_mod {mods : List Nat} {k j : Nat} {FO : Nat → Value → Nat × SObj → Hp → Prop} {e0 e : Nat × SObj} {v : Value} {H : Hp} (hr : rankQ mods k = some j) (h : FO (j + 1) v e H) : foQ mods k FO e0 v e H := by unfold foQ; rw [hr]; exact h
theorem factQ_0 {l : List Oper} {mods : List Nat} {FO : Nat → Value → Nat × SObj → Hp → Prop} {k : Nat} {acc : Env} {e : Nat × SObj} {H : Hp} (hr : rankQ mods k = some 0) (h : factQ l mods FO k acc e H) : FO 0 undef e H := by unfold factQ at h; rw [hr] at h; exact h
theorem factQ_s {l : List Oper} {mods : List Nat} {FO : Nat → Value → Nat × SObj → Hp → Prop} {k j : Nat} {acc : Env} {e : Nat × SObj} {H : Hp} {t : Tmp} {v : Value} (hr : rankQ mods k = some (j + 1)) (h : factQ l mods FO k acc e H) (ht : dstOf l (mods.getD j 0) = some t) (hv : Env.get acc t = some v) : FO (j + 1) v e H := by unfold factQ at h; rw [hr] at h; exact h t v ht hv
theorem lastQ_s {l : List Oper} {mods : List Nat} {FO : Nat → Value → Nat × SObj → Hp → Prop} {n : Nat} {acc : Env} {e : Nat × SObj} {H : Hp} {t : Tmp} {v : Value} (hm : mods.length = n + 1) (h : lastQ l mods FO acc e H) (ht : dstOf l (mods.getD n 0) = some t) (hv : Env.get acc t = some v) : FO (n + 1) v e H := by unfold lastQ at h; rw [hm] at h; exact h t v ht hv
end Go.XL

/- Strings: their length, and their bytes appended to a slice. No statement of the program stands here. -/
set_option autoImplicit false
set_option linter.unusedSimpArgs false
set_option linter.unusedVariables false
namespace Go.XL
theorem strC (m : List UInt8) : Go.Lib.strCells (bsOf m) = m.map fun b => Value.int .u8 (b.toNat : Nat) := by
 simp [Go.Lib.strCells, bsOf]
theorem rowsStr (H : Hp) : ∀ m : List UInt8, RowsR u8R H (m.map fun b => Value.int .u8 (b.toNat : Nat)) m
 | [] => rfl
 | x :: r => ⟨[.int .u8 (x.toNat : Nat)], _, rfl, rfl, rowsStr H r⟩
theorem bsSize (m : List UInt8) : (bsOf m).size = m.length := by simp [bsOf, ByteArray.size]
theorem run_append_accS {H : Hp} {own : Own} {P : Program} {G : World} {w : World} {fr : Own} {t u e t' : TypeId} {i : Nat} {p : Nat × SObj} {a : Option Addr} {c : Nat} {l m : List UInt8} {zs : List Value} {agg : Bool}
    (hok : Ok G H (own ++ fr) w) (hp : Own.at own i = some p) (hacc : Acc u8R e H p a c l) (ht : P.underlying t = some (.slice e)) (hu : P.underlying u = some .string) (he : tyF P e 1 agg = true) (hz : zeroC P e = some zs) (hzl : Nat.beq zs.length 1 = true) (hby : Nat.ble (P.bytesOf e) 4096 = true) (hn : l.length + m.length ≤ 1073741824) :
    ∃ p' a'' c'' w', (Builtin.append_ #[t, u] t' #[.slice a l.length c, .string (bsOf m)]).run P w = .ok (.slice a'' (l ++ m).length c'') w' ∧ Acc u8R e H p' a'' c'' (l ++ m) ∧ Ok G H (Own.set2 own i p' ++ fr) w' := by
  obtain ⟨_, inf, hi, hsz⟩ := tyF_run he
  have hzl := Nat.eq_of_beq_eq_true hzl
  have hby := Nat.le_of_ble_eq_true hby
  have hby' : inf.bytes ≤ 4096 := by simpa [Program.bytesOf, hi] using hby
  have hmul : (l.length + m.length) * inf.bytes ≤ 140737488355328 := Nat.le_trans (Nat.mul_le_mul hn hby') (by decide)
  obtain ⟨z, hzz, hzc⟩ : ∃ z, inf.zero = some z ∧ z.cells = zs.toArray := by
    unfold zeroC at hz
    rw [hi] at hz
    simp only at hz
    split at hz
    · rename_i z hzz; exact ⟨z, hzz, cellsO_eq hz⟩
    · cases hz
  have hrows := rowsStr H m
  have hss := bsSize m
  cases hl' : m with
  | nil =>
    have hc := hacc.le
    refine ⟨p, a, c, w, ?_, by simpa using hacc, by rw [Own.set2_at hp]; exact hok⟩
    have hlc : l.length ≤ c := hc
    simp only [List.append_nil, List.length_nil]
    have hs0 : (bsOf []).size = 0 := rfl
    simp [Builtin.append_, run_underlying ht, run_underlying hu, sizeOf, typeInfo, hi, Builtin.lenOf, hlc, Builtin.firstCells, hs0]
    cases a <;> simp [storeCells, Sem.run, Pure.pure, hlc, hs0]
  | cons x0 lt =>
    rw [← hl']
    have hpos : 0 < m.length := by rw [hl']; simp
    have hlen : (m.map fun b => Value.int .u8 ((b.toNat : Nat) : Int)).length = m.length := by simp
    rcases hacc with ⟨rfl, rfl, rfl, hnone⟩ | ⟨xs, rfl, hrow, hxs, hlc⟩
    · have hrun := Go.run_append_nil_string (P := P) (w := w) t u t' e inf z ht hu hi hzz (bsOf m) (by rw [hss]; exact hpos) (by rw [hss]; simp at hn; omega) (by rw [hss]; simp at hmul; omega)
      rw [hss] at hrun
      have hge := grownCap_ge w m.length 0 e
      refine ⟨(w.heap.size, .row e (grownCap w m.length 0 e * 1) (m.map fun b => Value.int .u8 (b.toNat : Nat))), _, _, _, by simpa using hrun, .inr ⟨_, rfl, rfl, by simpa using hrows, by simpa using hge⟩, ?_⟩
      refine hok.swap hp ⟨(Builtin.zeroCells z.cells (grownCap w m.length 0 e - m.length)).toList, by simp [bsOf], ?_⟩
      rw [hzc, List.length_append, zeroCells_len, hzl, hlen]
      omega
    · obtain ⟨b, s⟩ := p
      simp only at hrow hp ⊢
      subst hrow
      obtain ⟨ct, hbw, hbn⟩ := row_of hok (List.mem_append_left fr (Own.at_mem hp))
      have hxl : xs.length = l.length := by have := hxs.length; rw [this, show u8R.sz = 1 from rfl, Nat.mul_one]
      have hu1 : u8R.sz = 1 := rfl
      by_cases hroom : l.length + m.length ≤ c
      · have hfit : l.length + (bsOf m).size ≤ (xs ++ ct).toArray.size := by
          simp only [List.size_toArray]
          rw [hbn, hss, hu1]; omega
        have hrun := Go.Lib.run_append_room_string (P := P) (w := w) t u t' e inf ht hu hi hsz b l.length c (xs ++ ct).toArray hbw (bsOf m) (by rw [hss]; exact hroom) hfit
        rw [strC, hss] at hrun
        refine ⟨(b, .row e (c * 1) (xs ++ m.map fun b => Value.int .u8 (b.toNat : Nat))), _, _, _, by simpa using hrun, .inr ⟨_, rfl, rfl, hxs.append hrows, by simpa using hroom⟩, ?_⟩
        refine hok.write2 hp rfl hbw ⟨(xs ++ ct).drop (l.length + m.length), ?_, ?_⟩
        · rw [List.take_append_of_le_length (by simp [hxl]), List.take_of_length_le (by simp [hxl])]
          try simp only [List.append_assoc]
        · have h5 : (xs ++ ct).length = c * 1 := hbn
          simp only [List.length_append, List.length_drop, List.length_map] at h5 ⊢
          omega
      · have hrun := Go.Lib.run_append_grow_string (P := P) (w := w) t u t' e inf z ht hu hi hzz ⟨b, 0, none⟩ l.length c xs (by rw [hsz, hxl, Nat.mul_one])
          (fun j v hj => by
            have hj' := (List.getElem?_eq_some_iff.1 hj).1
            rw [addr_add]; simp only [World.cell?, hbw, Nat.zero_add]
            simp only [Option.isSome_none, Bool.false_eq_true, if_false, List.getElem?_toArray]
            rw [List.getElem?_append_left hj', hj])
          (bsOf m) (by rw [hss]; omega) (by rw [hss]; omega) (by rw [hss]; exact growslice_fits (by omega) hmul)
        rw [strC, hss] at hrun
        have hge := grownCap_ge w (l.length + m.length) c e
        refine ⟨(w.heap.size, .row e (grownCap w (l.length + m.length) c e * 1) (xs ++ m.map fun b => Value.int .u8 (b.toNat : Nat))), _, _, _, by simpa using hrun, .inr ⟨_, rfl, rfl, hxs.append hrows, by simpa using hge⟩, ?_⟩
        refine hok.swap hp ⟨(Builtin.zeroCells z.cells (grownCap w (l.length + m.length) c e - (l.length + m.length))).toList, by simp, ?_⟩
        rw [hzc, List.length_append, zeroCells_len, hzl, List.length_append, hxl, hlen]
        omega
section
variable {C : Ctx} {ops : Array Oper} {Q : Exit → St → Prop} {rest : List Oper} {env : Env} {df : List Deferred} {H : Hp} {own : Own} {dst : Option Tmp} {ty : TypeId} {pos : String} {af : Array Edge}
theorem XO.appendS (i : Nat) {t u e : TypeId} {x y : Operand} {p : Nat × SObj} {a : Option Addr} {c n : Nat} {l m : List UInt8} {zs : List Value} {agg : Bool}
  (hx : ev env x = some (.slice a n c)) (hp : Own.at own i = some p) (hacc : Acc u8R e H p a c l) (hln : n = l.length) (hy : ev env y = some (.string (bsOf m)))
  (ht : C.P.underlying t = some (.slice e)) (hu : C.P.underlying u = some .string) (he : tyF C.P e 1 agg = true) (hz : zeroC C.P e = some zs) (hzl : Nat.beq zs.length 1 = true) (hby : Nat.ble (C.P.bytesOf e) 4096 = true) (hn : l.length + m.length ≤ 1073741824) (hd : dstOk C.N dst = true)
  (h : ∀ p' a'' c'', Acc u8R e H p' a'' c'' (l ++ m) → XO C ops Q rest ⟨putE dst (.slice a'' (l ++ m).length c'') env, df, H, Own.set2 own i p'⟩) :
  XO C ops Q (⟨dst, .call { callee := .builtin .append, args := #[x, y], argTypes := #[t, u] }, ty, pos, af, none⟩ :: rest) ⟨env, df, H, own⟩ := by
 refine XO.op rfl rfl hd fun ρ' w fr ha hok => ?_
 subst hln
 obtain ⟨p', a'', c'', w', hrun, hacc', hok'⟩ := run_append_accS (P := C.P) (t := t) (u := u) (t' := ty) (m := m) hok hp hacc ht hu he hz hzl hby hn; refine ⟨.value (.slice a'' (l ++ m).length c''), _, w', H, _, ?_, .inl rfl, Le.refl _, hok', h _ _ _ hacc'⟩
 simp only [execOp, resolve, Sem.run_bind]
 simp only [Pure.pure, Sem.run, Result.andThen, invoke, builtin, Sem.run_bind]
 simp [ha _ _ hx, ha _ _ hy, hrun, Result.andThen, Sem.run]
theorem XO.lenStr {t : TypeId} {x : Operand} {s : List UInt8} (hx : ev env x = some (.string (bsOf s))) (ht : C.P.underlying t = some .string) (hs : s.length < 9223372036854775808) (hd : dstOk C.N dst = true)
  (h : XO C ops Q rest ⟨putE dst (.int .i64 (s.length : Nat)) env, df, H, own⟩) :
  XO C ops Q (⟨dst, .call { callee := .builtin .len, args := #[x], argTypes := #[t] }, ty, pos, af, none⟩ :: rest) ⟨env, df, H, own⟩ :=
 XO.pure rfl rfl hd (fun ρ ha w => by
  simp only [execOp, resolve, Sem.run_bind]
  simp only [Pure.pure, Sem.run, Result.andThen, invoke, builtin, Sem.run_bind, Builtin.len_]
  simp [ha _ _ hx, Sem.run_bind, run_underlying ht, Result.andThen, goInt, Pure.pure, Sem.run, bsSize]) h
end
end Go.XL

/- Drawn regions in which one block is changed by several operations, and an operation may panic. No statement of the program stands here. -/
set_option autoImplicit false
set_option linter.unusedSimpArgs false
set_option linter.unusedVariables false
namespace Go.XL
def stepQP (Pn : List PanicEntry → St → Prop) (Gd : Hp → Prop) (dst : Option Tmp) (f : Value → Hp → Prop) (fo : Value → Nat × SObj → Hp → Prop) (env : Env) (df : List Deferred) (own : Own) : Exit → St → Prop
 | .normal, σ => Gd σ.H ∧ σ.df = df ∧ ∃ v e, σ.env = putE dst v env ∧ f v σ.H ∧ σ.own = e :: own ∧ fo v e σ.H
 | .panic ch, σ => Pn ch σ
 | _, _ => False
def stepsP (Pn : List PanicEntry → St → Prop) (Gd : Hp → Prop) (mods : List Nat) (FO : Nat → Value → Nat × SObj → Hp → Prop) (C : Ctx) (l : List Oper) (F : List (Value → Hp → Prop)) (env : Env) (df : List Deferred) (H : Hp) (own : Own) (m : Nat) : Nat → List Oper → Prop
  | _, [] => True
  | k, o :: rest => bif Nat.blt k m then
      (∀ X e H', Le H H' → Gd H' → withP l F H' (predsG o) [] fun acc => factQ l mods FO k acc e H' → XO C l.toArray (stepQP Pn Gd o.dst (factAt F k) (foQ mods k FO e) (acc ++ (env ++ X)) df own) [o] ⟨acc ++ (env ++ X), df, H', e :: own⟩) ∧ stepsP Pn Gd mods FO C l F env df H own m (k + 1) rest
    else True
section
variable {C : Ctx} {Q : Exit → St → Prop} {env : Env} {df : List Deferred} {H : Hp} {own : Own}
end
end Go.XL

/- Deferred closures that change two result cells. No statement of the program stands here. -/
set_option autoImplicit false
set_option linter.unusedSimpArgs false
set_option linter.unusedVariables false
namespace Go.XL
section
variable {C : Ctx} {ops : Array Oper} {Q : Exit → St → Prop} {rest : List Oper} {env : Env} {df : List Deferred} {H : Hp} {own : Own} {dst : Option Tmp} {ty : TypeId} {pos : String} {af : Array Edge}
end
end Go.XL

/- A string turned into a slice of bytes. No statement of the program stands here. -/
set_option autoImplicit false
set_option linter.unusedSimpArgs false
set_option linter.unusedVariables false
namespace Go.XL
section
variable {C : Ctx} {ops : Array Oper} {Q : Exit → St → Prop} {rest : List Oper} {env : Env} {df : List Deferred} {H : Hp} {own : Own} {dst : Option Tmp} {ty : TypeId} {pos : String} {af : Array Edge}
end
end Go.XL

/- Values of a type that holds itself, opened: by how deep the reading goes. No statement of the program stands here. -/
set_option autoImplicit false
set_option linter.unusedSimpArgs false
set_option linter.unusedVariables false
namespace Go.XL
/-- as Opens, for readings no deeper than N -/
def OpensN (N : Nat) (P : Program) (t : TypeId) {α : Type} (ρ : Rep α) (wf : α → Prop) : Prop := ∀ {H : Type} (enc : TypeId × Value → H) (w : World) (base : Nat) (spare : Nat → Bool) (held : Bool) (fuel : Nat) (cs : List Value) (x : DataW H × List MemPlace),
 fuel ≤ N → DataW.trod enc P w base spare held fuel t cs = some x → ∃ u, ρ.R (hpOf w) cs u ∧ wf u
theorem OpensN.slice {N : Nat} {P : Program} {t e : TypeId} {α : Type} {ρ : Rep α} {wf : α → Prop} (ht : P.underlying t = some (.slice e)) (hsz : P.cellsOf e = ρ.sz) (hpos : 0 < ρ.sz) (ho : OpensN N P e ρ wf) :
  OpensN (N + 1) P t (slR ρ) (fun l => l.length ≤ maxLen ∧ ∀ u ∈ l, wf u) := by
 intro H enc w base spare held fuel cs x hN h
 rcases DataW.trod_slice ht h with ⟨rfl, _⟩ | ⟨a, len, cap, elems, rest, n, hn, rfl, _, _, hl, hm, hlen, hel, _, _⟩
 ·exact ⟨[], ⟨none, 0, rfl, SlR.nil0 _ _⟩, Nat.zero_le _, by simp⟩
 ·obtain ⟨l, h1, h2⟩ := list_choose (Q := fun i (u : α) => ∃ cs, w.cells? base (a.add (i * ρ.sz)) ρ.sz = some cs ∧ ρ.R (hpOf w) cs u ∧ wf u) len (fun i hi => by
   have h3 := hel i hi
   rw [List.getElem?_eq_getElem (by omega), hsz, Option.bind_eq_some_iff] at h3
   obtain ⟨cs, h4, h5⟩ := h3; obtain ⟨u, h6, h7⟩ := ho enc w base spare held n cs _ (by omega) h5
   exact ⟨u, cs, h4, h6, h7⟩)
  refine ⟨l, ⟨some a, cap, by rw [h1], by omega, by simp, fun i u hu => ?_⟩, by omega, fun u hu => ?_⟩
  ·obtain ⟨cs, h3, h4, h5⟩ := h2 i u hu
   have hi : i < l.length := (List.getElem?_eq_some_iff.1 hu).1
   obtain ⟨cs0, h30, h40, _⟩ := h2 0 l[0] (by rw [List.getElem?_eq_getElem]); obtain ⟨hk1, hk2⟩ := cells?_get h30
   have hsp : a.spot = none := by
    have := hk2 0 cs0[0] (List.getElem?_eq_getElem (by omega))
    simp [Addr.add] at this
    exact World.cell?_spot this
   obtain ⟨b, o, sp⟩ := a
   simp only at hsp; subst hsp
   refine ⟨b, o, cs, rfl, ?_, h4⟩; obtain ⟨hc1, hc2⟩ := cells?_get h3
   have hadd : ∀ j k : Nat, ((⟨b, o, none⟩ : Addr).add j).add k = ⟨b, o + j + k, none⟩ := fun j k => by
    unfold Addr.add; (repeat' split) <;> simp_all
   have hblk : ∃ c T fz, w.heap[b]? = some (.cells c T fz) := by
    have := hc2 0 cs[0] (List.getElem?_eq_getElem (by omega))
    rw [hadd] at this
    unfold World.cell? at this
    split at this
    ·rename_i c T fz hh; exact ⟨c, T, fz, hh⟩
    ·cases this
   obtain ⟨c, T, fz, hh⟩ := hblk; refine ⟨c, T, fz, hh, fun j v hj => ?_⟩
   have := hc2 j v hj
   rw [hadd] at this
   unfold World.cell? at this
   simpa [hh] using this
  ·obtain ⟨i, hi, rfl⟩ := List.getElem_of_mem hu; obtain ⟨_, _, _, h5⟩ := h2 i _ (List.getElem?_eq_getElem hi)
   exact h5
end Go.XL

/- Drawn regions whose later operations may come in several orders: each order is walked. No statement of the program stands here. -/
set_option autoImplicit false
set_option linter.unusedSimpArgs false
set_option linter.unusedVariables false
namespace Go.XL
def maskA (m n : Nat) : Array Bool := (List.replicate m true ++ List.replicate (n - m) false).toArray
/-- What remains of a drawn region, in whatever order. -/
def XAny (C : Ctx) (l : List Oper) (Q : Exit → St → Prop) (L : Array Bool) (σ : St) : Prop :=
 ∀ H0, Le H0 σ.H → ∀ fuel a w, unl l.length L ≤ fuel → Rel C σ a w → wpAnyIn (Fr C.r) 0 C.P .any l.toArray (lift C H0 Q) fuel L a w
def anyQ (C : Ctx) (l : List Oper) (Q : Exit → St → Prop) (L : Array Bool) : Exit → St → Prop
 | .normal, σ => XAny C l Q L σ
 | e, σ => Q e σ
section
variable {C : Ctx} {l : List Oper} {Q : Exit → St → Prop} {L : Array Bool} {σ : St}
theorem XAny.done (hr : Region.ready .any l.toArray L = []) (h : Q .normal σ) : XAny C l Q L σ := fun H0 hle fuel a w _ hrel =>
 wpAnyIn_done hr ⟨σ, hrel, hle, h⟩ fuel
theorem XAny.step {rs : List Nat} (hr : Region.ready .any l.toArray L = rs) (hne : rs ≠ []) (hs : Nat.beq L.size l.length = true)
    (h : ∀ i ∈ rs, ∀ o, l[i]? = some o → XO C l.toArray (anyQ C l Q (L.setIfInBounds i true)) [o] σ) : XAny C l Q L σ := by
  intro H0 hle fuel a w hu hrel
  have hs := Nat.eq_of_beq_eq_true hs
  obtain ⟨i0, hi0⟩ := List.exists_mem_of_ne_nil rs hne
  have hlist : ∀ i, i ∈ rs → i < l.length ∧ lst L i = false := by
    intro i hi
    rw [← hr, mem_ready] at hi
    obtain ⟨h0, o, ho, _⟩ := hi
    have hlt : i < l.length := by simpa using (Array.getElem?_eq_some_iff.1 ho).1
    refine ⟨hlt, ?_⟩
    unfold lst
    rw [Array.getD_eq_getD_getElem?, Array.getElem?_eq_getElem (by omega)] at h0 ⊢
    simpa using h0
  cases fuel with
  | zero =>
    have := unl_set (L := L) (i := i0) hs (hlist i0 hi0).1 (hlist i0 hi0).2
    omega
  | succ fuel =>
    refine wpAnyIn_all hr hne ?_
    intro i hi
    obtain ⟨hlt, hun⟩ := hlist i hi
    have hk : l[i]? = some l[i] := List.getElem?_eq_getElem hlt
    have hrun := h i hi _ hk a w hrel
    simp only [wpListIn] at hrun
    have hnext : ∀ a w, wpListIn (Fr C.r) 0 C.P l.toArray (lift C σ.H (anyQ C l Q (L.setIfInBounds i true))) [] a w → wpAnyIn (Fr C.r) 0 C.P .any l.toArray (lift C H0 Q) fuel (L.setIfInBounds i true) a w := by
      rintro a w ⟨τ, hr', hle', hq⟩
      refine hq H0 (hle.trans hle') fuel a w ?_ hr'
      have := unl_set hs hlt hun; omega
    have hex : ∀ e a w, e ≠ Exit.normal → lift C σ.H (anyQ C l Q (L.setIfInBounds i true)) e a w → lift C H0 Q e a w := by
      intro e a w hne hl
      refine lift_mono hl hle fun τ _ hq => ?_
      cases e with
      | normal => exact absurd rfl hne
      | _ => exact hq
    unfold wpOpIn
    rw [List.getElem?_toArray, hk]
    simp only
    split
    · rename_i hw; rw [if_pos hw] at hrun; exact wpInOper_mono hnext hex hrun
    · rename_i hw; rw [if_neg hw] at hrun; exact ⟨hrun.1, hnext _ _ hrun.2⟩
theorem XAny.one {i : Nat} {o : Oper} (hr : Region.ready .any l.toArray L = [i]) (hs : Nat.beq L.size l.length = true) (ho : l[i]? = some o) (h : XO C l.toArray (anyQ C l Q (L.setIfInBounds i true)) [o] σ) : XAny C l Q L σ :=
 XAny.step hr (by simp) hs fun j hj o' ho' => by
  obtain rfl : j = i := by simpa using hj
  rw [ho] at ho'; cases ho'; exact h
theorem XAny.two {i k : Nat} {o o2 : Oper} (hr : Region.ready .any l.toArray L = [i, k]) (hs : Nat.beq L.size l.length = true) (ho : l[i]? = some o) (ho2 : l[k]? = some o2)
  (h : XO C l.toArray (anyQ C l Q (L.setIfInBounds i true)) [o] σ) (h2 : XO C l.toArray (anyQ C l Q (L.setIfInBounds k true)) [o2] σ) : XAny C l Q L σ :=
 XAny.step hr (by simp) hs fun j hj o' ho' => by
  simp only [List.mem_cons, List.not_mem_nil, or_false] at hj
  rcases hj with rfl | rfl
  ·rw [ho] at ho'; cases ho'; exact h
  ·rw [ho2] at ho'; cases ho'; exact h2
end
/-- as drawOkH, but the later operations need only wait for the first m -/
def drawOkA (m : Nat) (l : List Oper) (keys : List Nat) : Bool :=
  Nat.ble m l.length && (List.range m).all (fun i => match l[i]? with
    | some o => notDefer o.op && (match o.dst with
      | some t => !keys.contains t && (List.range m).all (fun j => Nat.beq i j || !(dstOf l j == some t))
      | none => true) && (o.after.toList.all fun e => !Region.binds .any e || Nat.blt e.on i) && (predsG o).all (fun j => Nat.blt j m && o.after.toList.any fun e => Region.binds .any e && Nat.beq e.on j)
    | none => false) &&
  (List.range l.length).all (fun i => Nat.blt i m || match l[i]? with
    | some o => (List.range m).all (fun j => waitsB l l.length o j) && (o.after.toList.all fun e => !Region.binds .any e || Nat.blt e.on i)
    | none => false)
section
variable {C : Ctx} {Q : Exit → St → Prop} {env : Env} {df : List Deferred} {H : Hp} {own : Own}
end
end Go.XL

/- Loops over functions that keep their yield in a variable. No statement of the program stands here. -/
set_option autoImplicit false
set_option linter.unusedSimpArgs false
set_option linter.unusedVariables false
set_option linter.unnecessarySimpa false
namespace Go.XL
/-- As SeqL, for whatever function stands in for yield. -/
def SeqF {α β : Type} (P : Program) (f : FuncId) (cap : List Value) (H : Hp) (ownI : Own) (enc : α → β → List Value) (lend : α → β → Hp → Own → Prop) (xs : List α) : Prop :=
 ∀ (g : Fn) (J : JS α) (K : Hp → Own → Prop) (ownY : Own), YOk P (.func g #[] #[]) H enc lend xs J K → J.Holds [] H ownY →
  FnC P f ((.func g #[] #[] :: cap).toArray) H (ownI ++ ownY) (RetR fun v H' own' => v = .tuple #[] ∧ ∃ ownI' ownY', own' = ownI' ++ ownY' ∧ (J.Holds xs H' ownY' ∨ K H' ownY'))
section
variable {C : Ctx} {Q : Exit → St → Prop} {env : Env} {df : List Deferred} {H : Hp} {own : Own}
theorem XC.rangeFuncF {α β : Type} {g : Operand} {ps : List Tmp} {assign body : Code} {f : FuncId} {cap : List Value} {enc : α → β → List Value} {lend : α → β → Hp → Own → Prop} {xs : List α} {ownI own2 : Own}
    (hg : ev env g = some (.func (.func f) #[] cap.toArray)) (hseq : SeqF C.P f cap H ownI enc lend xs) (hps : ∀ x b, (enc x b).length = ps.length) (hpN : (ps.all fun p => Nat.blt p C.N) = true)
    (ho : own = ownI ++ own2) (I : List α → Hp → Own → Prop) (Kx : Code → Hp → Own → Prop) (hI : ∀ p H H' o, Le H H' → I p H o → I p H' o) (h0 : I [] H own2)
    (hround : C.r = none ∨ ∃ l0 r0, C.r = some l0 ∧ (l0, SObj.obj (.loop r0)) ∈ C.hid)
    (hbody : ∀ G l hd1 hd2, (∃ r0, (l, SObj.obj (.loop r0)) ∈ hd2) → ∀ pre x post, xs = pre ++ x :: post → ∀ bx H' ol own', Le H H' → I pre H' own' → lend x bx H' ol →
      XC ⟨C.P, G, C.N, some l, hd1⟩ assign (assignQ ⟨C.P, G, C.N, some l, hd2⟩ body (roundQ l (fun p H2 o => ∃ o3, o = ol ++ o3 ∧ I p H2 o3) Kx (pre ++ [x]))) ⟨bindP ps (enc x bx) env, [], H', ol ++ own'⟩)
    (hdone : ∀ H' own', Le H H' → I xs H' own' → Q .normal ⟨env, df, H', own'⟩)
    (hjump : ∀ c H' own', Le H H' → Kx c H' own' → XC C c Q ⟨env, df, H', own'⟩) : XC C (.rangeFunc g ps.toArray assign body) Q ⟨env, df, H, own⟩ := by
  intro a w hr
  refine wpIn_rangeFunc ?_
  intro fn hfn
  subst ho
  obtain ⟨l, mk, w₁, D, ms', hrun, hdf, hok₁⟩ := enter_loop (fn := fn) (ps := ps.toArray) («as» := assign) (bd := body) hr hround
  have hga := hr.eval hg
  let rec0 : Loop := { state := .ready, pending := none, fn, tmps := a.tmps, params := ps.toArray, assign := assign, body := body, defers := D }
  let yv : Value := .func (.yield l) #[] #[]
  let J : JS α := ⟨fun pre H' ownY => ∃ own2', ownY = (l, .obj (.loop rec0)) :: own2' ∧ I pre H' own2', fun p H1 H2 o hle ⟨o2, e, h⟩ => ⟨o2, e, hI p H1 H2 o2 hle h⟩⟩
  let K : Hp → Own → Prop := fun H' ownY => ∃ own2' c, ownY = (l, .obj (.loop { rec0 with state := .done, pending := some c })) :: own2' ∧ Kx c H' own2'
  have hcall := hseq (.yield l) J K ((l, .obj (.loop rec0)) :: own2) (by
    rintro pre x post hxs bx H' ol ownY hle ⟨own2', rfl, hI⟩ hlend
    intro G rst w hok
    have hok' : Ok G H' ((l, .obj (.loop rec0)) :: ((ol ++ own2') ++ rst)) w := hok.perm (by
      simp only [List.append_assoc, List.cons_append]; exact List.perm_middle.symm)
    have hl := hok'.objAt
    refine ⟨{ target := .fn (.yield l) #[], args := #[] ++ (enc x bx).toArray }, .round l fn ((ps.toArray.zip (enc x bx).toArray).foldl (fun tmps (t, a) => tmps.setIfInBounds t a) a.tmps) assign body, w, rfl, ?_, ?_⟩
    · have := run_yield (P := C.P) (args := (enc x bx).toArray) hl (by simp [rec0, hps])
      show (Instr.yield l (#[] ++ (enc x bx).toArray)).run C.P w = _
      rw [Array.empty_append]
      exact this
    · refine roundIn_of_wpIn trivial ?_
      have hfold : ((ps.toArray.zip (enc x bx).toArray).foldl (fun tmps (t, a) => tmps.setIfInBounds t a) a.tmps) = ((ps.zip (enc x bx)).foldl (fun (tmps : Array Value) (x : Tmp × Value) => tmps.setIfInBounds x.1 x.2) a.tmps) := by
        rw [← Array.foldl_toList]; simp
      rw [hfold]
      obtain ⟨hsz, hget⟩ := bind_get ps (enc x bx) env a.tmps (by simp [hps]) (fun p hp => by
        have := List.all_eq_true.1 hpN p hp
        rw [hr.size]; simpa using this) hr.get
      have hX := hbody G l ((l, .obj (.loop rec0)) :: rst) ((l, .obj (.loop { rec0 with state := .busy })) :: rst) ⟨_, List.mem_cons_self⟩ pre x post hxs bx H' ol own2' hle hI hlend
      have hrel : Rel ⟨C.P, G, C.N, some l, (l, .obj (.loop rec0)) :: rst⟩ ⟨bindP ps (enc x bx) env, [], H', ol ++ own2'⟩ { tmps := ((ps.zip (enc x bx)).foldl (fun (tmps : Array Value) (x : Tmp × Value) => tmps.setIfInBounds x.1 x.2) a.tmps), defers := [] } w :=
        ⟨by rw [← hr.size]; exact hsz, hget, [], rfl, hok'.perm (by simp only [List.map_nil, List.nil_append]; exact List.perm_middle)⟩
      refine Go.wpIn_mono (hX _ _ hrel) ?_
      rintro e a₁ w₁ ⟨σ, hr₁, hle₁, hq⟩
      cases e with
      | normal =>
        obtain ⟨ms₁, hd₁, hok₁⟩ := hr₁.ok
        have hok₂ : Ok G σ.H ((l, .obj (.loop rec0)) :: (σ.own ++ (ms₁.map hid ++ rst))) w₁ := hok₁.perm (by
          rw [← List.append_assoc, ← List.append_assoc]; exact List.perm_middle.symm)
        have hbeg := run_beginRound (P := C.P) hok₂.objAt rfl
        refine ⟨_, hbeg, ?_⟩
        have hok₃ := hok₂.putObj (o' := .loop { rec0 with state := .busy })
        have hrel₂ : Rel ⟨C.P, G, C.N, some l, (l, .obj (.loop { rec0 with state := .busy })) :: rst⟩ σ a₁ (w₁.putObj l (.loop { rec0 with state := .busy })) :=
          ⟨hr₁.size, hr₁.get, ms₁, hd₁, hok₃.perm (by rw [← List.append_assoc, ← List.append_assoc]; exact List.perm_middle)⟩
        refine Go.wpIn_mono (hq _ _ hrel₂) ?_
        rintro e a₂ w₂ ⟨τ, hr₂, hle₂, hq₂⟩
        obtain ⟨ms₂, hd₂, hok₄⟩ := hr₂.ok
        have hok₅ : Ok G τ.H ((l, .obj (.loop { rec0 with state := .busy })) :: (τ.own ++ (ms₂.map hid ++ rst))) w₂ := hok₄.perm (by
          rw [← List.append_assoc, ← List.append_assoc]; exact List.perm_middle.symm)
        have hend := fun j => run_endRound (P := C.P) j hok₅.objAt
        have leave : ∀ (c : Code), (∃ o, o.Sublist τ.own ∧ Kx c τ.H o) → ∃ v w', (Instr.endRound l (some c)).run C.P w₂ = .ok v w' ∧ (Ending.returned v ≠ .outgrown ∧ ∃ H'' own'', Le H' H'' ∧ Ok G H'' (own'' ++ rst) w' ∧ RetR (fun v H'' own'' => (v = .bool true ∧ ∃ own3, own'' = ol ++ own3 ∧ J.Holds (pre ++ [x]) H'' own3) ∨ (v = .bool false ∧ K H'' own'')) (.returned v) H'' own'') := by
          rintro c ⟨o, hs, hk⟩
          refine ⟨_, _, hend (some c), by simp, τ.H, (l, .obj (.loop { rec0 with state := .done, pending := some c })) :: o, hle₁.trans hle₂, ?_, .inr ⟨rfl, o, c, rfl, hk⟩⟩
          refine (hok₅.putObj (o' := .loop { rec0 with state := .done, pending := some c })).shrink (Le.refl _) ?_
          exact List.Sublist.cons_cons _ (hs.append (List.sublist_append_right _ _))
        cases e with
        | normal =>
          obtain ⟨_, o, hs, o3, rfl, hI'⟩ := hq₂
          refine ⟨_, _, hend none, by simp, τ.H, ol ++ (l, .obj (.loop rec0)) :: o3, hle₁.trans hle₂, ?_, .inl ⟨rfl, _, rfl, o3, rfl, hI'⟩⟩
          have hk := (hok₅.putObj (o' := .loop rec0)).shrink (Le.refl _) (List.Sublist.cons_cons _ (hs.append (List.sublist_append_right _ _)) : ((l, SObj.obj (.loop rec0)) :: ((ol ++ o3) ++ rst)).Sublist _)
          refine hk.perm ?_
          simp only [List.append_assoc, List.cons_append]; exact List.perm_middle
        | exit id => exact leave _ hq₂.2
        | goto t => exact leave _ hq₂.2
        | ret => exact leave _ hq₂.2
        | panic ch => exact hq₂.elim
        | outgrown => exact hq₂.elim
      | exit id => exact hq.elim
      | goto t => exact hq.elim
      | ret => exact hq.elim
      | panic ch => exact hq.elim
      | outgrown => exact hq.elim) ⟨own2, rfl, h0⟩
  refine ⟨l, mk, w₁, { target := .fn (.func f) cap.toArray, args := #[] ++ #[yv] }, w₁, f, (yv :: cap).toArray, w₁, hrun, ?_, fun _ _ => trivial, ?_, fun h => (by cases h), ?_⟩
  · have hm : Array.map a.eval #[Operand.const (Value.func (Fn.yield l) #[] #[])] = #[yv] := by simp [Act.eval, yv]
    simp only [resolve, rangeCall, hga, hm]
    rfl
  · have := hcall.1 (yv :: cap).toArray w₁
    show (callFunc f ((#[] ++ #[yv]) ++ cap.toArray)).run C.P w₁ = _
    have e : (#[] ++ #[yv] ++ cap.toArray : Array Value) = (yv :: cap).toArray := by simp
    rw [e]
    exact this
  · have hok₂ : Ok C.G H ((ownI ++ (l, .obj (.loop rec0)) :: own2) ++ (ms'.map hid ++ C.hid)) w₁ := hok₁.perm (by
      simp only [List.append_assoc, List.cons_append]; exact List.perm_middle)
    have hc : CallsIn Fence.wide (0 - 1) C.P f (yv :: cap).toArray w₁ _ := callsIn_wide.2 (hcall.2 C.G _ w₁ hok₂)
    have hc2 : CallsIn (Fr C.r) (0 - 1) C.P f (yv :: cap).toArray w₁ _ := hc
    refine ⟨hc2.1, fun cs hcs => ?_⟩
    obtain ⟨e, w₃, fr, ⟨hne, H', own', hle, hok₃, hR⟩, hx⟩ := hc2.2 cs hcs
    refine ⟨e, w₃, fr, ?_, hx⟩
    cases e with
    | outgrown => exact absurd rfl hne
    | panicked ch => exact hR.elim
    | returned v =>
      obtain ⟨_, ownI', ownY', rfl, hJK⟩ := hR
      have key : ∀ (r : Loop) (o : Own), ownY' = (l, .obj (.loop r)) :: o → r.state ≠ .busy → (Instr.endLoop l).run C.P w₃ = .ok r.pending (w₃.putObj l (.loop { r with state := .exhausted })) ∧
          Rel C ⟨env, df, H', o⟩ { a with defers := mk ++ a.defers } (w₃.putObj l (.loop { r with state := .exhausted })) := by
        rintro r o rfl hb
        have hok₄ : Ok C.G H' ((l, .obj (.loop r)) :: (ownI' ++ (o ++ (ms'.map hid ++ C.hid)))) w₃ := hok₃.perm (by
          simp only [List.append_assoc, List.cons_append]; exact List.perm_middle.symm)
        refine ⟨run_endLoop hok₄.objAt hb, hr.size, hr.get, ms', hdf, ?_⟩
        exact (hok₄.putObj (o' := .loop { r with state := .exhausted })).shrink (Le.refl _) (.cons _ (List.sublist_append_right _ _))
      rcases hJK with ⟨o, ho, hI⟩ | ⟨o, c, ho, hk⟩
      · obtain ⟨h1, h2⟩ := key rec0 o ho (by simp [rec0])
        exact ⟨none, _, h1, ⟨_, h2, hle, hdone H' o hle hI⟩⟩
      · obtain ⟨h1, h2⟩ := key { rec0 with state := .done, pending := some c } o ho (by simp)
        exact ⟨some c, _, h1, Go.wpIn_mono (hjump c H' o hle hk _ _ h2) fun _ _ _ lf => lift_mono lf hle fun _ _ q => q⟩
end
end Go.XL

/- Queues of numbers (a slice whose beginning is cut off, in a row of the call's own), and maps with their first entries. No statement of the program stands here. -/
set_option autoImplicit false
set_option linter.unusedSimpArgs false
set_option linter.unusedVariables false
set_option linter.unnecessarySimpa false
namespace Go.XL
abbrev ivs (l : List Int) : List Value := l.map fun x => Value.int .i64 x
/-- A queue: a slice whose beginning may have been cut off. -/
def QuI (e : TypeId) (p : Nat × SObj) (a : Option Addr) (c : Nat) (l : List Int) : Prop :=
 (c = 0 ∧ l = [] ∧ ∃ b o, a = some ⟨b, o, none⟩) ∨ ∃ js : List Value, a = some ⟨p.1, js.length, none⟩ ∧ p.2 = .row e (js.length + c) (js ++ ivs l) ∧ l.length ≤ c
/-- it only speaks of numbers: a greater heap leaves it as it is -/
theorem QuI.mono {e : TypeId} {p : Nat × SObj} {a : Option Addr} {c : Nat} {l : List Int} {H H' : Hp} (h : QuI e p a c l) (_ : Le H H') : QuI e p a c l := h
theorem QuI.le {e : TypeId} {p : Nat × SObj} {a : Option Addr} {c : Nat} {l : List Int} (h : QuI e p a c l) : l.length ≤ c := by
 rcases h with ⟨_, h, _⟩ | ⟨_, _, _, h⟩
 ·subst h; simp
 ·exact h
theorem QuI.addr {e : TypeId} {p : Nat × SObj} {a : Option Addr} {c : Nat} {x : Int} {l : List Int} (h : QuI e p a c (x :: l)) : ∃ js : List Value, a = some ⟨p.1, js.length, none⟩ ∧ p.2 = .row e (js.length + c) (js ++ ivs (x :: l)) ∧ l.length + 1 ≤ c := by
 rcases h with ⟨_, h, _⟩ | ⟨js, h1, h2, h3⟩
 ·cases h
 ·exact ⟨js, h1, h2, by simpa using h3⟩
section
variable {C : Ctx} {ops : Array Oper} {Q : Exit → St → Prop} {rest : List Oper} {env : Env} {df : List Deferred} {H : Hp} {own : Own} {dst : Option Tmp} {ty : TypeId} {pos : String} {af : Array Edge}
end

section
variable {C : Ctx} {ops : Array Oper} {Q : Exit → St → Prop} {rest : List Oper} {env : Env} {df : List Deferred} {H : Hp} {own : Own}
variable {dst : Option Tmp} {ty : TypeId} {pos : String} {af : Array Edge}
end
end Go.XL

/- Bytes compared by the library's entry, arrays of numbers compared, strings compared. No statement of the program stands here. -/
set_option autoImplicit false
set_option linter.unusedSimpArgs false
set_option linter.unusedVariables false
set_option linter.unnecessarySimpa false
namespace Go.XL
/-- bytes compared -/
def cmpB : List UInt8 → List UInt8 → Int
 | [], [] => 0
 | [], _ :: _ => -1
 | _ :: _, [] => 1
 | a :: x, b :: y => if a < b then -1 else if b < a then 1 else cmpB x y
theorem cmpB_kit : ∀ (l m : List UInt8), Go.Lib.compareBytes l m = cmpB l m
  | [], [] => rfl
  | [], _ :: _ => rfl
  | _ :: _, [] => rfl
  | a :: x, b :: y => by
    rw [Go.Lib.compareBytes, cmpB, cmpB_kit x y]
theorem sl_load {P : Program} {G : World} {H : Hp} {own : Own} {w : World} {a : Option Addr} {c : Nat} {l : List UInt8} (hok : Ok G H own w) (hs : SlR u8R H a c l) : (Extern.Bytes.bytesOf (.slice a l.length c)).run P w = .ok (bsOf l) w := by
  cases l with
  | nil =>
    cases a with
    | none => rfl
    | some a => rfl
  | cons u l =>
    obtain ⟨b, o, cs, ha', _, _⟩ := hs.el 0 u rfl
    subst ha'
    have hl := Go.Lib.run_loadBytesX (P := P) w ((u :: l).map fun x => (x.toNat : Int)) ⟨b, o, none⟩ .empty (fun j x hj => by
      rw [List.getElem?_map] at hj
      cases hx : (u :: l)[j]? with
      | none => rw [hx] at hj; cases hj
      | some y =>
        rw [hx] at hj; simp only [Option.map_some, Option.some.injEq] at hj; subst hj
        obtain ⟨b', o', cs', hb', hp, hR⟩ := hs.el j y hx
        cases hb'
        obtain rfl : cs' = _ := hR
        obtain ⟨cc, T, fz, hH, hcc⟩ := hp
        have := hok.pub _ _ hH
        rw [addr_add]
        have h3 := hcc 0 _ rfl
        simp only [u8R, Nat.mul_one, Nat.add_zero] at h3
        simp [World.cell?, this, h3])
    rw [List.length_map] at hl
    show (Extern.Bytes.loadBytes ⟨b, o, none⟩ (u :: l).length .empty).run P w = _
    rw [hl]
    congr 1
    apply ByteArray.ext
    have e : ∀ (l : List UInt8), Go.Lib.bytesOf (l.map fun x => (x.toNat : Int)) = l := by
      intro l
      induction l with
      | nil => rfl
      | cons x l ih => simp only [Go.Lib.bytesOf, List.map_cons, List.cons.injEq] at ih ⊢; exact ⟨by simp, ih⟩
    rw [e]
    simp
section
variable {C : Ctx} {ops : Array Oper} {Q : Exit → St → Prop} {rest : List Oper} {env : Env} {df : List Deferred} {H : Hp} {own : Own} {dst : Option Tmp} {ty : TypeId} {pos : String} {af : Array Edge}
/-- the library's entry that compares bytes -/
theorem XO.cmpBytes {f : FuncId} {fn : Func} {x y : Operand} {ts : Array TypeId} {a a' : Option Addr} {c c' : Nat} {l m : List UInt8} (hx : ev env x = some (.slice a l.length c)) (hs : SlR u8R H a c l) (hy : ev env y = some (.slice a' m.length c')) (ht : SlR u8R H a' c' m)
  (hf : C.P.funcs[f]? = some fn) (hname : (fn.name == "runtime.NumGoroutine") = false) (hb : fn.body.isNone = true) (hn : Extern.findNext fn = none) (he : Extern.find fn = some Extern.BytealgCompare.compare) (hd : dstOk C.N dst = true)
  (h : XO C ops Q rest ⟨putE dst (.int .i64 (cmpB l m)) env, df, H, own⟩) :
  XO C ops Q (⟨dst, .call { callee := .value (.func f), args := #[x, y], argTypes := ts }, ty, pos, af, none⟩ :: rest) ⟨env, df, H, own⟩ := by
 refine XO.op rfl rfl hd fun ρ' w fr ha hok => ⟨.value (.int .i64 (cmpB l m)), .int .i64 (cmpB l m), w, H, own, ?_, .inl rfl, Le.refl _, hok, h⟩
 have hc : (callFunc f #[.slice a l.length c, .slice a' m.length c']).run C.P w = .ok (.value (.int .i64 (cmpB l m))) w := by
  rw [run_callFunc_extern hf hname hb hn he]
  change (Sem.run C.P (do Pure.pure (goInt (Extern.BytealgCompare.cmp (← Extern.Bytes.bytesOf (.slice a l.length c)) (← Extern.Bytes.bytesOf (.slice a' m.length c'))))) w).andThen _ = _
  simp only [Sem.run_bind, sl_load hok hs, sl_load hok ht, Result.andThen, Sem.run_pure, Go.Lib.cmp_eq, cmpB_kit]
  rfl
 have hm : Array.map ρ' #[x, y] = #[.slice a l.length c, .slice a' m.length c'] := by simp [ha _ _ hx, ha _ _ hy]
 have hfv : ρ' (.func f) = .func (.func f) #[] #[] := ha _ _ rfl
 simp only [execOp, resolve, Sem.run_bind, hm, hfv]
 simp only [Deferred.ofValue, Sem.run_bind, Sem.run_pure, Result.andThen, invoke, Array.append_empty]
 simpa using hc
end
/-- arrays of numbers are equal if their elements are -/
theorem eq_items {P : Program} {e : TypeId} {k0 q : IntKind} {l m : List Int} (h0 : P.underlying e = some (.int k0)) (d : Nat) (hlm : l.length = m.length) : ∀ (n s : Nat) (w : World), s + n = l.length →
    (Op.eqItems (d + 1) e 1 (l.map (Value.int q)).toArray (m.map (Value.int q)).toArray (List.range' s n)).run P w = .ok (decide (l.drop s = m.drop s)) w
  | 0, s, w, hs => by
    rw [List.drop_of_length_le (by omega), List.drop_of_length_le (by omega)]
    simp [Op.eqItems, Sem.run, Pure.pure]
  | n + 1, s, w, hs => by
    have hx : l[s]? = some l[s] := List.getElem?_eq_getElem (by omega)
    have hy : m[s]? = some m[s] := List.getElem?_eq_getElem (by omega)
    have p0 : ∀ w : World, (part e (l.map (Value.int q)).toArray (s * 1)).run P w = .ok (.int q l[s]) w := fun w => run_part_int h0 (by simp [hx])
    have p1 : ∀ w : World, (part e (m.map (Value.int q)).toArray (s * 1)).run P w = .ok (.int q m[s]) w := fun w => run_part_int h0 (by simp [hy])
    have dl : l.drop s = l[s] :: l.drop (s + 1) := List.drop_eq_getElem_cons (by omega)
    have dm : m.drop s = m[s] :: m.drop (s + 1) := List.drop_eq_getElem_cons (by omega)
    rw [List.range'_succ]
    simp only [Op.eqItems, Sem.run_bind, p0, p1, Result.andThen, run_equalIn_int w _ _ _ _ _ _ h0]
    by_cases he : l[s] = m[s]
    · have ih := eq_items (l := l) (m := m) (q := q) h0 d hlm n (s + 1) w (by omega)
      simp only [he, beq_self_eq_true, Bool.not_true, Bool.false_eq_true, if_false]
      rw [dl, dm, he]
      simp only [List.cons.injEq, true_and]
      simpa using ih
    · have hne : ¬ l.drop s = m.drop s := fun e => he (by rw [dl, dm] at e; exact (List.cons.inj e).1)
      rw [decide_eq_false hne]
      simp [he, Sem.run, Pure.pure]
theorem equal_arr {P : Program} {t e : TypeId} {k0 q : IntKind} {l m : List Int} {n : Nat} {w : World} (ht : P.underlying t = some (.array n e)) (h0 : P.underlying e = some (.int k0)) (hs : tyF P e 1 false = true) (hl : l.length = n) (hm : m.length = n) :
  (Op.equal t (.agg (l.map (Value.int q)).toArray) (.agg (m.map (Value.int q)).toArray)).run P w = .ok (decide (l = m)) w := by
 obtain ⟨⟨_, _, _⟩, i, hi, hsz⟩ := tyF_run hs
 unfold Op.equal Op.maxDepth
 have hc : P.cellsOf e = 1 := by simp [Program.cellsOf, hi, hsz]
 rw [show (10000 : Nat) = 9999 + 1 from rfl, run_equalIn_array w 9999 _ _ ht hi, hc]
 rw [show (9999 : Nat) = 9998 + 1 from rfl, List.range_eq_range', eq_items (q := q) h0 9998 (by omega) n 0 w (by omega)]
 simp
section
variable {C : Ctx} {ops : Array Oper} {Q : Exit → St → Prop} {rest : List Oper} {env : Env} {df : List Deferred} {H : Hp} {own : Own} {dst : Option Tmp} {ty : TypeId} {pos : String} {af : Array Edge}
theorem XO.eqlAr {xt yt e : TypeId} {x y : Operand} {k0 q : IntKind} {l m : List Int} {n : Nat} {u v : Array Value} (hx : ev env x = some (.agg u)) (hy : ev env y = some (.agg v)) (hu : u = (l.map (Value.int q)).toArray) (hv : v = (m.map (Value.int q)).toArray) (hl : l.length = n) (hm : m.length = n) (ht : C.P.underlying xt = some (.array n e))
  (he : C.P.eqGuardType C.P.depth xt = false) (h0 : C.P.underlying e = some (.int k0)) (hs : tyF C.P e 1 false = true) (hd : dstOk C.N dst = true)
  (h : XO C ops Q rest ⟨putE dst (.bool (decide (l = m))) env, df, H, own⟩) : XO C ops Q (⟨dst, .binOp .eql xt x y yt, ty, pos, af, none⟩ :: rest) ⟨env, df, H, own⟩ := by
 subst hu; subst hv
 exact XO.pure rfl rfl hd (fun ρ ha w => by
  have hgd := fun w => run_eqGuard_agg (P := C.P) w .eql xt x y (l.map (Value.int q)).toArray (m.map (Value.int q)).toArray he
  simp only [execOp, ha _ _ hx, ha _ _ hy, Sem.run_bind, hgd]
  simp only [Result.andThen, binOp, Sem.run_bind, equal_arr ht h0 hs hl hm]
  simp [Sem.run, Pure.pure]) h
theorem XO.neqAr {xt yt e : TypeId} {x y : Operand} {k0 q : IntKind} {l m : List Int} {n : Nat} {u v : Array Value} (hx : ev env x = some (.agg u)) (hy : ev env y = some (.agg v)) (hu : u = (l.map (Value.int q)).toArray) (hv : v = (m.map (Value.int q)).toArray) (hl : l.length = n) (hm : m.length = n) (ht : C.P.underlying xt = some (.array n e))
  (he : C.P.eqGuardType C.P.depth xt = false) (h0 : C.P.underlying e = some (.int k0)) (hs : tyF C.P e 1 false = true) (hd : dstOk C.N dst = true)
  (h : XO C ops Q rest ⟨putE dst (.bool (decide (¬ l = m))) env, df, H, own⟩) : XO C ops Q (⟨dst, .binOp .neq xt x y yt, ty, pos, af, none⟩ :: rest) ⟨env, df, H, own⟩ := by
 subst hu; subst hv
 exact XO.pure rfl rfl hd (fun ρ ha w => by
  have hgd := fun w => run_eqGuard_agg (P := C.P) w .neq xt x y (l.map (Value.int q)).toArray (m.map (Value.int q)).toArray he
  simp only [execOp, ha _ _ hx, ha _ _ hy, Sem.run_bind, hgd]
  simp only [Result.andThen, binOp, Sem.run_bind, equal_arr ht h0 hs hl hm]
  simp only [decide_not]
  rfl) h
end
end Go.XL

/- Boxes: cards and slots in memory, and what the functions about one card compute, in plain Lean. -/
set_option autoImplicit false
set_option linter.unusedVariables false
set_option linter.unusedSimpArgs false
namespace Go.Proofs
open Go.XL
/-- a sealed card -/
structure Card where
 R : Int
 E : Int
 J : Int
 C : List Int
 D : List UInt8
deriving DecidableEq
abbrev u8n (D : List UInt8) (i : Nat) : Int := (((D.getD i 0).toNat : Nat) : Int)
abbrev u8c (D : List UInt8) (i : Nat) : Value := .int .u8 (u8n D i)
abbrev d32 (D : List UInt8) : List Value := [u8c D 0, u8c D 1, u8c D 2, u8c D 3, u8c D 4, u8c D 5, u8c D 6, u8c D 7, u8c D 8, u8c D 9, u8c D 10, u8c D 11, u8c D 12, u8c D 13, u8c D 14, u8c D 15, u8c D 16, u8c D 17, u8c D 18, u8c D 19, u8c D 20, u8c D 21, u8c D 22, u8c D 23, u8c D 24, u8c D 25, u8c D 26, u8c D 27, u8c D 28, u8c D 29, u8c D 30, u8c D 31]
abbrev n32 (D : List UInt8) : List Int := [u8n D 0, u8n D 1, u8n D 2, u8n D 3, u8n D 4, u8n D 5, u8n D 6, u8n D 7, u8n D 8, u8n D 9, u8n D 10, u8n D 11, u8n D 12, u8n D 13, u8n D 14, u8n D 15, u8n D 16, u8n D 17, u8n D 18, u8n D 19, u8n D 20, u8n D 21, u8n D 22, u8n D 23, u8n D 24, u8n D 25, u8n D 26, u8n D 27, u8n D 28, u8n D 29, u8n D 30, u8n D 31]
abbrev cardV (R E J : Int) (n : Nat) (D : List UInt8) (a : Option Addr) (c : Nat) : List Value := .int .i64 R :: .int .i64 E :: .int .i64 J :: .slice a n c :: d32 D
/-- cards in memory -/
def cardR : Rep Card where
 sz := 36
 R := fun H cs s => ∃ a c, cs = cardV s.R s.E s.J s.C.length s.D a c ∧ SlR (intR .i64) H a c s.C ∧ s.D.length = 32
 len := fun ⟨_, _, h, _⟩ => by subst h; rfl
 one := fun ⟨_, _, h, _⟩ => by subst h; rfl
 mono := fun hle ⟨a, c, h, hs, hd⟩ => ⟨a, c, h, hs.mono hle, hd⟩
abbrev Cards := List Card
abbrev Box := List (List Card)
theorem n32_eq {D : List UInt8} (h : D.length = 32) : n32 D = D.map fun x => ((x.toNat : Nat) : Int) := by
 match D, h with
 | [x0, x1, x2, x3, x4, x5, x6, x7, x8, x9, x10, x11, x12, x13, x14, x15, x16, x17, x18, x19, x20, x21, x22, x23, x24, x25, x26, x27, x28, x29, x30, x31], _ => rfl
theorem n32_inj {D D' : List UInt8} (h : D.length = 32) (h' : D'.length = 32) (e : n32 D = n32 D') : D = D' := by
  rw [n32_eq h, n32_eq h'] at e
  clear h h'
  induction D generalizing D' with
  | nil => cases D' with
    | nil => rfl
    | cons y D' => cases e
  | cons x D ih => cases D' with
    | nil => cases e
    | cons y D' =>
      simp only [List.map_cons, List.cons.injEq] at e
      have h1 : x = y := UInt8.toNat_inj.1 (by have := e.1; omega)
      rw [ih e.2, h1]
/-- the value of which the text is the code -/
def intV (n : Int) : Val := .mk 1 n [] []
def valC (s : Card) : Val := .mk 3 0 [] [intV s.R, intV s.E, intV s.J, .mk 3 0 [] (s.C.map intV), .mk 2 0 s.D []]
def textC (s : Card) : List UInt8 := eB (valC s)
/-- in form -/
abbrev plcP (s : Card) : Prop := ((0 ≤ s.R ∧ s.R ≤ 7) ∧ (0 ≤ s.E ∧ s.E ≤ 4095)) ∧ (0 ≤ s.J ∧ s.J ≤ 255)
abbrev keysP (l : List Int) (m : Int) : Prop := (1 ≤ l.length ∧ l.length ≤ 64) ∧ ∀ x ∈ l, 0 ≤ x ∧ x ≤ m
abbrev okC (s : Card) : Prop := plcP s ∧ keysP s.C 1073741788
def selC (s : Card) : Int := if okC s then 0 else 340
end Go.Proofs

/- Boxes: numbers compared, in plain Lean. -/
set_option autoImplicit false
set_option linter.unusedVariables false
set_option linter.unusedSimpArgs false
namespace Go.Proofs
open Go.XL
def sgn (a b : Int) : Int := if a < b then -1 else if a > b then 1 else 0
/-- lists compared -/
def cmpL : List Int → List Int → Int
 | [], [] => 0
 | [], _ :: _ => -1
 | _ :: _, [] => 1
 | x :: a, y :: b => if sgn x y = 0 then cmpL a b else sgn x y
theorem drop_cons {α : Type} {l : List α} {k : Nat} {x : α} (h : l[k]? = some x) : l.drop k = x :: l.drop (k + 1) := by
 have hk : k < l.length := (List.getElem?_eq_some_iff.1 h).1
 rw [List.drop_eq_getElem_cons hk]
 congr 1
 exact (List.getElem?_eq_some_iff.1 h).2
theorem sgn_lt {a b : Int} (h : a < b) : sgn a b = -1 := if_pos h
theorem sgn_gt {a b : Int} (h : b < a) : sgn a b = 1 := by unfold sgn; rw [if_neg (by omega), if_pos (by omega)]
theorem sgn_eq {a b : Int} (h1 : ¬ a < b) (h2 : ¬ a > b) : sgn a b = 0 := by unfold sgn; rw [if_neg h1, if_neg h2]
theorem sgn_0 {a b : Int} : sgn a b = 0 ↔ a = b := by unfold sgn; split <;> (try split) <;> omega
theorem cmp_eq {l m : List Int} {k : Nat} {x y c : Int} (h : c = cmpL (l.drop k) (m.drop k)) (hx : l[k]? = some x) (hy : m[k]? = some y) (h0 : sgn x y = 0) : c = cmpL (l.drop (k + 1)) (m.drop (k + 1)) := by
 rw [h, drop_cons hx, drop_cons hy, cmpL, if_pos h0]
theorem cmp_ne {l m : List Int} {k : Nat} {x y : Int} (h : cmpL l m = cmpL (l.drop k) (m.drop k)) (hx : l[k]? = some x) (hy : m[k]? = some y) (h0 : sgn x y ≠ 0) : sgn x y = cmpL l m := by
 rw [h, drop_cons hx, drop_cons hy, cmpL, if_neg h0]
theorem cmp_long {l m : List Int} {k : Nat} {x : Int} (h : cmpL l m = cmpL (l.drop k) (m.drop k)) (hx : l[k]? = some x) (hm : m.length ≤ k) : (1 : Int) = cmpL l m := by
 rw [h, drop_cons hx, List.drop_of_length_le hm]; rfl
theorem cmp_end {l m : List Int} {k : Nat} (h : cmpL l m = cmpL (l.drop k) (m.drop k)) (hk : l.length ≤ k) : cmpL l m = if k < m.length then -1 else 0 := by
 rw [h, List.drop_of_length_le hk]
 split
 ·rename_i h1
  rw [drop_cons (List.getElem?_eq_getElem h1)]; rfl
 ·rw [List.drop_of_length_le (by omega)]; rfl
def orL (l : List Int) : Int := (l.find? fun x => decide (x ≠ 0)).getD 0
theorem or_at {l : List Int} {k : Nat} {x : Int} (h : ∀ y ∈ l.take k, ¬ y ≠ 0) (hx : l[k]? = some x) (h0 : x ≠ 0) : x = orL l := by
 unfold orL
 have e : l = l.take k ++ x :: l.drop (k + 1) := by rw [← drop_cons hx, List.take_append_drop]
 rw [e, List.find?_append, List.find?_eq_none.2 (fun y hy => by simpa using h y hy), Option.none_or, List.find?_cons_of_pos (by simpa using h0)]; rfl
theorem or_no {l : List Int} (h : ∀ y ∈ l, ¬ y ≠ 0) : (0 : Int) = orL l := by
 unfold orL; rw [List.find?_eq_none.2 (fun y hy => by simpa using h y hy)]; rfl
theorem or_two (a b : Int) : orL [a, b] = if a = 0 then b else a := by
 unfold orL
 by_cases ha : a = 0
 ·by_cases hb : b = 0 <;> simp [ha, hb]
 ·simp [ha]
theorem getD_some {α : Type} {o : Option α} {d : α} (h : o.isSome = true) : o = some (o.getD d) := by cases o <;> simp_all
theorem sgn_anti (a b : Int) : sgn b a = - sgn a b := by unfold sgn; split <;> split <;> (try split) <;> (try split) <;> omega
theorem sgn_neg {a b : Int} : sgn a b < 0 ↔ a < b := by unfold sgn; split <;> (try split) <;> omega
theorem sgn_le {a b : Int} : sgn a b ≤ 0 ↔ a ≤ b := by unfold sgn; split <;> (try split) <;> omega
theorem cmp_anti : ∀ a b : List Int, cmpL b a = - cmpL a b
  | [], [] => rfl
  | [], _ :: _ => rfl
  | _ :: _, [] => rfl
  | x :: a, y :: b => by
    have h := sgn_anti x y
    rw [cmpL, cmpL]
    by_cases h0 : sgn x y = 0
    · rw [if_pos h0, if_pos (by omega)]; exact cmp_anti a b
    · rw [if_neg h0, if_neg (by omega)]; exact h
theorem cmp_0 : ∀ {a b : List Int}, cmpL a b = 0 ↔ a = b
  | [], [] => by simp [cmpL]
  | [], _ :: _ => by simp [cmpL]
  | _ :: _, [] => by simp [cmpL]
  | x :: a, y :: b => by
    rw [cmpL]
    by_cases h0 : sgn x y = 0
    · rw [if_pos h0, cmp_0, sgn_0.1 h0]; simp
    · rw [if_neg h0]
      exact ⟨fun h => absurd h h0, fun h => absurd (sgn_0.2 (List.cons.inj h).1) h0⟩
theorem cmp_trans : ∀ {a b c : List Int}, cmpL a b ≤ 0 → cmpL b c ≤ 0 → cmpL a c ≤ 0
  | [], b, [], _, _ => by simp [cmpL]
  | [], b, _ :: _, _, _ => by simp [cmpL]
  | _ :: _, [], c, h, _ => by simp [cmpL] at h
  | _ :: _, _ :: _, [], _, h => by simp [cmpL] at h
  | x :: a, y :: b, z :: c, h1, h2 => by
    rw [cmpL] at h1 h2 ⊢
    by_cases e1 : sgn x y = 0
    · rw [if_pos e1] at h1
      obtain rfl := sgn_0.1 e1
      by_cases e2 : sgn x z = 0
      · rw [if_pos e2] at h2 ⊢; exact cmp_trans h1 h2
      · rw [if_neg e2] at h2 ⊢; exact h2
    · rw [if_neg e1] at h1
      by_cases e2 : sgn y z = 0
      · obtain rfl := sgn_0.1 e2
        rw [if_neg e1]; exact h1
      · rw [if_neg e2] at h2
        have := sgn_le.1 h1; have := sgn_le.1 h2
        have : ¬ x = y := fun e => e1 (sgn_0.2 e)
        rw [if_neg (fun e => by have := sgn_0.1 e; omega)]
        exact sgn_le.2 (by omega)
/-- a slice without room -/
def slCap {α : Type} (ρ : Rep α) (l : List α) : Value → Hp → Prop := fun v H => ∃ a c, v = .slice a l.length c ∧ SlR ρ H a c l ∧ c ≤ l.length
end Go.Proofs

/- Walks that are alike in other seats, in this seat's numbers. -/
set_option autoImplicit false
set_option linter.unusedVariables false
set_option linter.unusedSimpArgs false
namespace Go.Proofs
open Go.XL

theorem follows : Try.prog.follows .mixedOrders = true := by kernel_rfl
theorem fa_87_0 : fieldF Try.prog 87 0 = some 0 := by kernel_rfl
theorem fa_87_1 : fieldF Try.prog 87 1 = some 1 := by kernel_rfl
theorem fa_87_2 : fieldF Try.prog 87 2 = some 2 := by kernel_rfl
theorem fa_87_3 : fieldF Try.prog 87 3 = some 3 := by kernel_rfl
theorem ty_85 : tyF Try.prog 85 1 false = true := by kernel_rfl
theorem ty_87 : tyF Try.prog 87 4 true = true := by kernel_rfl
theorem ty_3 : tyF Try.prog 3 1 false = true := by kernel_rfl
theorem ty_4 : tyF Try.prog 4 1 false = true := by kernel_rfl
theorem ty_113 : tyF Try.prog 113 4 true = true := by kernel_rfl
theorem ty_9 : tyF Try.prog 9 1 false = true := by kernel_rfl
theorem ze_87 : zeroC Try.prog 87 = some [.int .i64 0, .int .i64 0, .string ⟨#[]⟩, .slice none 0 0] := by kernel_rfl
theorem ze_113 : zeroC Try.prog 113 = some [.bool false, .bool false, .bool false, .bool false] := by kernel_rfl
set_option maxRecDepth 100000 in
set_option maxHeartbeats 1600000 in
theorem formed_all : ∀ (m : Nat) (k n : Int) (s : List UInt8) (l : List Val) (a : Option Addr) (c : Nat) (H : Hp), wszV (.mk k n s l) ≤ m → m ≤ 1000000 → SlR valR H a c l → FnC Try.prog 70 #[.agg ⟨[.int .i64 k, .int .i64 n, .string (bsOf s), .slice a l.length c]⟩] H [] (RetR (fun v _ _ => v = fdR (.mk k n s l))) := by
 intro m
 refine Nat.strongRecOn m ?_
 clear m
 intro m ih k n s l a c H hw hm hs
 have hwl := wsz_len (l := l)
 rw [wszV] at hw
 refine FnC.intro (args := [.agg ⟨[.int .i64 k, .int .i64 n, .string (bsOf s), .slice a l.length c]⟩]) Try.func70 rfl rfl Try.ntmps70 rfl rfl rfl fun G rest => ?_
 refine XC.seq ?_; refine XC.region ?_; refine XO.box rfl rfl rfl (fun b1 => ?_); refine XO.assign rfl rfl ?_; refine XO.assign rfl rfl ?_; refine XO.nil ?_; refine XC.seq2 ?_; refine XC.join (base := [(1, _), (2, _)]) (fun ζ : (Nat) × (Bool) × (Bool) × (Bool) => [(4, .pointer (some ⟨ζ.1, 0, none⟩))]) (fun ζ Hl own => (ζ.1, .cells 113 [.bool false, .bool ζ.2.1, .bool ζ.2.2.1, .bool ζ.2.2.2]) :: (b1, .cells 87 [.int .i64 k, .int .i64 n, .string (bsOf s), .slice a l.length c]) :: rest = own ∧ (ζ.2.1 = true ↔ s = [] ∧ l = []) ∧ (ζ.2.2.1 = true ↔ n = 0 ∧ l = []) ∧ (ζ.2.2.2 = true ↔ n = 0 ∧ s = [])) (prov_cons (rfl) (prov_cons (rfl) prov_nil)) (fun hleJ1 => ?_) ?_
 ·skip
  refine XC.region ?_; refine XO.fieldAddr rfl fa_87_2 rfl ?_; refine XO.loadO 0 rfl rfl ty_9 rfl rfl rfl ?_; refine XO.eqlS rfl rfl rfl ?_; refine XO.move rfl rfl ?_; refine XO.guardC rfl rfl rfl rfl (fun g2 => ?_) (fun g2 => ?_)
  ·have g2p := of_decide_eq_true g2
   refine XO.fieldAddr rfl fa_87_3 rfl ?_; refine XO.guardT rfl rfl (g2) rfl ?_; refine XO.loadO 0 rfl rfl ty_85 rfl rfl rfl ?_; refine XO.guardT rfl rfl (g2) rfl ?_; refine XO.lenS (ts := #[]) rfl Try.underlying85 rfl ?_; refine XO.guardT rfl rfl (g2) rfl ?_; refine XO.eql rfl rfl rfl ?_; refine XO.pickT rfl (g2) rfl rfl ?_; refine XO.fieldAddr rfl fa_87_1 rfl ?_; refine XO.loadO 0 rfl rfl ty_3 rfl rfl rfl ?_; refine XO.eql rfl rfl rfl ?_; refine XO.move rfl rfl ?_; refine XO.guardC rfl rfl rfl rfl (fun g3 => ?_) (fun g3 => ?_)
   ·have g3p := of_decide_eq_true g3
    refine XO.fieldAddr rfl fa_87_3 rfl ?_; refine XO.guardT rfl rfl (g3) rfl ?_; refine XO.loadO 0 rfl rfl ty_85 rfl rfl rfl ?_; refine XO.guardT rfl rfl (g3) rfl ?_; refine XO.lenS (ts := #[]) rfl Try.underlying85 rfl ?_; refine XO.guardT rfl rfl (g3) rfl ?_; refine XO.eql rfl rfl rfl ?_; refine XO.pickT rfl (g3) rfl rfl ?_; refine XO.fieldAddr rfl fa_87_1 rfl ?_; refine XO.loadO 0 rfl rfl ty_3 rfl rfl rfl ?_; refine XO.eql rfl rfl rfl ?_; refine XO.move rfl rfl ?_; refine XO.guardC rfl rfl rfl rfl (fun g4 => ?_) (fun g4 => ?_)
    ·have g4p := of_decide_eq_true g4
     refine XO.fieldAddr rfl fa_87_2 rfl ?_; refine XO.guardT rfl rfl (g4) rfl ?_; refine XO.loadO 0 rfl rfl ty_9 rfl rfl rfl ?_; refine XO.guardT rfl rfl (g4) rfl ?_; refine XO.eqlS rfl rfl rfl ?_; refine XO.pickT rfl (g4) rfl rfl ?_; refine XO.buildArr Try.underlying113 ty_4 ze_113 rfl rfl rfl ?_; refine XO.alloc ze_113 rfl (fun b4 => ?_); refine XO.storeO 0 rfl rfl rfl rfl ty_113 rfl rfl rfl rfl rfl ?_; refine XO.nil ?_; refine join_next (b4, decide ((l.length : Int) = 0), decide ((l.length : Int) = 0), decide (s = [])) (prov_cons (rfl) (prov_cons (rfl) (prov_cons (rfl) prov_nil))) (⟨rfl, by simp_all, by simp_all, by simp_all⟩) (by repeat (first | exact List.Sublist.refl _ | apply List.Sublist.cons_cons | apply List.Sublist.cons)) hleJ1
    ·have g4p := of_decide_eq_false g4
     refine XO.guardF rfl rfl (g4) rfl rfl ?_; refine XO.guardF rfl rfl (g4) rfl rfl ?_; refine XO.pickF rfl (g4) rfl rfl ?_; refine XO.buildArr Try.underlying113 ty_4 ze_113 rfl rfl rfl ?_; refine XO.alloc ze_113 rfl (fun b4 => ?_); refine XO.storeO 0 rfl rfl rfl rfl ty_113 rfl rfl rfl rfl rfl ?_; refine XO.nil ?_; refine join_next (b4, decide ((l.length : Int) = 0), decide ((l.length : Int) = 0), false) (prov_cons (rfl) (prov_cons (rfl) (prov_cons (rfl) prov_nil))) (⟨rfl, by simp_all, by simp_all, by simp_all⟩) (by repeat (first | exact List.Sublist.refl _ | apply List.Sublist.cons_cons | apply List.Sublist.cons)) hleJ1
   ·have g3p := of_decide_eq_false g3
    refine XO.guardF rfl rfl (g3) rfl rfl ?_; refine XO.guardF rfl rfl (g3) rfl rfl ?_; refine XO.guardF rfl rfl (g3) rfl rfl ?_; refine XO.pickF rfl (g3) rfl rfl ?_; refine XO.fieldAddr rfl fa_87_1 rfl ?_; refine XO.loadO 0 rfl rfl ty_3 rfl rfl rfl ?_; refine XO.eql rfl rfl rfl ?_; refine XO.move rfl rfl ?_; refine XO.guardC rfl rfl rfl rfl (fun g5 => ?_) (fun g5 => ?_)
    ·have g5p := of_decide_eq_true g5
     refine XO.fieldAddr rfl fa_87_2 rfl ?_; refine XO.guardT rfl rfl (g5) rfl ?_; refine XO.loadO 0 rfl rfl ty_9 rfl rfl rfl ?_; refine XO.guardT rfl rfl (g5) rfl ?_; refine XO.eqlS rfl rfl rfl ?_; refine XO.pickT rfl (g5) rfl rfl ?_; refine XO.buildArr Try.underlying113 ty_4 ze_113 rfl rfl rfl ?_; refine XO.alloc ze_113 rfl (fun b4 => ?_); refine XO.storeO 0 rfl rfl rfl rfl ty_113 rfl rfl rfl rfl rfl ?_; refine XO.nil ?_; refine join_next (b4, decide ((l.length : Int) = 0), false, decide (s = [])) (prov_cons (rfl) (prov_cons (rfl) (prov_cons (rfl) prov_nil))) (⟨rfl, by simp_all, by simp_all, by simp_all⟩) (by repeat (first | exact List.Sublist.refl _ | apply List.Sublist.cons_cons | apply List.Sublist.cons)) hleJ1
    ·have g5p := of_decide_eq_false g5
     refine XO.guardF rfl rfl (g5) rfl rfl ?_; refine XO.guardF rfl rfl (g5) rfl rfl ?_; refine XO.pickF rfl (g5) rfl rfl ?_; refine XO.buildArr Try.underlying113 ty_4 ze_113 rfl rfl rfl ?_; refine XO.alloc ze_113 rfl (fun b4 => ?_); refine XO.storeO 0 rfl rfl rfl rfl ty_113 rfl rfl rfl rfl rfl ?_; refine XO.nil ?_; refine join_next (b4, decide ((l.length : Int) = 0), false, false) (prov_cons (rfl) (prov_cons (rfl) (prov_cons (rfl) prov_nil))) (⟨rfl, by simp_all, by simp_all, by simp_all⟩) (by repeat (first | exact List.Sublist.refl _ | apply List.Sublist.cons_cons | apply List.Sublist.cons)) hleJ1
  ·have g2p := of_decide_eq_false g2
   refine XO.guardF rfl rfl (g2) rfl rfl ?_; refine XO.guardF rfl rfl (g2) rfl rfl ?_; refine XO.guardF rfl rfl (g2) rfl rfl ?_; refine XO.pickF rfl (g2) rfl rfl ?_; refine XO.fieldAddr rfl fa_87_1 rfl ?_; refine XO.loadO 0 rfl rfl ty_3 rfl rfl rfl ?_; refine XO.eql rfl rfl rfl ?_; refine XO.move rfl rfl ?_; refine XO.guardC rfl rfl rfl rfl (fun g6 => ?_) (fun g6 => ?_)
   ·have g6p := of_decide_eq_true g6
    refine XO.fieldAddr rfl fa_87_3 rfl ?_; refine XO.guardT rfl rfl (g6) rfl ?_; refine XO.loadO 0 rfl rfl ty_85 rfl rfl rfl ?_; refine XO.guardT rfl rfl (g6) rfl ?_; refine XO.lenS (ts := #[]) rfl Try.underlying85 rfl ?_; refine XO.guardT rfl rfl (g6) rfl ?_; refine XO.eql rfl rfl rfl ?_; refine XO.pickT rfl (g6) rfl rfl ?_; refine XO.fieldAddr rfl fa_87_1 rfl ?_; refine XO.loadO 0 rfl rfl ty_3 rfl rfl rfl ?_; refine XO.eql rfl rfl rfl ?_; refine XO.move rfl rfl ?_; refine XO.guardC rfl rfl rfl rfl (fun g7 => ?_) (fun g7 => ?_)
    ·have g7p := of_decide_eq_true g7
     refine XO.fieldAddr rfl fa_87_2 rfl ?_; refine XO.guardT rfl rfl (g7) rfl ?_; refine XO.loadO 0 rfl rfl ty_9 rfl rfl rfl ?_; refine XO.guardT rfl rfl (g7) rfl ?_; refine XO.eqlS rfl rfl rfl ?_; refine XO.pickT rfl (g7) rfl rfl ?_; refine XO.buildArr Try.underlying113 ty_4 ze_113 rfl rfl rfl ?_; refine XO.alloc ze_113 rfl (fun b4 => ?_); refine XO.storeO 0 rfl rfl rfl rfl ty_113 rfl rfl rfl rfl rfl ?_; refine XO.nil ?_; refine join_next (b4, false, decide ((l.length : Int) = 0), decide (s = [])) (prov_cons (rfl) (prov_cons (rfl) (prov_cons (rfl) prov_nil))) (⟨rfl, by simp_all, by simp_all, by simp_all⟩) (by repeat (first | exact List.Sublist.refl _ | apply List.Sublist.cons_cons | apply List.Sublist.cons)) hleJ1
    ·have g7p := of_decide_eq_false g7
     refine XO.guardF rfl rfl (g7) rfl rfl ?_; refine XO.guardF rfl rfl (g7) rfl rfl ?_; refine XO.pickF rfl (g7) rfl rfl ?_; refine XO.buildArr Try.underlying113 ty_4 ze_113 rfl rfl rfl ?_; refine XO.alloc ze_113 rfl (fun b4 => ?_); refine XO.storeO 0 rfl rfl rfl rfl ty_113 rfl rfl rfl rfl rfl ?_; refine XO.nil ?_; refine join_next (b4, false, decide ((l.length : Int) = 0), false) (prov_cons (rfl) (prov_cons (rfl) (prov_cons (rfl) prov_nil))) (⟨rfl, by simp_all, by simp_all, by simp_all⟩) (by repeat (first | exact List.Sublist.refl _ | apply List.Sublist.cons_cons | apply List.Sublist.cons)) hleJ1
   ·have g6p := of_decide_eq_false g6
    refine XO.guardF rfl rfl (g6) rfl rfl ?_; refine XO.guardF rfl rfl (g6) rfl rfl ?_; refine XO.guardF rfl rfl (g6) rfl rfl ?_; refine XO.pickF rfl (g6) rfl rfl ?_; refine XO.fieldAddr rfl fa_87_1 rfl ?_; refine XO.loadO 0 rfl rfl ty_3 rfl rfl rfl ?_; refine XO.eql rfl rfl rfl ?_; refine XO.move rfl rfl ?_; refine XO.guardC rfl rfl rfl rfl (fun g8 => ?_) (fun g8 => ?_)
    ·have g8p := of_decide_eq_true g8
     refine XO.fieldAddr rfl fa_87_2 rfl ?_; refine XO.guardT rfl rfl (g8) rfl ?_; refine XO.loadO 0 rfl rfl ty_9 rfl rfl rfl ?_; refine XO.guardT rfl rfl (g8) rfl ?_; refine XO.eqlS rfl rfl rfl ?_; refine XO.pickT rfl (g8) rfl rfl ?_; refine XO.buildArr Try.underlying113 ty_4 ze_113 rfl rfl rfl ?_; refine XO.alloc ze_113 rfl (fun b4 => ?_); refine XO.storeO 0 rfl rfl rfl rfl ty_113 rfl rfl rfl rfl rfl ?_; refine XO.nil ?_; refine join_next (b4, false, false, decide (s = [])) (prov_cons (rfl) (prov_cons (rfl) (prov_cons (rfl) prov_nil))) (⟨rfl, by simp_all, by simp_all, by simp_all⟩) (by repeat (first | exact List.Sublist.refl _ | apply List.Sublist.cons_cons | apply List.Sublist.cons)) hleJ1
    ·have g8p := of_decide_eq_false g8
     refine XO.guardF rfl rfl (g8) rfl rfl ?_; refine XO.guardF rfl rfl (g8) rfl rfl ?_; refine XO.pickF rfl (g8) rfl rfl ?_; refine XO.buildArr Try.underlying113 ty_4 ze_113 rfl rfl rfl ?_; refine XO.alloc ze_113 rfl (fun b4 => ?_); refine XO.storeO 0 rfl rfl rfl rfl ty_113 rfl rfl rfl rfl rfl ?_; refine XO.nil ?_; refine join_next (b4, false, false, false) (prov_cons (rfl) (prov_cons (rfl) (prov_cons (rfl) prov_nil))) (⟨rfl, by simp_all, by simp_all, by simp_all⟩) (by repeat (first | exact List.Sublist.refl _ | apply List.Sublist.cons_cons | apply List.Sublist.cons)) hleJ1
 ·rintro ⟨b4, u1, u2, u3⟩ Hl _ hleK1 ⟨rfl, h1, h2, h3⟩; replace hs := hs.mono hleK1
  try dsimp only at h1 h2 h3⊢ 
  refine XC.seq ?_; refine XC.seq ?_; refine XC.region ?_; refine XO.fieldAddr rfl fa_87_0 rfl ?_; refine XO.loadO 1 rfl rfl ty_3 rfl rfl rfl ?_; refine XO.lss rfl rfl rfl ?_; refine XO.move rfl rfl ?_; refine XO.guardC rfl rfl rfl rfl (fun g9 => ?_) (fun g9 => ?_)
  ·have g9p := of_decide_eq_false g9
   refine XO.fieldAddr rfl fa_87_0 rfl ?_; refine XO.guardT rfl rfl (g9) rfl ?_; refine XO.loadO 1 rfl rfl ty_3 rfl rfl rfl ?_; refine XO.guardT rfl rfl (g9) rfl ?_; refine XO.gtr rfl rfl rfl ?_; refine XO.pickF rfl (g9) rfl rfl ?_; refine XO.move rfl rfl ?_; refine XO.guardC rfl rfl rfl rfl (fun g10 => ?_) (fun g10 => ?_)
   ·have g10p := of_decide_eq_false g10
    refine XO.fieldAddr rfl fa_87_0 rfl ?_; refine XO.guardT rfl rfl (g10) rfl ?_; refine XO.loadO 1 rfl rfl ty_3 rfl rfl rfl ?_; refine XO.guardT rfl rfl (g10) rfl ?_
    have hk3 : k = 1 ∨ k = 2 ∨ k = 3 := by omega
    rcases hk3 with rfl | rfl | rfl
    ·skip
     refine XO.indexArr rfl rfl Try.underlying113 ty_4 (by decide) (by decide) rfl ?_; refine XO.guardT rfl rfl (g10) rfl ?_; refine XO.loadO 0 rfl rfl ty_4 rfl rfl rfl ?_; refine XO.guardT rfl rfl (g10) rfl ?_; refine XO.notB rfl rfl ?_; refine XO.pickF rfl (g10) rfl rfl ?_; refine XO.nil ?_; refine XC.seq2 ?_; refine XC.condB rfl (fun c0_11 => ?_) (fun c0_11 => ?_)
     ·refine XC.seq ?_; refine XC.region ?_; refine XO.assign rfl rfl ?_; refine XO.assign rfl rfl ?_; refine XO.nil ?_; refine XC.seq2 ?_; refine XC.ret ?_; refine seqX_ret ?_; refine ⟨rfl, _, [], rfl, (by repeat (first | exact List.Sublist.refl _ | apply List.Sublist.cons)), RetR.mk ?_⟩
      exact fd_no (bfalse fun h => by have h9 := (formed1.1 h); simp_all)
     ·refine XC.skip ?_; refine XC.seq2 ?_; refine XC.seq ?_; refine XC.seq ?_; refine XC.region ?_; refine XO.fieldAddr rfl fa_87_0 rfl ?_; refine XO.loadO 1 rfl rfl ty_3 rfl rfl rfl ?_; refine XO.lss rfl rfl rfl ?_; refine XO.nil ?_; refine XC.seq2 ?_; refine XC.condT rfl (rfl) ?_; refine XC.seq ?_; refine XC.region ?_; refine XO.assign rfl rfl ?_; refine XO.assign rfl rfl ?_; refine XO.nil ?_; refine XC.seq2 ?_; refine XC.ret ?_; refine seqX_ret ?_; refine ⟨rfl, _, [], rfl, (by repeat (first | exact List.Sublist.refl _ | apply List.Sublist.cons)), RetR.mk ?_⟩
      exact fd_yes (formed1.2 (h1.1 (by simp_all))) (by rw [depthV]; rfl)
    ·skip
     refine XO.indexArr rfl rfl Try.underlying113 ty_4 (by decide) (by decide) rfl ?_; refine XO.guardT rfl rfl (g10) rfl ?_; refine XO.loadO 0 rfl rfl ty_4 rfl rfl rfl ?_; refine XO.guardT rfl rfl (g10) rfl ?_; refine XO.notB rfl rfl ?_; refine XO.pickF rfl (g10) rfl rfl ?_; refine XO.nil ?_; refine XC.seq2 ?_; refine XC.condB rfl (fun c0_12 => ?_) (fun c0_12 => ?_)
     ·refine XC.seq ?_; refine XC.region ?_; refine XO.assign rfl rfl ?_; refine XO.assign rfl rfl ?_; refine XO.nil ?_; refine XC.seq2 ?_; refine XC.ret ?_; refine seqX_ret ?_; refine ⟨rfl, _, [], rfl, (by repeat (first | exact List.Sublist.refl _ | apply List.Sublist.cons)), RetR.mk ?_⟩
      exact fd_no (bfalse fun h => by have h9 := (formed2.1 h); simp_all)
     ·refine XC.skip ?_; refine XC.seq2 ?_; refine XC.seq ?_; refine XC.seq ?_; refine XC.region ?_; refine XO.fieldAddr rfl fa_87_0 rfl ?_; refine XO.loadO 1 rfl rfl ty_3 rfl rfl rfl ?_; refine XO.lss rfl rfl rfl ?_; refine XO.nil ?_; refine XC.seq2 ?_; refine XC.condT rfl (rfl) ?_; refine XC.seq ?_; refine XC.region ?_; refine XO.assign rfl rfl ?_; refine XO.assign rfl rfl ?_; refine XO.nil ?_; refine XC.seq2 ?_; refine XC.ret ?_; refine seqX_ret ?_; refine ⟨rfl, _, [], rfl, (by repeat (first | exact List.Sublist.refl _ | apply List.Sublist.cons)), RetR.mk ?_⟩
      exact fd_yes (formed2.2 (h2.1 (by simp_all))) (by rw [depthV]; rfl)
    ·skip
     refine XO.indexArr rfl rfl Try.underlying113 ty_4 (by decide) (by decide) rfl ?_; refine XO.guardT rfl rfl (g10) rfl ?_; refine XO.loadO 0 rfl rfl ty_4 rfl rfl rfl ?_; refine XO.guardT rfl rfl (g10) rfl ?_; refine XO.notB rfl rfl ?_; refine XO.pickF rfl (g10) rfl rfl ?_; refine XO.nil ?_; refine XC.seq2 ?_; refine XC.condB rfl (fun c0_13 => ?_) (fun c0_13 => ?_)
     ·refine XC.seq ?_; refine XC.region ?_; refine XO.assign rfl rfl ?_; refine XO.assign rfl rfl ?_; refine XO.nil ?_; refine XC.seq2 ?_; refine XC.ret ?_; refine seqX_ret ?_; refine ⟨rfl, _, [], rfl, (by repeat (first | exact List.Sublist.refl _ | apply List.Sublist.cons)), RetR.mk ?_⟩
      exact fd_no (bfalse fun h => by have h9 := (formed3.1 h); simp_all)
     ·refine XC.skip ?_; refine XC.seq2 ?_; refine XC.seq ?_; refine XC.seq ?_; refine XC.region ?_; refine XO.fieldAddr rfl fa_87_0 rfl ?_; refine XO.loadO 1 rfl rfl ty_3 rfl rfl rfl ?_; refine XO.lss rfl rfl rfl ?_; refine XO.nil ?_; refine XC.seq2 ?_; refine XC.condF rfl (rfl) ?_; refine XC.skip ?_; refine XC.seq2 ?_; refine XC.seq ?_; refine XC.seq ?_; refine XC.region ?_; refine XO.fieldAddr rfl fa_87_3 rfl ?_; refine XO.loadO 1 rfl rfl ty_85 rfl rfl rfl ?_; refine XO.lenS (ts := #[]) rfl Try.underlying85 rfl ?_; refine XO.move rfl rfl ?_; refine XO.nil ?_; refine XC.seq2 ?_; refine XC.block ?_; refine XC.keep [2, 57, 55, 56] rfl ?_; refine XC.loop (base := [(55, _), (56, _)]) (fun ζ : Nat => [(2, .int .i64 ((depthL (l.take ζ) : Nat) : Int)), (57, .int .i64 (ζ : Nat))]) (fun ζ Hl own => ζ ≤ l.length ∧ rest = own ∧ (formedL (l.take ζ) = true)) (fun ζ => l.length - ζ) 0 (prov_cons (rfl) (prov_cons (rfl) (prov_cons (rfl) (prov_cons (rfl) prov_nil)))) (by repeat (first | exact List.Sublist.refl _ | apply List.Sublist.cons_cons | apply List.Sublist.cons)) ⟨Nat.zero_le _, rfl, rfl⟩ ?_; rintro i Hl0 _ hle0 ⟨hki, rfl, hfo⟩; replace hs := hs.mono hle0
      try dsimp only at ⊢
      refine XC.seq ?_; refine XC.region ?_; refine XO.lss rfl rfl rfl ?_; refine XO.nil ?_; refine XC.seq2 ?_; refine XC.seq ?_; refine XC.cond rfl (fun c2_14 => ?_) (fun c2_14 => ?_)
      ·refine XC.skip ?_; refine XC.seq2 ?_; refine XC.seq ?_; refine XC.block ?_; refine XC.seq ?_; refine XC.region ?_; refine XO.indexN rfl hs rfl Try.underlying85 ty_87 (by omega) rfl ?_; rintro eb59 eo59 _ x59 hx59 hR59 hp59; obtain ⟨k59, n59, s59, l59⟩ := x59; obtain ⟨a59, c59, rfl, hd59⟩ := valR_iff.1 hR59; refine XO.loadH rfl (by assumption) ty_87 rfl rfl rfl ?_; refine XO.alloc ze_87 rfl (fun b6 => ?_); refine XO.storeO 0 rfl rfl rfl rfl ty_87 rfl rfl rfl rfl rfl ?_; refine XO.nil ?_; refine XC.seq2 ?_; refine XC.seq ?_; refine XC.region ?_
       have hwx := wsz_mem (List.mem_of_getElem? hx59)
       have hwt := wsz_take (l := l) i
       refine XO.loadO 0 rfl rfl ty_87 rfl rfl rfl ?_
       have hcall16 := ih (wszV (.mk k59 n59 s59 l59)) (by omega) k59 n59 s59 l59 a59 c59 _ (Nat.le_refl _) (by omega) hd59
       refine XO.callV rfl hcall16 rfl ?_; refine XO.move rfl rfl ?_; refine XO.extract rfl rfl rfl ?_; refine XO.extract rfl rfl rfl ?_; refine XO.assign rfl rfl ?_; refine XO.assign rfl rfl ?_; refine XO.nil ?_; refine XC.seq2 ?_; refine XC.seq ?_; refine XC.seq ?_; refine XC.region ?_; refine XO.move rfl rfl ?_; refine XO.notB rfl rfl ?_; refine XO.nil ?_; refine XC.seq2 ?_; refine XC.condB rfl (fun c3_17 => ?_) (fun c3_17 => ?_)
       ·refine XC.seq ?_; refine XC.region ?_; refine XO.assign rfl rfl ?_; refine XO.assign rfl rfl ?_; refine XO.nil ?_; refine XC.seq2 ?_; refine XC.ret ?_; refine seqX_ret ?_; refine blockR ?_; refine seqX_ret ?_; refine loopX_ret ?_; refine blockR ?_; refine seqX_ret ?_; refine ⟨rfl, _, [], rfl, (by repeat (first | exact List.Sublist.refl _ | apply List.Sublist.cons)), RetR.mk ?_⟩
        exact fd_no (bfalse fun h => by have h9 := formedL_iff.1 (formed3.1 h).2 _ (List.mem_of_getElem? hx59); simp_all)
       ·have hfx : formedB (.mk k59 n59 s59 l59) = true := by simpa using c3_17
        refine XC.skip ?_; refine XC.seq2 ?_; refine XC.region ?_; refine XO.move rfl rfl ?_; refine XO.move rfl rfl ?_; refine XO.maxI (c := ((depthL (l.take (i + 1)) : Nat) : Int)) rfl rfl (by rw [dl_max hx59]; unfold fdV; rw [if_pos hfx]; split <;> omega) rfl ?_; refine XO.assign rfl rfl ?_; refine XO.nil ?_; refine blockN ?_; refine XC.seq2 ?_; refine XC.region ?_; refine XO.add rfl rfl (wrap_i64 (by omega) (by omega)) rfl ?_; refine XO.move rfl rfl ?_; refine XO.nil ?_; refine loop_next (i + 1) (by show l.length - (i + 1) < l.length - i; omega) (prov_cons (rfl) (prov_cons (rfl) (prov_cons (rfl) (prov_cons (rfl) prov_nil)))) (⟨by show i + 1 ≤ l.length; omega, rfl, fl_yes hx59 hfo (by simp_all)⟩) (by repeat (first | exact List.Sublist.refl _ | apply List.Sublist.cons_cons | apply List.Sublist.cons)) (hle0)
      ·obtain rfl : i = l.length := by omega
       rw [List.take_length] at hfo ⊢
       have hdw := depthL_wsz (l := l) (fun x _ => depth_wsz x)
       refine XC.exit ?_; refine seqX_exit ?_; refine loopX_exit ?_; refine blockHit rfl ?_; refine XC.seq2 ?_; refine XC.seq ?_; refine XC.region ?_; refine XO.move rfl rfl ?_; refine XO.add rfl rfl (wrap_i64 (by omega) (by omega)) rfl ?_; refine XO.assign rfl rfl ?_; refine XO.assign rfl rfl ?_; refine XO.nil ?_; refine XC.seq2 ?_; refine XC.ret ?_; refine ⟨rfl, _, [], rfl, (by repeat (first | exact List.Sublist.refl _ | apply List.Sublist.cons)), RetR.mk ?_⟩
       exact fd_yes (formed3.2 ⟨h3.1 (by simp_all), hfo⟩) (by rw [depthV, if_pos rfl]; omega)
   ·have g10p := of_decide_eq_true g10
    refine XO.guardF rfl rfl (g10) rfl rfl ?_; refine XO.guardF rfl rfl (g10) rfl rfl ?_; refine XO.guardF rfl rfl (g10) rfl rfl ?_; refine XO.guardF rfl rfl (g10) rfl rfl ?_; refine XO.pickT rfl (g10) rfl rfl ?_; refine XO.nil ?_; refine XC.seq2 ?_; refine XC.condT rfl (rfl) ?_; refine XC.seq ?_; refine XC.region ?_; refine XO.assign rfl rfl ?_; refine XO.assign rfl rfl ?_; refine XO.nil ?_; refine XC.seq2 ?_; refine XC.ret ?_; refine seqX_ret ?_; refine ⟨rfl, _, [], rfl, (by repeat (first | exact List.Sublist.refl _ | apply List.Sublist.cons)), RetR.mk ?_⟩
    exact fd_no (formed0 (by omega))
  ·have g9p := of_decide_eq_true g9
   refine XO.guardF rfl rfl (g9) rfl rfl ?_; refine XO.guardF rfl rfl (g9) rfl rfl ?_; refine XO.pickT rfl (g9) rfl rfl ?_; refine XO.move rfl rfl ?_; refine XO.guardF rfl rfl (rfl) rfl rfl ?_; refine XO.guardF rfl rfl (rfl) rfl rfl ?_; refine XO.guardF rfl rfl (rfl) rfl rfl ?_; refine XO.guardF rfl rfl (rfl) rfl rfl ?_; refine XO.guardF rfl rfl (rfl) rfl rfl ?_; refine XO.pickT rfl (rfl) rfl rfl ?_; refine XO.nil ?_; refine XC.seq2 ?_; refine XC.condT rfl (rfl) ?_; refine XC.seq ?_; refine XC.region ?_; refine XO.assign rfl rfl ?_; refine XO.assign rfl rfl ?_; refine XO.nil ?_; refine XC.seq2 ?_; refine XC.ret ?_; refine seqX_ret ?_; refine ⟨rfl, _, [], rfl, (by repeat (first | exact List.Sublist.refl _ | apply List.Sublist.cons)), RetR.mk ?_⟩
   exact fd_no (formed0 (by omega))
theorem check_fn (k n : Int) (s : List UInt8) (l : List Val) (a : Option Addr) (c : Nat) (H : Hp) (hw : wszV (.mk k n s l) ≤ 1000000) (hs : SlR valR H a c l) : FnC Try.prog 66 #[.agg ⟨[.int .i64 k, .int .i64 n, .string (bsOf s), .slice a l.length c]⟩] H [] (RetR (fun v _ _ => v = .int .i64 (chkV (.mk k n s l)))) := by
 refine FnC.intro (args := [.agg ⟨[.int .i64 k, .int .i64 n, .string (bsOf s), .slice a l.length c]⟩]) Try.func66 rfl rfl Try.ntmps66 rfl rfl rfl fun G rest => ?_
 refine XC.seq ?_; refine XC.region ?_; refine XO.box rfl rfl rfl (fun b1 => ?_); refine XO.assign rfl rfl ?_; refine XO.nil ?_; refine XC.seq2 ?_; refine XC.seq ?_; refine XC.region ?_; refine XO.loadO 0 rfl rfl ty_87 rfl rfl rfl ?_
 have hcall := formed_all 1000000 k n s l a c _ hw (Nat.le_refl _) hs
 refine XO.callV rfl hcall rfl ?_; refine XO.move rfl rfl ?_; refine XO.extract rfl rfl rfl ?_; refine XO.extract rfl rfl rfl ?_; refine XO.assign rfl rfl ?_; refine XO.assign rfl rfl ?_; refine XO.nil ?_; refine XC.seq2 ?_; refine XC.seq ?_; refine XC.block ?_; refine XC.seq ?_; refine XC.region ?_; refine XO.move rfl rfl ?_; refine XO.notB rfl rfl ?_; refine XO.assign rfl rfl ?_; refine XO.nil ?_; refine XC.seq2 ?_; refine XC.condB rfl (fun c0_2 => ?_) (fun c0_2 => ?_)
 ·have hf : formedB (.mk k n s l) = false := by simpa using c0_2
  refine XC.seq ?_; refine XC.region ?_; refine XO.assign rfl rfl ?_; refine XO.nil ?_; refine XC.seq2 ?_; refine XC.ret ?_; refine blockR ?_; refine seqX_ret ?_; refine ⟨rfl, _, [], rfl, (by repeat (first | exact List.Sublist.refl _ | apply List.Sublist.cons)), RetR.mk ?_⟩
  exact congrArg (Value.int .i64) (chk_1 hf).symm
 ·have hf : formedB (.mk k n s l) = true := by simpa using c0_2
  have hfd := fd_eq hf
  refine XC.seq ?_; refine XC.region ?_; refine XO.move rfl rfl ?_; refine XO.gtr rfl rfl rfl ?_; refine XO.assign rfl rfl ?_; refine XO.nil ?_; refine XC.seq2 ?_; refine XC.cond rfl (fun c1_3 => ?_) (fun c1_3 => ?_)
  ·refine XC.seq ?_; refine XC.region ?_; refine XO.assign rfl rfl ?_; refine XO.nil ?_; refine XC.seq2 ?_; refine XC.ret ?_; refine blockR ?_; refine seqX_ret ?_; refine ⟨rfl, _, [], rfl, (by repeat (first | exact List.Sublist.refl _ | apply List.Sublist.cons)), RetR.mk ?_⟩
   exact congrArg (Value.int .i64) (chk_2 hf (by omega)).symm
  ·refine XC.skip ?_; refine blockN ?_; refine XC.seq2 ?_; refine XC.seq ?_; refine XC.region ?_; refine XO.assign rfl rfl ?_; refine XO.nil ?_; refine XC.seq2 ?_; refine XC.ret ?_; refine ⟨rfl, _, [], rfl, (by repeat (first | exact List.Sublist.refl _ | apply List.Sublist.cons)), RetR.mk ?_⟩
   exact congrArg (Value.int .i64) (chk_0 hf (by omega)).symm
theorem uns_fn (n : Int) (hn : -9223372036854775808 ≤ n ∧ n ≤ 9223372036854775807) (H : Hp) : FnC Try.prog 73 #[.int .i64 n] H [] (RetR (fun v _ _ => v = .int .u64 (unsV n : Nat))) := by
 refine FnC.intro (args := [.int .i64 n]) Try.func73 rfl rfl Try.ntmps73 rfl rfl rfl fun G rest => ?_
 refine XC.seq ?_; refine XC.region ?_; refine XO.assign rfl rfl ?_; refine XO.nil ?_; refine XC.seq2 ?_; refine XC.seq ?_; refine XC.region ?_; refine XO.move rfl rfl ?_; refine XO.convI rfl Try.underlying3 Try.underlying108 (wrap_u64_mod _) rfl ?_; refine XO.shl rfl rfl (by omega) rfl ?_; refine XO.move rfl rfl ?_; refine XO.shr rfl rfl (by omega) rfl ?_; refine XO.convI rfl Try.underlying3 Try.underlying108 rfl rfl ?_; refine XO.bxor rfl rfl rfl ?_; refine XO.assign rfl rfl ?_; refine XO.nil ?_; refine XC.seq2 ?_; refine XC.ret ?_; refine ⟨rfl, _, [], rfl, (by repeat (first | exact List.Sublist.refl _ | apply List.Sublist.cons)), RetR.mk ?_⟩
 exact congrArg (Value.int .u64) (uns_bits hn)
end Go.Proofs

/- Walks that are alike in other seats, in this seat's numbers. -/
set_option autoImplicit false
set_option linter.unusedVariables false
set_option linter.unusedSimpArgs false
namespace Go.Proofs
open Go.XL

theorem by_5 : Nat.ble (Try.prog.bytesOf 5) 4096 = true := by kernel_rfl
theorem ty_5 : tyF Try.prog 5 1 false = true := by kernel_rfl
theorem ze_5 : zeroC Try.prog 5 = some [.int .u8 0] := by kernel_rfl
end Go.Proofs

/- Walks that are alike in other seats, in this seat's numbers. -/
set_option autoImplicit false
set_option linter.unusedVariables false
set_option linter.unusedSimpArgs false
namespace Go.Proofs
open Go.XL

theorem bf_87 : structF Try.prog 87 = some [(0, 1), (1, 1), (2, 1), (3, 1)] := by kernel_rfl
theorem bk_87 : structK Try.prog 87 = true := by kernel_rfl
theorem num_fn (po : Nat × SObj) (ao : Option Addr) (co : Nat) (l0 : List UInt8) (u : Nat) (H : Hp) (hacc : AccB H po ao co l0) (hu : u < 18446744073709551616) (hl : l0.length ≤ 100000000) : FnC Try.prog 72 #[.slice ao l0.length co, .int .u64 (u : Nat)] H [po] (RetR (fun v H2 own => ∃ po2 a2 c2, own = [po2] ∧ v = .slice a2 (l0 ++ numL u).length c2 ∧ AccB H2 po2 a2 c2 (l0 ++ numL u))) := by
 refine FnC.intro (args := [.slice ao l0.length co, .int .u64 (u : Nat)]) Try.func72 rfl rfl Try.ntmps72 rfl rfl rfl fun G rest => ?_
 have hnu := numL_10 (u := u) hu
 refine XC.seq ?_; refine XC.region ?_; refine XO.assign rfl rfl ?_; refine XO.nil ?_; refine XC.seq2 ?_; refine XC.seq ?_; refine XC.block ?_; refine XC.keep [0, 1] rfl ?_; refine XC.loop (base := []) (fun ζ : Nat × (Nat) × (List UInt8) × ((Nat × SObj) × Option Addr × Nat) => [(0, .slice ζ.2.2.2.2.1 (ζ.2.2.1).length ζ.2.2.2.2.2), (1, .int .u64 (ζ.2.1 : Nat))]) (fun ζ Hl own => ζ.2.2.2.1 :: rest = own ∧ Acc u8R 5 Hl ζ.2.2.2.1 ζ.2.2.2.2.1 ζ.2.2.2.2.2 (ζ.2.2.1) ∧ (ζ.2.2.1 ++ numL ζ.2.1 = l0 ++ numL u) ∧ (ζ.2.1 < 18446744073709551616)) (fun ζ => ζ.2.1) (0, u, l0, (po, ao, co)) (prov_cons (rfl) (prov_cons (rfl) prov_nil)) (by repeat (first | exact List.Sublist.refl _ | apply List.Sublist.cons_cons | apply List.Sublist.cons)) ⟨rfl, hacc, rfl, hu⟩ ?_; rintro ⟨q, w, o, ⟨po, ao, co⟩⟩ Hl0 _ hle0 ⟨rfl, hacco, hwo, hwu⟩
 try dsimp only at hacco hwo hwu ⊢
 have hlo : o.length ≤ l0.length + 10 := by have := congrArg List.length hwo; rw [List.length_append, List.length_append] at this; omega
 refine XC.seq ?_; refine XC.seq ?_; refine XC.region ?_; refine XO.move rfl rfl ?_; refine XO.geq rfl rfl rfl ?_; refine XO.nil ?_; refine XC.seq2 ?_; refine XC.cond rfl (fun c0_1 => ?_) (fun c0_1 => ?_)
 ·refine XC.skip ?_; refine XC.seq2 ?_; refine XC.seq ?_; refine XC.block ?_; refine XC.region ?_; refine XO.move rfl rfl ?_; refine XO.move rfl rfl ?_; refine XO.convI (c := ((w % 256 : Nat) : Int)) rfl Try.underlying108 Try.underlying5 (by rw [wrap_u8_mod]; omega) rfl ?_; refine XO.bor rfl rfl rfl ?_
  rw [or_bits]
  refine XO.buildSlice rfl Try.underlying44 ty_5 ze_5 rfl rfl rfl (fun b13 => ?_); refine XO.publish 0 rfl rfl rfl (fun HP13 oP13 hleP13 hbP13 hoP13 => ?_)
  have hsl13 := SlR.lit (ρ := u8R) (l := [UInt8.ofNat (w % 128 + 128)]) hbP13 hoP13 (RowsR.one1 rfl)
  replace hacco := hacco.mono hleP13; replace hle0 := hle0.trans hleP13; refine XO.appendA 0 rfl rfl hacco rfl rfl hsl13 rfl Try.underlying44 ty_5 ze_5 rfl by_5 (by simp; omega) rfl (fun p14 a14 c14 hacc14 => ?_); refine XO.assign rfl rfl ?_; refine XO.nil ?_; refine blockN ?_; refine XC.seq2 ?_; refine XC.region ?_; refine XO.move rfl rfl ?_; refine XO.shr rfl rfl (by decide) rfl ?_
  rw [shr7]
  refine XO.assign rfl rfl ?_; refine XO.nil ?_; refine loop_next ((q, w / 128, o ++ [UInt8.ofNat (w % 128 + 128)], (p14, a14, c14))) (by show w / 128 < w; omega) (prov_cons (by first | rfl) (prov_cons (rfl) prov_nil)) (⟨rfl, by first | (exact hacc14), (numL_yes (by omega) o).trans hwo, by (try dsimp only); omega⟩) (by repeat (first | exact List.Sublist.refl _ | apply List.Sublist.cons_cons | apply List.Sublist.cons)) (hle0)
 ·rw [numL_last (by omega)] at hwo
  refine XC.exit ?_; refine seqX_exit ?_; refine loopX_exit ?_; refine blockHit rfl ?_; refine XC.seq2 ?_; refine XC.seq ?_; refine XC.region ?_; refine XO.move rfl rfl ?_; refine XO.move rfl rfl ?_; refine XO.convI (c := (((UInt8.ofNat w).toNat : Nat) : Int)) rfl Try.underlying108 Try.underlying5 (by rw [ofNat_toNat (by omega)]; exact wrap_u8 (by omega) (by omega)) rfl ?_; refine XO.buildSlice rfl Try.underlying44 ty_5 ze_5 rfl rfl rfl (fun b18 => ?_); refine XO.publish 0 rfl rfl rfl (fun HP18 oP18 hleP18 hbP18 hoP18 => ?_)
  have hsl18 := SlR.lit (ρ := u8R) (l := [UInt8.ofNat w]) hbP18 hoP18 (RowsR.one1 rfl)
  replace hacco := hacco.mono hleP18; replace hle0 := hle0.trans hleP18; refine XO.appendA 0 rfl rfl hacco rfl rfl hsl18 rfl Try.underlying44 ty_5 ze_5 rfl by_5 (by simp; omega) rfl (fun p19 a19 c19 hacc19 => ?_); refine XO.assign rfl rfl ?_; refine XO.nil ?_; refine XC.seq2 ?_; refine XC.ret ?_; refine ⟨rfl, _, [_], rfl, (by repeat (first | exact List.Sublist.refl _ | apply List.Sublist.cons)), RetR.mk ?_⟩
  rw [← hwo]
  exact ⟨_, _, _, rfl, rfl, by assumption⟩
end Go.Proofs
