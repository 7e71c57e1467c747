/- Regions that draw their order, with guards and with writes that change nothing. No statement of the program stands here. -/
import Derived.Test.YtbfleiickdobnaaXLq
set_option autoImplicit false
set_option linter.unusedSimpArgs false
set_option linter.unusedVariables false
namespace Go.XL
def predsG (o : Oper) : List Nat := o.after.toList.filterMap fun e => match e.ground with | .data => some e.on | .guard => some e.on | _ => none
def withP (l : List Oper) (F : List (Value → Hp → Prop)) (H' : Hp) : List Nat → Env → (Env → Prop) → Prop
  | [], acc, K => K acc
  | j :: js, acc, K => match dstOf l j with
    | some t => ∀ v, factAt F j v H' → withP l F H' js ((t, v) :: acc) K
    | none => withP l F H' js acc K
theorem withP_cons {l : List Oper} {F : List (Value → Hp → Prop)} {H' : Hp} {js js' : List Nat} {j t : Nat} {acc : Env} {K : Env → Prop} (hj : js = j :: js') (ht : dstOf l j = some t) (h : ∀ v, factAt F j v H' → withP l F H' js' ((t, v) :: acc) K) : withP l F H' js acc K := by
  subst hj; simp only [withP, ht]; exact h
theorem withP_skip {l : List Oper} {F : List (Value → Hp → Prop)} {H' : Hp} {js js' : List Nat} {j : Nat} {acc : Env} {K : Env → Prop} (hj : js = j :: js') (ht : dstOf l j = none) (h : withP l F H' js' acc K) : withP l F H' js acc K := by
  subst hj; simp only [withP, ht]; exact h
theorem withP_nil {l : List Oper} {F : List (Value → Hp → Prop)} {H' : Hp} {js : List Nat} {acc : Env} {K : Env → Prop} (hj : js = []) (h : K acc) : withP l F H' js acc K := by subst hj; exact h
theorem withP_of {l : List Oper} {F : List (Value → Hp → Prop)} {H' : Hp} {val : Nat → Value} : ∀ (js : List Nat) (acc : Env) (K : Env → Prop), withP l F H' js acc K → (∀ j ∈ js, ∀ t, dstOf l j = some t → factAt F j (val j) H') →
    ∃ acc', K (acc' ++ acc) ∧ ∀ t v, (t, v) ∈ acc' → ∃ j ∈ js, dstOf l j = some t ∧ v = val j
  | [], acc, K, h, _ => ⟨[], h, fun _ _ h => by cases h⟩
  | j :: js, acc, K, h, hf => by
    cases ht : dstOf l j with
    | none =>
      simp only [withP, ht] at h
      obtain ⟨acc', hk, hm⟩ := withP_of js _ K h (fun j' hj' => hf j' (by simp [hj']))
      exact ⟨acc', hk, fun t v hv => let ⟨j', hj', h3⟩ := hm t v hv; ⟨j', by simp [hj'], h3⟩⟩
    | some t =>
      simp only [withP, ht] at h
      obtain ⟨acc', hk, hm⟩ := withP_of js _ K (h (val j) (hf j (by simp) t ht)) (fun j' hj' => hf j' (by simp [hj']))
      refine ⟨acc' ++ [(t, val j)], by simpa using hk, fun t' v' hm' => ?_⟩
      rcases List.mem_append.1 hm' with hm' | hm'
      · obtain ⟨j', hj', h3⟩ := hm t' v' hm'; exact ⟨j', by simp [hj'], h3⟩
      · simp only [List.mem_singleton, Prod.mk.injEq] at hm'
        obtain ⟨rfl, rfl⟩ := hm'
        exact ⟨j, by simp, ht, rfl⟩
/-- What is looked up in the region's text: each of the first m operations writes a slot of its own or none; the later ones wait for all of those, and for each other in turn. -/
def drawOkH (m : Nat) (l : List Oper) (keys : List Nat) : Bool :=
  Nat.ble m l.length && (List.range m).all (fun i => match l[i]? with
    | some o => notDefer o.op && (match o.dst with
      | some t => !keys.contains t && (List.range m).all (fun j => Nat.beq i j || !(dstOf l j == some t))
      | none => true) && (o.after.toList.all fun e => !Region.binds .any e || Nat.blt e.on i) && (predsG o).all (fun j => Nat.blt j m && o.after.toList.any fun e => Region.binds .any e && Nat.beq e.on j)
    | none => false) &&
  (List.range l.length).all (fun i => Nat.blt i m || match l[i]? with
    | some o => (List.range i).all (fun j => waitsB l l.length o j) && (o.after.toList.all fun e => !Region.binds .any e || Nat.blt e.on i)
    | none => false)
def stepsH (Gd : Hp → Prop) (cre : List Nat) (FO : Nat → Value → Nat × SObj → Hp → Prop) (C : Ctx) (l : List Oper) (F : List (Value → Hp → Prop)) (env : Env) (df : List Deferred) (H : Hp) (own : Own) (m : Nat) : Nat → List Oper → Prop
  | _, [] => True
  | k, o :: rest => bif Nat.blt k m then
      (∀ X ext H', Le H H' → Gd H' → withP l F H' (predsG o) [] fun acc => XO C l.toArray (stepQN Gd cre k o.dst (factAt F k) (FO k) (acc ++ (env ++ X)) df (own ++ ext)) [o] ⟨acc ++ (env ++ X), df, H', own ++ ext⟩) ∧ stepsH Gd cre FO C l F env df H own m (k + 1) rest
    else True
theorem stepsH_cons {Gd : Hp → Prop} {cre : List Nat} {FO : Nat → Value → Nat × SObj → Hp → Prop} {C : Ctx} {l : List Oper} {F : List (Value → Hp → Prop)} {env : Env} {df : List Deferred} {H : Hp} {own : Own} {m k : Nat} {o : Oper} {rest : List Oper} (hk : Nat.blt k m = true)
    (h : ∀ X ext H', Le H H' → Gd H' → withP l F H' (predsG o) [] fun acc => XO C l.toArray (stepQN Gd cre k o.dst (factAt F k) (FO k) (acc ++ (env ++ X)) df (own ++ ext)) [o] ⟨acc ++ (env ++ X), df, H', own ++ ext⟩) (k2 : stepsH Gd cre FO C l F env df H own m (k + 1) rest) : stepsH Gd cre FO C l F env df H own m k (o :: rest) := by
  rw [stepsH, hk]; exact ⟨h, k2⟩
theorem stepsH_end {Gd : Hp → Prop} {cre : List Nat} {FO : Nat → Value → Nat × SObj → Hp → Prop} {C : Ctx} {l : List Oper} {F : List (Value → Hp → Prop)} {env : Env} {df : List Deferred} {H : Hp} {own : Own} {m k : Nat} {rest : List Oper} (hk : Nat.blt k m = false) : stepsH Gd cre FO C l F env df H own m k rest := by
  cases rest with
  | nil => trivial
  | cons o r => rw [stepsH, hk]; trivial
theorem get_putE_ne {d : Option Tmp} {v : Value} {e : Env} {t : Nat} (h : d ≠ some t) : Env.get (putE d v e) t = Env.get e t := by
  cases d with
  | none => rfl
  | some s => simp only [putE, Env.get]; rw [show Nat.beq s t = false from beq_ne fun e => h (by rw [e])]; rfl
theorem get_mem : ∀ (e : Env) (t : Nat) (u : Value), Env.get e t = some u → (t, u) ∈ e := fun _ _ _ h => env_get_mem h
theorem get_uniq {tj : Nat} {u0 : Value} : ∀ (e : Env), (tj, u0) ∈ e → (∀ u, (tj, u) ∈ e → u = u0) → Env.get e tj = some u0
  | [], h, _ => by cases h
  | (k, u') :: r, h, hu2 => by
    simp only [Env.get]
    cases hb : Nat.beq k tj with
    | true =>
      have := Nat.eq_of_beq_eq_true hb
      subst this
      rw [hu2 u' (by simp)]; rfl
    | false =>
      simp only [cond_false]
      refine get_uniq r ?_ (fun u hu3 => hu2 u (List.mem_cons_of_mem _ hu3))
      rcases List.mem_cons.1 h with h | h
      · cases h; simp at hb
      · exact h
theorem count_tail {l : List Oper} {L : Array Bool} {m : Nat} (hml : m ≤ l.length) (hall : ∀ j, j < m → lst L j = true) (hT : ∀ j, m ≤ j → lst L j = false) : l.length - m = unl l.length L := by
  have : unl l.length L = (List.range l.length).countP fun i => decide (m ≤ i) := by
    refine List.countP_congr fun i hi => ?_
    rcases Nat.lt_or_ge i m with h | h
    · rw [hall i h]; simp; omega
    · rw [hT i h]; simp [h]
  rw [this]
  have key : ∀ n, m ≤ n → (List.range n).countP (fun i => decide (m ≤ i)) = n - m := by
    intro n
    induction n with
    | zero => intro h; simp
    | succ n ihn =>
      intro h
      rw [List.range_succ, List.countP_append]
      rcases Nat.lt_or_ge n m with h' | h'
      · have : n + 1 = m := by omega
        subst this
        have h0 : (List.range n).countP (fun i => decide (n + 1 ≤ i)) = 0 := by
          rw [List.countP_eq_zero]; intro i hi; simp at hi ⊢; omega
        rw [h0]; simp
      · rw [ihn h']; simp [h']; omega
  exact (key _ hml).symm
section
variable {C : Ctx} {Q : Exit → St → Prop} {env : Env} {df : List Deferred} {H : Hp} {own : Own}
theorem stepsH_at {Gd : Hp → Prop} {cre : List Nat} {FO : Nat → Value → Nat × SObj → Hp → Prop} {l : List Oper} {F : List (Value → Hp → Prop)} {m : Nat} : ∀ (rest : List Oper) (k : Nat), stepsH Gd cre FO C l F env df H own m k rest → ∀ (i : Nat) (o : Oper), rest[i]? = some o → k + i < m →
    ∀ X ext H', Le H H' → Gd H' → withP l F H' (predsG o) [] fun acc => XO C l.toArray (stepQN Gd cre (k + i) o.dst (factAt F (k + i)) (FO (k + i)) (acc ++ (env ++ X)) df (own ++ ext)) [o] ⟨acc ++ (env ++ X), df, H', own ++ ext⟩
  | [], k, _, i, o, hi, _ => by simp at hi
  | x :: rest, k, h, i, o, hi, hlt => by
    simp only [stepsH] at h
    rw [show Nat.blt k m = true by simp; omega] at h
    cases i with
    | zero => simp only [List.getElem?_cons_zero, Option.some.injEq] at hi; subst hi; exact h.1
    | succ i =>
      have := stepsH_at rest (k + 1) h.2 i o (by simpa using hi) (by omega)
      rwa [show k + 1 + i = k + (i + 1) by omega] at this

theorem XC.drawH (Gd : Hp → Prop) (hG : Gd H) (cre : List Nat) (hnd0 : cre.Nodup) (FO : Nat → Value → Nat × SObj → Hp → Prop) (hFO : ∀ i v p H H', Le H H' → FO i v p H → FO i v p H') {id : Nat} {l : List Oper} (m : Nat) (F : List (Value → Hp → Prop)) (hm : C.P.follows .mixedOrders = true) (hck : drawOkH m l (env.map Prod.fst) = true) (hmono' : monoL F)
    (hcm : (cre.all fun i => Nat.blt i m) = true) (steps : stepsH Gd cre FO C l F env df H own m 0 l)
    (tail : ∀ H', Le H H' → Gd H' → withP l F H' (List.range m) [] fun acc => withEnts l FO H' acc cre fun es => XO C l.toArray Q (l.drop m) ⟨acc ++ env, df, H', es ++ own⟩) : XC C (.region id l.toArray true) Q ⟨env, df, H, own⟩ := by
  have hmono := monoF_of hmono'
  intro a₀ w₀ hr₀
  refine wpIn_region_any hm ?_
  simp only [drawOkH, Bool.and_eq_true, List.all_eq_true, List.mem_range] at hck
  obtain ⟨⟨hml, hck1⟩, hck2⟩ := hck
  have hml := Nat.le_of_ble_eq_true hml
  have hpre : ∀ i, i < m → ∃ o, l[i]? = some o ∧ (∀ t, o.dst = some t → t ∉ env.map Prod.fst ∧ (∀ j, j < m → i ≠ j → dstOf l j ≠ some t)) ∧ (∀ e ∈ o.after, Region.binds .any e = true → e.on < i) ∧ (∀ j ∈ predsG o, j < m ∧ ∃ e ∈ o.after, Region.binds .any e = true ∧ e.on = j) := by
    intro i hi
    have h := hck1 i hi
    split at h
    · rename_i o ho
      simp only [Bool.and_eq_true, List.all_eq_true] at h
      obtain ⟨⟨⟨hnd, hd⟩, haf⟩, hp⟩ := h
      refine ⟨o, ho, ?_, ?_, ?_⟩
      · intro t ht
        rw [ht] at hd
        simp only [Bool.and_eq_true, List.all_eq_true, List.mem_range, Bool.not_eq_true', List.contains_eq_mem, decide_eq_false_iff_not] at hd
        refine ⟨hd.1, fun j hj hne he => ?_⟩
        have := hd.2 j hj
        rw [he] at this
        simp at this
        exact hne this
      · intro e he hb
        have := haf e (by simpa using he)
        simpa [hb] using this
      · intro j hj
        have := hp j hj
        simp only [List.any_eq_true, Bool.and_eq_true] at this
        obtain ⟨h1, e, he, hb, hon⟩ := this
        exact ⟨by simpa using h1, e, by simpa using he, hb, Nat.eq_of_beq_eq_true hon⟩
    · cases h
  have hkey : ∀ i t, i < m → dstOf l i = some t → t ∉ env.map Prod.fst := by
    intro i t hi ht
    obtain ⟨o, ho, hd, _⟩ := hpre i hi
    exact (hd t (by simpa [dstOf, ho] using ht)).1
  have hdis : ∀ i j t, i < m → j < m → dstOf l i = some t → dstOf l j = some t → i = j := by
    intro i j t hi hj ht ht2
    obtain ⟨o, ho, hd, _⟩ := hpre i hi
    by_cases h : i = j
    · exact h
    · exact absurd ht2 ((hd t (by simpa [dstOf, ho] using ht)).2 j hj h)
  have htl : ∀ (i : Nat) (o : Oper), m ≤ i → l[i]? = some o → (∀ j, j < i → waitsB l l.length o j = true) ∧ (∀ e ∈ o.after, Region.binds .any e = true → e.on < i) := by
    intro i o hi ho
    have hlt := (List.getElem?_eq_some_iff.1 ho).1
    have h := hck2 i hlt
    rw [ho] at h
    rw [show Nat.blt i m = false from blt_ge hi] at h
    simp only [Bool.false_or, Bool.and_eq_true, List.all_eq_true, List.mem_range] at h
    refine ⟨fun j hj => h.1 j hj, fun e he hb => ?_⟩
    · have := h.2 e (by simpa using he)
      simpa [hb] using this
  have hdc : ∀ (i : Nat) (o : Oper), l[i]? = some o → ∀ e ∈ o.after, Region.binds .any e = true → e.on < i := by
    intro i o ho
    rcases Nat.lt_or_ge i m with h | h
    · obtain ⟨o2, ho2, _, haf, _⟩ := hpre i h
      rw [ho] at ho2; cases ho2; exact haf
    · exact (htl i o h ho).2
  have main : ∀ (fuel : Nat) (L : Array Bool) (a : Act) (w : World) (val : Nat → Value) (ent : Nat → Nat × SObj) (H' : Hp), L.size = l.length → unl l.length L ≤ fuel → Le H H' → Gd H' → (∀ (i : Nat) (o : Oper), l[i]? = some o → lst L i = true → ∀ e ∈ o.after, Region.binds .any e = true → lst L e.on = true) → (∀ j, m ≤ j → lst L j = false) →
      a.tmps.size = C.N → (∀ t v, env.get t = some v → a.tmps.getD t undef = v) → (∃ ms : List Nat, a.defers = ms.map mark ++ df ∧ Ok C.G H' ((own ++ extOf cre L ent) ++ (ms.map hid ++ C.hid)) w) → (∀ i ∈ cre, lst L i = true → FO i (val i) (ent i) H') →
      (∀ i, i < m → lst L i = true → ∀ t, dstOf l i = some t → a.tmps.getD t undef = val i ∧ factAt F i (val i) H') →
      wpAnyIn (Fr C.r) 0 C.P .any l.toArray (lift C H Q) fuel L a w := by
    intro fuel
    have done : ∀ (fuel : Nat) (L : Array Bool) (a : Act) (w : World) (val : Nat → Value) (ent : Nat → Nat × SObj) (H' : Hp), L.size = l.length → unl l.length L ≤ fuel → Le H H' → Gd H' → (∀ j, m ≤ j → lst L j = false) →
        a.tmps.size = C.N → (∀ t v, env.get t = some v → a.tmps.getD t undef = v) → (∃ ms : List Nat, a.defers = ms.map mark ++ df ∧ Ok C.G H' ((own ++ extOf cre L ent) ++ (ms.map hid ++ C.hid)) w) → (∀ i ∈ cre, lst L i = true → FO i (val i) (ent i) H') →
        (∀ i, i < m → lst L i = true → ∀ t, dstOf l i = some t → a.tmps.getD t undef = val i ∧ factAt F i (val i) H') → (∀ j, j < m → lst L j = true) →
        wpAnyIn (Fr C.r) 0 C.P .any l.toArray (lift C H Q) fuel L a w := by
      intro fuel L a w val ent H' hs hu hle hGd hT hsz henv hok hents hfacts hall
      obtain ⟨acc', hk, hmem⟩ := withP_of (val := val) (List.range m) [] _ (tail H' hle hGd) (fun j hj t ht => (hfacts j (List.mem_range.1 hj) (hall j (List.mem_range.1 hj)) t ht).2)
      have hcount : l.length - m ≤ fuel := by rw [count_tail hml hall hT]; exact hu
      refine drawTail (m := m) htl hdc fuel m L a w (Nat.le_refl _) hs hcount hml ?_ ?_
      · intro j
        rcases Nat.lt_or_ge j m with h | h
        · rw [hall j h]; simp [h]
        · rw [hT j h]; simp; omega
      · have hcall : ∀ i ∈ cre, i < m := fun i hi => by simpa using List.all_eq_true.1 hcm i hi
        have hk2 := withEnts_of (ent := ent) cre _ hk (fun i hi v hg => by
          obtain ⟨t, hd, hg⟩ := hg
          have him := hcall i hi
          obtain ⟨j, hj, hdj, rfl⟩ := hmem t v (env_get_mem (by simpa using hg))
          obtain rfl := hdis i j t him (List.mem_range.1 hj) hd hdj
          exact hents i hi (hall i him))
        have hext : extOf cre L ent = cre.map ent := by
          rw [extOf, List.filter_eq_self.2 (fun i hi => hall i (hcall i hi))]
        have hok2 : ∃ ms : List Nat, a.defers = ms.map mark ++ df ∧ Ok C.G H' ((cre.map ent ++ own) ++ (ms.map hid ++ C.hid)) w := by
          obtain ⟨ms, h1, h2⟩ := hok
          rw [hext] at h2
          exact ⟨ms, h1, h2.perm (List.perm_append_comm.append_right _)⟩
        refine wpList_mono hle _ _ _ (hk2 a w ⟨hsz, ?_, hok2⟩)
        intro t v hg
        simp only [List.append_nil] at hg
        rw [Env.get_append] at hg
        cases hga : Env.get acc' t with
        | none => rw [hga] at hg; exact henv t v (by simpa using hg)
        | some u =>
          rw [hga] at hg; simp at hg; subst hg
          obtain ⟨j, hj, hd, rfl⟩ := hmem t u (get_mem _ _ _ hga)
          have hj := List.mem_range.1 hj
          exact (hfacts j hj (hall j hj) t hd).1
    induction fuel with
    | zero =>
      intro L a w val ent H' hs hu hle hGd hdown hT hsz henv hok hents hfacts
      refine done 0 L a w val ent H' hs hu hle hGd hT hsz henv hok hents hfacts ?_
      intro j hj
      cases hx : lst L j with
      | true => rfl
      | false =>
        have := unl_set (L := L) (i := j) hs (by omega) hx
        omega
    | succ fuel ih =>
      intro L a w val ent H' hs hu hle hGd hdown hT hsz henv hok hents hfacts
      by_cases hall : ∀ j, j < m → lst L j = true
      · exact done (fuel + 1) L a w val ent H' hs hu hle hGd hT hsz henv hok hents hfacts hall
      · constructor
        · intro hnil
          exfalso
          apply hall
          -- the least one that is not listed is ready
          intro j hj
          induction j using Nat.strongRecOn with
          | _ j ihj =>
            cases hx : lst L j with
            | true => rfl
            | false =>
              exfalso
              obtain ⟨o, ho, _, haf, _⟩ := hpre j hj
              have : j ∈ Region.ready .any l.toArray L := by
                rw [mem_ready]
                refine ⟨?_, o, by simpa using ho, fun e he hb => ihj e.on (haf e he hb) (by have := haf e he hb; omega)⟩
                unfold lst at hx
                rw [Array.getD_eq_getD_getElem?, Array.getElem?_eq_getElem (by omega)] at hx ⊢
                simpa using hx
              rw [hnil] at this; cases this
        · intro i hi
          rw [mem_ready] at hi
          obtain ⟨h0, o, ho, hbef⟩ := hi
          have hilt : i < l.length := by simpa using (Array.getElem?_eq_some_iff.1 ho).1
          have hun : lst L i = false := by
            unfold lst
            rw [Array.getD_eq_getD_getElem?, Array.getElem?_eq_getElem (by omega)] at h0 ⊢
            simpa using h0
          have ho' : l[i]? = some o := by simpa using ho
          have him : i < m := by
            rcases Nat.lt_or_ge i m with h | h
            · exact h
            · exfalso
              apply hall
              intro j hj
              exact waits_listed hdown _ o j hbef ((htl i o h ho').1 j (by omega))
          obtain ⟨o2, ho2, hd, haf, hprd⟩ := hpre i him
          rw [ho'] at ho2; cases ho2
          have hdo : dstOf l i = o.dst := by simp [dstOf, ho']
          have hst := stepsH_at l 0 steps i o ho' (by omega)
          simp only [Nat.zero_add] at hst
          -- all that is known of the slots, as one list
          let X : Env := (List.range m).filterMap fun j => if lst L j then (dstOf l j).map fun t => (t, val j) else none
          obtain ⟨acc', hk, hmem⟩ := withP_of (val := val) (predsG o) [] _ (hst X (extOf cre L ent) H' hle hGd) (fun j hj tj hdj => by
            obtain ⟨hjm, e, he, hb, hon⟩ := hprd j hj
            have hlj : lst L j = true := by have := hbef e he hb; rw [hon] at this; exact this
            exact (hfacts j hjm hlj tj hdj).2)
          simp only [List.append_nil] at hk
          have hX : ∀ t v, (t, v) ∈ X → ∃ j, j < m ∧ lst L j = true ∧ dstOf l j = some t ∧ v = val j := by
            intro t v h
            obtain ⟨j, hj, hjj⟩ := List.mem_filterMap.1 h
            split at hjj
            · rename_i hlj
              cases hdj : dstOf l j with
              | none => rw [hdj] at hjj; cases hjj
              | some tj =>
                rw [hdj] at hjj
                simp only [Option.map_some, Option.some.injEq, Prod.mk.injEq] at hjj
                obtain ⟨rfl, rfl⟩ := hjj
                exact ⟨j, List.mem_range.1 hj, hlj, hdj, rfl⟩
            · cases hjj
          have hrel : Rel C ⟨acc' ++ (env ++ X), df, H', own ++ extOf cre L ent⟩ a w := by
            refine ⟨hsz, ?_, hok⟩
            intro t v hgv
            rw [Env.get_append, Env.get_append] at hgv
            cases hga : Env.get acc' t with
            | some u =>
              rw [hga] at hgv; simp at hgv; subst hgv
              obtain ⟨j, hj, hdj, rfl⟩ := hmem t u (get_mem _ _ _ hga)
              obtain ⟨hjm, e, he, hb, hon⟩ := hprd j hj
              have hlj : lst L j = true := by have := hbef e he hb; rw [hon] at this; exact this
              exact (hfacts j hjm hlj t hdj).1
            | none =>
              rw [hga] at hgv; simp only [Option.none_or] at hgv
              cases hge : Env.get env t with
              | some u => rw [hge] at hgv; simp at hgv; subst hgv; exact henv t u hge
              | none =>
                rw [hge] at hgv; simp only [Option.none_or] at hgv
                obtain ⟨j, hj, hlj, hdj, rfl⟩ := hX t v (get_mem _ _ _ hgv)
                exact (hfacts j hj hlj t hdj).1
          have hrun := hk a w hrel
          have hnext : ∀ a' w', lift C H' (stepQN Gd cre i o.dst (factAt F i) (FO i) (acc' ++ (env ++ X)) df (own ++ extOf cre L ent)) .normal a' w' → wpAnyIn (Fr C.r) 0 C.P .any l.toArray (lift C H Q) fuel (L.setIfInBounds i true) a' w' := by
            rintro a' w' ⟨σ', hr', hle', hGd', hdf', v, pe, henv', hfv, hown'⟩
            refine ih (L.setIfInBounds i true) a' w' (fun j => if j = i then v else val j) (fun j => if j = i then pe else ent j) σ'.H (by simpa using hs) ?_ (hle.trans hle') hGd' ?_ ?_ hr'.size ?_ ?_ ?_ ?_
            · have := unl_set hs hilt hun; omega
            · intro i' o' hi' hl' e he hb
              rw [lst_set (by omega)] at hl' ⊢
              split
              · rfl
              · split at hl'
                · rename_i e1 e2; subst e2; rw [ho'] at hi'; cases hi'; exact hbef e he hb
                · exact hdown i' o' hi' hl' e he hb
            · intro j hj
              rw [lst_set (by omega), if_neg (by omega)]
              exact hT j hj
            · intro t' v' hg'
              refine hr'.get t' v' ?_
              have hin : t' ∈ env.map Prod.fst := List.mem_map.2 ⟨(t', v'), get_mem _ _ _ hg', rfl⟩
              rw [henv', get_putE_ne (fun e => (hd t' e).1 hin), Env.get_append, Env.get_append]
              have : Env.get acc' t' = none := by
                cases hga : Env.get acc' t' with
                | none => rfl
                | some u =>
                  obtain ⟨j, hj, hdj, _⟩ := hmem t' u (get_mem _ _ _ hga)
                  exact absurd hin (hkey j t' (hprd j hj).1 hdj)
              rw [this, hg']; rfl
            · obtain ⟨ms, hd', hok'⟩ := hr'.ok
              refine ⟨ms, by rw [hd', hdf'], ?_⟩
              cases hc : cre.contains i with
              | true =>
                rw [hc] at hown'
                rw [hown'.1] at hok'
                refine hok'.perm (List.Perm.append_right _ ?_)
                exact ((ext_new hnd0 (List.contains_iff_mem.1 hc) hun (fun j => lst_set (by omega) j)).append_left own).trans List.perm_middle
              | false =>
                rw [hc] at hown'
                rw [show σ'.own = own ++ extOf cre L ent from hown'] at hok'
                rw [ext_old (fun h => by rw [List.contains_iff_mem.2 h] at hc; cases hc) (fun j => lst_set (by omega) j)]
                exact hok'
            · intro j hj hlj
              rw [lst_set (by omega)] at hlj
              by_cases hji : j = i
              · subst hji
                rw [List.contains_iff_mem.2 hj] at hown'
                simpa using hown'.2
              · rw [if_neg hji] at hlj
                simp only [if_neg hji]
                exact hFO _ _ _ _ _ hle' (hents j hj hlj)
            · intro j hj hlj tj htj
              rw [lst_set (by omega)] at hlj
              by_cases hji : j = i
              · subst hji
                rw [hdo] at htj
                simp only [if_true]
                refine ⟨hr'.get tj v ?_, hfv⟩
                rw [henv', htj]; simp [putE, Env.get]
              · rw [if_neg hji] at hlj
                obtain ⟨h1, h2⟩ := hfacts j hj hlj tj htj
                simp only [if_neg hji]
                refine ⟨hr'.get tj (val j) ?_, factAt_mono hmono hle' h2⟩
                rw [henv', get_putE_ne (fun e => hji (hdis j i tj hj him htj (by rw [hdo, e]))), Env.get_append, Env.get_append]
                have hacc : Env.get acc' tj = none ∨ Env.get acc' tj = some (val j) := by
                  cases hga : Env.get acc' tj with
                  | none => exact .inl rfl
                  | some u =>
                    obtain ⟨j', hj', hdj', rfl⟩ := hmem tj u (get_mem _ _ _ hga)
                    obtain rfl := hdis j' j tj (hprd j' hj').1 hj hdj' htj
                    exact .inr rfl
                rcases hacc with hacc | hacc
                · rw [hacc]
                  have henvn : Env.get env tj = none := by
                    cases hge : Env.get env tj with
                    | none => rfl
                    | some u => exact absurd (List.mem_map.2 ⟨(tj, u), get_mem _ _ _ hge, rfl⟩) (hkey j tj hj htj)
                  rw [henvn]
                  simp only [Option.none_or]
                  -- it stands in X, once
                  refine get_uniq X (List.mem_filterMap.2 ⟨j, List.mem_range.2 hj, by simp only [hlj, if_true, htj, Option.map_some]⟩) ?_
                  intro u hu'
                  obtain ⟨j', hj', _, hdj', rfl⟩ := hX tj u hu'
                  obtain rfl := hdis j' j tj hj' hj hdj' htj
                  rfl
                · rw [hacc]; rfl
          unfold wpOpIn
          rw [ho]
          simp only [wpListIn] at hrun ⊢
          split
          · rename_i hw
            rw [if_pos hw] at hrun
            refine wpInOper_mono hnext ?_ hrun
            rintro e a' w' he ⟨σ', _, _, hq⟩
            cases e <;> first | exact absurd rfl he | exact hq.elim
          · rename_i hw
            rw [if_neg hw] at hrun
            exact ⟨hrun.1, hnext _ _ hrun.2⟩
  have hlst0 : ∀ j, lst (Array.replicate l.toArray.size false) j = false := fun j => by simp [lst, Array.getD_eq_getD_getElem?, Array.getElem?_replicate]; split <;> rfl
  exact main l.toArray.size (Array.replicate l.toArray.size false) a₀ _ (fun _ => undef) (fun _ => (0, .nothing)) H (by simp) (by
      refine Nat.le_trans (List.countP_le_length) (by simp)) (Le.refl _) hG (fun i o _ hl => by
      have : lst (Array.replicate l.toArray.size false) i = false := by simp [lst, Array.getD_eq_getD_getElem?, Array.getElem?_replicate]; split <;> rfl
      rw [this] at hl; cases hl) (fun j _ => by simp [lst, Array.getD_eq_getD_getElem?, Array.getElem?_replicate]; split <;> rfl) hr₀.size hr₀.get
    (let ⟨ms, hd, hok⟩ := hr₀.ok; ⟨ms, hd, by rw [ext_none hlst0, List.append_nil]; exact hok.drew⟩) (fun i _ h => by rw [hlst0] at h; cases h) (fun i _ h => by
      have : lst (Array.replicate l.toArray.size false) i = false := by simp [lst, Array.getD_eq_getD_getElem?, Array.getElem?_replicate]; split <;> rfl
      rw [this] at h; cases h)
end
end Go.XL
