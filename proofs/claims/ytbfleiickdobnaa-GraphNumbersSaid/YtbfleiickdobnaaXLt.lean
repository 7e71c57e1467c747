/- Regions that draw their order, in which blocks are made and then written. No statement of the program stands here. -/
import Derived.Test.YtbfleiickdobnaaXLs
set_option autoImplicit false
set_option linter.unusedSimpArgs false
set_option linter.unusedVariables false
namespace Go.XL
/-- md: the operation q.1 writes the block that the maker q.2 has made -/
def mdAt (md : List (Nat × Nat)) (k : Nat) : Option Nat := (md.find? fun q => Nat.beq q.1 k).map (·.2)
abbrev EntP := Nat → Value → Nat × SObj → Hp → Prop
def entP (md : List (Nat × Nat)) (FO FO2 : EntP) (L : Nat → Bool) (j : Nat) (v : Value) (p : Nat × SObj) (H : Hp) : Prop :=
  match md.find? fun q => Nat.beq q.2 j with
  | some q => if L q.1 = true then FO2 q.1 v p H else FO j v p H
  | none => FO j v p H
def endP (md : List (Nat × Nat)) (FO FO2 : EntP) : EntP := fun j v p H => entP md FO FO2 (fun _ => true) j v p H
theorem entP_mono {md : List (Nat × Nat)} {FO FO2 : EntP} (h1 : ∀ i v p H H', Le H H' → FO i v p H → FO i v p H') (h2 : ∀ i v p H H', Le H H' → FO2 i v p H → FO2 i v p H') {L : Nat → Bool} {j : Nat} {v : Value} {p : Nat × SObj} {H H' : Hp} (hle : Le H H')
    (h : entP md FO FO2 L j v p H) : entP md FO FO2 L j v p H' := by
  unfold entP at *
  split
  · rename_i q hq
    rw [hq] at h
    simp only at h
    split
    · rename_i hl; rw [if_pos hl] at h; exact h2 _ _ _ _ _ hle h
    · rename_i hl; rw [if_neg hl] at h; exact h1 _ _ _ _ _ hle h
  · rename_i hq
    rw [hq] at h
    exact h1 _ _ _ _ _ hle h
theorem entP_congr {md : List (Nat × Nat)} {FO FO2 : EntP} {L L' : Nat → Bool} {j : Nat} {v : Value} {p : Nat × SObj} {H : Hp} (h : ∀ q ∈ md, q.2 = j → L q.1 = L' q.1) (k : entP md FO FO2 L j v p H) : entP md FO FO2 L' j v p H := by
  unfold entP at *
  split
  · rename_i q hq
    rw [hq] at k
    simp only at k
    have h3 := h q (List.mem_of_find?_eq_some hq) (by have := List.find?_some hq; simpa using this)
    rw [h3] at k
    exact k
  · rename_i hq
    rw [hq] at k
    exact k
def stepQM (Gd : Hp → Prop) (fo : Value → Nat × SObj → Hp → Prop) (tj : Option Nat) (acc : Env) (dst : Option Tmp) (f : Value → Hp → Prop) (env : Env) (df : List Deferred) (own : Own) : Exit → St → Prop
  | .normal, σ => Gd σ.H ∧ σ.df = df ∧ ∃ v p', σ.env = putE dst v env ∧ f v σ.H ∧ σ.own = p' :: own ∧ ∀ u t, tj = some t → Env.get acc t = some u → fo u p' σ.H
  | _, _ => False
theorem stepQM_ok {Gd : Hp → Prop} {fo : Value → Nat × SObj → Hp → Prop} {tj : Option Nat} {acc : Env} {dst : Option Tmp} {f : Value → Hp → Prop} {env : Env} {df : List Deferred} {own : Own} {H : Hp} {v : Value} {p' : Nat × SObj} (hG : Gd H) (hf : f v H)
    (h : ∀ u t, tj = some t → Env.get acc t = some u → fo u p' H) : stepQM Gd fo tj acc dst f env df own .normal ⟨putE dst v env, df, H, p' :: own⟩ := ⟨hG, rfl, v, p', rfl, hf, rfl, h⟩
def stepsM (Gd : Hp → Prop) (cre : List Nat) (md : List (Nat × Nat)) (FO FO2 : EntP) (C : Ctx) (l : List Oper) (F : List (Value → Hp → Prop)) (env : Env) (df : List Deferred) (H : Hp) (own : Own) (m : Nat) : Nat → List Oper → Prop
  | _, [] => True
  | k, o :: rest => bif Nat.blt k m then
      (match mdAt md k with
        | none => ∀ X ext H', Le H H' → Gd H' → withP l F H' (predsG o) [] fun acc => XO C l.toArray (stepQN Gd cre k o.dst (factAt F k) (FO k) (acc ++ (env ++ X)) df (own ++ ext)) [o] ⟨acc ++ (env ++ X), df, H', own ++ ext⟩
        | some j => ∀ X ext p H', Le H H' → Gd H' → withP l F H' (predsG o) [] fun acc => (∀ u t, dstOf l j = some t → Env.get acc t = some u → FO j u p H') →
            XO C l.toArray (stepQM Gd (FO2 k) (dstOf l j) acc o.dst (factAt F k) (acc ++ (env ++ X)) df (own ++ ext)) [o] ⟨acc ++ (env ++ X), df, H', p :: (own ++ ext)⟩) ∧ stepsM Gd cre md FO FO2 C l F env df H own m (k + 1) rest
    else True
theorem stepsM_cons {Gd : Hp → Prop} {cre : List Nat} {md : List (Nat × Nat)} {FO FO2 : EntP} {C : Ctx} {l : List Oper} {F : List (Value → Hp → Prop)} {env : Env} {df : List Deferred} {H : Hp} {own : Own} {m k : Nat} {o : Oper} {rest : List Oper} (hk : Nat.blt k m = true) (hmd : mdAt md k = none)
    (h : ∀ X ext H', Le H H' → Gd H' → withP l F H' (predsG o) [] fun acc => XO C l.toArray (stepQN Gd cre k o.dst (factAt F k) (FO k) (acc ++ (env ++ X)) df (own ++ ext)) [o] ⟨acc ++ (env ++ X), df, H', own ++ ext⟩) (k2 : stepsM Gd cre md FO FO2 C l F env df H own m (k + 1) rest) : stepsM Gd cre md FO FO2 C l F env df H own m k (o :: rest) := by
  rw [stepsM, hk, hmd]; exact ⟨h, k2⟩
theorem stepsM_mod {Gd : Hp → Prop} {cre : List Nat} {md : List (Nat × Nat)} {FO FO2 : EntP} {C : Ctx} {l : List Oper} {F : List (Value → Hp → Prop)} {env : Env} {df : List Deferred} {H : Hp} {own : Own} {m k j : Nat} {o : Oper} {rest : List Oper} (hk : Nat.blt k m = true) (hmd : mdAt md k = some j)
    (h : ∀ X ext p H', Le H H' → Gd H' → withP l F H' (predsG o) [] fun acc => (∀ u t, dstOf l j = some t → Env.get acc t = some u → FO j u p H') →
            XO C l.toArray (stepQM Gd (FO2 k) (dstOf l j) acc o.dst (factAt F k) (acc ++ (env ++ X)) df (own ++ ext)) [o] ⟨acc ++ (env ++ X), df, H', p :: (own ++ ext)⟩) (k2 : stepsM Gd cre md FO FO2 C l F env df H own m (k + 1) rest) : stepsM Gd cre md FO FO2 C l F env df H own m k (o :: rest) := by
  rw [stepsM, hk, hmd]; exact ⟨h, k2⟩
theorem stepsM_end {Gd : Hp → Prop} {cre : List Nat} {md : List (Nat × Nat)} {FO FO2 : EntP} {C : Ctx} {l : List Oper} {F : List (Value → Hp → Prop)} {env : Env} {df : List Deferred} {H : Hp} {own : Own} {m k : Nat} {rest : List Oper} (hk : Nat.blt k m = false) : stepsM Gd cre md FO FO2 C l F env df H own m k rest := by
  cases rest with
  | nil => trivial
  | cons o r => rw [stepsM, hk]; trivial
def mdOk (m : Nat) (l : List Oper) (cre : List Nat) (md : List (Nat × Nat)) : Bool :=
  md.all fun q => Nat.blt q.1 m && cre.contains q.2 && !cre.contains q.1 && (md.all fun q2 => Nat.beq q.1 q2.1 == Nat.beq q.2 q2.2) && (match l[q.1]? with | some o => (predsG o).contains q.2 | none => false) && (dstOf l q.2).isSome
theorem withP_of2 {l : List Oper} {F : List (Value → Hp → Prop)} {H' : Hp} {val : Nat → Value} : ∀ (js : List Nat) (acc : Env) (K : Env → Prop), withP l F H' js acc K → (∀ j ∈ js, ∀ t, dstOf l j = some t → factAt F j (val j) H') →
    ∃ acc', K (acc' ++ acc) ∧ (∀ t v, (t, v) ∈ acc' → ∃ j ∈ js, dstOf l j = some t ∧ v = val j) ∧ ∀ j ∈ js, ∀ t, dstOf l j = some t → (t, val j) ∈ acc'
  | [], acc, K, h, _ => ⟨[], h, fun _ _ h => (by cases h), fun _ h => (by cases h)⟩
  | j :: js, acc, K, h, hf => by
    cases ht : dstOf l j with
    | none =>
      simp only [withP, ht] at h
      obtain ⟨acc', hk, hm, hm2⟩ := withP_of2 js _ K h (fun j' hj' => hf j' (by simp [hj']))
      refine ⟨acc', hk, fun t v hv => let ⟨j', hj', h3⟩ := hm t v hv; ⟨j', by simp [hj'], h3⟩, fun j' hj' t hd => ?_⟩
      rcases List.mem_cons.1 hj' with rfl | hj'
      · rw [ht] at hd; cases hd
      · exact hm2 j' hj' t hd
    | some t =>
      simp only [withP, ht] at h
      obtain ⟨acc', hk, hm, hm2⟩ := withP_of2 js _ K (h (val j) (hf j (by simp) t ht)) (fun j' hj' => hf j' (by simp [hj']))
      refine ⟨acc' ++ [(t, val j)], by simpa using hk, fun t' v' hm' => ?_, fun j' hj' t' hd => ?_⟩
      · rcases List.mem_append.1 hm' with hm' | hm'
        · obtain ⟨j', hj', h3⟩ := hm t' v' hm'; exact ⟨j', by simp [hj'], h3⟩
        · simp only [List.mem_cons, Prod.mk.injEq, List.not_mem_nil, or_false] at hm'
          exact ⟨j, by simp, hm'.1 ▸ ht, hm'.2⟩
      · rcases List.mem_cons.1 hj' with rfl | hj'
        · rw [ht] at hd; cases hd; simp
        · exact List.mem_append_left _ (hm2 j' hj' t' hd)
section
variable {C : Ctx} {Q : Exit → St → Prop} {env : Env} {df : List Deferred} {H : Hp} {own : Own}
theorem stepsM_at {Gd : Hp → Prop} {cre : List Nat} {md : List (Nat × Nat)} {FO FO2 : EntP} {l : List Oper} {F : List (Value → Hp → Prop)} {m : Nat} : ∀ (rest : List Oper) (k : Nat), stepsM Gd cre md FO FO2 C l F env df H own m k rest → ∀ (i : Nat) (o : Oper), rest[i]? = some o → k + i < m →
    (match mdAt md (k + i) with
        | none => ∀ X ext H', Le H H' → Gd H' → withP l F H' (predsG o) [] fun acc => XO C l.toArray (stepQN Gd cre (k + i) o.dst (factAt F (k + i)) (FO (k + i)) (acc ++ (env ++ X)) df (own ++ ext)) [o] ⟨acc ++ (env ++ X), df, H', own ++ ext⟩
        | some j => ∀ X ext p H', Le H H' → Gd H' → withP l F H' (predsG o) [] fun acc => (∀ u t, dstOf l j = some t → Env.get acc t = some u → FO j u p H') →
            XO C l.toArray (stepQM Gd (FO2 (k + i)) (dstOf l j) acc o.dst (factAt F (k + i)) (acc ++ (env ++ X)) df (own ++ ext)) [o] ⟨acc ++ (env ++ X), df, H', p :: (own ++ ext)⟩)
  | [], k, _, i, o, hi, _ => by simp at hi
  | x :: rest, k, h, i, o, hi, hlt => by
    simp only [stepsM] at h
    rw [show Nat.blt k m = true by simp; omega] at h
    cases i with
    | zero => simp only [List.getElem?_cons_zero, Option.some.injEq] at hi; subst hi; exact h.1
    | succ i =>
      have := stepsM_at rest (k + 1) h.2 i o (by simpa using hi) (by omega)
      rwa [show k + 1 + i = k + (i + 1) by omega] at this
theorem ext_mod {cre : List Nat} {L : Array Bool} {ent : Nat → Nat × SObj} {j : Nat} (hnd : cre.Nodup) (hj : j ∈ cre) (hl : lst L j = true) :
    ∃ ext, (extOf cre L ent).Perm (ent j :: ext) ∧ ∀ p, (extOf cre L fun x => if x = j then p else ent x).Perm (p :: ext) := by
  have hm : j ∈ cre.filter (lst L) := List.mem_filter.2 ⟨hj, hl⟩
  have hp := List.perm_cons_erase hm
  have hnd2 : (cre.filter (lst L)).Nodup := List.filter_sublist.nodup hnd
  have hne : ∀ x ∈ (cre.filter (lst L)).erase j, x ≠ j := fun x hx e => by
    subst e
    exact (List.Nodup.not_mem_erase hnd2) hx
  refine ⟨((cre.filter (lst L)).erase j).map ent, (hp.map ent), fun p => ?_⟩
  refine (hp.map _).trans ?_
  simp only [List.map_cons, if_true]
  refine List.Perm.cons _ ?_
  rw [List.map_congr_left (g := ent) (fun x hx => if_neg (hne x hx))]
theorem XC.drawM (Gd : Hp → Prop) (hG : Gd H) (cre : List Nat) (hnd0 : cre.Nodup) (md : List (Nat × Nat)) (FO FO2 : EntP) (hFO : ∀ i v p H H', Le H H' → FO i v p H → FO i v p H') (hFO2 : ∀ i v p H H', Le H H' → FO2 i v p H → FO2 i v p H') {id : Nat} {l : List Oper} (m : Nat) (F : List (Value → Hp → Prop)) (hm : C.P.follows .mixedOrders = true) (hck : drawOkH m l (env.map Prod.fst) = true) (hmono' : monoL F)
    (hcm : (cre.all fun i => Nat.blt i m) = true) (hmd : mdOk m l cre md = true) (steps : stepsM Gd cre md FO FO2 C l F env df H own m 0 l)
    (tail : ∀ H', Le H H' → Gd H' → withP l F H' (List.range m) [] fun acc => withEnts l (endP md FO FO2) H' acc cre fun es => XO C l.toArray Q (l.drop m) ⟨acc ++ env, df, H', es ++ own⟩) : XC C (.region id l.toArray true) Q ⟨env, df, H, own⟩ := by
  have hmono := monoF_of hmono'
  intro a₀ w₀ hr₀
  refine wpIn_region_any hm ?_
  simp only [drawOkH, Bool.and_eq_true, List.all_eq_true, List.mem_range] at hck
  obtain ⟨⟨hml, hck1⟩, hck2⟩ := hck
  have hml := Nat.le_of_ble_eq_true hml
  have hpre : ∀ i, i < m → ∃ o, l[i]? = some o ∧ (∀ t, o.dst = some t → t ∉ env.map Prod.fst ∧ (∀ j, j < m → i ≠ j → dstOf l j ≠ some t)) ∧ (∀ e ∈ o.after, Region.binds .any e = true → e.on < i) ∧ (∀ j ∈ predsG o, j < m ∧ ∃ e ∈ o.after, Region.binds .any e = true ∧ e.on = j) := by
    intro i hi
    have h := hck1 i hi
    split at h
    · rename_i o ho
      simp only [Bool.and_eq_true, List.all_eq_true] at h
      obtain ⟨⟨⟨hnd, hd⟩, haf⟩, hp⟩ := h
      refine ⟨o, ho, ?_, ?_, ?_⟩
      · intro t ht
        rw [ht] at hd
        simp only [Bool.and_eq_true, List.all_eq_true, List.mem_range, Bool.not_eq_true', List.contains_eq_mem, decide_eq_false_iff_not] at hd
        refine ⟨hd.1, fun j hj hne he => ?_⟩
        have := hd.2 j hj
        rw [he] at this
        simp at this
        exact hne this
      · intro e he hb
        have := haf e (by simpa using he)
        simpa [hb] using this
      · intro j hj
        have := hp j hj
        simp only [List.any_eq_true, Bool.and_eq_true] at this
        obtain ⟨h1, e, he, hb, hon⟩ := this
        exact ⟨by simpa using h1, e, by simpa using he, hb, Nat.eq_of_beq_eq_true hon⟩
    · cases h
  have hkey : ∀ i t, i < m → dstOf l i = some t → t ∉ env.map Prod.fst := by
    intro i t hi ht
    obtain ⟨o, ho, hd, _⟩ := hpre i hi
    exact (hd t (by simpa [dstOf, ho] using ht)).1
  have hdis : ∀ i j t, i < m → j < m → dstOf l i = some t → dstOf l j = some t → i = j := by
    intro i j t hi hj ht ht2
    obtain ⟨o, ho, hd, _⟩ := hpre i hi
    by_cases h : i = j
    · exact h
    · exact absurd ht2 ((hd t (by simpa [dstOf, ho] using ht)).2 j hj h)
  have hmds : ∀ q ∈ md, q.1 < m ∧ q.2 ∈ cre ∧ q.1 ∉ cre ∧ (∀ q2 ∈ md, q.1 = q2.1 ↔ q.2 = q2.2) ∧ (∃ o, l[q.1]? = some o ∧ q.2 ∈ predsG o) ∧ ∃ t, dstOf l q.2 = some t := by
    intro q hq
    have h := List.all_eq_true.1 hmd q hq
    simp only [Bool.and_eq_true, List.all_eq_true] at h
    obtain ⟨⟨⟨⟨⟨h1, h2⟩, h3⟩, h4⟩, h5⟩, h6⟩ := h
    refine ⟨by simpa using h1, by simpa using h2, by simpa using h3, fun q2 hq2 => ?_, ?_, Option.isSome_iff_exists.1 h6⟩
    · have := h4 q2 hq2
      rw [beq_iff_eq, Bool.eq_iff_iff] at this
      simpa using this
    · split at h5
      · rename_i o ho; exact ⟨o, ho, by simpa using h5⟩
      · cases h5
  have htl : ∀ (i : Nat) (o : Oper), m ≤ i → l[i]? = some o → (∀ j, j < i → waitsB l l.length o j = true) ∧ (∀ e ∈ o.after, Region.binds .any e = true → e.on < i) := by
    intro i o hi ho
    have hlt := (List.getElem?_eq_some_iff.1 ho).1
    have h := hck2 i hlt
    rw [ho] at h
    rw [show Nat.blt i m = false from blt_ge hi] at h
    simp only [Bool.false_or, Bool.and_eq_true, List.all_eq_true, List.mem_range] at h
    refine ⟨fun j hj => h.1 j hj, fun e he hb => ?_⟩
    · have := h.2 e (by simpa using he)
      simpa [hb] using this
  have hdc : ∀ (i : Nat) (o : Oper), l[i]? = some o → ∀ e ∈ o.after, Region.binds .any e = true → e.on < i := by
    intro i o ho
    rcases Nat.lt_or_ge i m with h | h
    · obtain ⟨o2, ho2, _, haf, _⟩ := hpre i h
      rw [ho] at ho2; cases ho2; exact haf
    · exact (htl i o h ho).2
  have main : ∀ (fuel : Nat) (L : Array Bool) (a : Act) (w : World) (val : Nat → Value) (ent : Nat → Nat × SObj) (H' : Hp), L.size = l.length → unl l.length L ≤ fuel → Le H H' → Gd H' → (∀ (i : Nat) (o : Oper), l[i]? = some o → lst L i = true → ∀ e ∈ o.after, Region.binds .any e = true → lst L e.on = true) → (∀ j, m ≤ j → lst L j = false) →
      a.tmps.size = C.N → (∀ t v, env.get t = some v → a.tmps.getD t undef = v) → (∃ ms : List Nat, a.defers = ms.map mark ++ df ∧ Ok C.G H' ((own ++ extOf cre L ent) ++ (ms.map hid ++ C.hid)) w) → (∀ i ∈ cre, lst L i = true → entP md FO FO2 (lst L) i (val i) (ent i) H') →
      (∀ i, i < m → lst L i = true → ∀ t, dstOf l i = some t → a.tmps.getD t undef = val i ∧ factAt F i (val i) H') →
      wpAnyIn (Fr C.r) 0 C.P .any l.toArray (lift C H Q) fuel L a w := by
    intro fuel
    have done : ∀ (fuel : Nat) (L : Array Bool) (a : Act) (w : World) (val : Nat → Value) (ent : Nat → Nat × SObj) (H' : Hp), L.size = l.length → unl l.length L ≤ fuel → Le H H' → Gd H' → (∀ j, m ≤ j → lst L j = false) →
        a.tmps.size = C.N → (∀ t v, env.get t = some v → a.tmps.getD t undef = v) → (∃ ms : List Nat, a.defers = ms.map mark ++ df ∧ Ok C.G H' ((own ++ extOf cre L ent) ++ (ms.map hid ++ C.hid)) w) → (∀ i ∈ cre, lst L i = true → entP md FO FO2 (lst L) i (val i) (ent i) H') →
        (∀ i, i < m → lst L i = true → ∀ t, dstOf l i = some t → a.tmps.getD t undef = val i ∧ factAt F i (val i) H') → (∀ j, j < m → lst L j = true) →
        wpAnyIn (Fr C.r) 0 C.P .any l.toArray (lift C H Q) fuel L a w := by
      intro fuel L a w val ent H' hs hu hle hGd hT hsz henv hok hents hfacts hall
      obtain ⟨acc', hk, hmem⟩ := withP_of (val := val) (List.range m) [] _ (tail H' hle hGd) (fun j hj t ht => (hfacts j (List.mem_range.1 hj) (hall j (List.mem_range.1 hj)) t ht).2)
      have hcount : l.length - m ≤ fuel := by rw [count_tail hml hall hT]; exact hu
      refine drawTail (m := m) htl hdc fuel m L a w (Nat.le_refl _) hs hcount hml ?_ ?_
      · intro j
        rcases Nat.lt_or_ge j m with h | h
        · rw [hall j h]; simp [h]
        · rw [hT j h]; simp; omega
      · have hcall : ∀ i ∈ cre, i < m := fun i hi => by simpa using List.all_eq_true.1 hcm i hi
        have hk2 := withEnts_of (ent := ent) cre _ hk (fun i hi v hg => by
          obtain ⟨t, hd, hg⟩ := hg
          have him := hcall i hi
          obtain ⟨j, hj, hdj, rfl⟩ := hmem t v (env_get_mem (by simpa using hg))
          obtain rfl := hdis i j t him (List.mem_range.1 hj) hd hdj
          refine entP_congr ?_ (hents i hi (hall i him))
          intro q hq _
          exact hall _ (hmds q hq).1)
        have hext : extOf cre L ent = cre.map ent := by
          rw [extOf, List.filter_eq_self.2 (fun i hi => hall i (hcall i hi))]
        have hok2 : ∃ ms : List Nat, a.defers = ms.map mark ++ df ∧ Ok C.G H' ((cre.map ent ++ own) ++ (ms.map hid ++ C.hid)) w := by
          obtain ⟨ms, h1, h2⟩ := hok
          rw [hext] at h2
          exact ⟨ms, h1, h2.perm (List.perm_append_comm.append_right _)⟩
        refine wpList_mono hle _ _ _ (hk2 a w ⟨hsz, ?_, hok2⟩)
        intro t v hg
        simp only [List.append_nil] at hg
        rw [Env.get_append] at hg
        cases hga : Env.get acc' t with
        | none => rw [hga] at hg; exact henv t v (by simpa using hg)
        | some u =>
          rw [hga] at hg; simp at hg; subst hg
          obtain ⟨j, hj, hd, rfl⟩ := hmem t u (get_mem _ _ _ hga)
          have hj := List.mem_range.1 hj
          exact (hfacts j hj (hall j hj) t hd).1
    induction fuel with
    | zero =>
      intro L a w val ent H' hs hu hle hGd hdown hT hsz henv hok hents hfacts
      refine done 0 L a w val ent H' hs hu hle hGd hT hsz henv hok hents hfacts ?_
      intro j hj
      cases hx : lst L j with
      | true => rfl
      | false =>
        have := unl_set (L := L) (i := j) hs (by omega) hx
        omega
    | succ fuel ih =>
      intro L a w val ent H' hs hu hle hGd hdown hT hsz henv hok hents hfacts
      by_cases hall : ∀ j, j < m → lst L j = true
      · exact done (fuel + 1) L a w val ent H' hs hu hle hGd hT hsz henv hok hents hfacts hall
      · constructor
        · intro hnil
          exfalso
          apply hall
          -- the least one that is not listed is ready
          intro j hj
          induction j using Nat.strongRecOn with
          | _ j ihj =>
            cases hx : lst L j with
            | true => rfl
            | false =>
              exfalso
              obtain ⟨o, ho, _, haf, _⟩ := hpre j hj
              have : j ∈ Region.ready .any l.toArray L := by
                rw [mem_ready]
                refine ⟨?_, o, by simpa using ho, fun e he hb => ihj e.on (haf e he hb) (by have := haf e he hb; omega)⟩
                unfold lst at hx
                rw [Array.getD_eq_getD_getElem?, Array.getElem?_eq_getElem (by omega)] at hx ⊢
                simpa using hx
              rw [hnil] at this; cases this
        · intro i hi
          rw [mem_ready] at hi
          obtain ⟨h0, o, ho, hbef⟩ := hi
          have hilt : i < l.length := by simpa using (Array.getElem?_eq_some_iff.1 ho).1
          have hun : lst L i = false := by
            unfold lst
            rw [Array.getD_eq_getD_getElem?, Array.getElem?_eq_getElem (by omega)] at h0 ⊢
            simpa using h0
          have ho' : l[i]? = some o := by simpa using ho
          have him : i < m := by
            rcases Nat.lt_or_ge i m with h | h
            · exact h
            · exfalso
              apply hall
              intro j hj
              exact waits_listed hdown _ o j hbef ((htl i o h ho').1 j (by omega))
          obtain ⟨o2, ho2, hd, haf, hprd⟩ := hpre i him
          rw [ho'] at ho2; cases ho2
          have hdo : dstOf l i = o.dst := by simp [dstOf, ho']
          have hst := stepsM_at l 0 steps i o ho' (by omega)
          simp only [Nat.zero_add] at hst
          -- all that is known of the slots, as one list
          let X : Env := (List.range m).filterMap fun j => if lst L j then (dstOf l j).map fun t => (t, val j) else none
          have hpredF : ∀ j ∈ predsG o, ∀ tj, dstOf l j = some tj → factAt F j (val j) H' := fun j hj tj hdj => by
            obtain ⟨hjm, e, he, hb, hon⟩ := hprd j hj
            have hlj : lst L j = true := by have := hbef e he hb; rw [hon] at this; exact this
            exact (hfacts j hjm hlj tj hdj).2
          have hX : ∀ t v, (t, v) ∈ X → ∃ j, j < m ∧ lst L j = true ∧ dstOf l j = some t ∧ v = val j := by
            intro t v h
            obtain ⟨j, hj, hjj⟩ := List.mem_filterMap.1 h
            split at hjj
            · rename_i hlj
              cases hdj : dstOf l j with
              | none => rw [hdj] at hjj; cases hjj
              | some tj =>
                rw [hdj] at hjj
                simp only [Option.map_some, Option.some.injEq, Prod.mk.injEq] at hjj
                obtain ⟨rfl, rfl⟩ := hjj
                exact ⟨j, List.mem_range.1 hj, hlj, hdj, rfl⟩
            · cases hjj
          have hgets : ∀ acc' : Env, (∀ t v, (t, v) ∈ acc' → ∃ j ∈ predsG o, dstOf l j = some t ∧ v = val j) → ∀ t v, Env.get (acc' ++ (env ++ X)) t = some v → a.tmps.getD t undef = v := by
            intro acc' hmem t v hgv
            rw [Env.get_append, Env.get_append] at hgv
            cases hga : Env.get acc' t with
            | some u =>
              rw [hga] at hgv; simp at hgv; subst hgv
              obtain ⟨j, hj, hdj, rfl⟩ := hmem t u (get_mem _ _ _ hga)
              obtain ⟨hjm, e, he, hb, hon⟩ := hprd j hj
              have hlj : lst L j = true := by have := hbef e he hb; rw [hon] at this; exact this
              exact (hfacts j hjm hlj t hdj).1
            | none =>
              rw [hga] at hgv; simp only [Option.none_or] at hgv
              cases hge : Env.get env t with
              | some u => rw [hge] at hgv; simp at hgv; subst hgv; exact henv t u hge
              | none =>
                rw [hge] at hgv; simp only [Option.none_or] at hgv
                obtain ⟨j, hj, hlj, hdj, rfl⟩ := hX t v (get_mem _ _ _ hgv)
                exact (hfacts j hj hlj t hdj).1
          have hnextG : ∀ (acc' : Env), (∀ t v, (t, v) ∈ acc' → ∃ j ∈ predsG o, dstOf l j = some t ∧ v = val j) → ∀ (a' : Act) (w' : World) (σ' : St) (v : Value) (ent' : Nat → Nat × SObj), Rel C σ' a' w' → Le H' σ'.H → Gd σ'.H → σ'.df = df → σ'.env = putE o.dst v (acc' ++ (env ++ X)) → factAt F i v σ'.H →
              (∀ ms : List Nat, Ok C.G σ'.H (σ'.own ++ (ms.map hid ++ C.hid)) w' → Ok C.G σ'.H ((own ++ extOf cre (L.setIfInBounds i true) ent') ++ (ms.map hid ++ C.hid)) w') →
              (∀ j ∈ cre, lst (L.setIfInBounds i true) j = true → entP md FO FO2 (lst (L.setIfInBounds i true)) j (if j = i then v else val j) (ent' j) σ'.H) →
              wpAnyIn (Fr C.r) 0 C.P .any l.toArray (lift C H Q) fuel (L.setIfInBounds i true) a' w' := by
            intro acc' hmem a' w' σ' v ent' hr' hle' hGd' hdf' henv' hfv hown' hent'
            refine ih (L.setIfInBounds i true) a' w' (fun j => if j = i then v else val j) ent' σ'.H (by simpa using hs) ?_ (hle.trans hle') hGd' ?_ ?_ hr'.size ?_ ?_ hent' ?_
            · have := unl_set hs hilt hun; omega
            · intro i' o' hi' hl' e he hb
              rw [lst_set (by omega)] at hl' ⊢
              split
              · rfl
              · split at hl'
                · rename_i e1 e2; subst e2; rw [ho'] at hi'; cases hi'; exact hbef e he hb
                · exact hdown i' o' hi' hl' e he hb
            · intro j hj
              rw [lst_set (by omega), if_neg (by omega)]
              exact hT j hj
            · intro t' v' hg'
              refine hr'.get t' v' ?_
              have hin : t' ∈ env.map Prod.fst := List.mem_map.2 ⟨(t', v'), get_mem _ _ _ hg', rfl⟩
              rw [henv', get_putE_ne (fun e => (hd t' e).1 hin), Env.get_append, Env.get_append]
              have : Env.get acc' t' = none := by
                cases hga : Env.get acc' t' with
                | none => rfl
                | some u =>
                  obtain ⟨j, hj, hdj, _⟩ := hmem t' u (get_mem _ _ _ hga)
                  exact absurd hin (hkey j t' (hprd j hj).1 hdj)
              rw [this, hg']; rfl
            · obtain ⟨ms, hd', hok'⟩ := hr'.ok
              exact ⟨ms, by rw [hd', hdf'], hown' ms hok'⟩
            · intro j hj hlj tj htj
              rw [lst_set (by omega)] at hlj
              by_cases hji : j = i
              · subst hji
                rw [hdo] at htj
                simp only [if_true]
                refine ⟨hr'.get tj v ?_, hfv⟩
                rw [henv', htj]; simp [putE, Env.get]
              · rw [if_neg hji] at hlj
                obtain ⟨h1, h2⟩ := hfacts j hj hlj tj htj
                simp only [if_neg hji]
                refine ⟨hr'.get tj (val j) ?_, factAt_mono hmono hle' h2⟩
                rw [henv', get_putE_ne (fun e => hji (hdis j i tj hj him htj (by rw [hdo, e]))), Env.get_append, Env.get_append]
                have hacc : Env.get acc' tj = none ∨ Env.get acc' tj = some (val j) := by
                  cases hga : Env.get acc' tj with
                  | none => exact .inl rfl
                  | some u =>
                    obtain ⟨j', hj', hdj', rfl⟩ := hmem tj u (get_mem _ _ _ hga)
                    obtain rfl := hdis j' j tj (hprd j' hj').1 hj hdj' htj
                    exact .inr rfl
                rcases hacc with hacc | hacc
                · rw [hacc]
                  have henvn : Env.get env tj = none := by
                    cases hge : Env.get env tj with
                    | none => rfl
                    | some u => exact absurd (List.mem_map.2 ⟨(tj, u), get_mem _ _ _ hge, rfl⟩) (hkey j tj hj htj)
                  rw [henvn]
                  simp only [Option.none_or]
                  -- it stands in X, once
                  refine get_uniq X (List.mem_filterMap.2 ⟨j, List.mem_range.2 hj, by simp only [hlj, if_true, htj, Option.map_some]⟩) ?_
                  intro u hu'
                  obtain ⟨j', hj', _, hdj', rfl⟩ := hX tj u hu'
                  obtain rfl := hdis j' j tj hj' hj hdj' htj
                  rfl
                · rw [hacc]; rfl
          have hcase : ∀ (acc' : Env) (own2 : Own) (Q2 : Exit → St → Prop), (∀ e σ, e ≠ .normal → ¬ Q2 e σ) → XO C l.toArray Q2 [o] ⟨acc' ++ (env ++ X), df, H', own2⟩ → Rel C ⟨acc' ++ (env ++ X), df, H', own2⟩ a w →
              (∀ a' w', lift C H' Q2 .normal a' w' → wpAnyIn (Fr C.r) 0 C.P .any l.toArray (lift C H Q) fuel (L.setIfInBounds i true) a' w') → wpOpIn (Fr C.r) 0 C.P l.toArray (lift C H Q) i (fun a' w' => wpAnyIn (Fr C.r) 0 C.P .any l.toArray (lift C H Q) fuel (L.setIfInBounds i true) a' w') a w := by
            intro acc' own2 Q2 hno hk hrel hnext
            have hrun := hk a w hrel
            unfold wpOpIn
            rw [ho]
            simp only [wpListIn] at hrun ⊢
            split
            · rename_i hw
              rw [if_pos hw] at hrun
              refine wpInOper_mono hnext ?_ hrun
              rintro e a' w' he ⟨σ', _, _, hq⟩
              exact absurd hq (hno e σ' he)
            · rename_i hw
              rw [if_neg hw] at hrun
              exact ⟨hrun.1, hnext _ _ hrun.2⟩
          cases hmk : mdAt md i with
          | none =>
            rw [hmk] at hst
            obtain ⟨acc', hk, hmem⟩ := withP_of (val := val) (predsG o) [] _ (hst X (extOf cre L ent) H' hle hGd) hpredF
            simp only [List.append_nil] at hk
            have hnm : ∀ q ∈ md, q.1 ≠ i := fun q hq e => by
              have h1 : (md.find? fun q => Nat.beq q.1 i) = none := by
                unfold mdAt at hmk; simpa using hmk
              have := List.find?_eq_none.1 h1 q hq
              simp [e] at this
            refine hcase acc' _ _ (fun e σ he => by cases e <;> first | exact absurd rfl he | exact fun h => h) hk ⟨hsz, hgets acc' hmem, hok⟩ ?_
            rintro a' w' ⟨σ', hr', hle', hGd', hdf', v, pe, henv', hfv, hown'⟩
            refine hnextG acc' hmem a' w' σ' v (fun j => if j = i then pe else ent j) hr' hle' hGd' hdf' henv' hfv ?_ ?_
            · intro ms hok'
              cases hc : cre.contains i with
              | true =>
                rw [hc] at hown'
                rw [hown'.1] at hok'
                refine hok'.perm (List.Perm.append_right _ ?_)
                exact ((ext_new hnd0 (List.contains_iff_mem.1 hc) hun (fun j => lst_set (by omega) j)).append_left own).trans List.perm_middle
              | false =>
                rw [hc] at hown'
                rw [show σ'.own = own ++ extOf cre L ent from hown'] at hok'
                rw [ext_old (fun h => by rw [List.contains_iff_mem.2 h] at hc; cases hc) (fun j => lst_set (by omega) j)]
                exact hok'
            · intro j hj hlj
              have hcg : ∀ q ∈ md, q.2 = j → lst L q.1 = lst (L.setIfInBounds i true) q.1 := fun q hq _ => by rw [lst_set (by omega), if_neg (hnm q hq)]
              by_cases hji : j = i
              · subst hji
                rw [List.contains_iff_mem.2 hj] at hown'
                simp only [if_true]
                have hF : FO j v pe σ'.H := by simpa using hown'.2
                unfold entP
                split
                · rename_i q hq
                  have hqm := List.mem_of_find?_eq_some hq
                  have hq2 : q.2 = j := by have := List.find?_some hq; simpa using this
                  -- the writer waits for the maker, which was not listed
                  have hlq : lst L q.1 = false := by
                    cases hlq : lst L q.1 with
                    | false => rfl
                    | true =>
                      obtain ⟨_, _, _, _, ⟨oq, hoq, hpq⟩, _⟩ := hmds q hqm
                      rw [hq2] at hpq
                      obtain ⟨oq2, hoq2, _, _, hprq⟩ := hpre q.1 (hmds q hqm).1
                      rw [hoq] at hoq2; cases hoq2
                      obtain ⟨_, e, he, hb, hon⟩ := hprq j hpq
                      have := hdown q.1 oq hoq hlq e he hb
                      rw [hon, hun] at this; cases this
                  rw [← hcg q hqm hq2, hlq]
                  simpa using hF
                · exact hF
              · rw [lst_set (by omega), if_neg hji] at hlj
                simp only [if_neg hji]
                exact entP_congr hcg (entP_mono hFO hFO2 hle' (hents j hj hlj))
          | some jm =>
            rw [hmk] at hst
            obtain ⟨q0, hq0, hq01, hq02⟩ : ∃ q0 ∈ md, q0.1 = i ∧ q0.2 = jm := by
              unfold mdAt at hmk
              rw [Option.map_eq_some_iff] at hmk
              obtain ⟨q, hq, rfl⟩ := hmk
              exact ⟨q, List.mem_of_find?_eq_some hq, by have := List.find?_some hq; simpa using this, rfl⟩
            obtain ⟨_, hjc, hicre, huq, ⟨oq, hoq, hpq⟩, tj, htj⟩ := hmds q0 hq0
            rw [hq01, ho'] at hoq; cases hoq
            rw [hq02] at hjc hpq htj
            rw [hq01] at hicre
            have hljm : lst L jm = true := by
              obtain ⟨_, e, he, hb, hon⟩ := hprd jm hpq
              have := hbef e he hb; rw [hon] at this; exact this
            have hjmi : jm ≠ i := fun e => hicre (e ▸ hjc)
            obtain ⟨ext, hperm, hperm2⟩ := ext_mod (ent := ent) hnd0 hjc hljm
            obtain ⟨acc', hk, hmem, hmem2⟩ := withP_of2 (val := val) (predsG o) [] _ (hst X ext (ent jm) H' hle hGd) hpredF
            simp only [List.append_nil] at hk
            have hjmm : jm < m := (hprd jm hpq).1
            have hget : ∀ u t, dstOf l jm = some t → Env.get acc' t = some u → u = val jm := fun u t ht hg => by
              obtain ⟨j2, hj2, hd2, rfl⟩ := hmem t u (get_mem _ _ _ hg)
              rw [hdis j2 jm t (hprd j2 hj2).1 hjmm hd2 ht]
            have hFOj : FO jm (val jm) (ent jm) H' := by
              have h1 := hents jm hjc hljm
              unfold entP at h1
              split at h1
              · rename_i q hq
                have hqm := List.mem_of_find?_eq_some hq
                have hq2 : q.2 = jm := by have := List.find?_some hq; simpa using this
                have hq1 : q.1 = i := by rw [← hq01]; exact (((hmds q hqm).2.2.2.1 q0 hq0).2 (by rw [hq2, hq02]))
                rw [hq1, hun] at h1
                simpa using h1
              · exact h1
            have hpo : (own ++ extOf cre L ent).Perm (ent jm :: (own ++ ext)) := (hperm.append_left own).trans List.perm_middle
            refine hcase acc' _ _ (fun e σ he => by cases e <;> first | exact absurd rfl he | exact fun h => h) (hk (fun u t ht hg => by rw [hget u t ht hg]; exact hFOj)) ⟨hsz, hgets acc' hmem, ?_⟩ ?_
            · obtain ⟨ms, h1, h2⟩ := hok
              exact ⟨ms, h1, h2.perm (hpo.symm.append_right _)⟩
            rintro a' w' ⟨σ', hr', hle', hGd', hdf', v, p', henv', hfv, hown', hfo⟩
            refine hnextG acc' hmem a' w' σ' v (fun x => if x = jm then p' else ent x) hr' hle' hGd' hdf' henv' hfv ?_ ?_
            · intro ms hok'
              rw [hown'] at hok'
              refine hok'.perm (List.Perm.append_right _ ?_)
              have hold : extOf cre (L.setIfInBounds i true) (fun x => if x = jm then p' else ent x) = extOf cre L (fun x => if x = jm then p' else ent x) := by
                unfold extOf
                congr 1
                refine List.filter_congr fun x hx => ?_
                rw [lst_set (by omega), if_neg (fun e => hicre (by rw [← e]; exact hx))]
              rw [hold]
              exact ((hperm2 p').append_left own).trans List.perm_middle
            · intro j hj hlj
              have hji : j ≠ i := fun e => hicre (e ▸ hj)
              rw [lst_set (by omega), if_neg hji] at hlj
              simp only [if_neg hji]
              by_cases hjj : j = jm
              · subst hjj
                simp only [if_true]
                have hF2 : FO2 i (val j) p' σ'.H := by
                  refine hfo (val j) tj htj ?_
                  exact get_uniq acc' (hmem2 j hpq tj htj) (fun u hu' => by obtain ⟨j2, hj2, hd2, rfl⟩ := hmem tj u hu'; rw [hdis j2 j tj (hprd j2 hj2).1 hjmm hd2 htj])
                unfold entP
                split
                · rename_i q hq
                  have hqm := List.mem_of_find?_eq_some hq
                  have hq2 : q.2 = j := by have := List.find?_some hq; simpa using this
                  have hq1 : q.1 = i := by rw [← hq01]; exact (((hmds q hqm).2.2.2.1 q0 hq0).2 (by rw [hq2, hq02]))
                  rw [hq1, lst_set (by omega), if_pos rfl, if_pos rfl]
                  exact hF2
                · rename_i hq
                  have := List.find?_eq_none.1 hq q0 hq0
                  simp [hq02] at this
              · simp only [if_neg hjj]
                refine entP_congr ?_ (entP_mono hFO hFO2 hle' (hents j hj hlj))
                intro q hq hq2
                rw [lst_set (by omega), if_neg ?_]
                intro e
                refine hjj ?_
                rw [← hq2, ← hq02]
                exact ((hmds q hq).2.2.2.1 q0 hq0).1 (by rw [e, hq01])
  have hlst0 : ∀ j, lst (Array.replicate l.toArray.size false) j = false := fun j => by simp [lst, Array.getD_eq_getD_getElem?, Array.getElem?_replicate]; split <;> rfl
  exact main l.toArray.size (Array.replicate l.toArray.size false) a₀ _ (fun _ => undef) (fun _ => (0, .nothing)) H (by simp) (by
      refine Nat.le_trans (List.countP_le_length) (by simp)) (Le.refl _) hG (fun i o _ hl => by
      have : lst (Array.replicate l.toArray.size false) i = false := by simp [lst, Array.getD_eq_getD_getElem?, Array.getElem?_replicate]; split <;> rfl
      rw [this] at hl; cases hl) (fun j _ => by simp [lst, Array.getD_eq_getD_getElem?, Array.getElem?_replicate]; split <;> rfl) hr₀.size hr₀.get
    (let ⟨ms, hd, hok⟩ := hr₀.ok; ⟨ms, hd, by rw [ext_none hlst0, List.append_nil]; exact hok.drew⟩) (fun i _ h => by rw [hlst0] at h; cases h) (fun i _ h => by
      have : lst (Array.replicate l.toArray.size false) i = false := by simp [lst, Array.getD_eq_getD_getElem?, Array.getElem?_replicate]; split <;> rfl
      rw [this] at h; cases h)
end
end Go.XL
