/- Regions that draw their order, in which blocks are made and then written. No statement of the program stands here. -/
import Derived.Test.YtngedgknbebgpaaB2
import Derived.RecoverIn
import Derived.Lib.SliceRun
set_option autoImplicit false
set_option linter.unusedSimpArgs false
set_option linter.unusedVariables false
namespace Go.XL
/-- md: the operation q.1 writes the block that the maker q.2 has made -/
def mdAt (md : List (Nat × Nat)) (k : Nat) : Option Nat := (md.find? fun q => Nat.beq q.1 k).map (·.2)
abbrev EntP := Nat → Value → Nat × SObj → Hp → Prop
def entP (md : List (Nat × Nat)) (FO FO2 : EntP) (L : Nat → Bool) (j : Nat) (v : Value) (p : Nat × SObj) (H : Hp) : Prop :=
  match md.find? fun q => Nat.beq q.2 j with
  | some q => if L q.1 = true then FO2 q.1 v p H else FO j v p H
  | none => FO j v p H
def endP (md : List (Nat × Nat)) (FO FO2 : EntP) : EntP := fun j v p H => entP md FO FO2 (fun _ => true) j v p H
theorem entP_mono {md : List (Nat × Nat)} {FO FO2 : EntP} (h1 : ∀ i v p H H', Le H H' → FO i v p H → FO i v p H') (h2 : ∀ i v p H H', Le H H' → FO2 i v p H → FO2 i v p H') {L : Nat → Bool} {j : Nat} {v : Value} {p : Nat × SObj} {H H' : Hp} (hle : Le H H')
    (h : entP md FO FO2 L j v p H) : entP md FO FO2 L j v p H' := by
  unfold entP at *
  split
  · rename_i q hq
    rw [hq] at h
    simp only at h
    split
    · rename_i hl; rw [if_pos hl] at h; exact h2 _ _ _ _ _ hle h
    · rename_i hl; rw [if_neg hl] at h; exact h1 _ _ _ _ _ hle h
  · rename_i hq
    rw [hq] at h
    exact h1 _ _ _ _ _ hle h
theorem entP_congr {md : List (Nat × Nat)} {FO FO2 : EntP} {L L' : Nat → Bool} {j : Nat} {v : Value} {p : Nat × SObj} {H : Hp} (h : ∀ q ∈ md, q.2 = j → L q.1 = L' q.1) (k : entP md FO FO2 L j v p H) : entP md FO FO2 L' j v p H := by
  unfold entP at *
  split
  · rename_i q hq
    rw [hq] at k
    simp only at k
    have h3 := h q (List.mem_of_find?_eq_some hq) (by have := List.find?_some hq; simpa using this)
    rw [h3] at k
    exact k
  · rename_i hq
    rw [hq] at k
    exact k
def stepQM (Gd : Hp → Prop) (fo : Value → Nat × SObj → Hp → Prop) (tj : Option Nat) (acc : Env) (dst : Option Tmp) (f : Value → Hp → Prop) (env : Env) (df : List Deferred) (own : Own) : Exit → St → Prop
  | .normal, σ => Gd σ.H ∧ σ.df = df ∧ ∃ v p', σ.env = putE dst v env ∧ f v σ.H ∧ σ.own = p' :: own ∧ ∀ u t, tj = some t → Env.get acc t = some u → fo u p' σ.H
  | _, _ => False
theorem stepQM_ok {Gd : Hp → Prop} {fo : Value → Nat × SObj → Hp → Prop} {tj : Option Nat} {acc : Env} {dst : Option Tmp} {f : Value → Hp → Prop} {env : Env} {df : List Deferred} {own : Own} {H : Hp} {v : Value} {p' : Nat × SObj} (hG : Gd H) (hf : f v H)
    (h : ∀ u t, tj = some t → Env.get acc t = some u → fo u p' H) : stepQM Gd fo tj acc dst f env df own .normal ⟨putE dst v env, df, H, p' :: own⟩ := ⟨hG, rfl, v, p', rfl, hf, rfl, h⟩
def stepsM (Gd : Hp → Prop) (cre : List Nat) (md : List (Nat × Nat)) (FO FO2 : EntP) (C : Ctx) (l : List Oper) (F : List (Value → Hp → Prop)) (env : Env) (df : List Deferred) (H : Hp) (own : Own) (m : Nat) : Nat → List Oper → Prop
  | _, [] => True
  | k, o :: rest => bif Nat.blt k m then
      (match mdAt md k with
        | none => ∀ X ext H', Le H H' → Gd H' → withP l F H' (predsG o) [] fun acc => XO C l.toArray (stepQN Gd cre k o.dst (factAt F k) (FO k) (acc ++ (env ++ X)) df (own ++ ext)) [o] ⟨acc ++ (env ++ X), df, H', own ++ ext⟩
        | some j => ∀ X ext p H', Le H H' → Gd H' → withP l F H' (predsG o) [] fun acc => (∀ u t, dstOf l j = some t → Env.get acc t = some u → FO j u p H') →
            XO C l.toArray (stepQM Gd (FO2 k) (dstOf l j) acc o.dst (factAt F k) (acc ++ (env ++ X)) df (own ++ ext)) [o] ⟨acc ++ (env ++ X), df, H', p :: (own ++ ext)⟩) ∧ stepsM Gd cre md FO FO2 C l F env df H own m (k + 1) rest
    else True
theorem stepsM_cons {Gd : Hp → Prop} {cre : List Nat} {md : List (Nat × Nat)} {FO FO2 : EntP} {C : Ctx} {l : List Oper} {F : List (Value → Hp → Prop)} {env : Env} {df : List Deferred} {H : Hp} {own : Own} {m k : Nat} {o : Oper} {rest : List Oper} (hk : Nat.blt k m = true) (hmd : mdAt md k = none)
    (h : ∀ X ext H', Le H H' → Gd H' → withP l F H' (predsG o) [] fun acc => XO C l.toArray (stepQN Gd cre k o.dst (factAt F k) (FO k) (acc ++ (env ++ X)) df (own ++ ext)) [o] ⟨acc ++ (env ++ X), df, H', own ++ ext⟩) (k2 : stepsM Gd cre md FO FO2 C l F env df H own m (k + 1) rest) : stepsM Gd cre md FO FO2 C l F env df H own m k (o :: rest) := by
  rw [stepsM, hk, hmd]; exact ⟨h, k2⟩
theorem stepsM_mod {Gd : Hp → Prop} {cre : List Nat} {md : List (Nat × Nat)} {FO FO2 : EntP} {C : Ctx} {l : List Oper} {F : List (Value → Hp → Prop)} {env : Env} {df : List Deferred} {H : Hp} {own : Own} {m k j : Nat} {o : Oper} {rest : List Oper} (hk : Nat.blt k m = true) (hmd : mdAt md k = some j)
    (h : ∀ X ext p H', Le H H' → Gd H' → withP l F H' (predsG o) [] fun acc => (∀ u t, dstOf l j = some t → Env.get acc t = some u → FO j u p H') →
            XO C l.toArray (stepQM Gd (FO2 k) (dstOf l j) acc o.dst (factAt F k) (acc ++ (env ++ X)) df (own ++ ext)) [o] ⟨acc ++ (env ++ X), df, H', p :: (own ++ ext)⟩) (k2 : stepsM Gd cre md FO FO2 C l F env df H own m (k + 1) rest) : stepsM Gd cre md FO FO2 C l F env df H own m k (o :: rest) := by
  rw [stepsM, hk, hmd]; exact ⟨h, k2⟩
theorem stepsM_end {Gd : Hp → Prop} {cre : List Nat} {md : List (Nat × Nat)} {FO FO2 : EntP} {C : Ctx} {l : List Oper} {F : List (Value → Hp → Prop)} {env : Env} {df : List Deferred} {H : Hp} {own : Own} {m k : Nat} {rest : List Oper} (hk : Nat.blt k m = false) : stepsM Gd cre md FO FO2 C l F env df H own m k rest := by
  cases rest with
  | nil => trivial
  | cons o r => rw [stepsM, hk]; trivial
def mdOk (m : Nat) (l : List Oper) (cre : List Nat) (md : List (Nat × Nat)) : Bool :=
  md.all fun q => Nat.blt q.1 m && cre.contains q.2 && !cre.contains q.1 && (md.all fun q2 => Nat.beq q.1 q2.1 == Nat.beq q.2 q2.2) && (match l[q.1]? with | some o => (predsG o).contains q.2 | none => false) && (dstOf l q.2).isSome
theorem withP_of2 {l : List Oper} {F : List (Value → Hp → Prop)} {H' : Hp} {val : Nat → Value} : ∀ (js : List Nat) (acc : Env) (K : Env → Prop), withP l F H' js acc K → (∀ j ∈ js, ∀ t, dstOf l j = some t → factAt F j (val j) H') →
    ∃ acc', K (acc' ++ acc) ∧ (∀ t v, (t, v) ∈ acc' → ∃ j ∈ js, dstOf l j = some t ∧ v = val j) ∧ ∀ j ∈ js, ∀ t, dstOf l j = some t → (t, val j) ∈ acc'
  | [], acc, K, h, _ => ⟨[], h, fun _ _ h => (by cases h), fun _ h => (by cases h)⟩
  | j :: js, acc, K, h, hf => by
    cases ht : dstOf l j with
    | none =>
      simp only [withP, ht] at h
      obtain ⟨acc', hk, hm, hm2⟩ := withP_of2 js _ K h (fun j' hj' => hf j' (by simp [hj']))
      refine ⟨acc', hk, fun t v hv => let ⟨j', hj', h3⟩ := hm t v hv; ⟨j', by simp [hj'], h3⟩, fun j' hj' t hd => ?_⟩
      rcases List.mem_cons.1 hj' with rfl | hj'
      · rw [ht] at hd; cases hd
      · exact hm2 j' hj' t hd
    | some t =>
      simp only [withP, ht] at h
      obtain ⟨acc', hk, hm, hm2⟩ := withP_of2 js _ K (h (val j) (hf j (by simp) t ht)) (fun j' hj' => hf j' (by simp [hj']))
      refine ⟨acc' ++ [(t, val j)], by simpa using hk, fun t' v' hm' => ?_, fun j' hj' t' hd => ?_⟩
      · rcases List.mem_append.1 hm' with hm' | hm'
        · obtain ⟨j', hj', h3⟩ := hm t' v' hm'; exact ⟨j', by simp [hj'], h3⟩
        · simp only [List.mem_cons, Prod.mk.injEq, List.not_mem_nil, or_false] at hm'
          exact ⟨j, by simp, hm'.1 ▸ ht, hm'.2⟩
      · rcases List.mem_cons.1 hj' with rfl | hj'
        · rw [ht] at hd; cases hd; simp
        · exact List.mem_append_left _ (hm2 j' hj' t' hd)
section
variable {C : Ctx} {Q : Exit → St → Prop} {env : Env} {df : List Deferred} {H : Hp} {own : Own}
theorem stepsM_at {Gd : Hp → Prop} {cre : List Nat} {md : List (Nat × Nat)} {FO FO2 : EntP} {l : List Oper} {F : List (Value → Hp → Prop)} {m : Nat} : ∀ (rest : List Oper) (k : Nat), stepsM Gd cre md FO FO2 C l F env df H own m k rest → ∀ (i : Nat) (o : Oper), rest[i]? = some o → k + i < m →
    (match mdAt md (k + i) with
        | none => ∀ X ext H', Le H H' → Gd H' → withP l F H' (predsG o) [] fun acc => XO C l.toArray (stepQN Gd cre (k + i) o.dst (factAt F (k + i)) (FO (k + i)) (acc ++ (env ++ X)) df (own ++ ext)) [o] ⟨acc ++ (env ++ X), df, H', own ++ ext⟩
        | some j => ∀ X ext p H', Le H H' → Gd H' → withP l F H' (predsG o) [] fun acc => (∀ u t, dstOf l j = some t → Env.get acc t = some u → FO j u p H') →
            XO C l.toArray (stepQM Gd (FO2 (k + i)) (dstOf l j) acc o.dst (factAt F (k + i)) (acc ++ (env ++ X)) df (own ++ ext)) [o] ⟨acc ++ (env ++ X), df, H', p :: (own ++ ext)⟩)
  | [], k, _, i, o, hi, _ => by simp at hi
  | x :: rest, k, h, i, o, hi, hlt => by
    simp only [stepsM] at h
    rw [show Nat.blt k m = true by simp; omega] at h
    cases i with
    | zero => simp only [List.getElem?_cons_zero, Option.some.injEq] at hi; subst hi; exact h.1
    | succ i =>
      have := stepsM_at rest (k + 1) h.2 i o (by simpa using hi) (by omega)
      rwa [show k + 1 + i = k + (i + 1) by omega] at this
theorem ext_mod {cre : List Nat} {L : Array Bool} {ent : Nat → Nat × SObj} {j : Nat} (hnd : cre.Nodup) (hj : j ∈ cre) (hl : lst L j = true) :
    ∃ ext, (extOf cre L ent).Perm (ent j :: ext) ∧ ∀ p, (extOf cre L fun x => if x = j then p else ent x).Perm (p :: ext) := by
  have hm : j ∈ cre.filter (lst L) := List.mem_filter.2 ⟨hj, hl⟩
  have hp := List.perm_cons_erase hm
  have hnd2 : (cre.filter (lst L)).Nodup := List.filter_sublist.nodup hnd
  have hne : ∀ x ∈ (cre.filter (lst L)).erase j, x ≠ j := fun x hx e => by
    subst e
    exact (List.Nodup.not_mem_erase hnd2) hx
  refine ⟨((cre.filter (lst L)).erase j).map ent, (hp.map ent), fun p => ?_⟩
  refine (hp.map _).trans ?_
  simp only [List.map_cons, if_true]
  refine List.Perm.cons _ ?_
  rw [List.map_congr_left (g := ent) (fun x hx => if_neg (hne x hx))]
theorem XC.drawM (Gd : Hp → Prop) (hG : Gd H) (cre : List Nat) (hnd0 : cre.Nodup) (md : List (Nat × Nat)) (FO FO2 : EntP) (hFO : ∀ i v p H H', Le H H' → FO i v p H → FO i v p H') (hFO2 : ∀ i v p H H', Le H H' → FO2 i v p H → FO2 i v p H') {id : Nat} {l : List Oper} (m : Nat) (F : List (Value → Hp → Prop)) (hm : C.P.follows .mixedOrders = true) (hck : drawOkH m l (env.map Prod.fst) = true) (hmono' : monoL F)
    (hcm : (cre.all fun i => Nat.blt i m) = true) (hmd : mdOk m l cre md = true) (steps : stepsM Gd cre md FO FO2 C l F env df H own m 0 l)
    (tail : ∀ H', Le H H' → Gd H' → withP l F H' (List.range m) [] fun acc => withEnts l (endP md FO FO2) H' acc cre fun es => XO C l.toArray Q (l.drop m) ⟨acc ++ env, df, H', es ++ own⟩) : XC C (.region id l.toArray true) Q ⟨env, df, H, own⟩ := by
  have hmono := monoF_of hmono'
  intro a₀ w₀ hr₀
  refine wpIn_region_any hm ?_
  simp only [drawOkH, Bool.and_eq_true, List.all_eq_true, List.mem_range] at hck
  obtain ⟨⟨hml, hck1⟩, hck2⟩ := hck
  have hml := Nat.le_of_ble_eq_true hml
  have hpre : ∀ i, i < m → ∃ o, l[i]? = some o ∧ (∀ t, o.dst = some t → t ∉ env.map Prod.fst ∧ (∀ j, j < m → i ≠ j → dstOf l j ≠ some t)) ∧ (∀ e ∈ o.after, Region.binds .any e = true → e.on < i) ∧ (∀ j ∈ predsG o, j < m ∧ ∃ e ∈ o.after, Region.binds .any e = true ∧ e.on = j) := by
    intro i hi
    have h := hck1 i hi
    split at h
    · rename_i o ho
      simp only [Bool.and_eq_true, List.all_eq_true] at h
      obtain ⟨⟨⟨hnd, hd⟩, haf⟩, hp⟩ := h
      refine ⟨o, ho, ?_, ?_, ?_⟩
      · intro t ht
        rw [ht] at hd
        simp only [Bool.and_eq_true, List.all_eq_true, List.mem_range, Bool.not_eq_true', List.contains_eq_mem, decide_eq_false_iff_not] at hd
        refine ⟨hd.1, fun j hj hne he => ?_⟩
        have := hd.2 j hj
        rw [he] at this
        simp at this
        exact hne this
      · intro e he hb
        have := haf e (by simpa using he)
        simpa [hb] using this
      · intro j hj
        have := hp j hj
        simp only [List.any_eq_true, Bool.and_eq_true] at this
        obtain ⟨h1, e, he, hb, hon⟩ := this
        exact ⟨by simpa using h1, e, by simpa using he, hb, Nat.eq_of_beq_eq_true hon⟩
    · cases h
  have hkey : ∀ i t, i < m → dstOf l i = some t → t ∉ env.map Prod.fst := by
    intro i t hi ht
    obtain ⟨o, ho, hd, _⟩ := hpre i hi
    exact (hd t (by simpa [dstOf, ho] using ht)).1
  have hdis : ∀ i j t, i < m → j < m → dstOf l i = some t → dstOf l j = some t → i = j := by
    intro i j t hi hj ht ht2
    obtain ⟨o, ho, hd, _⟩ := hpre i hi
    by_cases h : i = j
    · exact h
    · exact absurd ht2 ((hd t (by simpa [dstOf, ho] using ht)).2 j hj h)
  have hmds : ∀ q ∈ md, q.1 < m ∧ q.2 ∈ cre ∧ q.1 ∉ cre ∧ (∀ q2 ∈ md, q.1 = q2.1 ↔ q.2 = q2.2) ∧ (∃ o, l[q.1]? = some o ∧ q.2 ∈ predsG o) ∧ ∃ t, dstOf l q.2 = some t := by
    intro q hq
    have h := List.all_eq_true.1 hmd q hq
    simp only [Bool.and_eq_true, List.all_eq_true] at h
    obtain ⟨⟨⟨⟨⟨h1, h2⟩, h3⟩, h4⟩, h5⟩, h6⟩ := h
    refine ⟨by simpa using h1, by simpa using h2, by simpa using h3, fun q2 hq2 => ?_, ?_, Option.isSome_iff_exists.1 h6⟩
    · have := h4 q2 hq2
      rw [beq_iff_eq, Bool.eq_iff_iff] at this
      simpa using this
    · split at h5
      · rename_i o ho; exact ⟨o, ho, by simpa using h5⟩
      · cases h5
  have htl : ∀ (i : Nat) (o : Oper), m ≤ i → l[i]? = some o → (∀ j, j < i → waitsB l l.length o j = true) ∧ (∀ e ∈ o.after, Region.binds .any e = true → e.on < i) := by
    intro i o hi ho
    have hlt := (List.getElem?_eq_some_iff.1 ho).1
    have h := hck2 i hlt
    rw [ho] at h
    rw [show Nat.blt i m = false from blt_ge hi] at h
    simp only [Bool.false_or, Bool.and_eq_true, List.all_eq_true, List.mem_range] at h
    refine ⟨fun j hj => h.1 j hj, fun e he hb => ?_⟩
    · have := h.2 e (by simpa using he)
      simpa [hb] using this
  have hdc : ∀ (i : Nat) (o : Oper), l[i]? = some o → ∀ e ∈ o.after, Region.binds .any e = true → e.on < i := by
    intro i o ho
    rcases Nat.lt_or_ge i m with h | h
    · obtain ⟨o2, ho2, _, haf, _⟩ := hpre i h
      rw [ho] at ho2; cases ho2; exact haf
    · exact (htl i o h ho).2
  have main : ∀ (fuel : Nat) (L : Array Bool) (a : Act) (w : World) (val : Nat → Value) (ent : Nat → Nat × SObj) (H' : Hp), L.size = l.length → unl l.length L ≤ fuel → Le H H' → Gd H' → (∀ (i : Nat) (o : Oper), l[i]? = some o → lst L i = true → ∀ e ∈ o.after, Region.binds .any e = true → lst L e.on = true) → (∀ j, m ≤ j → lst L j = false) →
      a.tmps.size = C.N → (∀ t v, env.get t = some v → a.tmps.getD t undef = v) → (∃ ms : List Nat, a.defers = ms.map mark ++ df ∧ Ok C.G H' ((own ++ extOf cre L ent) ++ (ms.map hid ++ C.hid)) w) → (∀ i ∈ cre, lst L i = true → entP md FO FO2 (lst L) i (val i) (ent i) H') →
      (∀ i, i < m → lst L i = true → ∀ t, dstOf l i = some t → a.tmps.getD t undef = val i ∧ factAt F i (val i) H') →
      wpAnyIn (Fr C.r) 0 C.P .any l.toArray (lift C H Q) fuel L a w := by
    intro fuel
    have done : ∀ (fuel : Nat) (L : Array Bool) (a : Act) (w : World) (val : Nat → Value) (ent : Nat → Nat × SObj) (H' : Hp), L.size = l.length → unl l.length L ≤ fuel → Le H H' → Gd H' → (∀ j, m ≤ j → lst L j = false) →
        a.tmps.size = C.N → (∀ t v, env.get t = some v → a.tmps.getD t undef = v) → (∃ ms : List Nat, a.defers = ms.map mark ++ df ∧ Ok C.G H' ((own ++ extOf cre L ent) ++ (ms.map hid ++ C.hid)) w) → (∀ i ∈ cre, lst L i = true → entP md FO FO2 (lst L) i (val i) (ent i) H') →
        (∀ i, i < m → lst L i = true → ∀ t, dstOf l i = some t → a.tmps.getD t undef = val i ∧ factAt F i (val i) H') → (∀ j, j < m → lst L j = true) →
        wpAnyIn (Fr C.r) 0 C.P .any l.toArray (lift C H Q) fuel L a w := by
      intro fuel L a w val ent H' hs hu hle hGd hT hsz henv hok hents hfacts hall
      obtain ⟨acc', hk, hmem⟩ := withP_of (val := val) (List.range m) [] _ (tail H' hle hGd) (fun j hj t ht => (hfacts j (List.mem_range.1 hj) (hall j (List.mem_range.1 hj)) t ht).2)
      have hcount : l.length - m ≤ fuel := by rw [count_tail hml hall hT]; exact hu
      refine drawTail (m := m) htl hdc fuel m L a w (Nat.le_refl _) hs hcount hml ?_ ?_
      · intro j
        rcases Nat.lt_or_ge j m with h | h
        · rw [hall j h]; simp [h]
        · rw [hT j h]; simp; omega
      · have hcall : ∀ i ∈ cre, i < m := fun i hi => by simpa using List.all_eq_true.1 hcm i hi
        have hk2 := withEnts_of (ent := ent) cre _ hk (fun i hi v hg => by
          obtain ⟨t, hd, hg⟩ := hg
          have him := hcall i hi
          obtain ⟨j, hj, hdj, rfl⟩ := hmem t v (env_get_mem (by simpa using hg))
          obtain rfl := hdis i j t him (List.mem_range.1 hj) hd hdj
          refine entP_congr ?_ (hents i hi (hall i him))
          intro q hq _
          exact hall _ (hmds q hq).1)
        have hext : extOf cre L ent = cre.map ent := by
          rw [extOf, List.filter_eq_self.2 (fun i hi => hall i (hcall i hi))]
        have hok2 : ∃ ms : List Nat, a.defers = ms.map mark ++ df ∧ Ok C.G H' ((cre.map ent ++ own) ++ (ms.map hid ++ C.hid)) w := by
          obtain ⟨ms, h1, h2⟩ := hok
          rw [hext] at h2
          exact ⟨ms, h1, h2.perm (List.perm_append_comm.append_right _)⟩
        refine wpList_mono hle _ _ _ (hk2 a w ⟨hsz, ?_, hok2⟩)
        intro t v hg
        simp only [List.append_nil] at hg
        rw [Env.get_append] at hg
        cases hga : Env.get acc' t with
        | none => rw [hga] at hg; exact henv t v (by simpa using hg)
        | some u =>
          rw [hga] at hg; simp at hg; subst hg
          obtain ⟨j, hj, hd, rfl⟩ := hmem t u (get_mem _ _ _ hga)
          have hj := List.mem_range.1 hj
          exact (hfacts j hj (hall j hj) t hd).1
    induction fuel with
    | zero =>
      intro L a w val ent H' hs hu hle hGd hdown hT hsz henv hok hents hfacts
      refine done 0 L a w val ent H' hs hu hle hGd hT hsz henv hok hents hfacts ?_
      intro j hj
      cases hx : lst L j with
      | true => rfl
      | false =>
        have := unl_set (L := L) (i := j) hs (by omega) hx
        omega
    | succ fuel ih =>
      intro L a w val ent H' hs hu hle hGd hdown hT hsz henv hok hents hfacts
      by_cases hall : ∀ j, j < m → lst L j = true
      · exact done (fuel + 1) L a w val ent H' hs hu hle hGd hT hsz henv hok hents hfacts hall
      · constructor
        · intro hnil
          exfalso
          apply hall
          -- the least one that is not listed is ready
          intro j hj
          induction j using Nat.strongRecOn with
          | _ j ihj =>
            cases hx : lst L j with
            | true => rfl
            | false =>
              exfalso
              obtain ⟨o, ho, _, haf, _⟩ := hpre j hj
              have : j ∈ Region.ready .any l.toArray L := by
                rw [mem_ready]
                refine ⟨?_, o, by simpa using ho, fun e he hb => ihj e.on (haf e he hb) (by have := haf e he hb; omega)⟩
                unfold lst at hx
                rw [Array.getD_eq_getD_getElem?, Array.getElem?_eq_getElem (by omega)] at hx ⊢
                simpa using hx
              rw [hnil] at this; cases this
        · intro i hi
          rw [mem_ready] at hi
          obtain ⟨h0, o, ho, hbef⟩ := hi
          have hilt : i < l.length := by simpa using (Array.getElem?_eq_some_iff.1 ho).1
          have hun : lst L i = false := by
            unfold lst
            rw [Array.getD_eq_getD_getElem?, Array.getElem?_eq_getElem (by omega)] at h0 ⊢
            simpa using h0
          have ho' : l[i]? = some o := by simpa using ho
          have him : i < m := by
            rcases Nat.lt_or_ge i m with h | h
            · exact h
            · exfalso
              apply hall
              intro j hj
              exact waits_listed hdown _ o j hbef ((htl i o h ho').1 j (by omega))
          obtain ⟨o2, ho2, hd, haf, hprd⟩ := hpre i him
          rw [ho'] at ho2; cases ho2
          have hdo : dstOf l i = o.dst := by simp [dstOf, ho']
          have hst := stepsM_at l 0 steps i o ho' (by omega)
          simp only [Nat.zero_add] at hst
          -- all that is known of the slots, as one list
          let X : Env := (List.range m).filterMap fun j => if lst L j then (dstOf l j).map fun t => (t, val j) else none
          have hpredF : ∀ j ∈ predsG o, ∀ tj, dstOf l j = some tj → factAt F j (val j) H' := fun j hj tj hdj => by
            obtain ⟨hjm, e, he, hb, hon⟩ := hprd j hj
            have hlj : lst L j = true := by have := hbef e he hb; rw [hon] at this; exact this
            exact (hfacts j hjm hlj tj hdj).2
          have hX : ∀ t v, (t, v) ∈ X → ∃ j, j < m ∧ lst L j = true ∧ dstOf l j = some t ∧ v = val j := by
            intro t v h
            obtain ⟨j, hj, hjj⟩ := List.mem_filterMap.1 h
            split at hjj
            · rename_i hlj
              cases hdj : dstOf l j with
              | none => rw [hdj] at hjj; cases hjj
              | some tj =>
                rw [hdj] at hjj
                simp only [Option.map_some, Option.some.injEq, Prod.mk.injEq] at hjj
                obtain ⟨rfl, rfl⟩ := hjj
                exact ⟨j, List.mem_range.1 hj, hlj, hdj, rfl⟩
            · cases hjj
          have hgets : ∀ acc' : Env, (∀ t v, (t, v) ∈ acc' → ∃ j ∈ predsG o, dstOf l j = some t ∧ v = val j) → ∀ t v, Env.get (acc' ++ (env ++ X)) t = some v → a.tmps.getD t undef = v := by
            intro acc' hmem t v hgv
            rw [Env.get_append, Env.get_append] at hgv
            cases hga : Env.get acc' t with
            | some u =>
              rw [hga] at hgv; simp at hgv; subst hgv
              obtain ⟨j, hj, hdj, rfl⟩ := hmem t u (get_mem _ _ _ hga)
              obtain ⟨hjm, e, he, hb, hon⟩ := hprd j hj
              have hlj : lst L j = true := by have := hbef e he hb; rw [hon] at this; exact this
              exact (hfacts j hjm hlj t hdj).1
            | none =>
              rw [hga] at hgv; simp only [Option.none_or] at hgv
              cases hge : Env.get env t with
              | some u => rw [hge] at hgv; simp at hgv; subst hgv; exact henv t u hge
              | none =>
                rw [hge] at hgv; simp only [Option.none_or] at hgv
                obtain ⟨j, hj, hlj, hdj, rfl⟩ := hX t v (get_mem _ _ _ hgv)
                exact (hfacts j hj hlj t hdj).1
          have hnextG : ∀ (acc' : Env), (∀ t v, (t, v) ∈ acc' → ∃ j ∈ predsG o, dstOf l j = some t ∧ v = val j) → ∀ (a' : Act) (w' : World) (σ' : St) (v : Value) (ent' : Nat → Nat × SObj), Rel C σ' a' w' → Le H' σ'.H → Gd σ'.H → σ'.df = df → σ'.env = putE o.dst v (acc' ++ (env ++ X)) → factAt F i v σ'.H →
              (∀ ms : List Nat, Ok C.G σ'.H (σ'.own ++ (ms.map hid ++ C.hid)) w' → Ok C.G σ'.H ((own ++ extOf cre (L.setIfInBounds i true) ent') ++ (ms.map hid ++ C.hid)) w') →
              (∀ j ∈ cre, lst (L.setIfInBounds i true) j = true → entP md FO FO2 (lst (L.setIfInBounds i true)) j (if j = i then v else val j) (ent' j) σ'.H) →
              wpAnyIn (Fr C.r) 0 C.P .any l.toArray (lift C H Q) fuel (L.setIfInBounds i true) a' w' := by
            intro acc' hmem a' w' σ' v ent' hr' hle' hGd' hdf' henv' hfv hown' hent'
            refine ih (L.setIfInBounds i true) a' w' (fun j => if j = i then v else val j) ent' σ'.H (by simpa using hs) ?_ (hle.trans hle') hGd' ?_ ?_ hr'.size ?_ ?_ hent' ?_
            · have := unl_set hs hilt hun; omega
            · intro i' o' hi' hl' e he hb
              rw [lst_set (by omega)] at hl' ⊢
              split
              · rfl
              · split at hl'
                · rename_i e1 e2; subst e2; rw [ho'] at hi'; cases hi'; exact hbef e he hb
                · exact hdown i' o' hi' hl' e he hb
            · intro j hj
              rw [lst_set (by omega), if_neg (by omega)]
              exact hT j hj
            · intro t' v' hg'
              refine hr'.get t' v' ?_
              have hin : t' ∈ env.map Prod.fst := List.mem_map.2 ⟨(t', v'), get_mem _ _ _ hg', rfl⟩
              rw [henv', get_putE_ne (fun e => (hd t' e).1 hin), Env.get_append, Env.get_append]
              have : Env.get acc' t' = none := by
                cases hga : Env.get acc' t' with
                | none => rfl
                | some u =>
                  obtain ⟨j, hj, hdj, _⟩ := hmem t' u (get_mem _ _ _ hga)
                  exact absurd hin (hkey j t' (hprd j hj).1 hdj)
              rw [this, hg']; rfl
            · obtain ⟨ms, hd', hok'⟩ := hr'.ok
              exact ⟨ms, by rw [hd', hdf'], hown' ms hok'⟩
            · intro j hj hlj tj htj
              rw [lst_set (by omega)] at hlj
              by_cases hji : j = i
              · subst hji
                rw [hdo] at htj
                simp only [if_true]
                refine ⟨hr'.get tj v ?_, hfv⟩
                rw [henv', htj]; simp [putE, Env.get]
              · rw [if_neg hji] at hlj
                obtain ⟨h1, h2⟩ := hfacts j hj hlj tj htj
                simp only [if_neg hji]
                refine ⟨hr'.get tj (val j) ?_, factAt_mono hmono hle' h2⟩
                rw [henv', get_putE_ne (fun e => hji (hdis j i tj hj him htj (by rw [hdo, e]))), Env.get_append, Env.get_append]
                have hacc : Env.get acc' tj = none ∨ Env.get acc' tj = some (val j) := by
                  cases hga : Env.get acc' tj with
                  | none => exact .inl rfl
                  | some u =>
                    obtain ⟨j', hj', hdj', rfl⟩ := hmem tj u (get_mem _ _ _ hga)
                    obtain rfl := hdis j' j tj (hprd j' hj').1 hj hdj' htj
                    exact .inr rfl
                rcases hacc with hacc | hacc
                · rw [hacc]
                  have henvn : Env.get env tj = none := by
                    cases hge : Env.get env tj with
                    | none => rfl
                    | some u => exact absurd (List.mem_map.2 ⟨(tj, u), get_mem _ _ _ hge, rfl⟩) (hkey j tj hj htj)
                  rw [henvn]
                  simp only [Option.none_or]
                  -- it stands in X, once
                  refine get_uniq X (List.mem_filterMap.2 ⟨j, List.mem_range.2 hj, by simp only [hlj, if_true, htj, Option.map_some]⟩) ?_
                  intro u hu'
                  obtain ⟨j', hj', _, hdj', rfl⟩ := hX tj u hu'
                  obtain rfl := hdis j' j tj hj' hj hdj' htj
                  rfl
                · rw [hacc]; rfl
          have hcase : ∀ (acc' : Env) (own2 : Own) (Q2 : Exit → St → Prop), (∀ e σ, e ≠ .normal → ¬ Q2 e σ) → XO C l.toArray Q2 [o] ⟨acc' ++ (env ++ X), df, H', own2⟩ → Rel C ⟨acc' ++ (env ++ X), df, H', own2⟩ a w →
              (∀ a' w', lift C H' Q2 .normal a' w' → wpAnyIn (Fr C.r) 0 C.P .any l.toArray (lift C H Q) fuel (L.setIfInBounds i true) a' w') → wpOpIn (Fr C.r) 0 C.P l.toArray (lift C H Q) i (fun a' w' => wpAnyIn (Fr C.r) 0 C.P .any l.toArray (lift C H Q) fuel (L.setIfInBounds i true) a' w') a w := by
            intro acc' own2 Q2 hno hk hrel hnext
            have hrun := hk a w hrel
            unfold wpOpIn
            rw [ho]
            simp only [wpListIn] at hrun ⊢
            split
            · rename_i hw
              rw [if_pos hw] at hrun
              refine wpInOper_mono hnext ?_ hrun
              rintro e a' w' he ⟨σ', _, _, hq⟩
              exact absurd hq (hno e σ' he)
            · rename_i hw
              rw [if_neg hw] at hrun
              exact ⟨hrun.1, hnext _ _ hrun.2⟩
          cases hmk : mdAt md i with
          | none =>
            rw [hmk] at hst
            obtain ⟨acc', hk, hmem⟩ := withP_of (val := val) (predsG o) [] _ (hst X (extOf cre L ent) H' hle hGd) hpredF
            simp only [List.append_nil] at hk
            have hnm : ∀ q ∈ md, q.1 ≠ i := fun q hq e => by
              have h1 : (md.find? fun q => Nat.beq q.1 i) = none := by
                unfold mdAt at hmk; simpa using hmk
              have := List.find?_eq_none.1 h1 q hq
              simp [e] at this
            refine hcase acc' _ _ (fun e σ he => by cases e <;> first | exact absurd rfl he | exact fun h => h) hk ⟨hsz, hgets acc' hmem, hok⟩ ?_
            rintro a' w' ⟨σ', hr', hle', hGd', hdf', v, pe, henv', hfv, hown'⟩
            refine hnextG acc' hmem a' w' σ' v (fun j => if j = i then pe else ent j) hr' hle' hGd' hdf' henv' hfv ?_ ?_
            · intro ms hok'
              cases hc : cre.contains i with
              | true =>
                rw [hc] at hown'
                rw [hown'.1] at hok'
                refine hok'.perm (List.Perm.append_right _ ?_)
                exact ((ext_new hnd0 (List.contains_iff_mem.1 hc) hun (fun j => lst_set (by omega) j)).append_left own).trans List.perm_middle
              | false =>
                rw [hc] at hown'
                rw [show σ'.own = own ++ extOf cre L ent from hown'] at hok'
                rw [ext_old (fun h => by rw [List.contains_iff_mem.2 h] at hc; cases hc) (fun j => lst_set (by omega) j)]
                exact hok'
            · intro j hj hlj
              have hcg : ∀ q ∈ md, q.2 = j → lst L q.1 = lst (L.setIfInBounds i true) q.1 := fun q hq _ => by rw [lst_set (by omega), if_neg (hnm q hq)]
              by_cases hji : j = i
              · subst hji
                rw [List.contains_iff_mem.2 hj] at hown'
                simp only [if_true]
                have hF : FO j v pe σ'.H := by simpa using hown'.2
                unfold entP
                split
                · rename_i q hq
                  have hqm := List.mem_of_find?_eq_some hq
                  have hq2 : q.2 = j := by have := List.find?_some hq; simpa using this
                  -- the writer waits for the maker, which was not listed
                  have hlq : lst L q.1 = false := by
                    cases hlq : lst L q.1 with
                    | false => rfl
                    | true =>
                      obtain ⟨_, _, _, _, ⟨oq, hoq, hpq⟩, _⟩ := hmds q hqm
                      rw [hq2] at hpq
                      obtain ⟨oq2, hoq2, _, _, hprq⟩ := hpre q.1 (hmds q hqm).1
                      rw [hoq] at hoq2; cases hoq2
                      obtain ⟨_, e, he, hb, hon⟩ := hprq j hpq
                      have := hdown q.1 oq hoq hlq e he hb
                      rw [hon, hun] at this; cases this
                  rw [← hcg q hqm hq2, hlq]
                  simpa using hF
                · exact hF
              · rw [lst_set (by omega), if_neg hji] at hlj
                simp only [if_neg hji]
                exact entP_congr hcg (entP_mono hFO hFO2 hle' (hents j hj hlj))
          | some jm =>
            rw [hmk] at hst
            obtain ⟨q0, hq0, hq01, hq02⟩ : ∃ q0 ∈ md, q0.1 = i ∧ q0.2 = jm := by
              unfold mdAt at hmk
              rw [Option.map_eq_some_iff] at hmk
              obtain ⟨q, hq, rfl⟩ := hmk
              exact ⟨q, List.mem_of_find?_eq_some hq, by have := List.find?_some hq; simpa using this, rfl⟩
            obtain ⟨_, hjc, hicre, huq, ⟨oq, hoq, hpq⟩, tj, htj⟩ := hmds q0 hq0
            rw [hq01, ho'] at hoq; cases hoq
            rw [hq02] at hjc hpq htj
            rw [hq01] at hicre
            have hljm : lst L jm = true := by
              obtain ⟨_, e, he, hb, hon⟩ := hprd jm hpq
              have := hbef e he hb; rw [hon] at this; exact this
            have hjmi : jm ≠ i := fun e => hicre (e ▸ hjc)
            obtain ⟨ext, hperm, hperm2⟩ := ext_mod (ent := ent) hnd0 hjc hljm
            obtain ⟨acc', hk, hmem, hmem2⟩ := withP_of2 (val := val) (predsG o) [] _ (hst X ext (ent jm) H' hle hGd) hpredF
            simp only [List.append_nil] at hk
            have hjmm : jm < m := (hprd jm hpq).1
            have hget : ∀ u t, dstOf l jm = some t → Env.get acc' t = some u → u = val jm := fun u t ht hg => by
              obtain ⟨j2, hj2, hd2, rfl⟩ := hmem t u (get_mem _ _ _ hg)
              rw [hdis j2 jm t (hprd j2 hj2).1 hjmm hd2 ht]
            have hFOj : FO jm (val jm) (ent jm) H' := by
              have h1 := hents jm hjc hljm
              unfold entP at h1
              split at h1
              · rename_i q hq
                have hqm := List.mem_of_find?_eq_some hq
                have hq2 : q.2 = jm := by have := List.find?_some hq; simpa using this
                have hq1 : q.1 = i := by rw [← hq01]; exact (((hmds q hqm).2.2.2.1 q0 hq0).2 (by rw [hq2, hq02]))
                rw [hq1, hun] at h1
                simpa using h1
              · exact h1
            have hpo : (own ++ extOf cre L ent).Perm (ent jm :: (own ++ ext)) := (hperm.append_left own).trans List.perm_middle
            refine hcase acc' _ _ (fun e σ he => by cases e <;> first | exact absurd rfl he | exact fun h => h) (hk (fun u t ht hg => by rw [hget u t ht hg]; exact hFOj)) ⟨hsz, hgets acc' hmem, ?_⟩ ?_
            · obtain ⟨ms, h1, h2⟩ := hok
              exact ⟨ms, h1, h2.perm (hpo.symm.append_right _)⟩
            rintro a' w' ⟨σ', hr', hle', hGd', hdf', v, p', henv', hfv, hown', hfo⟩
            refine hnextG acc' hmem a' w' σ' v (fun x => if x = jm then p' else ent x) hr' hle' hGd' hdf' henv' hfv ?_ ?_
            · intro ms hok'
              rw [hown'] at hok'
              refine hok'.perm (List.Perm.append_right _ ?_)
              have hold : extOf cre (L.setIfInBounds i true) (fun x => if x = jm then p' else ent x) = extOf cre L (fun x => if x = jm then p' else ent x) := by
                unfold extOf
                congr 1
                refine List.filter_congr fun x hx => ?_
                rw [lst_set (by omega), if_neg (fun e => hicre (by rw [← e]; exact hx))]
              rw [hold]
              exact ((hperm2 p').append_left own).trans List.perm_middle
            · intro j hj hlj
              have hji : j ≠ i := fun e => hicre (e ▸ hj)
              rw [lst_set (by omega), if_neg hji] at hlj
              simp only [if_neg hji]
              by_cases hjj : j = jm
              · subst hjj
                simp only [if_true]
                have hF2 : FO2 i (val j) p' σ'.H := by
                  refine hfo (val j) tj htj ?_
                  exact get_uniq acc' (hmem2 j hpq tj htj) (fun u hu' => by obtain ⟨j2, hj2, hd2, rfl⟩ := hmem tj u hu'; rw [hdis j2 j tj (hprd j2 hj2).1 hjmm hd2 htj])
                unfold entP
                split
                · rename_i q hq
                  have hqm := List.mem_of_find?_eq_some hq
                  have hq2 : q.2 = j := by have := List.find?_some hq; simpa using this
                  have hq1 : q.1 = i := by rw [← hq01]; exact (((hmds q hqm).2.2.2.1 q0 hq0).2 (by rw [hq2, hq02]))
                  rw [hq1, lst_set (by omega), if_pos rfl, if_pos rfl]
                  exact hF2
                · rename_i hq
                  have := List.find?_eq_none.1 hq q0 hq0
                  simp [hq02] at this
              · simp only [if_neg hjj]
                refine entP_congr ?_ (entP_mono hFO hFO2 hle' (hents j hj hlj))
                intro q hq hq2
                rw [lst_set (by omega), if_neg ?_]
                intro e
                refine hjj ?_
                rw [← hq2, ← hq02]
                exact ((hmds q hq).2.2.2.1 q0 hq0).1 (by rw [e, hq01])
  have hlst0 : ∀ j, lst (Array.replicate l.toArray.size false) j = false := fun j => by simp [lst, Array.getD_eq_getD_getElem?, Array.getElem?_replicate]; split <;> rfl
  exact main l.toArray.size (Array.replicate l.toArray.size false) a₀ _ (fun _ => undef) (fun _ => (0, .nothing)) H (by simp) (by
      refine Nat.le_trans (List.countP_le_length) (by simp)) (Le.refl _) hG (fun i o _ hl => by
      have : lst (Array.replicate l.toArray.size false) i = false := by simp [lst, Array.getD_eq_getD_getElem?, Array.getElem?_replicate]; split <;> rfl
      rw [this] at hl; cases hl) (fun j _ => by simp [lst, Array.getD_eq_getD_getElem?, Array.getElem?_replicate]; split <;> rfl) hr₀.size hr₀.get
    (let ⟨ms, hd, hok⟩ := hr₀.ok; ⟨ms, hd, by rw [ext_none hlst0, List.append_nil]; exact hok.drew⟩) (fun i _ h => by rw [hlst0] at h; cases h) (fun i _ h => by
      have : lst (Array.replicate l.toArray.size false) i = false := by simp [lst, Array.getD_eq_getD_getElem?, Array.getElem?_replicate]; split <;> rfl
      rw [this] at h; cases h)
end
end Go.XL

/- Deferred calls that recover from a panic. No statement of the program stands here. -/
set_option autoImplicit false
set_option linter.unusedSimpArgs false
set_option linter.unusedVariables false
namespace Go.XL
/-- 'f', as a deferred call above a frame that is on its way out in the mode u, comes back, and has left that frame's mode as R says. -/
def FnD (P : Program) (f : FuncId) (args : Array Value) (u : FrameMode) (H : Hp) (own : Own) (R : FrameMode → Hp → Own → Prop) : Prop :=
  Callable P f ∧ ∀ G rest w, Ok G H (own ++ rest) w → CallsDIn Fence.wide 0 P f args u w fun e u' w' => (∃ v, e = .returned v) ∧ ∃ H' own', Le H H' ∧ Ok G H' (own' ++ rest) w' ∧ R u' H' own'
theorem FnD.mono {P : Program} {f : FuncId} {args : Array Value} {u : FrameMode} {H : Hp} {own : Own} {R R' : FrameMode → Hp → Own → Prop} (h : FnD P f args u H own R) (hr : ∀ u' H' own', Le H H' → R u' H' own' → R' u' H' own') : FnD P f args u H own R' :=
  ⟨h.1, fun G rest w ok => (h.2 G rest w ok).mono fun _ _ _ ⟨h0, H', own', h1, h2, h3⟩ => ⟨h0, H', own', h1, h2, hr _ _ _ h1 h3⟩⟩

/-! ### The walk of a deferred function -/
def liftS (C : Ctx) (H : Hp) (c0 : Frame) (cs : List Frame) (Q : Exit → FrameMode → St → Prop) (e : Exit) (a : Act) (cs' : List Frame) (w : World) : Prop :=
  ∃ u σ, cs' = { c0 with mode := u } :: cs ∧ Rel C σ a w ∧ Le H σ.H ∧ Q e u σ
def XS (C : Ctx) (c : Code) (Q : Exit → FrameMode → St → Prop) (u : FrameMode) (σ : St) : Prop :=
  ∀ a w c0 cs, Rel C σ a w → c.wpSIn (Fr none) 0 C.P (liftS C σ.H c0 cs Q) a ({ c0 with mode := u } :: cs) w
theorem wpS_mono {F : Fence} {n : Nat} {P : Program} {c : Code} {Q Q' : Exit → Act → List Frame → World → Prop} {a : Act} {cs : List Frame} {w : World} (h : c.wpSIn F n P Q a cs w) (hq : ∀ e a cs w, Q e a cs w → Q' e a cs w) : c.wpSIn F n P Q' a cs w :=
  fun b k hb hr hF hroom => let ⟨e, a', cs', w', l, q, r⟩ := h b k hb hr hF hroom; ⟨e, a', cs', w', l, hq _ _ _ _ q, r⟩
section
variable {C : Ctx} {Q : Exit → FrameMode → St → Prop} {u : FrameMode} {σ : St}
theorem XS.of {c : Code} (hr : C.r = none) (h : XC C c (fun e τ => Q e u τ) σ) : XS C c Q u σ := by
  intro a w c0 cs hrel
  refine wpSIn_of_wpIn rfl ?_
  have h2 := h a w hrel
  rw [hr] at h2
  exact Go.wpIn_mono h2 fun e a' w' ⟨τ, h3, h4, h5⟩ => ⟨u, τ, rfl, h3, h4, h5⟩
def seqS (C : Ctx) (y : Code) (Q : Exit → FrameMode → St → Prop) : Exit → FrameMode → St → Prop
  | .normal, u, σ => XS C y Q u σ
  | e, u, σ => Q e u σ
theorem liftS_le {C : Ctx} {H H' : Hp} {c0 : Frame} {cs cs' : List Frame} {Q : Exit → FrameMode → St → Prop} {e : Exit} {a : Act} {w : World} (hle : Le H H') (h : liftS C H' c0 cs Q e a cs' w) : liftS C H c0 cs Q e a cs' w :=
  let ⟨u, τ, h1, h2, h3, h4⟩ := h; ⟨u, τ, h1, h2, hle.trans h3, h4⟩
theorem XS.seq {x y : Code} (h : XS C x (seqS C y Q) u σ) : XS C (.seq x y) Q u σ := by
  intro a w c0 cs hrel
  refine wpSIn_seq (wpS_mono (h a w c0 cs hrel) ?_)
  rintro e a' cs' w' ⟨u', τ, rfl, h2, h3, h4⟩
  cases e with
  | normal => exact wpS_mono (h4 a' w' c0 cs h2) fun _ _ _ _ hl => liftS_le h3 hl
  | _ => exact ⟨u', τ, rfl, h2, h3, h4⟩
theorem XS.condT {c : Operand} {x y : Code} {t : Bool} (hc : ev σ.env c = some (.bool t)) (ht : t = true) (h : XS C x Q u σ) : XS C (.cond c x y) Q u σ := by
  intro a w c0 cs hrel
  subst ht
  exact wpSIn_cond (hrel.eval hc) (by simpa using h a w c0 cs hrel)
theorem XS.condF {c : Operand} {x y : Code} {t : Bool} (hc : ev σ.env c = some (.bool t)) (ht : t = false) (h : XS C y Q u σ) : XS C (.cond c x y) Q u σ := by
  intro a w c0 cs hrel
  subst ht
  exact wpSIn_cond (hrel.eval hc) (by simpa using h a w c0 cs hrel)
/-- what recover finds -/
def recV : FrameMode → Value × FrameMode
  | .panicking ({ v, recovered := false, goexit := false } :: older) => (v, .panicking ({ v, recovered := true } :: older))
  | u => (.nilIface, u)
theorem recV_spec (c0 : Frame) (u : FrameMode) (cs : List Frame) :
    recoverD ({ c0 with mode := u } :: cs) = some ((recV u).1, { c0 with mode := (recV u).2 } :: cs) ∨ (recoverD ({ c0 with mode := u } :: cs) = none ∧ recV u = (.nilIface, u)) := by
  unfold recoverD recV
  cases u with
  | panicking l =>
    cases l with
    | nil => exact Or.inr ⟨rfl, rfl⟩
    | cons p older =>
      obtain ⟨v, r, g⟩ := p
      cases r <;> cases g <;> first | exact Or.inl rfl | exact Or.inr ⟨rfl, rfl⟩
  | _ => exact Or.inr ⟨rfl, rfl⟩
/-- A region that begins with recover. -/
theorem XS.recover {id : Nat} {t : Option Tmp} {ts : Array TypeId} {ty : TypeId} {pos : String} {af : Array Edge} {l : List Oper} (hr : C.r = none) (hd : dstOk C.N t = true)
    (h : XO C (⟨t, .call { callee := .builtin .recover, args := #[], argTypes := ts }, ty, pos, af, none⟩ :: l : List Oper).toArray (fun e τ => Q e (recV u).2 τ) l { σ with env := putE t (recV u).1 σ.env }) :
    XS C (.region id (⟨t, .call { callee := .builtin .recover, args := #[], argTypes := ts }, ty, pos, af, none⟩ :: l : List Oper).toArray false) Q u σ := by
  intro a w c0 cs hrel b k hb hro hF hroom
  generalize hops : (⟨t, .call { callee := .builtin .recover, args := #[], argTypes := ts }, ty, pos, af, none⟩ :: l : List Oper).toArray = ops at h ⊢
  have hsz : List.range ops.size = 0 :: List.range' 1 l.length := by
    rw [← hops]; simp [List.range_eq_range', List.range'_succ]
  have ho : ops[0]? = some ⟨t, .call { callee := .builtin .recover, args := #[], argTypes := ts }, ty, pos, af, none⟩ := by rw [← hops]; rfl
  have hput := hrel.put (dstOk_lt hd) (recV u).1 (H' := σ.H) (own' := σ.own) (w' := w) hrel.ok
  have hw2 := h _ _ hput
  rw [hr] at hw2
  rw [← wpOpsIn_eq_wpListIn l 1 (by intro j; rw [← hops]; simp [Nat.add_comm])] at hw2
  have hsr : (execOp a.eval ⟨t, .call { callee := .builtin .recover, args := #[], argTypes := ts }, ty, pos, af, none⟩).run C.P w = .ok .recover w := by
    simp [execOp, resolve, invoke, builtin, Sem.run_bind, Sem.run, Result.andThen, Pure.pure]
  have habout : ∀ f, Oper.about C.P w a.eval ⟨t, .call { callee := .builtin .recover, args := #[], argTypes := ts }, ty, pos, af, none⟩ = some f → (Fr none).fn f := fun _ _ => trivial
  have h0 : (lone (b.atR a (.inRegion ops (0 :: List.range' 1 l.length) :: k)) ({ c0 with mode := u } :: cs) w).fenced C.P (Fr none) := fenced_oper hF hroom ho habout
  obtain ⟨e, a', w', ⟨τ, hq1, hq2, hq3⟩, harr⟩ := wp_opsIn (List.range' 1 l.length) _ w hw2 b k ({ c0 with mode := (recV u).2 } :: cs) hro hF hroom
  refine ⟨e, a', { c0 with mode := (recV u).2 } :: cs, w', rfl, ⟨_, τ, rfl, hq1, hq2, hq3⟩, .of_steps (.one (fenced_calm hF hroom rfl) stepR_region) ?_⟩
  rw [hsz]
  refine .of_steps (.one h0 (step_lone_go ?_)) harr
  have hg := stepGR_op (P := C.P) (b := b) (k := k) (cs := { c0 with mode := u } :: cs) (w := w) (rest := List.range' 1 l.length) (a := a) ho (by simp [Region.wanted])
  rw [hro, Oper.semAt_none] at hg
  have hfin : ∀ v, (b.atR a (.inRegion ops (0 :: List.range' 1 l.length) :: k)).finish v = b.atR (a.put t v) (.inRegion ops (List.range' 1 l.length) :: k) := by
    intro v; rw [Frame.finish_atR, ho]; rfl
  have hk : (b.atR a (.inRegion ops (0 :: List.range' 1 l.length) :: k)).kind = .deferred := hb
  have htr := tryRecover_deferred hk ({ c0 with mode := u } :: cs)
  rw [hg, ← hfin]
  simp only [Frame.atR, hro] at htr ⊢
  rcases recV_spec c0 u cs with hrec | ⟨hrec, hv⟩
  · simp [stepG.apply, hsr, htr, hrec]
  · simp [stepG.apply, hsr, htr, hrec, hv]
end

/-! ### Contracts of deferred functions -/
theorem takeMark {P : Program} {G : World} {H : Hp} {own : Own} {r : Nat} {ms : List Nat} {w : World} (ok : Ok G H (own ++ (r :: ms).map hid) w) :
    ∃ w', (Instr.takeDeferred r).run P w = .ok [] w' ∧ Ok G H (own ++ ms.map hid) w' := by
  have hm : (hid r) ∈ own ++ (r :: ms).map hid := by simp
  obtain ⟨⟨o, ho, hw⟩, _⟩ := ok.at hm rfl
  simp only [hid, SObj.Is] at ho
  subst ho
  have hw' : w.heap[r]? = some (.deferred (some [])) := hw
  refine ⟨{ w with heap := w.heap.setIfInBounds r (.deferred none) }, ?_, ?_⟩
  · have hw2 := hw'
    simp [Instr.takeDeferred, getObj, setObj, Sem.run_bind, Sem.run, Result.andThen, hw2, bind, Sem.bind, pure]
  · have ok' : Ok G H (own ++ ((r, SObj.obj (.deferred (some []))) :: ms.map hid)) w := ok
    have := ok'.write (b := r) (s' := .obj (.deferred none)) (o' := .deferred none) (w' := { w with heap := w.heap.setIfInBounds r (.deferred none) }) rfl rfl rfl rfl rfl
      (by have := heap_lt hw'; simp [this]) (fun k hk => by simp [Array.getElem?_setIfInBounds, Ne.symm hk])
    exact this.shrink (Le.refl _) (List.Sublist.append_left (List.sublist_cons_self _ _) _)
theorem marks_steps {P : Program} {G : World} {H : Hp} {own : Own} : ∀ (ms : List Nat) (w : World) (fr : Frame) (cs : List Frame), fr.mode = .returning → fr.defers = ms.map mark → Ok G H (own ++ ms.map hid) w →
    ∃ w', StepsIn (Machine.fenced P Fence.wide) P (lone fr cs w) (lone { fr with defers := [] } cs w') ∧ Ok G H own w'
  | [], w, fr, cs, hm, hd, ok => by
    have h : { fr with defers := [] } = fr := by cases fr; simp at hd; simp [hd]
    exact ⟨w, by rw [h]; exact StepsIn.refl _, by simpa using ok⟩
  | r :: ms, w, fr, cs, hm, hd, ok => by
    obtain ⟨w1, h1, ok1⟩ := takeMark (P := P) ok
    have hs := step_collected (P := P) (cs := cs) (d := mark r) (ds := ms.map mark) (by rw [hm]; simp) (by simpa using hd) rfl h1
    have i1 : (lone fr cs w).fenced P Fence.wide := fenced_out (n := 0) trivial (fun d hd => by cases hd) (by rw [hm]; simp) (d := mark r) (ds := ms.map mark) (by simpa using hd) (fun g _ => trivial)
    obtain ⟨w2, h2, ok2⟩ := marks_steps ms w1 { fr with defers := ms.map mark } cs hm rfl ok1
    exact ⟨w2, .head i1 hs h2, ok2⟩
def bodyQS (rs : List ResultVar) (R : FrameMode → Hp → Own → Prop) (rest : Own) : Exit → FrameMode → St → Prop
  | .normal, u, σ | .ret, u, σ => σ.df = [] ∧ ∃ vs own', resE σ.env rs = some vs ∧ (own' ++ rest).Sublist σ.own ∧ R u σ.H own'
  | _, _, _ => False
theorem init_rel {P : Program} {G : World} {fn : Func} {args : List Value} {N : Nat} {env : Env} {H : Hp} {own : Own} {w : World} (hN : fn.ntmps = N) (hlt : Nat.ble args.length N = true) (hi : Env.init 0 args = some env) (ok : Ok G H own w) :
    Rel ⟨P, G, N, none, []⟩ ⟨env, [], H, own⟩ { tmps := args.toArray ++ Array.replicate (fn.ntmps - args.toArray.size) undef, defers := [] } w := by
  have hle : args.length ≤ N := Nat.le_of_ble_eq_true hlt
  refine ⟨by simp [hN]; omega, ?_, [], rfl, by simpa using ok⟩
  intro t v hg
  obtain ⟨_, h2⟩ := Env.init_get hi hg
  simp only [Nat.sub_zero] at h2
  have hlt : t < args.length := by
    rcases Nat.lt_or_ge t args.length with h | h
    · exact h
    · rw [List.getElem?_eq_none h] at h2; cases h2
  rw [Array.getD_eq_getD_getElem?, Array.getElem?_append_left (by simpa using hlt)]
  simp [h2]
theorem callable_of {P : Program} {f : FuncId} {fn : Func} {c : Code} (hf : P.funcs[f]? = some fn) (hb : fn.body = some c) (hn : (fn.name == "runtime.NumGoroutine") = false) : Callable P f := by
  intro as w
  have hn' : fn.name ≠ "runtime.NumGoroutine" := by simpa using hn
  simp [callFunc, program, Sem.run_bind, Sem.run, Result.andThen, hf, hn', hb, bind, Sem.bind, pure]
theorem FnD.intro {P : Program} {f : FuncId} {fn : Func} {c : Code} {args : List Value} {u : FrameMode} {H : Hp} {own : Own} {R : FrameMode → Hp → Own → Prop} {N : Nat} {env : Env} {rs : List ResultVar}
    (hf : P.funcs[f]? = some fn) (hb : fn.body = some c) (hn : (fn.name == "runtime.NumGoroutine") = false) (hN : fn.ntmps = N) (hrs : fn.results = rs.toArray) (hlt : Nat.ble args.length N = true)
    (hi : Env.init 0 args = some env)
    (h : ∀ G rest, XS ⟨P, G, N, none, []⟩ c (bodyQS rs R rest) u ⟨env, [], H, own ++ rest⟩) : FnD P f args.toArray u H own R := by
  refine ⟨callable_of hf hb hn, fun G rest w ok => ⟨trivial, fun c₀ cs hu hroom => ?_⟩⟩
  let b : Frame := { (default : Frame) with fn := f, kind := .deferred, roundOf := none }
  have henter : Frame.enter P f args.toArray .deferred =
      b.atR { tmps := args.toArray ++ Array.replicate (fn.ntmps - args.toArray.size) undef, defers := [] } [.code c] := by
    simp [Frame.enter, Frame.atR, hf, hb, b]
  have hc : ({ c₀ with mode := u } : Frame) = c₀ := by subst hu; rfl
  have hw := h G rest _ w c₀ cs (init_rel hN hlt hi ok)
  rw [hc] at hw
  obtain ⟨e, a', cs', w', hl, ⟨u', τ, rfl, hr, hle, hq⟩, harr⟩ := hw b [] rfl rfl trivial hroom
  rw [← henter] at harr
  have fin : ∀ todo, (∃ vs own', resE τ.env rs = some vs ∧ (own' ++ rest).Sublist τ.own ∧ R u' τ.H own') → τ.df = [] →
      StepsIn (Machine.fenced P Fence.wide) P (lone (Frame.enter P f args.toArray .deferred) (c₀ :: cs) w) (lone { b.atR a' todo with mode := .returning } ({ c₀ with mode := u' } :: cs) w') →
      ∃ e u' w' fr, ((∃ v, e = .returned v) ∧ ∃ H' own', Le H H' ∧ Ok G H' (own' ++ rest) w' ∧ R u' H' own') ∧
        ComesIn (Machine.fenced P Fence.wide) P (lone (Frame.enter P f args.toArray .deferred) (c₀ :: cs) w) (lone fr ({ c₀ with mode := u' } :: cs) w') e ∧ fr.kind = .deferred ∧ fr.fn = f ∧ fr.going P w' e := by
    intro todo ⟨vs, own', hres, hs, hR⟩ hd hsteps
    obtain ⟨ms, hdf, hok⟩ := hr.ok
    obtain ⟨w2, h2, ok2⟩ := marks_steps (P := P) ms w' { b.atR a' todo with mode := .returning } ({ c₀ with mode := u' } :: cs) rfl (by show a'.defers = _; rw [hdf, hd, List.append_nil]) (by simpa using hok)
    exact ⟨.returned (resV vs), u', w2, _, ⟨⟨_, rfl⟩, τ.H, own', hle, ok2.shrink (Le.refl _) hs, hR⟩, StepsIn.trans hsteps h2, rfl, rfl, rfl, rfl, fn, hf, results_run hr hrs hres⟩
  cases e with
  | normal =>
    obtain ⟨hd, hq⟩ := hq
    exact fin [] hq hd (StepsIn.trans harr (.one (fenced_calm (fr := b.atR a' []) (n := 0) trivial hroom rfl) (stepR_end rfl)))
  | ret =>
    obtain ⟨hd, hq⟩ := hq
    obtain ⟨todo, hs⟩ := harr.1 rfl
    exact fin todo hq hd hs
  | panic chain => exact hq.elim
  | exit id => exact hq.elim
  | goto l => exact hq.elim
  | outgrown => exact hq.elim
end Go.XL

/- Functions that defer a call, panics, interface values. No statement of the program stands here. -/
set_option autoImplicit false
set_option linter.unusedSimpArgs false
set_option linter.unusedVariables false
namespace Go.XL
/-- what is to be shown where a frame leaves that has deferred one call -/
def leaveD (P : Program) (rs : List ResultVar) (R : Ending → Hp → Own → Prop) (rest : Own) (u : FrameMode) (σ : St) : Prop :=
  ∃ (f : FuncId) (cap dargs : Array Value) (ms0 : List Nat) (own1 own2 : Own), σ.df = ⟨.fn (.func f) cap, dargs⟩ :: ms0.map mark ∧ σ.own.Perm (own1 ++ (own2 ++ ms0.map hid)) ∧
    FnD P f (dargs ++ cap) u σ.H own1 fun u' H' own1' => settle u' = .returning ∧ ∃ vs own'', resC P σ.env (own1' ++ own2) rs vs ∧ (own'' ++ rest).Sublist (own1' ++ own2) ∧ R (.returned (resV vs)) H' own''
def bodyQD (P : Program) (rs : List ResultVar) (R : Ending → Hp → Own → Prop) (rest : Own) : Exit → St → Prop
  | .normal, σ | .ret, σ => leaveD P rs R rest .returning σ
  | .panic ch, σ => leaveD P rs R rest (.panicking ch) σ
  | _, _ => False
theorem leavesM2 {P : Program} {fn : Func} {tmps : Array Value} {G : World} {H : Hp} {u : FrameMode} (hu : u ≠ .run) {R : Ending → World → Prop} {ds : List Deferred} : ∀ (ms : List Nat) (own : Own) (w : World),
    Ok G H (own ++ ms.map hid) w → (∀ w', Ok G H own w' → LeavesInM Fence.wide 0 P fn tmps R ds u w') → LeavesInM Fence.wide 0 P fn tmps R (ms.map mark ++ ds) u w
  | [], own, w, ok, h => by simpa using h w (by simpa using ok)
  | r :: ms, own, w, ok, h => by
    obtain ⟨w1, h1, ok1⟩ := takeMark (P := P) ok
    exact ⟨hu, .inl ⟨r, w1, rfl, h1, leavesM2 hu ms own w1 ok1 h⟩⟩
theorem FnC.introD {P : Program} {f : FuncId} {fn : Func} {c : Code} {args : List Value} {H : Hp} {own : Own} {R : Ending → Hp → Own → Prop} {N : Nat} {env : Env} {rs : List ResultVar}
    (hf : P.funcs[f]? = some fn) (hb : fn.body = some c) (hn : (fn.name == "runtime.NumGoroutine") = false) (hN : fn.ntmps = N) (hrs : fn.results = rs.toArray) (hlt : Nat.ble args.length N = true)
    (hi : Env.init 0 args = some env)
    (h : ∀ G rest, XC ⟨P, G, N, none, []⟩ c (bodyQD P rs R rest) ⟨env, [], H, own ++ rest⟩) : FnC P f args.toArray H own R := by
  refine ⟨callable_of hf hb hn, fun G rest w ok => ?_⟩
  refine callsIn_wide.1 (callsIn_of_wp_marks (n := 0) hf hb trivial ?_)
  refine Go.wpIn_mono (h G rest _ w (init_rel hN hlt hi ok)) ?_
  intro e a w' ⟨τ, hr, hle, hq⟩
  have key : ∀ u, u ≠ .run → leaveD P rs R rest u τ → LeavesInM Fence.wide 0 P fn a.tmps (fun e w' => e ≠ .outgrown ∧ ∃ H' own', Le H H' ∧ Ok G H' (own' ++ rest) w' ∧ R e H' own') a.defers u w' := by
    intro u hu ⟨g, cap, dargs, ms0, own1, own2, hdf, hperm, hD⟩
    obtain ⟨ms, hd, hok⟩ := hr.ok
    rw [hd, hdf]
    refine leavesM2 hu ms τ.own w' (by simpa using hok) fun w1 ok1 => ?_
    refine ⟨hu, .inr ⟨fun hx => (by cases hx), .func g, cap, g, dargs ++ cap, rfl, hD.1 _ _, fun _ _ => trivial, ?_⟩⟩
    have ok2 : Ok G τ.H (own1 ++ (own2 ++ ms0.map hid)) w1 := ok1.perm hperm.symm
    refine (hD.2 G (own2 ++ ms0.map hid) w1 ok2).mono ?_
    rintro e u' w2 ⟨⟨v, rfl⟩, H', own1', hle', ok3, hset, vs, own'', hres, hsub, hR⟩
    show LeavesInM Fence.wide 0 P fn a.tmps _ (ms0.map mark) (settle u') w2
    rw [hset]
    refine leavesM (by simp) ms0 (own1' ++ own2) w2 (by rw [List.append_assoc]; exact ok3) ?_
    intro w3 ok4
    have hrel : Rel ⟨P, G, N, none, []⟩ ⟨τ.env, a.defers, H', own1' ++ own2⟩ a w3 := ⟨hr.size, hr.get, [], rfl, by simpa using ok4⟩
    refine ⟨_, results_runC (fr := []) hrel (by simpa using ok4) hrs hres, by simp, H', own'', hle.trans hle', ok4.shrink (Le.refl _) hsub, hR⟩
  cases e with
  | normal => exact key .returning (by simp) hq
  | ret => exact key .returning (by simp) hq
  | panic chain => exact key (.panicking chain) (by simp) hq
  | exit _ => exact hq.elim
  | goto _ => exact hq.elim
  | outgrown => exact hq.elim
theorem at_perm : ∀ (own : Own) (i : Nat) (p : Nat × SObj), Own.at own i = some p → own.Perm (p :: own.eraseIdx i)
  | [], _, _, h => by cases h
  | q :: r, 0, p, h => by simp only [Own.at, Option.some.injEq] at h; subst h; exact List.Perm.refl _
  | q :: r, i + 1, p, h => by
    have := at_perm r i p h
    rw [List.eraseIdx_cons_succ]
    exact (this.cons q).trans (List.Perm.swap _ _ _)
theorem leaveD_one {P : Program} {rs : List ResultVar} {R : Ending → Hp → Own → Prop} {rest rest' : Own} {u : FrameMode} {env : Env} {H : Hp} {L own : Own} {ms : List Nat} {f : FuncId} {dargs : Array Value} (i : Nat) {p : Nat × SObj} (hL : own = L ++ rest') (hrest : rest' = rest ++ ms.map hid) (hp : Own.at L i = some p)
    (hD : FnD P f dargs u H [p] fun u' H' own1' => settle u' = .returning ∧ ∃ p' vs, own1' = [p'] ∧ resC P env (p' :: (L.eraseIdx i ++ rest)) rs vs ∧ R (.returned (resV vs)) H' []) :
    leaveD P rs R rest u ⟨env, ⟨.fn (.func f) #[], dargs⟩ :: ms.map mark, H, own⟩ := by
  subst hL; subst hrest
  refine ⟨f, #[], dargs, ms, [p], L.eraseIdx i ++ rest, rfl, ?_, ?_⟩
  · have := (at_perm L i p hp).append_right (rest ++ ms.map hid)
    simpa using this
  · rw [Array.append_empty]
    refine hD.mono ?_
    rintro u' H' own' _ ⟨h1, p', vs, rfl, h2, h3⟩
    exact ⟨h1, vs, [], h2, (List.sublist_append_right _ _).cons _, h3⟩
def PanR (ch : List PanicEntry) : Ending → Hp → Own → Prop
  | .panicked c, _, own => c = ch ∧ own = []
  | _, _, _ => False
theorem PanR.mk {ch : List PanicEntry} {H : Hp} : PanR ch (.panicked ch) H [] := ⟨rfl, rfl⟩
section
variable {C : Ctx} {ops : Array Oper} {Q : Exit → St → Prop} {rest : List Oper} {env : Env} {df : List Deferred} {H : Hp} {own : Own} {dst : Option Tmp} {ty : TypeId} {pos : String} {af : Array Edge}
theorem XO.defer0 {f : FuncId} {xs : List Operand} {ts : Array TypeId} {vs : List Value} {L rst : Own} (hr : C.r = none) (hh : C.hid = []) (hxs : evs env xs = some vs) (ho : own = L ++ rst) (hd : dst = none)
    (h : ∀ ms rst', rst' = rst ++ List.map hid ms → XO C ops Q rest ⟨env, ⟨.fn (.func f) #[], vs.toArray⟩ :: ms.map mark, H, L ++ rst'⟩) :
    XO C ops Q (⟨dst, .defer { callee := .value (.func f), args := xs.toArray, argTypes := ts }, ty, pos, af, none⟩ :: rest) ⟨env, [], H, own⟩ := by
  intro a w hrel
  refine wpListIn_plain rfl fun K hK => ⟨fun _ _ => trivial, ?_⟩
  obtain ⟨ms, hdf, hok⟩ := hrel.ok
  subst ho; subst hd
  have hrun : (Oper.semAt (Fr C.r).round a.eval ⟨none, .defer { callee := .value (.func f), args := xs.toArray, argTypes := ts }, ty, pos, af, none⟩).run C.P w = .ok (.defer ⟨.fn (.func f) #[], vs.toArray⟩) w := by
    rw [show (Fr C.r).round = none from hr, Oper.semAt_none]
    simp only [execOp, resolve, Sem.run_bind]
    have : xs.toArray.map a.eval = vs.toArray := by simp [hrel.evals hxs]
    simp [this, Act.eval, Deferred.ofValue, Sem.run, Pure.pure, Result.andThen]
  rw [hrun]
  have hrel2 : Rel C ⟨env, ⟨.fn (.func f) #[], vs.toArray⟩ :: ms.map mark, H, L ++ (rst ++ ms.map hid)⟩ ({ a with defers := ⟨.fn (.func f) #[], vs.toArray⟩ :: a.defers }.put none undef) w := by
    refine ⟨hrel.size, hrel.get, [], ?_, ?_⟩
    · show ⟨.fn (.func f) #[], vs.toArray⟩ :: a.defers = _
      rw [hdf]; simp
    · rw [hh] at hok ⊢
      simpa using hok
  exact hK _ _ (h ms _ rfl _ w hrel2)
theorem XO.panic {x : Operand} {t : TypeId} {v : Value} (hx : ev env x = some (.iface t v)) (h : Q (.panic [{ v := .iface t v, recovered := false }]) ⟨env, df, H, own⟩) :
    XO C ops Q (⟨dst, .panic x, ty, pos, af, none⟩ :: rest) ⟨env, df, H, own⟩ := by
  intro a w hrel
  refine wpListIn_plain rfl fun K hK => ⟨fun _ _ => trivial, ?_⟩
  rw [semAt_plain _ _ _ rfl]
  have hrun : (execOp a.eval ⟨dst, .panic x, ty, pos, af, none⟩).run C.P w = .halt (.panic (.iface t v)) w := by
    simp [execOp, hrel.eval hx, Instr.panic, goPanic, Sem.run_bind, Sem.run, Result.andThen]
  rw [hrun]
  exact ⟨_, hrel, Le.refl _, h⟩
theorem XO.makeInterface {x : Operand} {t : TypeId} {v : Value} {ut : TypeDesc} (hx : ev env x = some v) (ht : C.P.underlying t = some ut) (hi : ∀ ms, ut ≠ .interface ms) (hd : dstOk C.N dst = true) (h : XO C ops Q rest ⟨putE dst (.iface t v) env, df, H, own⟩) :
    XO C ops Q (⟨dst, .makeInterface t x, ty, pos, af, none⟩ :: rest) ⟨env, df, H, own⟩ := by
  refine XO.pure rfl rfl hd (fun ρ ha w => ?_) h
  simp only [execOp, ha _ _ hx, Instr.makeInterface, underlying, program, Sem.run_bind]
  simp only [Sem.run, Pure.pure, Result.andThen, ht]
theorem equal_nilI {P : Program} {t : TypeId} {v : Value} {ms : Array (String × TypeId)} {b : Bool} (hv : (v = .nilIface ∧ b = false) ∨ (∃ t2 u, v = .iface t2 u ∧ b = true)) (ht : P.underlying t = some (.interface ms)) (w : World) : (Op.equal t v .nilIface).run P w = .ok (!b) w := by
  have h0 : (underlying t).run P w = .ok (.interface ms) w := by
    simp only [underlying, program, Sem.run_bind, Sem.run, Result.andThen, ht]; rfl
  rw [Op.equal, show Op.maxDepth = 9999 + 1 from rfl, Op.equalIn, Sem.run_bind, h0]
  rcases hv with ⟨rfl, rfl⟩ | ⟨t2, u, rfl, rfl⟩ <;> rfl
theorem XO.neqNilI {x : Operand} {t : TypeId} {v : Value} {ms : Array (String × TypeId)} {b : Bool} (hx : ev env x = some v) (hv : (v = .nilIface ∧ b = false) ∨ (∃ t2 u, v = .iface t2 u ∧ b = true)) (ht : C.P.underlying t = some (.interface ms)) (hd : dstOk C.N dst = true) (h : XO C ops Q rest ⟨putE dst (.bool b) env, df, H, own⟩) {yt : TypeId} :
    XO C ops Q (⟨dst, .binOp .neq t x (.const .nilIface) yt, ty, pos, af, none⟩ :: rest) ⟨env, df, H, own⟩ := by
  refine XO.pure rfl rfl hd (fun ρ ha w => ?_) h
  have hy : ρ (.const .nilIface) = .nilIface := ha (.const .nilIface) _ rfl
  have hgd : ∀ w, (eqGuard .neq t x (.const .nilIface) v .nilIface).run C.P w = .ok () w := by
    intro w
    rcases hv with ⟨rfl, rfl⟩ | ⟨t2, u, rfl, rfl⟩
    · cases x <;> rfl
    · rfl
  have hbin : (binOp .neq t v .nilIface).run C.P w = .ok (.bool b) w := by
    have e1 : binOp .neq t v .nilIface = (do Pure.pure (Value.bool (!(← Op.equal t v .nilIface))) : Sem Value) := by
      rcases hv with ⟨rfl, rfl⟩ | ⟨t2, u, rfl, rfl⟩ <;> rfl
    rw [e1, Sem.run_bind, equal_nilI hv ht]
    cases b <;> rfl
  simp only [execOp, ha _ _ hx, hy, Sem.run_bind, hgd]
  simp only [Result.andThen, hbin]
  rfl
theorem XO.assertOk {x : Operand} {st t : TypeId} {v : Value} {k : IntKind} (hx : ev env x = some (.iface t v)) (ht : C.P.underlying t = some (.int k)) (hd : dstOk C.N dst = true) (h : XO C ops Q rest ⟨putE dst (.tuple #[v, .bool true]) env, df, H, own⟩) :
    XO C ops Q (⟨dst, .typeAssert x st t true, ty, pos, af, none⟩ :: rest) ⟨env, df, H, own⟩ := by
  refine XO.pure rfl rfl hd (fun ρ ha w => ?_) h
  simp [execOp, ha _ _ hx, Instr.typeAssert, underlying, program, Sem.run_bind, Sem.run, Pure.pure, Result.andThen, ht]
theorem XO.assertVal {x : Operand} {st t : TypeId} {v : Value} {k : IntKind} (hx : ev env x = some (.iface t v)) (ht : C.P.underlying t = some (.int k)) (hd : dstOk C.N dst = true) (h : XO C ops Q rest ⟨putE dst v env, df, H, own⟩) :
    XO C ops Q (⟨dst, .typeAssert x st t false, ty, pos, af, none⟩ :: rest) ⟨env, df, H, own⟩ := by
  refine XO.pure rfl rfl hd (fun ρ ha w => ?_) h
  simp [execOp, ha _ _ hx, Instr.typeAssert, underlying, program, Sem.run_bind, Sem.run, Pure.pure, Result.andThen, ht]
theorem XO.nilCheckP {x : Operand} {a : Addr} (hx : ev env x = some (.pointer (some a))) (hd : dstOk C.N dst = true) (h : XO C ops Q rest ⟨putE dst (.pointer (some a)) env, df, H, own⟩) :
    XO C ops Q (⟨dst, .nilCheck x, ty, pos, af, none⟩ :: rest) ⟨env, df, H, own⟩ := by
  refine XO.pure rfl rfl hd (fun ρ ha w => ?_) h
  simp [execOp, ha _ _ hx, Sem.run, Pure.pure]
theorem XO.callP {f : FuncId} {xs : List Operand} {ts : Array TypeId} {vs : List Value} {ch : List PanicEntry} (hxs : evs env xs = some vs) (hf : FnC C.P f vs.toArray H [] (PanR ch)) (hd : dstOk C.N dst = true)
    (h : ∀ H', Le H H' → Q (.panic ch) ⟨env, df, H', own⟩) : XO C ops Q (⟨dst, .call { callee := .value (.func f), args := xs.toArray, argTypes := ts }, ty, pos, af, none⟩ :: rest) ⟨env, df, H, own⟩ :=
  XO.call0 hxs hf hd (rst := own) rfl (fun _ _ _ _ hR => hR.elim) (fun c H' own' hle hR => by obtain ⟨rfl, rfl⟩ := hR; exact h H' hle)
end
end Go.XL

/- Calls that are handed a block of the call's own, and give it back changed. No statement of the program stands here. -/
set_option autoImplicit false
set_option linter.unusedSimpArgs false
set_option linter.unusedVariables false
namespace Go.XL
theorem set2_perm : ∀ (own : Own) (i : Nat) (p p' : Nat × SObj), Own.at own i = some p → (Own.set2 own i p').Perm (p' :: own.eraseIdx i)
  | [], _, _, _, h => by cases h
  | q :: r, 0, p, p', h => List.Perm.refl _
  | q :: r, i + 1, p, p', h => by
    have := set2_perm r i p p' h
    rw [List.eraseIdx_cons_succ]
    exact (this.cons q).trans (List.Perm.swap _ _ _)
section
variable {C : Ctx} {ops : Array Oper} {Q : Exit → St → Prop} {rest : List Oper} {env : Env} {df : List Deferred} {H : Hp} {own : Own} {dst : Option Tmp} {ty : TypeId} {pos : String} {af : Array Edge}
theorem XO.perm {own' : Own} (hp : own.Perm own') (h : XO C ops Q rest ⟨env, df, H, own'⟩) : XO C ops Q rest ⟨env, df, H, own⟩ := by
  intro a w hr
  obtain ⟨ms, hdf, hok⟩ := hr.ok
  exact h a w ⟨hr.size, hr.get, ms, hdf, hok.perm (hp.symm.append_right _)⟩
theorem XO.callF (i : Nat) {f : FuncId} {xs : List Operand} {ts : Array TypeId} {vs : List Value} {p : Nat × SObj} {K : Value → Hp → Own → Prop} (hxs : evs env xs = some vs) (hf : FnC C.P f vs.toArray H [p] (RetR K)) (hd : dstOk C.N dst = true) (ho : Own.at own i = some p)
    (h : ∀ v H' own', Le H H' → K v H' own' → ∃ p', own' = [p'] ∧ XO C ops Q rest ⟨putE dst v env, df, H', Own.set2 own i p'⟩) :
    XO C ops Q (⟨dst, .call { callee := .value (.func f), args := xs.toArray, argTypes := ts }, ty, pos, af, none⟩ :: rest) ⟨env, df, H, own⟩ := by
  refine XO.perm (at_perm own i p ho) ?_
  refine XO.call0 hxs hf hd (rst := own.eraseIdx i) rfl (fun v H' own' hle hR => ?_) (fun _ _ _ _ hR => hR.elim)
  obtain ⟨p', rfl, hk⟩ := h v H' own' hle hR
  exact ⟨H', [p'] ++ own.eraseIdx i, hle, Le.refl _, List.Sublist.refl _, XO.perm (set2_perm own i p p' ho).symm hk⟩
end
end Go.XL

/- A region that draws its order, in which one operation changes a block that was there before. No statement of the program stands here. -/
set_option autoImplicit false
set_option linter.unusedSimpArgs false
set_option linter.unusedVariables false
namespace Go.XL
def stepQV (Gd : Hp → Prop) (dst : Option Tmp) (f : Value → Hp → Prop) (fo : Value → Nat × SObj → Hp → Prop) (env : Env) (df : List Deferred) (own : Own) : Exit → St → Prop
  | .normal, σ => Gd σ.H ∧ σ.df = df ∧ ∃ v e, σ.env = putE dst v env ∧ f v σ.H ∧ σ.own = e :: own ∧ fo v e σ.H
  | _, _ => False
theorem stepQV_ok {Gd : Hp → Prop} {dst : Option Tmp} {f : Value → Hp → Prop} {fo : Value → Nat × SObj → Hp → Prop} {env : Env} {df : List Deferred} {own : Own} {H : Hp} {v : Value} {e : Nat × SObj} (hG : Gd H) (hf : f v H) (hfo : fo v e H) :
    stepQV Gd dst f fo env df own .normal ⟨putE dst v env, df, H, e :: own⟩ := ⟨hG, rfl, v, e, rfl, hf, rfl, hfo⟩
def foV (i0 k : Nat) (FOa : Nat × SObj → Hp → Prop) (FO2 : Value → Nat × SObj → Hp → Prop) (e0 : Nat × SObj) : Value → Nat × SObj → Hp → Prop := fun v e H => if k = i0 then FO2 v e H else e = e0
def stepsV (Gd : Hp → Prop) (i0 : Nat) (FOa : Nat × SObj → Hp → Prop) (FO2 : Value → Nat × SObj → Hp → Prop) (C : Ctx) (l : List Oper) (F : List (Value → Hp → Prop)) (env : Env) (df : List Deferred) (H : Hp) (own : Own) (m : Nat) : Nat → List Oper → Prop
  | _, [] => True
  | k, o :: rest => bif Nat.blt k m then
      (∀ X e H', Le H H' → Gd H' → (k = i0 → FOa e H') → withP l F H' (predsG o) [] fun acc => XO C l.toArray (stepQV Gd o.dst (factAt F k) (foV i0 k FOa FO2 e) (acc ++ (env ++ X)) df own) [o] ⟨acc ++ (env ++ X), df, H', e :: own⟩) ∧ stepsV Gd i0 FOa FO2 C l F env df H own m (k + 1) rest
    else True
theorem stepsV_cons {Gd : Hp → Prop} {i0 : Nat} {FOa : Nat × SObj → Hp → Prop} {FO2 : Value → Nat × SObj → Hp → Prop} {C : Ctx} {l : List Oper} {F : List (Value → Hp → Prop)} {env : Env} {df : List Deferred} {H : Hp} {own : Own} {m k : Nat} {o : Oper} {rest : List Oper} (hk : Nat.blt k m = true)
    (h : ∀ X e H', Le H H' → Gd H' → (k = i0 → FOa e H') → withP l F H' (predsG o) [] fun acc => XO C l.toArray (stepQV Gd o.dst (factAt F k) (foV i0 k FOa FO2 e) (acc ++ (env ++ X)) df own) [o] ⟨acc ++ (env ++ X), df, H', e :: own⟩) (k2 : stepsV Gd i0 FOa FO2 C l F env df H own m (k + 1) rest) : stepsV Gd i0 FOa FO2 C l F env df H own m k (o :: rest) := by
  rw [stepsV, hk]; exact ⟨h, k2⟩
theorem stepsV_end {Gd : Hp → Prop} {i0 : Nat} {FOa : Nat × SObj → Hp → Prop} {FO2 : Value → Nat × SObj → Hp → Prop} {C : Ctx} {l : List Oper} {F : List (Value → Hp → Prop)} {env : Env} {df : List Deferred} {H : Hp} {own : Own} {m k : Nat} {rest : List Oper} (hk : Nat.blt k m = false) : stepsV Gd i0 FOa FO2 C l F env df H own m k rest := by
  cases rest with
  | nil => trivial
  | cons o r => rw [stepsV, hk]; trivial
section
variable {C : Ctx} {Q : Exit → St → Prop} {env : Env} {df : List Deferred} {H : Hp} {own : Own}
theorem stepsV_at {Gd : Hp → Prop} {i0 : Nat} {FOa : Nat × SObj → Hp → Prop} {FO2 : Value → Nat × SObj → Hp → Prop} {l : List Oper} {F : List (Value → Hp → Prop)} {m : Nat} : ∀ (rest : List Oper) (k : Nat), stepsV Gd i0 FOa FO2 C l F env df H own m k rest → ∀ (i : Nat) (o : Oper), rest[i]? = some o → k + i < m →
    ∀ X e H', Le H H' → Gd H' → (k + i = i0 → FOa e H') → withP l F H' (predsG o) [] fun acc => XO C l.toArray (stepQV Gd o.dst (factAt F (k + i)) (foV i0 (k + i) FOa FO2 e) (acc ++ (env ++ X)) df own) [o] ⟨acc ++ (env ++ X), df, H', e :: own⟩
  | [], k, _, i, o, hi, _ => by simp at hi
  | x :: rest, k, h, i, o, hi, hlt => by
    simp only [stepsV] at h
    rw [show Nat.blt k m = true by simp; omega] at h
    cases i with
    | zero => simp only [List.getElem?_cons_zero, Option.some.injEq] at hi; subst hi; exact h.1
    | succ i =>
      have := stepsV_at rest (k + 1) h.2 i o (by simpa using hi) (by omega)
      rwa [show k + 1 + i = k + (i + 1) by omega] at this
theorem XC.drawV (Gd : Hp → Prop) (hG : Gd H) (i0 : Nat) (FOa : Nat × SObj → Hp → Prop) (FO2 : Value → Nat × SObj → Hp → Prop) (hFOa : ∀ p H H', Le H H' → FOa p H → FOa p H') (hFO2 : ∀ v p H H', Le H H' → FO2 v p H → FO2 v p H') {id : Nat} {l : List Oper} (m : Nat) (F : List (Value → Hp → Prop)) (hm : C.P.follows .mixedOrders = true) (hck : drawOkH m l (env.map Prod.fst) = true) (hmono' : monoL F)
    (hi0 : Nat.blt i0 m = true) {t0 : Tmp} (ht0 : dstOf l i0 = some t0) {q : Nat × SObj} (hq0 : FOa q H) (steps : stepsV Gd i0 FOa FO2 C l F env df H own m 0 l)
    (tail : ∀ H', Le H H' → Gd H' → withP l F H' (List.range m) [] fun acc => ∀ e, (∀ v, Env.get acc t0 = some v → FO2 v e H') → XO C l.toArray Q (l.drop m) ⟨acc ++ env, df, H', e :: own⟩) : XC C (.region id l.toArray true) Q ⟨env, df, H, q :: own⟩ := by
  have hmono := monoF_of hmono'
  intro a₀ w₀ hr₀
  refine wpIn_region_any hm ?_
  simp only [drawOkH, Bool.and_eq_true, List.all_eq_true, List.mem_range] at hck
  obtain ⟨⟨hml, hck1⟩, hck2⟩ := hck
  have hml := Nat.le_of_ble_eq_true hml
  have hpre : ∀ i, i < m → ∃ o, l[i]? = some o ∧ (∀ t, o.dst = some t → t ∉ env.map Prod.fst ∧ (∀ j, j < m → i ≠ j → dstOf l j ≠ some t)) ∧ (∀ e ∈ o.after, Region.binds .any e = true → e.on < i) ∧ (∀ j ∈ predsG o, j < m ∧ ∃ e ∈ o.after, Region.binds .any e = true ∧ e.on = j) := by
    intro i hi
    have h := hck1 i hi
    split at h
    · rename_i o ho
      simp only [Bool.and_eq_true, List.all_eq_true] at h
      obtain ⟨⟨⟨hnd, hd⟩, haf⟩, hp⟩ := h
      refine ⟨o, ho, ?_, ?_, ?_⟩
      · intro t ht
        rw [ht] at hd
        simp only [Bool.and_eq_true, List.all_eq_true, List.mem_range, Bool.not_eq_true', List.contains_eq_mem, decide_eq_false_iff_not] at hd
        refine ⟨hd.1, fun j hj hne he => ?_⟩
        have := hd.2 j hj
        rw [he] at this
        simp at this
        exact hne this
      · intro e he hb
        have := haf e (by simpa using he)
        simpa [hb] using this
      · intro j hj
        have := hp j hj
        simp only [List.any_eq_true, Bool.and_eq_true] at this
        obtain ⟨h1, e, he, hb, hon⟩ := this
        exact ⟨by simpa using h1, e, by simpa using he, hb, Nat.eq_of_beq_eq_true hon⟩
    · cases h
  have hkey : ∀ i t, i < m → dstOf l i = some t → t ∉ env.map Prod.fst := by
    intro i t hi ht
    obtain ⟨o, ho, hd, _⟩ := hpre i hi
    exact (hd t (by simpa [dstOf, ho] using ht)).1
  have hdis : ∀ i j t, i < m → j < m → dstOf l i = some t → dstOf l j = some t → i = j := by
    intro i j t hi hj ht ht2
    obtain ⟨o, ho, hd, _⟩ := hpre i hi
    by_cases h : i = j
    · exact h
    · exact absurd ht2 ((hd t (by simpa [dstOf, ho] using ht)).2 j hj h)
  have htl : ∀ (i : Nat) (o : Oper), m ≤ i → l[i]? = some o → (∀ j, j < i → waitsB l l.length o j = true) ∧ (∀ e ∈ o.after, Region.binds .any e = true → e.on < i) := by
    intro i o hi ho
    have hlt := (List.getElem?_eq_some_iff.1 ho).1
    have h := hck2 i hlt
    rw [ho] at h
    rw [show Nat.blt i m = false from blt_ge hi] at h
    simp only [Bool.false_or, Bool.and_eq_true, List.all_eq_true, List.mem_range] at h
    refine ⟨fun j hj => h.1 j hj, fun e he hb => ?_⟩
    · have := h.2 e (by simpa using he)
      simpa [hb] using this
  have hdc : ∀ (i : Nat) (o : Oper), l[i]? = some o → ∀ e ∈ o.after, Region.binds .any e = true → e.on < i := by
    intro i o ho
    rcases Nat.lt_or_ge i m with h | h
    · obtain ⟨o2, ho2, _, haf, _⟩ := hpre i h
      rw [ho] at ho2; cases ho2; exact haf
    · exact (htl i o h ho).2
  have main : ∀ (fuel : Nat) (L : Array Bool) (a : Act) (w : World) (val : Nat → Value) (ent : Nat × SObj) (H' : Hp), L.size = l.length → unl l.length L ≤ fuel → Le H H' → Gd H' → (∀ (i : Nat) (o : Oper), l[i]? = some o → lst L i = true → ∀ e ∈ o.after, Region.binds .any e = true → lst L e.on = true) → (∀ j, m ≤ j → lst L j = false) →
      a.tmps.size = C.N → (∀ t v, env.get t = some v → a.tmps.getD t undef = v) → (∃ ms : List Nat, a.defers = ms.map mark ++ df ∧ Ok C.G H' ((ent :: own) ++ (ms.map hid ++ C.hid)) w) → (if lst L i0 = true then FO2 (val i0) ent H' else FOa ent H') →
      (∀ i, i < m → lst L i = true → ∀ t, dstOf l i = some t → a.tmps.getD t undef = val i ∧ factAt F i (val i) H') →
      wpAnyIn (Fr C.r) 0 C.P .any l.toArray (lift C H Q) fuel L a w := by
    intro fuel
    have done : ∀ (fuel : Nat) (L : Array Bool) (a : Act) (w : World) (val : Nat → Value) (ent : Nat × SObj) (H' : Hp), L.size = l.length → unl l.length L ≤ fuel → Le H H' → Gd H' → (∀ j, m ≤ j → lst L j = false) →
        a.tmps.size = C.N → (∀ t v, env.get t = some v → a.tmps.getD t undef = v) → (∃ ms : List Nat, a.defers = ms.map mark ++ df ∧ Ok C.G H' ((ent :: own) ++ (ms.map hid ++ C.hid)) w) → (if lst L i0 = true then FO2 (val i0) ent H' else FOa ent H') →
        (∀ i, i < m → lst L i = true → ∀ t, dstOf l i = some t → a.tmps.getD t undef = val i ∧ factAt F i (val i) H') → (∀ j, j < m → lst L j = true) →
        wpAnyIn (Fr C.r) 0 C.P .any l.toArray (lift C H Q) fuel L a w := by
      intro fuel L a w val ent H' hs hu hle hGd hT hsz henv hok hents hfacts hall
      obtain ⟨acc', hk, hmem⟩ := withP_of (val := val) (List.range m) [] _ (tail H' hle hGd) (fun j hj t ht => (hfacts j (List.mem_range.1 hj) (hall j (List.mem_range.1 hj)) t ht).2)
      have hcount : l.length - m ≤ fuel := by rw [count_tail hml hall hT]; exact hu
      refine drawTail (m := m) htl hdc fuel m L a w (Nat.le_refl _) hs hcount hml ?_ ?_
      · intro j
        rcases Nat.lt_or_ge j m with h | h
        · rw [hall j h]; simp [h]
        · rw [hT j h]; simp; omega
      · have him0 : i0 < m := by simpa using hi0
        have hk2 := hk ent (fun v hg => by
          obtain ⟨j, hj, hdj, rfl⟩ := hmem t0 v (env_get_mem (by simpa using hg))
          obtain rfl := hdis i0 j t0 him0 (List.mem_range.1 hj) ht0 hdj
          rw [if_pos (hall i0 him0)] at hents
          exact hents)
        refine wpList_mono hle _ _ _ (hk2 a w ⟨hsz, ?_, hok⟩)
        intro t v hg
        simp only [List.append_nil] at hg
        rw [Env.get_append] at hg
        cases hga : Env.get acc' t with
        | none => rw [hga] at hg; exact henv t v (by simpa using hg)
        | some u =>
          rw [hga] at hg; simp at hg; subst hg
          obtain ⟨j, hj, hd, rfl⟩ := hmem t u (get_mem _ _ _ hga)
          have hj := List.mem_range.1 hj
          exact (hfacts j hj (hall j hj) t hd).1
    induction fuel with
    | zero =>
      intro L a w val ent H' hs hu hle hGd hdown hT hsz henv hok hents hfacts
      refine done 0 L a w val ent H' hs hu hle hGd hT hsz henv hok hents hfacts ?_
      intro j hj
      cases hx : lst L j with
      | true => rfl
      | false =>
        have := unl_set (L := L) (i := j) hs (by omega) hx
        omega
    | succ fuel ih =>
      intro L a w val ent H' hs hu hle hGd hdown hT hsz henv hok hents hfacts
      by_cases hall : ∀ j, j < m → lst L j = true
      · exact done (fuel + 1) L a w val ent H' hs hu hle hGd hT hsz henv hok hents hfacts hall
      · constructor
        · intro hnil
          exfalso
          apply hall
          -- the least one that is not listed is ready
          intro j hj
          induction j using Nat.strongRecOn with
          | _ j ihj =>
            cases hx : lst L j with
            | true => rfl
            | false =>
              exfalso
              obtain ⟨o, ho, _, haf, _⟩ := hpre j hj
              have : j ∈ Region.ready .any l.toArray L := by
                rw [mem_ready]
                refine ⟨?_, o, by simpa using ho, fun e he hb => ihj e.on (haf e he hb) (by have := haf e he hb; omega)⟩
                unfold lst at hx
                rw [Array.getD_eq_getD_getElem?, Array.getElem?_eq_getElem (by omega)] at hx ⊢
                simpa using hx
              rw [hnil] at this; cases this
        · intro i hi
          rw [mem_ready] at hi
          obtain ⟨h0, o, ho, hbef⟩ := hi
          have hilt : i < l.length := by simpa using (Array.getElem?_eq_some_iff.1 ho).1
          have hun : lst L i = false := by
            unfold lst
            rw [Array.getD_eq_getD_getElem?, Array.getElem?_eq_getElem (by omega)] at h0 ⊢
            simpa using h0
          have ho' : l[i]? = some o := by simpa using ho
          have him : i < m := by
            rcases Nat.lt_or_ge i m with h | h
            · exact h
            · exfalso
              apply hall
              intro j hj
              exact waits_listed hdown _ o j hbef ((htl i o h ho').1 j (by omega))
          obtain ⟨o2, ho2, hd, haf, hprd⟩ := hpre i him
          rw [ho'] at ho2; cases ho2
          have hdo : dstOf l i = o.dst := by simp [dstOf, ho']
          have hst := stepsV_at l 0 steps i o ho' (by omega)
          simp only [Nat.zero_add] at hst
          -- all that is known of the slots, as one list
          let X : Env := (List.range m).filterMap fun j => if lst L j then (dstOf l j).map fun t => (t, val j) else none
          have hpredF : ∀ j ∈ predsG o, ∀ tj, dstOf l j = some tj → factAt F j (val j) H' := fun j hj tj hdj => by
            obtain ⟨hjm, e, he, hb, hon⟩ := hprd j hj
            have hlj : lst L j = true := by have := hbef e he hb; rw [hon] at this; exact this
            exact (hfacts j hjm hlj tj hdj).2
          have hX : ∀ t v, (t, v) ∈ X → ∃ j, j < m ∧ lst L j = true ∧ dstOf l j = some t ∧ v = val j := by
            intro t v h
            obtain ⟨j, hj, hjj⟩ := List.mem_filterMap.1 h
            split at hjj
            · rename_i hlj
              cases hdj : dstOf l j with
              | none => rw [hdj] at hjj; cases hjj
              | some tj =>
                rw [hdj] at hjj
                simp only [Option.map_some, Option.some.injEq, Prod.mk.injEq] at hjj
                obtain ⟨rfl, rfl⟩ := hjj
                exact ⟨j, List.mem_range.1 hj, hlj, hdj, rfl⟩
            · cases hjj
          have hgets : ∀ acc' : Env, (∀ t v, (t, v) ∈ acc' → ∃ j ∈ predsG o, dstOf l j = some t ∧ v = val j) → ∀ t v, Env.get (acc' ++ (env ++ X)) t = some v → a.tmps.getD t undef = v := by
            intro acc' hmem t v hgv
            rw [Env.get_append, Env.get_append] at hgv
            cases hga : Env.get acc' t with
            | some u =>
              rw [hga] at hgv; simp at hgv; subst hgv
              obtain ⟨j, hj, hdj, rfl⟩ := hmem t u (get_mem _ _ _ hga)
              obtain ⟨hjm, e, he, hb, hon⟩ := hprd j hj
              have hlj : lst L j = true := by have := hbef e he hb; rw [hon] at this; exact this
              exact (hfacts j hjm hlj t hdj).1
            | none =>
              rw [hga] at hgv; simp only [Option.none_or] at hgv
              cases hge : Env.get env t with
              | some u => rw [hge] at hgv; simp at hgv; subst hgv; exact henv t u hge
              | none =>
                rw [hge] at hgv; simp only [Option.none_or] at hgv
                obtain ⟨j, hj, hlj, hdj, rfl⟩ := hX t v (get_mem _ _ _ hgv)
                exact (hfacts j hj hlj t hdj).1
          have hnextG : ∀ (acc' : Env), (∀ t v, (t, v) ∈ acc' → ∃ j ∈ predsG o, dstOf l j = some t ∧ v = val j) → ∀ (a' : Act) (w' : World) (σ' : St) (v : Value) (ent' : Nat × SObj), Rel C σ' a' w' → Le H' σ'.H → Gd σ'.H → σ'.df = df → σ'.env = putE o.dst v (acc' ++ (env ++ X)) → factAt F i v σ'.H →
              (∀ ms : List Nat, Ok C.G σ'.H (σ'.own ++ (ms.map hid ++ C.hid)) w' → Ok C.G σ'.H ((ent' :: own) ++ (ms.map hid ++ C.hid)) w') →
              (if lst (L.setIfInBounds i true) i0 = true then FO2 (if i0 = i then v else val i0) ent' σ'.H else FOa ent' σ'.H) →
              wpAnyIn (Fr C.r) 0 C.P .any l.toArray (lift C H Q) fuel (L.setIfInBounds i true) a' w' := by
            intro acc' hmem a' w' σ' v ent' hr' hle' hGd' hdf' henv' hfv hown' hent'
            refine ih (L.setIfInBounds i true) a' w' (fun j => if j = i then v else val j) ent' σ'.H (by simpa using hs) ?_ (hle.trans hle') hGd' ?_ ?_ hr'.size ?_ ?_ hent' ?_
            · have := unl_set hs hilt hun; omega
            · intro i' o' hi' hl' e he hb
              rw [lst_set (by omega)] at hl' ⊢
              split
              · rfl
              · split at hl'
                · rename_i e1 e2; subst e2; rw [ho'] at hi'; cases hi'; exact hbef e he hb
                · exact hdown i' o' hi' hl' e he hb
            · intro j hj
              rw [lst_set (by omega), if_neg (by omega)]
              exact hT j hj
            · intro t' v' hg'
              refine hr'.get t' v' ?_
              have hin : t' ∈ env.map Prod.fst := List.mem_map.2 ⟨(t', v'), get_mem _ _ _ hg', rfl⟩
              rw [henv', get_putE_ne (fun e => (hd t' e).1 hin), Env.get_append, Env.get_append]
              have : Env.get acc' t' = none := by
                cases hga : Env.get acc' t' with
                | none => rfl
                | some u =>
                  obtain ⟨j, hj, hdj, _⟩ := hmem t' u (get_mem _ _ _ hga)
                  exact absurd hin (hkey j t' (hprd j hj).1 hdj)
              rw [this, hg']; rfl
            · obtain ⟨ms, hd', hok'⟩ := hr'.ok
              exact ⟨ms, by rw [hd', hdf'], hown' ms hok'⟩
            · intro j hj hlj tj htj
              rw [lst_set (by omega)] at hlj
              by_cases hji : j = i
              · subst hji
                rw [hdo] at htj
                simp only [if_true]
                refine ⟨hr'.get tj v ?_, hfv⟩
                rw [henv', htj]; simp [putE, Env.get]
              · rw [if_neg hji] at hlj
                obtain ⟨h1, h2⟩ := hfacts j hj hlj tj htj
                simp only [if_neg hji]
                refine ⟨hr'.get tj (val j) ?_, factAt_mono hmono hle' h2⟩
                rw [henv', get_putE_ne (fun e => hji (hdis j i tj hj him htj (by rw [hdo, e]))), Env.get_append, Env.get_append]
                have hacc : Env.get acc' tj = none ∨ Env.get acc' tj = some (val j) := by
                  cases hga : Env.get acc' tj with
                  | none => exact .inl rfl
                  | some u =>
                    obtain ⟨j', hj', hdj', rfl⟩ := hmem tj u (get_mem _ _ _ hga)
                    obtain rfl := hdis j' j tj (hprd j' hj').1 hj hdj' htj
                    exact .inr rfl
                rcases hacc with hacc | hacc
                · rw [hacc]
                  have henvn : Env.get env tj = none := by
                    cases hge : Env.get env tj with
                    | none => rfl
                    | some u => exact absurd (List.mem_map.2 ⟨(tj, u), get_mem _ _ _ hge, rfl⟩) (hkey j tj hj htj)
                  rw [henvn]
                  simp only [Option.none_or]
                  -- it stands in X, once
                  refine get_uniq X (List.mem_filterMap.2 ⟨j, List.mem_range.2 hj, by simp only [hlj, if_true, htj, Option.map_some]⟩) ?_
                  intro u hu'
                  obtain ⟨j', hj', _, hdj', rfl⟩ := hX tj u hu'
                  obtain rfl := hdis j' j tj hj' hj hdj' htj
                  rfl
                · rw [hacc]; rfl
          have hcase : ∀ (acc' : Env) (own2 : Own) (Q2 : Exit → St → Prop), (∀ e σ, e ≠ .normal → ¬ Q2 e σ) → XO C l.toArray Q2 [o] ⟨acc' ++ (env ++ X), df, H', own2⟩ → Rel C ⟨acc' ++ (env ++ X), df, H', own2⟩ a w →
              (∀ a' w', lift C H' Q2 .normal a' w' → wpAnyIn (Fr C.r) 0 C.P .any l.toArray (lift C H Q) fuel (L.setIfInBounds i true) a' w') → wpOpIn (Fr C.r) 0 C.P l.toArray (lift C H Q) i (fun a' w' => wpAnyIn (Fr C.r) 0 C.P .any l.toArray (lift C H Q) fuel (L.setIfInBounds i true) a' w') a w := by
            intro acc' own2 Q2 hno hk hrel hnext
            have hrun := hk a w hrel
            unfold wpOpIn
            rw [ho]
            simp only [wpListIn] at hrun ⊢
            split
            · rename_i hw
              rw [if_pos hw] at hrun
              refine wpInOper_mono hnext ?_ hrun
              rintro e a' w' he ⟨σ', _, _, hq⟩
              exact absurd hq (hno e σ' he)
            · rename_i hw
              rw [if_neg hw] at hrun
              exact ⟨hrun.1, hnext _ _ hrun.2⟩
          obtain ⟨acc', hk, hmem⟩ := withP_of (val := val) (predsG o) [] _ (hst X ent H' hle hGd (fun e => by
            rw [e] at hun
            rw [hun, if_neg (by simp)] at hents
            exact hents)) hpredF
          simp only [List.append_nil] at hk
          refine hcase acc' _ _ (fun e σ he => by cases e <;> first | exact absurd rfl he | exact fun h => h) hk ⟨hsz, hgets acc' hmem, hok⟩ ?_
          rintro a' w' ⟨σ', hr', hle', hGd', hdf', v, e2, henv', hfv, hown', hfo⟩
          refine hnextG acc' hmem a' w' σ' v e2 hr' hle' hGd' hdf' henv' hfv ?_ ?_
          · intro ms hok'
            rw [hown'] at hok'
            exact hok'
          · unfold foV at hfo
            by_cases hii : i = i0
            · rw [if_pos hii] at hfo
              rw [lst_set (by omega), if_pos hii.symm, if_pos rfl, if_pos hii.symm]
              exact hfo
            · rw [if_neg hii] at hfo
              subst hfo
              have hne : ¬ i0 = i := fun e => hii e.symm
              have hls : lst (L.setIfInBounds i true) i0 = lst L i0 := by rw [lst_set (by omega), if_neg hne]
              rw [hls]
              simp only [if_neg hne]
              split
              · rename_i h5; rw [if_pos h5] at hents; exact hFO2 _ _ _ _ hle' hents
              · rename_i h5; rw [if_neg h5] at hents; exact hFOa _ _ _ hle' hents
  have hlst0 : ∀ j, lst (Array.replicate l.toArray.size false) j = false := fun j => by simp [lst, Array.getD_eq_getD_getElem?, Array.getElem?_replicate]; split <;> rfl
  exact main l.toArray.size (Array.replicate l.toArray.size false) a₀ _ (fun _ => undef) q H (by simp) (by
      refine Nat.le_trans (List.countP_le_length) (by simp)) (Le.refl _) hG (fun i o _ hl => by
      have : lst (Array.replicate l.toArray.size false) i = false := by simp [lst, Array.getD_eq_getD_getElem?, Array.getElem?_replicate]; split <;> rfl
      rw [this] at hl; cases hl) (fun j _ => by simp [lst, Array.getD_eq_getD_getElem?, Array.getElem?_replicate]; split <;> rfl) hr₀.size hr₀.get
    (let ⟨ms, hd, hok⟩ := hr₀.ok; ⟨ms, hd, hok.drew⟩) (by rw [hlst0, if_neg (by simp)]; exact hq0) (fun i _ h => by
      have : lst (Array.replicate l.toArray.size false) i = false := by simp [lst, Array.getD_eq_getD_getElem?, Array.getElem?_replicate]; split <;> rfl
      rw [this] at h; cases h)
end
end Go.XL

/- Method values. No statement of the program stands here. -/
set_option autoImplicit false
set_option linter.unusedSimpArgs false
set_option linter.unusedVariables false
namespace Go.XL
theorem FnV.of_first {P : Program} {f : FuncId} {fst args cap : List Value} {H : Hp} {own : Own} {R : Ending → Hp → Own → Prop} (h : FnC P f (fst ++ args ++ cap).toArray H own R) : FnV P (.func (.func f) fst.toArray cap.toArray) args H own R := by
  intro G rest w ok
  refine ⟨_, .enter f (fst ++ args ++ cap).toArray, w, rfl, ?_, h.2 G rest w ok⟩
  have := h.1 (fst ++ args ++ cap).toArray w
  simpa [invoke] using this
theorem XO.makeFunc1 {C : Ctx} {ops : Array Oper} {Q : Exit → St → Prop} {rest : List Oper} {env : Env} {df : List Deferred} {H : Hp} {own : Own} {dst : Option Tmp} {ty : TypeId} {pos : String} {af : Array Edge} {fn : Fn} {fs cs : List Operand} {us vs : List Value} (hf : evs env fs = some us) (hc : evs env cs = some vs) (hd : dstOk C.N dst = true)
    (h : XO C ops Q rest ⟨putE dst (.func fn us.toArray vs.toArray) env, df, H, own⟩) : XO C ops Q (⟨dst, .makeFunc fn fs.toArray cs.toArray, ty, pos, af, none⟩ :: rest) ⟨env, df, H, own⟩ :=
  XO.pure rfl rfl hd (fun ρ ha w => by
    have h1 := evs_map ha hc
    have h2 := evs_map ha hf
    simp [execOp, Instr.makeFunc, h1, h2, Sem.run, Pure.pure, bind, Sem.bind]) h
end Go.XL

/- Loops over functions that lend their own blocks to the loop's body; own slices that are cut short. No statement of the program stands here. -/
set_option autoImplicit false
set_option linter.unusedSimpArgs false
set_option linter.unusedVariables false
set_option linter.unnecessarySimpa false
namespace Go.XL
/-- What a loop's rounds have gathered so far: a state that a greater heap leaves as it is. -/
structure JS (α : Type) where
  St : List α → Hp → Own → Prop
  mono : ∀ l H H' o, Le H H' → St l H o → St l H' o
def JS.Holds {α : Type} (J : JS α) (l : List α) (H : Hp) (o : Own) : Prop := J.St l H o
theorem JS.Holds.mono {α : Type} {J : JS α} {l : List α} {H H' : Hp} {o : Own} (h : J.Holds l H o) (hle : Le H H') : J.Holds l H' o := J.mono _ _ _ _ hle h
/-- what is asked of a loop's body, as the iterator sees it -/
def YOk {α β : Type} (P : Program) (yv : Value) (H : Hp) (enc : α → β → List Value) (lend : α → β → Hp → Own → Prop) (xs : List α) (J : JS α) (K : Hp → Own → Prop) : Prop :=
  ∀ pre x post, xs = pre ++ x :: post → ∀ bx H' ol own', Le H H' → J.Holds pre H' own' → lend x bx H' ol →
      FnV P yv (enc x bx) H' (ol ++ own') (RetR fun v H'' own'' => (v = .bool true ∧ ∃ own3, own'' = ol ++ own3 ∧ J.Holds (pre ++ [x]) H'' own3) ∨ (v = .bool false ∧ K H'' own''))
/-- As SeqC, but each element is handed out with blocks of the iterator's own, which come back as they were. -/
def SeqL {α β : Type} (P : Program) (f : FuncId) (cap : List Value) (H : Hp) (ownI : Own) (enc : α → β → List Value) (lend : α → β → Hp → Own → Prop) (xs : List α) : Prop :=
  ∀ (yv : Value) (J : JS α) (K : Hp → Own → Prop) (ownY : Own), YOk P yv H enc lend xs J K → J.Holds [] H ownY →
    FnC P f ((yv :: cap).toArray) H (ownI ++ ownY) (RetR fun v H' own' => v = .tuple #[] ∧ ∃ ownI' ownY', own' = ownI' ++ ownY' ∧ (J.Holds xs H' ownY' ∨ K H' ownY'))
section
variable {C : Ctx} {Q : Exit → St → Prop} {env : Env} {df : List Deferred} {H : Hp} {own : Own}

theorem XC.rangeFuncL {α β : Type} {g : Operand} {ps : List Tmp} {assign body : Code} {f : FuncId} {cap : List Value} {enc : α → β → List Value} {lend : α → β → Hp → Own → Prop} {xs : List α} {ownI own2 : Own}
    (hg : ev env g = some (.func (.func f) #[] cap.toArray)) (hseq : SeqL C.P f cap H ownI enc lend xs) (hps : ∀ x b, (enc x b).length = ps.length) (hpN : (ps.all fun p => Nat.blt p C.N) = true)
    (ho : own = ownI ++ own2) (I : List α → Hp → Own → Prop) (Kx : Code → Hp → Own → Prop) (hI : ∀ p H H' o, Le H H' → I p H o → I p H' o) (h0 : I [] H own2)
    (hround : C.r = none ∨ ∃ l0 r0, C.r = some l0 ∧ (l0, SObj.obj (.loop r0)) ∈ C.hid)
    (hbody : ∀ G l hd1 hd2, (∃ r0, (l, SObj.obj (.loop r0)) ∈ hd2) → ∀ pre x post, xs = pre ++ x :: post → ∀ bx H' ol own', Le H H' → I pre H' own' → lend x bx H' ol →
      XC ⟨C.P, G, C.N, some l, hd1⟩ assign (assignQ ⟨C.P, G, C.N, some l, hd2⟩ body (roundQ l (fun p H2 o => ∃ o3, o = ol ++ o3 ∧ I p H2 o3) Kx (pre ++ [x]))) ⟨bindP ps (enc x bx) env, [], H', ol ++ own'⟩)
    (hdone : ∀ H' own', Le H H' → I xs H' own' → Q .normal ⟨env, df, H', own'⟩)
    (hjump : ∀ c H' own', Le H H' → Kx c H' own' → XC C c Q ⟨env, df, H', own'⟩) : XC C (.rangeFunc g ps.toArray assign body) Q ⟨env, df, H, own⟩ := by
  intro a w hr
  refine wpIn_rangeFunc ?_
  intro fn hfn
  subst ho
  obtain ⟨l, mk, w₁, D, ms', hrun, hdf, hok₁⟩ := enter_loop (fn := fn) (ps := ps.toArray) (as := assign) (bd := body) hr hround
  have hga := hr.eval hg
  let rec0 : Loop := { state := .ready, pending := none, fn, tmps := a.tmps, params := ps.toArray, assign := assign, body := body, defers := D }
  let yv : Value := .func (.yield l) #[] #[]
  let J : JS α := ⟨fun pre H' ownY => ∃ own2', ownY = (l, .obj (.loop rec0)) :: own2' ∧ I pre H' own2', fun p H1 H2 o hle ⟨o2, e, h⟩ => ⟨o2, e, hI p H1 H2 o2 hle h⟩⟩
  let K : Hp → Own → Prop := fun H' ownY => ∃ own2' c, ownY = (l, .obj (.loop { rec0 with state := .done, pending := some c })) :: own2' ∧ Kx c H' own2'
  have hcall := hseq yv J K ((l, .obj (.loop rec0)) :: own2) (by
    rintro pre x post hxs bx H' ol ownY hle ⟨own2', rfl, hI⟩ hlend
    intro G rst w hok
    have hok' : Ok G H' ((l, .obj (.loop rec0)) :: ((ol ++ own2') ++ rst)) w := hok.perm (by
      simp only [List.append_assoc, List.cons_append]; exact List.perm_middle.symm)
    have hl := hok'.objAt
    refine ⟨{ target := .fn (.yield l) #[], args := #[] ++ (enc x bx).toArray }, .round l fn ((ps.toArray.zip (enc x bx).toArray).foldl (fun tmps (t, a) => tmps.setIfInBounds t a) a.tmps) assign body, w, rfl, ?_, ?_⟩
    · have := run_yield (P := C.P) (args := (enc x bx).toArray) hl (by simp [rec0, hps])
      show (Instr.yield l (#[] ++ (enc x bx).toArray)).run C.P w = _
      rw [Array.empty_append]
      exact this
    · refine roundIn_of_wpIn trivial ?_
      have hfold : ((ps.toArray.zip (enc x bx).toArray).foldl (fun tmps (t, a) => tmps.setIfInBounds t a) a.tmps) = ((ps.zip (enc x bx)).foldl (fun (tmps : Array Value) (x : Tmp × Value) => tmps.setIfInBounds x.1 x.2) a.tmps) := by
        rw [← Array.foldl_toList]; simp
      rw [hfold]
      obtain ⟨hsz, hget⟩ := bind_get ps (enc x bx) env a.tmps (by simp [hps]) (fun p hp => by
        have := List.all_eq_true.1 hpN p hp
        rw [hr.size]; simpa using this) hr.get
      have hX := hbody G l ((l, .obj (.loop rec0)) :: rst) ((l, .obj (.loop { rec0 with state := .busy })) :: rst) ⟨_, List.mem_cons_self⟩ pre x post hxs bx H' ol own2' hle hI hlend
      have hrel : Rel ⟨C.P, G, C.N, some l, (l, .obj (.loop rec0)) :: rst⟩ ⟨bindP ps (enc x bx) env, [], H', ol ++ own2'⟩ { tmps := ((ps.zip (enc x bx)).foldl (fun (tmps : Array Value) (x : Tmp × Value) => tmps.setIfInBounds x.1 x.2) a.tmps), defers := [] } w :=
        ⟨by rw [← hr.size]; exact hsz, hget, [], rfl, hok'.perm (by simp only [List.map_nil, List.nil_append]; exact List.perm_middle)⟩
      refine Go.wpIn_mono (hX _ _ hrel) ?_
      rintro e a₁ w₁ ⟨σ, hr₁, hle₁, hq⟩
      cases e with
      | normal =>
        obtain ⟨ms₁, hd₁, hok₁⟩ := hr₁.ok
        have hok₂ : Ok G σ.H ((l, .obj (.loop rec0)) :: (σ.own ++ (ms₁.map hid ++ rst))) w₁ := hok₁.perm (by
          rw [← List.append_assoc, ← List.append_assoc]; exact List.perm_middle.symm)
        have hbeg := run_beginRound (P := C.P) hok₂.objAt rfl
        refine ⟨_, hbeg, ?_⟩
        have hok₃ := hok₂.putObj (o' := .loop { rec0 with state := .busy })
        have hrel₂ : Rel ⟨C.P, G, C.N, some l, (l, .obj (.loop { rec0 with state := .busy })) :: rst⟩ σ a₁ (w₁.putObj l (.loop { rec0 with state := .busy })) :=
          ⟨hr₁.size, hr₁.get, ms₁, hd₁, hok₃.perm (by rw [← List.append_assoc, ← List.append_assoc]; exact List.perm_middle)⟩
        refine Go.wpIn_mono (hq _ _ hrel₂) ?_
        rintro e a₂ w₂ ⟨τ, hr₂, hle₂, hq₂⟩
        obtain ⟨ms₂, hd₂, hok₄⟩ := hr₂.ok
        have hok₅ : Ok G τ.H ((l, .obj (.loop { rec0 with state := .busy })) :: (τ.own ++ (ms₂.map hid ++ rst))) w₂ := hok₄.perm (by
          rw [← List.append_assoc, ← List.append_assoc]; exact List.perm_middle.symm)
        have hend := fun j => run_endRound (P := C.P) j hok₅.objAt
        have leave : ∀ (c : Code), (∃ o, o.Sublist τ.own ∧ Kx c τ.H o) → ∃ v w', (Instr.endRound l (some c)).run C.P w₂ = .ok v w' ∧ (Ending.returned v ≠ .outgrown ∧ ∃ H'' own'', Le H' H'' ∧ Ok G H'' (own'' ++ rst) w' ∧ RetR (fun v H'' own'' => (v = .bool true ∧ ∃ own3, own'' = ol ++ own3 ∧ J.Holds (pre ++ [x]) H'' own3) ∨ (v = .bool false ∧ K H'' own'')) (.returned v) H'' own'') := by
          rintro c ⟨o, hs, hk⟩
          refine ⟨_, _, hend (some c), by simp, τ.H, (l, .obj (.loop { rec0 with state := .done, pending := some c })) :: o, hle₁.trans hle₂, ?_, .inr ⟨rfl, o, c, rfl, hk⟩⟩
          refine (hok₅.putObj (o' := .loop { rec0 with state := .done, pending := some c })).shrink (Le.refl _) ?_
          exact List.Sublist.cons_cons _ (hs.append (List.sublist_append_right _ _))
        cases e with
        | normal =>
          obtain ⟨_, o, hs, o3, rfl, hI'⟩ := hq₂
          refine ⟨_, _, hend none, by simp, τ.H, ol ++ (l, .obj (.loop rec0)) :: o3, hle₁.trans hle₂, ?_, .inl ⟨rfl, _, rfl, o3, rfl, hI'⟩⟩
          have hk := (hok₅.putObj (o' := .loop rec0)).shrink (Le.refl _) (List.Sublist.cons_cons _ (hs.append (List.sublist_append_right _ _)) : ((l, SObj.obj (.loop rec0)) :: ((ol ++ o3) ++ rst)).Sublist _)
          refine hk.perm ?_
          simp only [List.append_assoc, List.cons_append]; exact List.perm_middle
        | exit id => exact leave _ hq₂.2
        | goto t => exact leave _ hq₂.2
        | ret => exact leave _ hq₂.2
        | panic ch => exact hq₂.elim
        | outgrown => exact hq₂.elim
      | exit id => exact hq.elim
      | goto t => exact hq.elim
      | ret => exact hq.elim
      | panic ch => exact hq.elim
      | outgrown => exact hq.elim) ⟨own2, rfl, h0⟩
  refine ⟨l, mk, w₁, { target := .fn (.func f) cap.toArray, args := #[] ++ #[yv] }, w₁, f, (yv :: cap).toArray, w₁, hrun, ?_, fun _ _ => trivial, ?_, fun h => (by cases h), ?_⟩
  · have hm : Array.map a.eval #[Operand.const (Value.func (Fn.yield l) #[] #[])] = #[yv] := by simp [Act.eval, yv]
    simp only [resolve, rangeCall, hga, hm]
    rfl
  · have := hcall.1 (yv :: cap).toArray w₁
    show (callFunc f ((#[] ++ #[yv]) ++ cap.toArray)).run C.P w₁ = _
    have e : (#[] ++ #[yv] ++ cap.toArray : Array Value) = (yv :: cap).toArray := by simp
    rw [e]
    exact this
  · have hok₂ : Ok C.G H ((ownI ++ (l, .obj (.loop rec0)) :: own2) ++ (ms'.map hid ++ C.hid)) w₁ := hok₁.perm (by
      simp only [List.append_assoc, List.cons_append]; exact List.perm_middle)
    have hc : CallsIn Fence.wide (0 - 1) C.P f (yv :: cap).toArray w₁ _ := callsIn_wide.2 (hcall.2 C.G _ w₁ hok₂)
    have hc2 : CallsIn (Fr C.r) (0 - 1) C.P f (yv :: cap).toArray w₁ _ := hc
    refine ⟨hc2.1, fun cs hcs => ?_⟩
    obtain ⟨e, w₃, fr, ⟨hne, H', own', hle, hok₃, hR⟩, hx⟩ := hc2.2 cs hcs
    refine ⟨e, w₃, fr, ?_, hx⟩
    cases e with
    | outgrown => exact absurd rfl hne
    | panicked ch => exact hR.elim
    | returned v =>
      obtain ⟨_, ownI', ownY', rfl, hJK⟩ := hR
      have key : ∀ (r : Loop) (o : Own), ownY' = (l, .obj (.loop r)) :: o → r.state ≠ .busy → (Instr.endLoop l).run C.P w₃ = .ok r.pending (w₃.putObj l (.loop { r with state := .exhausted })) ∧
          Rel C ⟨env, df, H', o⟩ { a with defers := mk ++ a.defers } (w₃.putObj l (.loop { r with state := .exhausted })) := by
        rintro r o rfl hb
        have hok₄ : Ok C.G H' ((l, .obj (.loop r)) :: (ownI' ++ (o ++ (ms'.map hid ++ C.hid)))) w₃ := hok₃.perm (by
          simp only [List.append_assoc, List.cons_append]; exact List.perm_middle.symm)
        refine ⟨run_endLoop hok₄.objAt hb, hr.size, hr.get, ms', hdf, ?_⟩
        exact (hok₄.putObj (o' := .loop { r with state := .exhausted })).shrink (Le.refl _) (.cons _ (List.sublist_append_right _ _))
      rcases hJK with ⟨o, ho, hI⟩ | ⟨o, c, ho, hk⟩
      · obtain ⟨h1, h2⟩ := key rec0 o ho (by simp [rec0])
        exact ⟨none, _, h1, ⟨_, h2, hle, hdone H' o hle hI⟩⟩
      · obtain ⟨h1, h2⟩ := key { rec0 with state := .done, pending := some c } o ho (by simp)
        exact ⟨some c, _, h1, Go.wpIn_mono (hjump c H' o hle hk _ _ h2) fun _ _ _ lf => lift_mono lf hle fun _ _ q => q⟩
end

theorem RowsR.take {α : Type} {ρ : Rep α} {H : Hp} : ∀ {l : List α} {cs : List Value} (k : Nat), RowsR ρ H cs l → ∃ c1 c2, cs = c1 ++ c2 ∧ RowsR ρ H c1 (l.take k)
  | l, cs, 0, h => ⟨[], cs, rfl, by simp [RowsR]⟩
  | [], cs, k + 1, h => ⟨cs, [], by simp, h⟩
  | x :: l, cs, k + 1, ⟨c1, c2, e, h1, h2⟩ => by
    obtain ⟨d1, d2, e2, h3⟩ := RowsR.take k h2
    exact ⟨c1 ++ d1, d2, by rw [e, e2, List.append_assoc], c1, d1, rfl, h1, h3⟩
theorem Acc.take {α : Type} {ρ : Rep α} {T : TypeId} {H : Hp} {p : Nat × SObj} {a : Option Addr} {c : Nat} {l : List α} (h : Acc ρ T H p a c l) (k : Nat) :
    ∃ s', Acc ρ T H (p.1, s') a c (l.take k) ∧ (∀ o, p.2.Is o → s'.Is o) ∧ p.2.some = s'.some := by
  rcases h with ⟨h1, h2, h3, h4⟩ | ⟨xs, h1, h2, h3, h4⟩
  · subst h3
    exact ⟨p.2, .inl ⟨h1, h2, by simp, h4⟩, fun _ h => h, rfl⟩
  · obtain ⟨c1, c2, e, h5⟩ := h3.take k
    refine ⟨.row T (c * ρ.sz) c1, .inr ⟨c1, h1, rfl, h5, ?_⟩, ?_, by rw [h2]; rfl⟩
    · rw [List.length_take]; omega
    · rw [h2]
      rintro o ⟨d, h6, h7⟩
      subst e
      exact ⟨c2 ++ d, by rw [h6, List.append_assoc], by rw [← h7, List.append_assoc]⟩
theorem Ok.weak {G : World} {H : Hp} {pre post : Own} {w : World} {b : Nat} {s s' : SObj} (h : Ok G H (pre ++ (b, s) :: post) w) (hs : ∀ o, s.Is o → s'.Is o) (hk : s.some = s'.some) : Ok G H (pre ++ (b, s') :: post) w := by
  unfold Ok at h ⊢
  rw [live_append] at h ⊢
  cases hb : s.some with
  | false =>
    have e1 : live ((b, s) :: post) = live post := by simp [live, hb]
    have e2 : live ((b, s') :: post) = live post := by simp [live, ← hk, hb]
    rw [e1] at h; rw [e2]; exact h
  | true =>
    rw [live_cons hb] at h
    rw [live_cons (by rw [← hk]; exact hb)]
    refine ⟨h.os, h.tape, h.out, h.pub, fun p hp => ?_, ?_⟩
    · rcases List.mem_append.1 hp with hp | hp
      · exact h.mine p (by simp [hp])
      · rcases List.mem_cons.1 hp with rfl | hp
        · obtain ⟨⟨o, h1, h2⟩, h3⟩ := h.mine (b, s) (by simp)
          exact ⟨⟨o, hs _ h1, h2⟩, h3⟩
        · exact h.mine p (by simp [hp])
    · have := h.nd
      simpa using this
section
variable {C : Ctx} {ops : Array Oper} {Q : Exit → St → Prop} {rest : List Oper} {env : Env} {df : List Deferred} {H : Hp} {own : Own} {dst : Option Tmp} {ty : TypeId} {pos : String} {af : Array Edge}
theorem XO.weakAt (i : Nat) {p : Nat × SObj} {s' : SObj} (ho : Own.at own i = some p) (hs : ∀ o, p.2.Is o → s'.Is o) (hk : p.2.some = s'.some) (h : XO C ops Q rest ⟨env, df, H, Own.set2 own i (p.1, s')⟩) : XO C ops Q rest ⟨env, df, H, own⟩ := by
  obtain ⟨pre, post, rfl, rfl⟩ := Own.at_split ho
  rw [Own.set2_split] at h
  intro a w hr
  obtain ⟨ms, hdf, hok⟩ := hr.ok
  refine h a w ⟨hr.size, hr.get, ms, hdf, ?_⟩
  rw [List.append_assoc, List.cons_append] at hok ⊢
  exact Ok.weak (s := p.2) hok hs hk
/-- l[:n] of an own slice -/
theorem XO.sliceA (i : Nat) {α : Type} {ρ : Rep α} {t e : TypeId} {x y : Operand} {k : IntKind} {p : Nat × SObj} {a : Option Addr} {c : Nat} {l : List α} {agg : Bool} {n : Nat} (hx : ev env x = some (.slice a l.length c)) (hy : ev env y = some (.int k n)) (ho : Own.at own i = some p) (hacc : Acc ρ e H p a c l)
    (hn : n ≤ l.length) (ht : C.P.underlying t = some (.slice e)) (he : tyF C.P e ρ.sz agg = true) (hd : dstOk C.N dst = true)
    (h : ∀ p', Acc ρ e H p' a c (l.take n) → XO C ops Q rest ⟨putE dst (.slice a (l.take n).length c) env, df, H, Own.set2 own i p'⟩) :
    XO C ops Q (⟨dst, .slice t x none (some y) none, ty, pos, af, none⟩ :: rest) ⟨env, df, H, own⟩ := by
  obtain ⟨s', h1, h2, h3⟩ := hacc.take n
  refine XO.weakAt i ho h2 h3 ?_
  have hle := hacc.le
  refine XO.pure rfl rfl hd (fun ρ' ha w => ?_) (h _ h1)
  have hb : (Instr.sliceBounds true l.length c none (some (ρ' y)) none).run C.P w = .ok (0, n, c) w := by
    have b1 : ∀ (code : BoundsCode) (w : World), (Instr.sliceBound (ρ' y) c code).run C.P w = .ok n w := by
      intro code w
      rw [ha _ _ hy]; have := run_bound (P := C.P) (w := w) (k := k) (x := (n : Int)) (y := c) (code := code) (by omega) (by omega); rwa [Int.toNat_natCast] at this
    unfold Instr.sliceBounds
    simp only [Option.map_none, Option.map_some, Sem.run_bind]; simp only [Pure.pure, Sem.run, Result.andThen, Sem.run_bind, if_true, b1, Int.toNat_natCast, Int.toNat_zero]
  have hadd : (if c = 0 then a else a.map (·.add (0 * ρ.sz))) = a := by
    split
    · rfl
    · rcases hacc with ⟨g1, g2, g3, g4⟩ | ⟨xs, g1, g2, g3, g4⟩
      · subst g1; rfl
      · subst g1; simp [Addr.add]
  have hr : (Instr.sliceAt t (.slice a l.length c) none (some (ρ' y)) none).run C.P w = .ok (.slice a n c) w := by
    unfold Instr.sliceAt
    rw [Sem.run_bind, run_underlying ht]
    simp only [Result.andThen, Instr.slice]
    rw [Sem.run_bind, run_underlying ht]
    simp only [Result.andThen, Sem.run_bind, hb, run_sizeOf he]
    rw [hadd]; rfl
  have hlen : (l.take n).length = n := by rw [List.length_take]; omega
  simp only [execOp, ha _ _ hx, Sem.run_bind, Option.map_none, Option.map_some, hr, Result.andThen, hlen]
  rfl
theorem XO.makeCap {α : Type} {ρ : Rep α} {t e : TypeId} {x y : Operand} {k k' : IntKind} {n : Nat} {zs : List Value} {agg : Bool} (hx : ev env x = some (.int k (0 : Nat))) (hy : ev env y = some (.int k' n)) (ht : C.P.underlying t = some (.slice e)) (he : tyF C.P e ρ.sz agg = true) (hz : zeroC C.P e = some zs)
    (hzl : (Nat.blt 0 ρ.sz && Nat.beq zs.length ρ.sz) = true) (hby : Nat.ble (C.P.bytesOf e) 4096 = true) (hn : n ≤ 1073741824) (hd : dstOk C.N dst = true)
    (h : ∀ p, Acc ρ e H p (some ⟨p.1, 0, none⟩) n ([] : List α) → XO C ops Q rest ⟨putE dst (.slice (some ⟨p.1, 0, none⟩) 0 n) env, df, H, p :: own⟩) :
    XO C ops Q (⟨dst, .makeSlice t x y, ty, pos, af, none⟩ :: rest) ⟨env, df, H, own⟩ := by
  refine XO.op rfl rfl hd fun ρ' w fr ha hok => ?_
  simp only [Bool.and_eq_true] at hzl
  have h0 : 0 < ρ.sz := by simpa using hzl.1
  have hzl := Nat.eq_of_beq_eq_true hzl.2
  have hby := Nat.le_of_ble_eq_true hby
  obtain ⟨_, inf, hi, hsz⟩ := tyF_run he
  have hby' : inf.bytes ≤ 4096 := by simpa [Program.bytesOf, hi] using hby
  have hmul : inf.bytes * n ≤ 4398046511104 := Nat.le_trans (Nat.mul_le_mul hby' hn) (by decide)
  obtain ⟨z, hzr, hzc⟩ := run_zero (w := w) hz
  have hcells : (Array.map (fun x => zs.toArray[x % zs.toArray.size]!) (Array.range (n * ρ.sz))) = (repL zs n).toArray := by
    rw [← hzl]; exact zeros_eq zs (by omega) n
  have hacc : Acc ρ e H (w.heap.size, SObj.row e (n * ρ.sz) []) (some ⟨w.heap.size, 0, none⟩) n ([] : List α) := .inr ⟨[], rfl, rfl, rfl, by simp⟩
  refine ⟨.value (.slice (some ⟨w.heap.size, 0, none⟩) 0 n), _, { w with heap := w.heap.push (.cells (repL zs n).toArray e (0, 0)) }, H, _, ?_, .inl rfl, Le.refl _, hok.new (s := .row e (n * ρ.sz) []) ⟨repL zs n, by simp, by simp [repL_length, hzl]⟩, h _ hacc⟩
  have hb : (Instr.makeSlice t (.int k (0 : Nat)) (.int k' n)).run C.P w = .ok (.slice (some ⟨w.heap.size, 0, none⟩) 0 n) { w with heap := w.heap.push (.cells (repL zs n).toArray e (0, 0)) } := by
    have hw : IntKind.i64.wrap (n : Int) = n := wrap_i64 (by omega) (by omega)
    have hw0 : IntKind.i64.wrap ((0 : Nat) : Int) = (0 : Nat) := wrap_i64 (by omega) (by omega)
    unfold Instr.makeSlice
    rw [Sem.run_bind, run_underlying ht]
    simp only [Result.andThen, asInt, asIntOf, Sem.run_bind]
    have hti : (typeInfo e).run C.P w = .ok inf w := by simp [typeInfo, program, hi, Sem.run, Pure.pure, bind, Sem.bind]
    simp only [Pure.pure, Sem.run, Result.andThen, Sem.run_bind, hti, hw, hw0]
    have hcond : ((decide ((n : Int) < 0) || decide (((inf.bytes : Nat) : Int) * (n : Int) > 2 ^ 48) || decide (((0 : Nat) : Int) < 0)) || decide (((0 : Nat) : Int) > n)) = false := by
      have hc : ((inf.bytes : Nat) : Int) * (n : Int) ≤ 4398046511104 := by rw [← Int.natCast_mul]; exact Int.ofNat_le.2 hmul
      have h1 : ¬ ((n : Int) < 0) := by omega
      have h2 : ¬ (((inf.bytes : Nat) : Int) * (n : Int) > 2 ^ 48) := by omega
      have h3 : ¬ (((0 : Nat) : Int) > n) := by omega
      rw [decide_eq_false h1, decide_eq_false h2, decide_eq_false h3]
      rfl
    simp only [hcond, Bool.false_eq_true, if_false, Int.toNat_natCast, run_sizeOf he, Sem.run_bind]
    have hroom : ∀ w : World, (askRoom (n * inf.bytes)).run C.P w = .ok () w := by
      intro w; unfold askRoom; split <;> rfl
    rw [hroom]
    simp only [Result.andThen]
    by_cases hn0 : n * ρ.sz = 0
    · have hn1 : n = 0 := by rcases Nat.mul_eq_zero.1 hn0 with h | h; exact h; omega
      subst hn1
      have e1 : ∀ g : Nat → Value, Array.map g (Array.range 0) = #[] := by intro g; simp
      simp only [Nat.zero_mul, if_true, e1]
      simp [newRow, newObj, Sem.run, bind, Sem.bind, Pure.pure, repL, Result.andThen, Sem.run_bind]
    · rw [if_neg hn0]
      simp only [Sem.run_bind, hzr, Result.andThen]
      simp only [Pure.pure, Sem.run, Result.andThen, hzc, hcells]
      simp [newRow, newObj, Sem.run, bind, Sem.bind, Pure.pure]
  simp only [execOp, ha _ _ hx, ha _ _ hy, Sem.run_bind, hb, Result.andThen]
  rfl

theorem XO.eqlNil {x : Operand} {t e : TypeId} {a : Option Addr} {n c n' c' : Nat} (hx : ev env x = some (.slice a n c)) (ht : C.P.underlying t = some (.slice e)) (hd : dstOk C.N dst = true) (h : XO C ops Q rest ⟨putE dst (.bool a.isNone) env, df, H, own⟩) {yt : TypeId} :
    XO C ops Q (⟨dst, .binOp .eql t x (.const (.slice none n' c')) yt, ty, pos, af, none⟩ :: rest) ⟨env, df, H, own⟩ := by
  refine XO.pure rfl rfl hd (fun ρ ha w => ?_) h
  have hy : ρ (.const (.slice none n' c')) = .slice none n' c' := ha (.const (.slice none n' c')) _ rfl
  have hgd : ∀ w, (eqGuard .eql t x (.const (.slice none n' c')) (.slice a n c) (.slice none n' c')).run C.P w = .ok () w := fun w => rfl
  have hb : (binOp .eql t (.slice a n c) (.slice none n' c')).run C.P w = .ok (.bool a.isNone) w := by
    have e1 : binOp .eql t (.slice a n c) (.slice none n' c') = (do Pure.pure (Value.bool (← Op.equal t (.slice a n c) (.slice none n' c'))) : Sem Value) := rfl
    have e2 : Op.equal t (.slice a n c) (.slice none n' c') = Op.equalIn (9999 + 1) t (.slice a n c) (.slice none n' c') := rfl
    rw [e1, Sem.run_bind, e2, Go.Lib.run_equalIn_slice_nil w 9999 t e a n c n' c' ht]
    rfl
  simp only [execOp, ha _ _ hx, hy, Sem.run_bind, hgd]
  simp only [Result.andThen, hb]
  rfl
end
end Go.XL

/- Places where the ways through a function meet again; the greatest of two numbers. No statement of the program stands here. -/
set_option autoImplicit false
set_option linter.unusedSimpArgs false
set_option linter.unusedVariables false
namespace Go.XL
def joinQ (base : Env) {ι : Type} (H0 : Hp) (df : List Deferred) (U : ι → Env) (B : ι → Hp → Own → Prop) (Q : Exit → St → Prop) : Exit → St → Prop
  | .normal, σ => ∃ i, LoopI base H0 df U B i σ
  | e, σ => Q e σ
section
variable {C : Ctx} {Q : Exit → St → Prop} {env : Env} {df : List Deferred} {H : Hp} {own : Own} {ι : Type} {base : Env} {H0 : Hp} {U : ι → Env} {B : ι → Hp → Own → Prop} {σ : St}
/-- 'x' is left in one of the states that U and B describe; from there 'y' goes on. -/
theorem XC.join {x y : Code} (base : Env) (U : ι → Env) (B : ι → Hp → Own → Prop) (hb : Prov env base) (h1 : Le H H → XC C x (joinQ base H df U B Q) ⟨env, df, H, own⟩)
    (h2 : ∀ i H' own', Le H H' → B i H' own' → XC C y Q ⟨U i ++ base, df, H', own'⟩) : XC C (.seq x y) Q ⟨env, df, H, own⟩ := by
  refine XC.seq ((h1 (Le.refl _)).mono ?_)
  intro e τ hle q
  cases e with
  | normal =>
    obtain ⟨i, own1, hB, hp, ho, hd, hle2⟩ := q
    obtain ⟨env', df', H', own'⟩ := τ
    cases hd
    exact fun a w hr => h2 i _ own1 hle2 hB a w (hr.weaken hp (Le.refl _) ho)
  | exit _ => exact q
  | goto _ => exact q
  | ret => exact q
  | panic _ => exact q
  | outgrown => exact q
theorem join_next {env : Env} {H' : Hp} {own' : Own} (j : ι) {own1 : Own} (hp : Prov env (U j ++ base)) (hB : B j H' own1) (ho : own1.Sublist own') (hle : Le H0 H') : joinQ base H0 df U B Q .normal ⟨env, df, H', own'⟩ :=
  ⟨j, own1, hB, hp, ho, rfl, hle⟩
theorem joinX_ret (h : Q .ret σ) : joinQ base H0 df U B Q .ret σ := h
theorem joinX_exit {id : Nat} (h : Q (.exit id) σ) : joinQ base H0 df U B Q (.exit id) σ := h
theorem joinX_panic {ch : List PanicEntry} (h : Q (.panic ch) σ) : joinQ base H0 df U B Q (.panic ch) σ := h
end
end Go.XL

/- Drawn regions with a store: one operation changes a block that was there before, and what must run before it still finds it as it was. No statement of the program stands here. -/
set_option autoImplicit false
set_option linter.unusedSimpArgs false
set_option linter.unusedVariables false
namespace Go.XL
def befI (l : List Oper) (i0 k : Nat) : Bool := match l[i0]? with
  | some o => o.after.toList.any fun e => Region.binds .any e && Nat.beq e.on k
  | none => false
def foS (i0 k : Nat) (FOa : Nat × SObj → Hp → Prop) (FO2 : Nat × SObj → Hp → Prop) (e0 : Nat × SObj) : Value → Nat × SObj → Hp → Prop := fun _ e H => if k = i0 then FO2 e H else e = e0
def stepsS (Gd : Hp → Prop) (i0 : Nat) (FOa : Nat × SObj → Hp → Prop) (FO2 : Nat × SObj → Hp → Prop) (C : Ctx) (l : List Oper) (F : List (Value → Hp → Prop)) (env : Env) (df : List Deferred) (H : Hp) (own : Own) (m : Nat) : Nat → List Oper → Prop
  | _, [] => True
  | k, o :: rest => bif Nat.blt k m then
      (∀ X e H', Le H H' → Gd H' → ((k = i0 ∨ befI l i0 k = true) → FOa e H') → withP l F H' (predsG o) [] fun acc => XO C l.toArray (stepQV Gd o.dst (factAt F k) (foS i0 k FOa FO2 e) (acc ++ (env ++ X)) df own) [o] ⟨acc ++ (env ++ X), df, H', e :: own⟩) ∧ stepsS Gd i0 FOa FO2 C l F env df H own m (k + 1) rest
    else True
theorem stepsS_cons {Gd : Hp → Prop} {i0 : Nat} {FOa : Nat × SObj → Hp → Prop} {FO2 : Nat × SObj → Hp → Prop} {C : Ctx} {l : List Oper} {F : List (Value → Hp → Prop)} {env : Env} {df : List Deferred} {H : Hp} {own : Own} {m k : Nat} {o : Oper} {rest : List Oper} (hk : Nat.blt k m = true)
    (h : ∀ X e H', Le H H' → Gd H' → ((k = i0 ∨ befI l i0 k = true) → FOa e H') → withP l F H' (predsG o) [] fun acc => XO C l.toArray (stepQV Gd o.dst (factAt F k) (foS i0 k FOa FO2 e) (acc ++ (env ++ X)) df own) [o] ⟨acc ++ (env ++ X), df, H', e :: own⟩) (k2 : stepsS Gd i0 FOa FO2 C l F env df H own m (k + 1) rest) : stepsS Gd i0 FOa FO2 C l F env df H own m k (o :: rest) := by
  rw [stepsS, hk]; exact ⟨h, k2⟩
theorem stepsS_end {Gd : Hp → Prop} {i0 : Nat} {FOa : Nat × SObj → Hp → Prop} {FO2 : Nat × SObj → Hp → Prop} {C : Ctx} {l : List Oper} {F : List (Value → Hp → Prop)} {env : Env} {df : List Deferred} {H : Hp} {own : Own} {m k : Nat} {rest : List Oper} (hk : Nat.blt k m = false) : stepsS Gd i0 FOa FO2 C l F env df H own m k rest := by
  cases rest with
  | nil => trivial
  | cons o r => rw [stepsS, hk]; trivial
section
variable {C : Ctx} {Q : Exit → St → Prop} {env : Env} {df : List Deferred} {H : Hp} {own : Own}
theorem stepsS_at {Gd : Hp → Prop} {i0 : Nat} {FOa : Nat × SObj → Hp → Prop} {FO2 : Nat × SObj → Hp → Prop} {l : List Oper} {F : List (Value → Hp → Prop)} {m : Nat} : ∀ (rest : List Oper) (k : Nat), stepsS Gd i0 FOa FO2 C l F env df H own m k rest → ∀ (i : Nat) (o : Oper), rest[i]? = some o → k + i < m →
    ∀ X e H', Le H H' → Gd H' → ((k + i = i0 ∨ befI l i0 (k + i) = true) → FOa e H') → withP l F H' (predsG o) [] fun acc => XO C l.toArray (stepQV Gd o.dst (factAt F (k + i)) (foS i0 (k + i) FOa FO2 e) (acc ++ (env ++ X)) df own) [o] ⟨acc ++ (env ++ X), df, H', e :: own⟩
  | [], k, _, i, o, hi, _ => by simp at hi
  | x :: rest, k, h, i, o, hi, hlt => by
    simp only [stepsS] at h
    rw [show Nat.blt k m = true by simp; omega] at h
    cases i with
    | zero => simp only [List.getElem?_cons_zero, Option.some.injEq] at hi; subst hi; exact h.1
    | succ i =>
      have := stepsS_at rest (k + 1) h.2 i o (by simpa using hi) (by omega)
      rwa [show k + 1 + i = k + (i + 1) by omega] at this
theorem XC.drawS (Gd : Hp → Prop) (hG : Gd H) (i0 : Nat) (FOa : Nat × SObj → Hp → Prop) (FO2 : Nat × SObj → Hp → Prop) (hFOa : ∀ p H H', Le H H' → FOa p H → FOa p H') (hFO2 : ∀ p H H', Le H H' → FO2 p H → FO2 p H') {id : Nat} {l : List Oper} (m : Nat) (F : List (Value → Hp → Prop)) (hm : C.P.follows .mixedOrders = true) (hck : drawOkH m l (env.map Prod.fst) = true) (hmono' : monoL F)
    (hi0 : Nat.blt i0 m = true) {q : Nat × SObj} (hq0 : FOa q H) (steps : stepsS Gd i0 FOa FO2 C l F env df H own m 0 l)
    (tail : ∀ H', Le H H' → Gd H' → withP l F H' (List.range m) [] fun acc => ∀ e, FO2 e H' → XO C l.toArray Q (l.drop m) ⟨acc ++ env, df, H', e :: own⟩) : XC C (.region id l.toArray true) Q ⟨env, df, H, q :: own⟩ := by
  have hmono := monoF_of hmono'
  intro a₀ w₀ hr₀
  refine wpIn_region_any hm ?_
  simp only [drawOkH, Bool.and_eq_true, List.all_eq_true, List.mem_range] at hck
  obtain ⟨⟨hml, hck1⟩, hck2⟩ := hck
  have hml := Nat.le_of_ble_eq_true hml
  have hpre : ∀ i, i < m → ∃ o, l[i]? = some o ∧ (∀ t, o.dst = some t → t ∉ env.map Prod.fst ∧ (∀ j, j < m → i ≠ j → dstOf l j ≠ some t)) ∧ (∀ e ∈ o.after, Region.binds .any e = true → e.on < i) ∧ (∀ j ∈ predsG o, j < m ∧ ∃ e ∈ o.after, Region.binds .any e = true ∧ e.on = j) := by
    intro i hi
    have h := hck1 i hi
    split at h
    · rename_i o ho
      simp only [Bool.and_eq_true, List.all_eq_true] at h
      obtain ⟨⟨⟨hnd, hd⟩, haf⟩, hp⟩ := h
      refine ⟨o, ho, ?_, ?_, ?_⟩
      · intro t ht
        rw [ht] at hd
        simp only [Bool.and_eq_true, List.all_eq_true, List.mem_range, Bool.not_eq_true', List.contains_eq_mem, decide_eq_false_iff_not] at hd
        refine ⟨hd.1, fun j hj hne he => ?_⟩
        have := hd.2 j hj
        rw [he] at this
        simp at this
        exact hne this
      · intro e he hb
        have := haf e (by simpa using he)
        simpa [hb] using this
      · intro j hj
        have := hp j hj
        simp only [List.any_eq_true, Bool.and_eq_true] at this
        obtain ⟨h1, e, he, hb, hon⟩ := this
        exact ⟨by simpa using h1, e, by simpa using he, hb, Nat.eq_of_beq_eq_true hon⟩
    · cases h
  have hkey : ∀ i t, i < m → dstOf l i = some t → t ∉ env.map Prod.fst := by
    intro i t hi ht
    obtain ⟨o, ho, hd, _⟩ := hpre i hi
    exact (hd t (by simpa [dstOf, ho] using ht)).1
  have hdis : ∀ i j t, i < m → j < m → dstOf l i = some t → dstOf l j = some t → i = j := by
    intro i j t hi hj ht ht2
    obtain ⟨o, ho, hd, _⟩ := hpre i hi
    by_cases h : i = j
    · exact h
    · exact absurd ht2 ((hd t (by simpa [dstOf, ho] using ht)).2 j hj h)
  have htl : ∀ (i : Nat) (o : Oper), m ≤ i → l[i]? = some o → (∀ j, j < i → waitsB l l.length o j = true) ∧ (∀ e ∈ o.after, Region.binds .any e = true → e.on < i) := by
    intro i o hi ho
    have hlt := (List.getElem?_eq_some_iff.1 ho).1
    have h := hck2 i hlt
    rw [ho] at h
    rw [show Nat.blt i m = false from blt_ge hi] at h
    simp only [Bool.false_or, Bool.and_eq_true, List.all_eq_true, List.mem_range] at h
    refine ⟨fun j hj => h.1 j hj, fun e he hb => ?_⟩
    · have := h.2 e (by simpa using he)
      simpa [hb] using this
  have hdc : ∀ (i : Nat) (o : Oper), l[i]? = some o → ∀ e ∈ o.after, Region.binds .any e = true → e.on < i := by
    intro i o ho
    rcases Nat.lt_or_ge i m with h | h
    · obtain ⟨o2, ho2, _, haf, _⟩ := hpre i h
      rw [ho] at ho2; cases ho2; exact haf
    · exact (htl i o h ho).2
  have main : ∀ (fuel : Nat) (L : Array Bool) (a : Act) (w : World) (val : Nat → Value) (ent : Nat × SObj) (H' : Hp), L.size = l.length → unl l.length L ≤ fuel → Le H H' → Gd H' → (∀ (i : Nat) (o : Oper), l[i]? = some o → lst L i = true → ∀ e ∈ o.after, Region.binds .any e = true → lst L e.on = true) → (∀ j, m ≤ j → lst L j = false) →
      a.tmps.size = C.N → (∀ t v, env.get t = some v → a.tmps.getD t undef = v) → (∃ ms : List Nat, a.defers = ms.map mark ++ df ∧ Ok C.G H' ((ent :: own) ++ (ms.map hid ++ C.hid)) w) → (if lst L i0 = true then FO2 ent H' else FOa ent H') →
      (∀ i, i < m → lst L i = true → ∀ t, dstOf l i = some t → a.tmps.getD t undef = val i ∧ factAt F i (val i) H') →
      wpAnyIn (Fr C.r) 0 C.P .any l.toArray (lift C H Q) fuel L a w := by
    intro fuel
    have done : ∀ (fuel : Nat) (L : Array Bool) (a : Act) (w : World) (val : Nat → Value) (ent : Nat × SObj) (H' : Hp), L.size = l.length → unl l.length L ≤ fuel → Le H H' → Gd H' → (∀ j, m ≤ j → lst L j = false) →
        a.tmps.size = C.N → (∀ t v, env.get t = some v → a.tmps.getD t undef = v) → (∃ ms : List Nat, a.defers = ms.map mark ++ df ∧ Ok C.G H' ((ent :: own) ++ (ms.map hid ++ C.hid)) w) → (if lst L i0 = true then FO2 ent H' else FOa ent H') →
        (∀ i, i < m → lst L i = true → ∀ t, dstOf l i = some t → a.tmps.getD t undef = val i ∧ factAt F i (val i) H') → (∀ j, j < m → lst L j = true) →
        wpAnyIn (Fr C.r) 0 C.P .any l.toArray (lift C H Q) fuel L a w := by
      intro fuel L a w val ent H' hs hu hle hGd hT hsz henv hok hents hfacts hall
      obtain ⟨acc', hk, hmem⟩ := withP_of (val := val) (List.range m) [] _ (tail H' hle hGd) (fun j hj t ht => (hfacts j (List.mem_range.1 hj) (hall j (List.mem_range.1 hj)) t ht).2)
      have hcount : l.length - m ≤ fuel := by rw [count_tail hml hall hT]; exact hu
      refine drawTail (m := m) htl hdc fuel m L a w (Nat.le_refl _) hs hcount hml ?_ ?_
      · intro j
        rcases Nat.lt_or_ge j m with h | h
        · rw [hall j h]; simp [h]
        · rw [hT j h]; simp; omega
      · have him0 : i0 < m := by simpa using hi0
        have hk2 := hk ent (by rw [if_pos (hall i0 him0)] at hents; exact hents)
        refine wpList_mono hle _ _ _ (hk2 a w ⟨hsz, ?_, hok⟩)
        intro t v hg
        simp only [List.append_nil] at hg
        rw [Env.get_append] at hg
        cases hga : Env.get acc' t with
        | none => rw [hga] at hg; exact henv t v (by simpa using hg)
        | some u =>
          rw [hga] at hg; simp at hg; subst hg
          obtain ⟨j, hj, hd, rfl⟩ := hmem t u (get_mem _ _ _ hga)
          have hj := List.mem_range.1 hj
          exact (hfacts j hj (hall j hj) t hd).1
    induction fuel with
    | zero =>
      intro L a w val ent H' hs hu hle hGd hdown hT hsz henv hok hents hfacts
      refine done 0 L a w val ent H' hs hu hle hGd hT hsz henv hok hents hfacts ?_
      intro j hj
      cases hx : lst L j with
      | true => rfl
      | false =>
        have := unl_set (L := L) (i := j) hs (by omega) hx
        omega
    | succ fuel ih =>
      intro L a w val ent H' hs hu hle hGd hdown hT hsz henv hok hents hfacts
      by_cases hall : ∀ j, j < m → lst L j = true
      · exact done (fuel + 1) L a w val ent H' hs hu hle hGd hT hsz henv hok hents hfacts hall
      · constructor
        · intro hnil
          exfalso
          apply hall
          -- the least one that is not listed is ready
          intro j hj
          induction j using Nat.strongRecOn with
          | _ j ihj =>
            cases hx : lst L j with
            | true => rfl
            | false =>
              exfalso
              obtain ⟨o, ho, _, haf, _⟩ := hpre j hj
              have : j ∈ Region.ready .any l.toArray L := by
                rw [mem_ready]
                refine ⟨?_, o, by simpa using ho, fun e he hb => ihj e.on (haf e he hb) (by have := haf e he hb; omega)⟩
                unfold lst at hx
                rw [Array.getD_eq_getD_getElem?, Array.getElem?_eq_getElem (by omega)] at hx ⊢
                simpa using hx
              rw [hnil] at this; cases this
        · intro i hi
          rw [mem_ready] at hi
          obtain ⟨h0, o, ho, hbef⟩ := hi
          have hilt : i < l.length := by simpa using (Array.getElem?_eq_some_iff.1 ho).1
          have hun : lst L i = false := by
            unfold lst
            rw [Array.getD_eq_getD_getElem?, Array.getElem?_eq_getElem (by omega)] at h0 ⊢
            simpa using h0
          have ho' : l[i]? = some o := by simpa using ho
          have him : i < m := by
            rcases Nat.lt_or_ge i m with h | h
            · exact h
            · exfalso
              apply hall
              intro j hj
              exact waits_listed hdown _ o j hbef ((htl i o h ho').1 j (by omega))
          obtain ⟨o2, ho2, hd, haf, hprd⟩ := hpre i him
          rw [ho'] at ho2; cases ho2
          have hdo : dstOf l i = o.dst := by simp [dstOf, ho']
          have hst := stepsS_at l 0 steps i o ho' (by omega)
          simp only [Nat.zero_add] at hst
          -- all that is known of the slots, as one list
          let X : Env := (List.range m).filterMap fun j => if lst L j then (dstOf l j).map fun t => (t, val j) else none
          have hpredF : ∀ j ∈ predsG o, ∀ tj, dstOf l j = some tj → factAt F j (val j) H' := fun j hj tj hdj => by
            obtain ⟨hjm, e, he, hb, hon⟩ := hprd j hj
            have hlj : lst L j = true := by have := hbef e he hb; rw [hon] at this; exact this
            exact (hfacts j hjm hlj tj hdj).2
          have hX : ∀ t v, (t, v) ∈ X → ∃ j, j < m ∧ lst L j = true ∧ dstOf l j = some t ∧ v = val j := by
            intro t v h
            obtain ⟨j, hj, hjj⟩ := List.mem_filterMap.1 h
            split at hjj
            · rename_i hlj
              cases hdj : dstOf l j with
              | none => rw [hdj] at hjj; cases hjj
              | some tj =>
                rw [hdj] at hjj
                simp only [Option.map_some, Option.some.injEq, Prod.mk.injEq] at hjj
                obtain ⟨rfl, rfl⟩ := hjj
                exact ⟨j, List.mem_range.1 hj, hlj, hdj, rfl⟩
            · cases hjj
          have hgets : ∀ acc' : Env, (∀ t v, (t, v) ∈ acc' → ∃ j ∈ predsG o, dstOf l j = some t ∧ v = val j) → ∀ t v, Env.get (acc' ++ (env ++ X)) t = some v → a.tmps.getD t undef = v := by
            intro acc' hmem t v hgv
            rw [Env.get_append, Env.get_append] at hgv
            cases hga : Env.get acc' t with
            | some u =>
              rw [hga] at hgv; simp at hgv; subst hgv
              obtain ⟨j, hj, hdj, rfl⟩ := hmem t u (get_mem _ _ _ hga)
              obtain ⟨hjm, e, he, hb, hon⟩ := hprd j hj
              have hlj : lst L j = true := by have := hbef e he hb; rw [hon] at this; exact this
              exact (hfacts j hjm hlj t hdj).1
            | none =>
              rw [hga] at hgv; simp only [Option.none_or] at hgv
              cases hge : Env.get env t with
              | some u => rw [hge] at hgv; simp at hgv; subst hgv; exact henv t u hge
              | none =>
                rw [hge] at hgv; simp only [Option.none_or] at hgv
                obtain ⟨j, hj, hlj, hdj, rfl⟩ := hX t v (get_mem _ _ _ hgv)
                exact (hfacts j hj hlj t hdj).1
          have hnextG : ∀ (acc' : Env), (∀ t v, (t, v) ∈ acc' → ∃ j ∈ predsG o, dstOf l j = some t ∧ v = val j) → ∀ (a' : Act) (w' : World) (σ' : St) (v : Value) (ent' : Nat × SObj), Rel C σ' a' w' → Le H' σ'.H → Gd σ'.H → σ'.df = df → σ'.env = putE o.dst v (acc' ++ (env ++ X)) → factAt F i v σ'.H →
              (∀ ms : List Nat, Ok C.G σ'.H (σ'.own ++ (ms.map hid ++ C.hid)) w' → Ok C.G σ'.H ((ent' :: own) ++ (ms.map hid ++ C.hid)) w') →
              (if lst (L.setIfInBounds i true) i0 = true then FO2 ent' σ'.H else FOa ent' σ'.H) →
              wpAnyIn (Fr C.r) 0 C.P .any l.toArray (lift C H Q) fuel (L.setIfInBounds i true) a' w' := by
            intro acc' hmem a' w' σ' v ent' hr' hle' hGd' hdf' henv' hfv hown' hent'
            refine ih (L.setIfInBounds i true) a' w' (fun j => if j = i then v else val j) ent' σ'.H (by simpa using hs) ?_ (hle.trans hle') hGd' ?_ ?_ hr'.size ?_ ?_ hent' ?_
            · have := unl_set hs hilt hun; omega
            · intro i' o' hi' hl' e he hb
              rw [lst_set (by omega)] at hl' ⊢
              split
              · rfl
              · split at hl'
                · rename_i e1 e2; subst e2; rw [ho'] at hi'; cases hi'; exact hbef e he hb
                · exact hdown i' o' hi' hl' e he hb
            · intro j hj
              rw [lst_set (by omega), if_neg (by omega)]
              exact hT j hj
            · intro t' v' hg'
              refine hr'.get t' v' ?_
              have hin : t' ∈ env.map Prod.fst := List.mem_map.2 ⟨(t', v'), get_mem _ _ _ hg', rfl⟩
              rw [henv', get_putE_ne (fun e => (hd t' e).1 hin), Env.get_append, Env.get_append]
              have : Env.get acc' t' = none := by
                cases hga : Env.get acc' t' with
                | none => rfl
                | some u =>
                  obtain ⟨j, hj, hdj, _⟩ := hmem t' u (get_mem _ _ _ hga)
                  exact absurd hin (hkey j t' (hprd j hj).1 hdj)
              rw [this, hg']; rfl
            · obtain ⟨ms, hd', hok'⟩ := hr'.ok
              exact ⟨ms, by rw [hd', hdf'], hown' ms hok'⟩
            · intro j hj hlj tj htj
              rw [lst_set (by omega)] at hlj
              by_cases hji : j = i
              · subst hji
                rw [hdo] at htj
                simp only [if_true]
                refine ⟨hr'.get tj v ?_, hfv⟩
                rw [henv', htj]; simp [putE, Env.get]
              · rw [if_neg hji] at hlj
                obtain ⟨h1, h2⟩ := hfacts j hj hlj tj htj
                simp only [if_neg hji]
                refine ⟨hr'.get tj (val j) ?_, factAt_mono hmono hle' h2⟩
                rw [henv', get_putE_ne (fun e => hji (hdis j i tj hj him htj (by rw [hdo, e]))), Env.get_append, Env.get_append]
                have hacc : Env.get acc' tj = none ∨ Env.get acc' tj = some (val j) := by
                  cases hga : Env.get acc' tj with
                  | none => exact .inl rfl
                  | some u =>
                    obtain ⟨j', hj', hdj', rfl⟩ := hmem tj u (get_mem _ _ _ hga)
                    obtain rfl := hdis j' j tj (hprd j' hj').1 hj hdj' htj
                    exact .inr rfl
                rcases hacc with hacc | hacc
                · rw [hacc]
                  have henvn : Env.get env tj = none := by
                    cases hge : Env.get env tj with
                    | none => rfl
                    | some u => exact absurd (List.mem_map.2 ⟨(tj, u), get_mem _ _ _ hge, rfl⟩) (hkey j tj hj htj)
                  rw [henvn]
                  simp only [Option.none_or]
                  -- it stands in X, once
                  refine get_uniq X (List.mem_filterMap.2 ⟨j, List.mem_range.2 hj, by simp only [hlj, if_true, htj, Option.map_some]⟩) ?_
                  intro u hu'
                  obtain ⟨j', hj', _, hdj', rfl⟩ := hX tj u hu'
                  obtain rfl := hdis j' j tj hj' hj hdj' htj
                  rfl
                · rw [hacc]; rfl
          have hcase : ∀ (acc' : Env) (own2 : Own) (Q2 : Exit → St → Prop), (∀ e σ, e ≠ .normal → ¬ Q2 e σ) → XO C l.toArray Q2 [o] ⟨acc' ++ (env ++ X), df, H', own2⟩ → Rel C ⟨acc' ++ (env ++ X), df, H', own2⟩ a w →
              (∀ a' w', lift C H' Q2 .normal a' w' → wpAnyIn (Fr C.r) 0 C.P .any l.toArray (lift C H Q) fuel (L.setIfInBounds i true) a' w') → wpOpIn (Fr C.r) 0 C.P l.toArray (lift C H Q) i (fun a' w' => wpAnyIn (Fr C.r) 0 C.P .any l.toArray (lift C H Q) fuel (L.setIfInBounds i true) a' w') a w := by
            intro acc' own2 Q2 hno hk hrel hnext
            have hrun := hk a w hrel
            unfold wpOpIn
            rw [ho]
            simp only [wpListIn] at hrun ⊢
            split
            · rename_i hw
              rw [if_pos hw] at hrun
              refine wpInOper_mono hnext ?_ hrun
              rintro e a' w' he ⟨σ', _, _, hq⟩
              exact absurd hq (hno e σ' he)
            · rename_i hw
              rw [if_neg hw] at hrun
              exact ⟨hrun.1, hnext _ _ hrun.2⟩
          obtain ⟨acc', hk, hmem⟩ := withP_of (val := val) (predsG o) [] _ (hst X ent H' hle hGd (fun e => by
            have hno : lst L i0 = false := by
              rcases e with e | e
              · rw [e] at hun; exact hun
              · cases hx : lst L i0 with
                | false => rfl
                | true =>
                  unfold befI at e
                  split at e
                  · rename_i o0 ho0
                    rw [List.any_eq_true] at e
                    obtain ⟨ed, hed, h1⟩ := e
                    simp only [Bool.and_eq_true] at h1
                    have := hdown i0 o0 ho0 hx ed (by simpa using hed) h1.1
                    rw [Nat.eq_of_beq_eq_true h1.2, hun] at this; cases this
                  · cases e
            rw [hno, if_neg (by simp)] at hents
            exact hents)) hpredF
          simp only [List.append_nil] at hk
          refine hcase acc' _ _ (fun e σ he => by cases e <;> first | exact absurd rfl he | exact fun h => h) hk ⟨hsz, hgets acc' hmem, hok⟩ ?_
          rintro a' w' ⟨σ', hr', hle', hGd', hdf', v, e2, henv', hfv, hown', hfo⟩
          refine hnextG acc' hmem a' w' σ' v e2 hr' hle' hGd' hdf' henv' hfv ?_ ?_
          · intro ms hok'
            rw [hown'] at hok'
            exact hok'
          · unfold foS at hfo
            by_cases hii : i = i0
            · rw [if_pos hii] at hfo
              rw [lst_set (by omega), if_pos hii.symm, if_pos rfl]
              exact hfo
            · rw [if_neg hii] at hfo
              subst hfo
              have hne : ¬ i0 = i := fun e => hii e.symm
              have hls : lst (L.setIfInBounds i true) i0 = lst L i0 := by rw [lst_set (by omega), if_neg hne]
              rw [hls]
              split
              · rename_i h5; rw [if_pos h5] at hents; exact hFO2 _ _ _ hle' hents
              · rename_i h5; rw [if_neg h5] at hents; exact hFOa _ _ _ hle' hents
  have hlst0 : ∀ j, lst (Array.replicate l.toArray.size false) j = false := fun j => by simp [lst, Array.getD_eq_getD_getElem?, Array.getElem?_replicate]; split <;> rfl
  exact main l.toArray.size (Array.replicate l.toArray.size false) a₀ _ (fun _ => undef) q H (by simp) (by
      refine Nat.le_trans (List.countP_le_length) (by simp)) (Le.refl _) hG (fun i o _ hl => by
      have : lst (Array.replicate l.toArray.size false) i = false := by simp [lst, Array.getD_eq_getD_getElem?, Array.getElem?_replicate]; split <;> rfl
      rw [this] at hl; cases hl) (fun j _ => by simp [lst, Array.getD_eq_getD_getElem?, Array.getElem?_replicate]; split <;> rfl) hr₀.size hr₀.get
    (let ⟨ms, hd, hok⟩ := hr₀.ok; ⟨ms, hd, hok.drew⟩) (by rw [hlst0, if_neg (by simp)]; exact hq0) (fun i _ h => by
      have : lst (Array.replicate l.toArray.size false) i = false := by simp [lst, Array.getD_eq_getD_getElem?, Array.getElem?_replicate]; split <;> rfl
      rw [this] at h; cases h)
end
end Go.XL

/- Tables whose rows are the call's own: a slice of slices, each of them still to be written. No statement of the program stands here. -/
set_option autoImplicit false
set_option linter.unusedSimpArgs false
set_option linter.unusedVariables false
namespace Go.XL
abbrev Raw := Option Addr × Nat × Nat
/-- a slice as such, whatever lies behind it -/
def rawR : Rep Raw where
  sz := 1
  R := fun _ cs r => cs = [.slice r.1 r.2.1 r.2.2]
  len := fun h => by subst h; rfl
  one := fun h => by subst h; rfl
  mono := fun _ h => h
structure RowO (α : Type) where
  p : Nat × SObj
  a : Option Addr
  c : Nat
  l : List α
def RowO.raw {α : Type} (r : RowO α) : Raw := (r.a, r.l.length, r.c)
def RowsO {α : Type} (ρ : Rep α) (T : TypeId) (H : Hp) (rs : List (RowO α)) : Prop := ∀ r ∈ rs, Acc ρ T H r.p r.a r.c r.l
section
variable {α : Type} {ρ : Rep α} {T : TypeId} {H H' : Hp} {rs : List (RowO α)}
theorem RowsO.mono (h : RowsO ρ T H rs) (hle : Le H H') : RowsO ρ T H' rs := fun r hr => (h r hr).mono hle
theorem RowsO.nil : RowsO ρ T H [] := fun r hr => by cases hr
theorem RowsO.snoc (h : RowsO ρ T H rs) {r : RowO α} (hr : Acc ρ T H r.p r.a r.c r.l) : RowsO ρ T H (rs ++ [r]) := by
  intro q hq
  rcases List.mem_append.1 hq with hq | hq
  · exact h q hq
  · simp at hq; subst hq; exact hr
theorem RowsO.set (h : RowsO ρ T H rs) (i : Nat) {r : RowO α} (hr : Acc ρ T H r.p r.a r.c r.l) : RowsO ρ T H (rs.set i r) := by
  intro q hq
  rcases List.mem_or_eq_of_mem_set hq with hq | hq
  · exact h q hq
  · subst hq; exact hr
theorem rows_at {rest : Own} {r : RowO α} : ∀ {rs : List (RowO α)} {i : Nat}, rs[i]? = some r → Own.at (rs.map RowO.p ++ rest) i = some r.p
  | [], i, h => by simp at h
  | q :: rs, 0, h => by simp at h; subst h; rfl
  | q :: rs, i + 1, h => rows_at (rs := rs) (i := i) (by simpa using h)
theorem rows_set {rest : Own} {r' : RowO α} : ∀ {rs : List (RowO α)} {i : Nat}, i < rs.length → Own.set2 (rs.map RowO.p ++ rest) i r'.p = (rs.set i r').map RowO.p ++ rest
  | [], i, h => by simp at h
  | q :: rs, 0, h => rfl
  | q :: rs, i + 1, h => by
    have := rows_set (rest := rest) (r' := r') (rs := rs) (i := i) (by simpa using h)
    simp only [List.map_cons, List.cons_append, Own.set2, List.set_cons_succ, this]
theorem RowsR.ofRaw (h2 : ∀ r ∈ rs, SlR ρ H r.a r.c r.l) : ∀ {xs : List Value}, RowsR rawR H xs (rs.map RowO.raw) → RowsR (slR ρ) H xs (rs.map RowO.l) := by
  induction rs with
  | nil => intro xs h; exact h
  | cons r rs ih =>
    rintro xs ⟨c1, c2, rfl, h3, h4⟩
    exact ⟨c1, c2, rfl, ⟨_, _, h3, h2 r (by simp)⟩, ih (fun q hq => h2 q (by simp [hq])) h4⟩
theorem Acc.ofRaw {T2 : TypeId} {px : Nat × SObj} {ax : Option Addr} {cx : Nat} (h : Acc rawR T2 H px ax cx (rs.map RowO.raw)) (h2 : ∀ r ∈ rs, SlR ρ H r.a r.c r.l) : Acc (slR ρ) T2 H px ax cx (rs.map RowO.l) := by
  rcases h with ⟨h3, h4, h5, h6⟩ | ⟨xs, h3, h4, h5, h6⟩
  · exact .inl ⟨h3, h4, by simpa using h5, h6⟩
  · exact .inr ⟨xs, h3, h4, RowsR.ofRaw h2 h5, by simpa using h6⟩
theorem publish_rows {G : World} {w : World} {fr : Own} : ∀ (rs : List (RowO α)) (H : Hp), Ok G H (rs.map RowO.p ++ fr) w → RowsO ρ T H rs → ∃ H', Le H H' ∧ (∀ r ∈ rs, SlR ρ H' r.a r.c r.l) ∧ Ok G H' fr w
  | [], H, hok, _ => ⟨H, Le.refl _, by simp, hok⟩
  | r :: rs, H, hok, hr => by
    obtain ⟨H1, hle1, hs1, hok1⟩ := publishA_aux (own := r.p :: rs.map RowO.p) (i := 0) hok rfl (hr r (by simp)) rfl
    obtain ⟨H2, hle2, hs2, hok2⟩ := publish_rows rs H1 hok1 (fun q hq => (hr q (by simp [hq])).mono hle1)
    refine ⟨H2, hle1.trans hle2, ?_, hok2⟩
    intro q hq
    rcases List.mem_cons.1 hq with rfl | hq
    · exact hs1.mono hle2
    · exact hs2 q hq
end
section
variable {C : Ctx} {ops : Array Oper} {Q : Exit → St → Prop} {rest : List Oper} {env : Env} {df : List Deferred} {H : Hp} {rst : Own} {α : Type} {ρ : Rep α} {T T2 : TypeId} {rs : List (RowO α)} {px : Nat × SObj} {ax : Option Addr} {cx : Nat}
theorem XO.publishT (hout : Acc rawR T2 H px ax cx (rs.map RowO.raw)) (hrows : RowsO ρ T H rs) (h : ∀ H', Le H H' → SlR (slR ρ) H' ax cx (rs.map RowO.l) → XO C ops Q rest ⟨env, df, H', rst⟩) :
    XO C ops Q rest ⟨env, df, H, px :: (rs.map RowO.p ++ rst)⟩ := by
  intro act w hr
  obtain ⟨ms, hdf, hok⟩ := hr.ok
  have hok1 : Ok C.G H (rs.map RowO.p ++ (px :: (rst ++ (ms.map hid ++ C.hid)))) w := hok.perm (by
    simp only [List.cons_append, List.append_assoc]; exact List.perm_middle)
  obtain ⟨H1, hle1, hs1, hok2⟩ := publish_rows rs H hok1 hrows
  obtain ⟨H2, hle2, hs2, hok3⟩ := publishA_aux (own := [px]) (i := 0) hok2 rfl (Acc.ofRaw (hout.mono hle1) hs1) rfl
  exact wpList_mono (hle1.trans hle2) _ _ _ (h H2 (hle1.trans hle2) hs2 act w ⟨hr.size, hr.get, ms, hdf, hok3⟩)
theorem perm_row {r : RowO α} {q : Nat × SObj} : (r.p :: q :: (rs.map RowO.p ++ rst)).Perm (q :: ((rs ++ [r]).map RowO.p ++ rst)) := by
  refine (List.Perm.swap _ _ _).trans (List.Perm.cons q ?_)
  rw [List.map_append, List.append_assoc]; exact List.perm_middle.symm
theorem set_raw {r r' : RowO α} (he : r'.raw = r.raw) : ∀ {rs : List (RowO α)} {i : Nat}, rs[i]? = some r → (rs.set i r').map RowO.raw = rs.map RowO.raw
  | [], i, h => by simp at h
  | q :: rs, 0, h => by simp at h; subst h; simp [he]
  | q :: rs, i + 1, h => by
    have := set_raw he (rs := rs) (i := i) (by simpa using h)
    simp [this]
end
end Go.XL

/- A slice of slices, seen as a slice of bare slices, and back. No statement of the program stands here. -/
set_option autoImplicit false
set_option linter.unusedSimpArgs false
set_option linter.unusedVariables false
namespace Go.XL
section
variable {α : Type} {ρ : Rep α} {T : TypeId} {H : Hp} {p : Nat × SObj} {a : Option Addr} {c : Nat}
def RawOf (ρ : Rep α) (H : Hp) (rs : List Raw) (l : List (List α)) : Prop := rs.length = l.length ∧ ∀ (i : Nat) (r : Raw) (x : List α), rs[i]? = some r → l[i]? = some x → r.2.1 = x.length ∧ SlR ρ H r.1 r.2.2 x
theorem RawOf.mono {H' : Hp} {rs : List Raw} {l : List (List α)} (h : RawOf ρ H rs l) (hle : Le H H') : RawOf ρ H' rs l := ⟨h.1, fun i r x h1 h2 => let ⟨a, b⟩ := h.2 i r x h1 h2; ⟨a, b.mono hle⟩⟩
theorem RowsR.toRaw : ∀ {l : List (List α)} {xs : List Value}, RowsR (slR ρ) H xs l → ∃ rs : List Raw, RowsR rawR H xs rs ∧ RawOf ρ H rs l
  | [], xs, h => ⟨[], h, rfl, fun i r x h => by simp at h⟩
  | u :: l, xs, ⟨c1, c2, e, ⟨a, c, h1, h2⟩, h3⟩ => by
    obtain ⟨rs, h4, h5, h6⟩ := RowsR.toRaw h3
    refine ⟨(a, u.length, c) :: rs, ⟨c1, c2, e, h1, h4⟩, by simp [h5], ?_⟩
    intro i r x hr hx
    cases i with
    | zero => simp at hr hx; subst hr; subst hx; exact ⟨rfl, h2⟩
    | succ i => exact h6 i r x (by simpa using hr) (by simpa using hx)
theorem RowsR.fromRaw : ∀ {l : List (List α)} {rs : List Raw} {xs : List Value}, RowsR rawR H xs rs → RawOf ρ H rs l → RowsR (slR ρ) H xs l
  | [], [], xs, h, _ => h
  | [], r :: rs, xs, h, h2 => by have := h2.1; simp at this
  | u :: l, [], xs, h, h2 => by have := h2.1; simp at this
  | u :: l, r :: rs, xs, ⟨c1, c2, e, h1, h3⟩, h2 => by
    obtain ⟨h4, h5⟩ := h2.2 0 r u rfl rfl
    refine ⟨c1, c2, e, ⟨r.1, r.2.2, by rw [← h4]; exact h1, h5⟩, RowsR.fromRaw h3 ⟨by simpa using h2.1, fun i r x hr hx => h2.2 (i + 1) r x (by simpa using hr) (by simpa using hx)⟩⟩
theorem Acc.toRaw {l : List (List α)} (h : Acc (slR ρ) T H p a c l) : ∃ rs : List Raw, Acc rawR T H p a c rs ∧ RawOf ρ H rs l := by
  rcases h with ⟨h1, h2, h3, h4⟩ | ⟨xs, h1, h2, h3, h4⟩
  · subst h3
    exact ⟨[], .inl ⟨h1, h2, rfl, h4⟩, rfl, fun i r x h => by simp at h⟩
  · obtain ⟨rs, h5, h6⟩ := RowsR.toRaw h3
    exact ⟨rs, .inr ⟨xs, h1, h2, h5, by rw [h6.1]; exact h4⟩, h6⟩
theorem Acc.fromRaw {l : List (List α)} {rs : List Raw} (h : Acc rawR T H p a c rs) (h2 : RawOf ρ H rs l) : Acc (slR ρ) T H p a c l := by
  rcases h with ⟨h1, h3, h4, h5⟩ | ⟨xs, h1, h3, h4, h5⟩
  · subst h4
    have := h2.1
    refine .inl ⟨h1, h3, ?_, h5⟩
    cases l with
    | nil => rfl
    | cons u l => simp at this
  · exact .inr ⟨xs, h1, h3, RowsR.fromRaw h4 h2, by rw [← h2.1]; exact h5⟩
end
end Go.XL

/- The codec's values: what lies in memory, and what its functions compute, in plain Lean. -/
set_option autoImplicit false
set_option linter.unusedVariables false
set_option linter.unusedSimpArgs false
namespace Go.Proofs
open Go.XL
inductive Val where
  | mk (k n : Int) (s : List UInt8) (l : List Val)
namespace Val
def K : Val → Int | mk k _ _ _ => k
def N : Val → Int | mk _ n _ _ => n
def S : Val → List UInt8 | mk _ _ s _ => s
def L : Val → List Val | mk _ _ _ l => l
end Val
def v0 : Val := .mk 0 0 [] []
mutual
def vsz : Val → Nat | .mk _ _ _ l => vszL l + 1
def vszL : List Val → Nat | [] => 0 | x :: r => vsz x + vszL r + 1
end
theorem vsz_mem {x : Val} : ∀ {l : List Val}, x ∈ l → vsz x < vszL l + 1
  | y :: r, h => by
    rw [vszL]
    rcases List.mem_cons.1 h with rfl | h
    · omega
    · have := vsz_mem h; omega
theorem vsz_lt {k n : Int} {s : List UInt8} {l : List Val} {x : Val} (h : x ∈ l) : vsz x < vsz (.mk k n s l) := by rw [vsz]; exact vsz_mem h
/-- induction over values -/
theorem Val.ind {motive : Val → Prop} (h : ∀ k n s l, (∀ x ∈ l, motive x) → motive (.mk k n s l)) : ∀ v, motive v := by
  have : ∀ (m : Nat) (v : Val), vsz v < m → motive v := by
    intro m
    induction m with
    | zero => intro v h; omega
    | succ m ih =>
      rintro ⟨k, n, s, l⟩ hv
      exact h k n s l fun x hx => ih x (by have := vsz_lt (k := k) (n := n) (s := s) hx; omega)
  exact fun v => this (vsz v + 1) v (by omega)
/-! ### In memory -/
inductive VIs (H : Hp) : List Value → Val → Prop
  | mk (k n : Int) (s : List UInt8) (l : List Val) (a : Option Addr) (c b o : Nat) (css : Nat → List Value) (hle : l.length ≤ c) (hnil : a = none → c = 0)
    (h1 : ∀ (i : Nat) (x : Val), l[i]? = some x → a = some ⟨b, o, none⟩ ∧ PtH H b (o + i * 4) (css i)) (h2 : ∀ (i : Nat) (x : Val), l[i]? = some x → VIs H (css i) x) :
    VIs H [.int .i64 k, .int .i64 n, .string (bsOf s), .slice a l.length c] (.mk k n s l)
theorem VIs.mono {H H' : Hp} (hle : Le H H') {cs : List Value} {v : Val} (h : VIs H cs v) : VIs H' cs v := by
  induction h with
  | mk k n s l a c b o css h1 h2 h3 _ ih => exact .mk k n s l a c b o css h1 h2 (fun i x hx => ⟨(h3 i x hx).1, (h3 i x hx).2.mono hle⟩) ih
def valR : Rep Val where
  sz := 4
  R := VIs
  len := fun h => by cases h; rfl
  one := fun h => by cases h; rfl
  mono := fun hle h => h.mono hle
theorem valR_iff {H : Hp} {cs : List Value} {k n : Int} {s : List UInt8} {l : List Val} : valR.R H cs (.mk k n s l) ↔ ∃ a c, cs = [.int .i64 k, .int .i64 n, .string (bsOf s), .slice a l.length c] ∧ SlR valR H a c l := by
  constructor
  · intro h
    cases h with
    | mk _ _ _ _ a c b o css h1 h2 h3 h4 => exact ⟨a, c, rfl, h1, h2, fun i x hx => ⟨b, o, css i, (h3 i x hx).1, (h3 i x hx).2, h4 i x hx⟩⟩
  · rintro ⟨a, c, rfl, hs⟩
    cases l with
    | nil => exact .mk k n s [] a c 0 0 (fun _ => []) hs.le hs.nil (fun i x h => by simp at h) (fun i x h => by simp at h)
    | cons y r =>
      obtain ⟨b, o, ha⟩ := hs.addr (by simp)
      have hx : ∀ i : Nat, ∃ cs, ∀ x, (y :: r)[i]? = some x → PtH H b (o + i * 4) cs ∧ VIs H cs x := by
        intro i
        cases h : (y :: r)[i]? with
        | none => exact ⟨[], fun x hx => by cases hx⟩
        | some x =>
          obtain ⟨b', o', cs, h1, h2, h3⟩ := hs.el i x h
          rw [ha] at h1; cases h1
          exact ⟨cs, fun z hz => by cases hz; exact ⟨h2, h3⟩⟩
      exact .mk k n s _ a c b o (fun i => Classical.choose (hx i)) hs.le hs.nil (fun i x h => ⟨ha, (Classical.choose_spec (hx i) x h).1⟩) (fun i x h => (Classical.choose_spec (hx i) x h).2)
/-- a value as it is handed over -/
def VV (H : Hp) (v : Value) (u : Val) : Prop := ∃ a c, v = .agg ⟨[.int .i64 u.K, .int .i64 u.N, .string (bsOf u.S), .slice a u.L.length c]⟩ ∧ SlR valR H a c u.L
theorem VV.mono {H H' : Hp} {v : Value} {u : Val} (h : VV H v u) (hle : Le H H') : VV H' v u := let ⟨a, c, h1, h2⟩ := h; ⟨a, c, h1, h2.mono hle⟩
/-! ### Form -/
mutual
def formedB : Val → Bool
  | .mk k n s l => (k == 1 && s.isEmpty && l.isEmpty) || (k == 2 && n == 0 && l.isEmpty) || (k == 3 && n == 0 && s.isEmpty && formedL l)
def formedL : List Val → Bool | [] => true | x :: r => formedB x && formedL r
end
mutual
def depthV : Val → Nat | .mk k _ _ l => if k = 3 then depthL l + 1 else 0
def depthL : List Val → Nat | [] => 0 | x :: r => max (depthV x) (depthL r)
end
def chkV (v : Val) : Int := if formedB v = true then (if 16 < depthV v then 2 else 0) else 1
theorem formedL_snoc {l : List Val} {x : Val} : formedL (l ++ [x]) = (formedL l && formedB x) := by
  induction l with
  | nil => simp [formedL]
  | cons y r ih => simp [formedL, ih, Bool.and_assoc]
theorem depthL_snoc {l : List Val} {x : Val} : depthL (l ++ [x]) = max (depthL l) (depthV x) := by
  induction l with
  | nil => simp [depthL]
  | cons y r ih => simp only [List.cons_append, depthL, ih]; omega
theorem formedL_iff {l : List Val} : formedL l = true ↔ ∀ x ∈ l, formedB x = true := by
  induction l with
  | nil => simp [formedL]
  | cons y r ih => simp [formedL, ih]
def fdV (v : Val) : Nat := if formedB v = true then depthV v else 0
def fdR (v : Val) : Value := .tuple #[.int .i64 (fdV v : Nat), .bool (formedB v)]
theorem fd_no {v : Val} (h : formedB v = false) : Value.tuple #[.int .i64 0, .bool false] = fdR v := by
  unfold fdR fdV; rw [h]; rfl
theorem fd_yes {v : Val} {d : Int} (h : formedB v = true) (hd : d = (depthV v : Nat)) : Value.tuple #[.int .i64 d, .bool true] = fdR v := by
  unfold fdR fdV; rw [h, hd]; rfl
section
variable {n : Int} {s : List UInt8} {l : List Val}
theorem formed1 : formedB (.mk 1 n s l) = true ↔ s = [] ∧ l = [] := by simp [formedB]
theorem formed2 : formedB (.mk 2 n s l) = true ↔ n = 0 ∧ l = [] := by simp [formedB]
theorem formed3 : formedB (.mk 3 n s l) = true ↔ (n = 0 ∧ s = []) ∧ formedL l = true := by simp [formedB]
theorem formed0 {k : Int} (h : k ≠ 1 ∧ k ≠ 2 ∧ k ≠ 3) : formedB (.mk k n s l) = false := by simp [formedB, h.1, h.2.1, h.2.2]
theorem bfalse {b : Bool} (h : ¬ b = true) : b = false := by simpa using h
theorem fl_yes {i : Nat} {x : Val} (hx : l[i]? = some x) (h1 : formedL (l.take i) = true) (h2 : formedB x = true) : formedL (l.take (i + 1)) = true := by
  rw [take_snoc hx, formedL_snoc, h1, h2]; rfl
theorem dl_max {i : Nat} {x : Val} (hx : l[i]? = some x) : depthL (l.take (i + 1)) = max (depthL (l.take i)) (depthV x) := by rw [take_snoc hx, depthL_snoc]
end
theorem chk_1 {v : Val} (h : formedB v = false) : chkV v = 1 := by unfold chkV; rw [h]; rfl
theorem chk_2 {v : Val} (h : formedB v = true) (hd : 16 < depthV v) : chkV v = 2 := by unfold chkV; rw [if_pos h, if_pos hd]
theorem chk_0 {v : Val} (h : formedB v = true) (hd : ¬ 16 < depthV v) : chkV v = 0 := by unfold chkV; rw [if_pos h, if_neg hd]
theorem fd_eq {v : Val} (h : formedB v = true) : fdV v = depthV v := if_pos h
/-! ### Encoding -/
def numL (u : Nat) : List UInt8 := if h : u < 128 then [UInt8.ofNat u] else UInt8.ofNat (u % 128 + 128) :: numL (u / 128)
termination_by u
decreasing_by omega
def unsV (n : Int) : Nat := if 0 ≤ n then (2 * n).toNat else (-2 * n - 1).toNat
def sgnV (u : Nat) : Int := if u % 2 = 0 then ((u / 2 : Nat) : Int) else -((u / 2 : Nat) : Int) - 1
theorem sgn_uns (n : Int) : sgnV (unsV n) = n := by
  unfold sgnV unsV
  split <;> split <;> omega
theorem uns_sgn (u : Nat) : unsV (sgnV u) = u := by
  unfold sgnV unsV
  split <;> split <;> omega
mutual
def encV : Val → List UInt8
  | .mk k n s l => if k = 1 then 1 :: numL (unsV n) else if k = 2 then 2 :: (numL s.length ++ s) else 3 :: (numL l.length ++ encL l)
def encL : List Val → List UInt8 | [] => [] | x :: r => encV x ++ encL r
end
theorem encL_snoc {l : List Val} {x : Val} : encL (l ++ [x]) = encL l ++ encV x := by
  induction l with
  | nil => simp [encL]
  | cons y r ih => simp [encL, ih]
/-! ### How large a value is -/
mutual
def wszV : Val → Nat | .mk _ _ s l => 20 + s.length + wszL l
def wszL : List Val → Nat | [] => 0 | x :: r => wszV x + wszL r
end
theorem wszL_snoc {l : List Val} {x : Val} : wszL (l ++ [x]) = wszL l + wszV x := by
  induction l with
  | nil => simp [wszL]
  | cons y r ih => simp only [List.cons_append, wszL, ih]; omega
theorem wsz_mem {x : Val} : ∀ {l : List Val}, x ∈ l → wszV x ≤ wszL l
  | y :: r, h => by
    rw [wszL]
    rcases List.mem_cons.1 h with rfl | h
    · omega
    · have := wsz_mem h; omega
theorem wsz_len : ∀ {l : List Val}, 20 * l.length ≤ wszL l
  | [] => by simp
  | x :: r => by
    have := wsz_len (l := r)
    cases x
    rw [wszL, wszV, List.length_cons]; omega
theorem wsz_take {l : List Val} : ∀ k, wszL (l.take k) ≤ wszL l := by
  induction l with
  | nil => intro k; simp
  | cons x r ih =>
    intro k
    cases k with
    | zero => simp [wszL]
    | succ k => rw [List.take_succ_cons, wszL, wszL]; have := ih k; omega
theorem depthL_wsz : ∀ {l : List Val}, (∀ x ∈ l, depthV x ≤ wszV x) → depthL l ≤ wszL l
  | [], _ => by simp [depthL]
  | x :: r, h => by
    have h1 := h x (by simp)
    have h2 := depthL_wsz fun y hy => h y (List.mem_cons_of_mem _ hy)
    rw [depthL, wszL]; omega
theorem depth_wsz (v : Val) : depthV v ≤ wszV v := by
  refine Val.ind (motive := fun v => depthV v ≤ wszV v) ?_ v
  intro k n s l ih
  have := depthL_wsz ih
  rw [depthV, wszV]; split <;> omega
theorem numL_len : ∀ (j u : Nat), u < 128 ^ (j + 1) → (numL u).length ≤ j + 1
  | 0, u, h => by
    rw [numL, dif_pos (by simpa using h)]; simp
  | j + 1, u, h => by
    rw [numL]; split
    · simp
    · have := numL_len j (u / 128) (by rw [Nat.pow_succ] at h; omega)
      simp; omega
theorem numL_10 {u : Nat} (h : u < 2 ^ 64) : (numL u).length ≤ 10 := numL_len 9 u (Nat.lt_of_lt_of_le h (by decide))
/-- how long the strings and lists of a value are, and how great its numbers -/
inductive Fit : Val → Prop
  | mk (k n : Int) (s : List UInt8) (l : List Val) (hn : -9223372036854775808 ≤ n ∧ n ≤ 9223372036854775807) (hs : s.length < 2 ^ 63) (hl : l.length < 2 ^ 63) (h : ∀ x ∈ l, Fit x) : Fit (.mk k n s l)
theorem Fit.of {k n : Int} {s : List UInt8} {l : List Val} (h : Fit (.mk k n s l)) : (-9223372036854775808 ≤ n ∧ n ≤ 9223372036854775807) ∧ s.length < 9223372036854775808 ∧ l.length < 9223372036854775808 ∧ ∀ x ∈ l, Fit x := by
  cases h with
  | mk _ _ _ _ h1 h2 h3 h4 => exact ⟨h1, h2, h3, h4⟩
/-! ### Bits -/
theorem wrap_u64_mod (n : Int) : IntKind.u64.wrap n = n % 18446744073709551616 := by
  simp [IntKind.wrap, IntKind.bits, IntKind.signed]
theorem wrap_u8_mod (n : Int) : IntKind.u8.wrap n = n % 256 := by
  simp [IntKind.wrap, IntKind.bits, IntKind.signed]
theorem xor_0 {x : Int} (h : 0 ≤ x ∧ x < 18446744073709551616) : (BitVec.ofInt 64 x ^^^ BitVec.ofInt 64 0).toNat = x.toNat := by
  rw [show BitVec.ofInt 64 0 = 0#64 from rfl, BitVec.xor_zero, BitVec.toNat_ofInt]
  rw [show ((2 ^ 64 : Nat) : Int) = 18446744073709551616 from rfl, Int.emod_eq_of_lt h.1 h.2]
theorem xor_1 {x y : Int} (h : 0 ≤ x ∧ x < 18446744073709551616) (hy : y = 18446744073709551615 ∨ y = -1) : (BitVec.ofInt 64 x ^^^ BitVec.ofInt 64 y).toNat = 18446744073709551615 - x.toNat := by
  have e : BitVec.ofInt 64 y = BitVec.allOnes 64 := by rcases hy with rfl | rfl <;> rfl
  rw [e, BitVec.xor_allOnes, BitVec.toNat_not, BitVec.toNat_ofInt]
  rw [show ((2 ^ 64 : Nat) : Int) = 18446744073709551616 from rfl, Int.emod_eq_of_lt h.1 h.2]
theorem and_1 {x : Int} (h : 0 ≤ x ∧ x < 18446744073709551616) : (BitVec.ofInt 64 x &&& BitVec.ofInt 64 1).toNat = x.toNat % 2 := by
  rw [BitVec.toNat_and, BitVec.toNat_ofInt, show (BitVec.ofInt 64 1).toNat = 1 from rfl, Nat.and_one_is_mod]
  rw [show ((2 ^ 64 : Nat) : Int) = 18446744073709551616 from rfl, Int.emod_eq_of_lt h.1 h.2]
theorem or_128 : ∀ x : Nat, x < 256 → (BitVec.ofInt 8 (x : Nat) ||| BitVec.ofInt 8 128).toNat = x % 128 + 128 := by decide +kernel
theorem and_127 : ∀ x : Nat, x < 256 → (BitVec.ofInt 8 (x : Nat) &&& BitVec.ofInt 8 127).toNat = x % 128 := by decide +kernel
/-- the code's way to number integers without a sign -/
theorem uns_bits {n : Int} (h : -9223372036854775808 ≤ n ∧ n ≤ 9223372036854775807) :
    IntKind.u64.wrap ((BitVec.ofInt 64 (IntKind.u64.wrap (n % 18446744073709551616 * 2 ^ min (1 : Int).toNat 64)) ^^^ BitVec.ofInt 64 (IntKind.u64.wrap (n.fdiv (2 ^ min (63 : Int).toNat 64)))).toNat : Nat) = (unsV n : Nat) := by
  rw [show min (1 : Int).toNat 64 = 1 from rfl, show min (63 : Int).toNat 64 = 63 from rfl, show (2 : Int) ^ 1 = 2 from rfl, show (2 : Int) ^ 63 = 9223372036854775808 from rfl, wrap_u64_mod, wrap_u64_mod, wrap_u64_mod, Int.fdiv_eq_ediv_of_nonneg _ (by omega)]
  unfold unsV
  rcases Int.lt_or_le n 0 with hn | hn
  · rw [show n / 9223372036854775808 % 18446744073709551616 = 18446744073709551615 by omega, xor_1 (by omega) (Or.inl rfl), if_neg (by omega)]
    omega
  · rw [show n / 9223372036854775808 % 18446744073709551616 = 0 by omega, xor_0 (by omega), if_pos hn]
    omega
theorem wrap_i64_odd {x : Int} (h : 0 ≤ x ∧ x < 9223372036854775808) : IntKind.i64.wrap (18446744073709551615 - x) = -x - 1 := by
  simp [IntKind.wrap, IntKind.bits, IntKind.signed]
  omega
theorem sgn_bits {u : Nat} (h : u < 18446744073709551616) {a b : Int} (ha : a = ((u / 2 : Nat) : Int)) (hb : b = -((u % 2 : Nat) : Int)) :
    IntKind.i64.wrap ((BitVec.ofInt 64 a ^^^ BitVec.ofInt 64 b).toNat : Nat) = sgnV u := by
  subst ha; subst hb
  unfold sgnV
  by_cases h2 : u % 2 = 0
  · rw [h2, show -((0 : Nat) : Int) = 0 from rfl, xor_0 (by omega), if_pos rfl, wrap_i64 (by omega) (by omega)]; omega
  · rw [show u % 2 = 1 by omega, show -((1 : Nat) : Int) = -1 from rfl, xor_1 (by omega) (Or.inr rfl), if_neg (by decide)]
    have := wrap_i64_odd (x := ((u / 2 : Nat) : Int)) (by omega)
    rw [← this]; congr 1; omega
/-! ### Equality -/
mutual
def sameV : Val → Val → Bool
  | .mk k n s l, .mk k' n' s' l' => k == k' && n == n' && s == s' && sameL l l'
def sameL : List Val → List Val → Bool
  | [], [] => true
  | x :: r, y :: r' => sameV x y && sameL r r'
  | _, _ => false
end
theorem sameL_iff_of : ∀ {l l' : List Val}, (∀ x ∈ l, ∀ y, sameV x y = true ↔ x = y) → (sameL l l' = true ↔ l = l')
  | [], [], _ => by simp [sameL]
  | [], _ :: _, _ => by simp [sameL]
  | _ :: _, [], _ => by simp [sameL]
  | x :: r, y :: r', h => by
    rw [sameL, Bool.and_eq_true, h x (by simp), sameL_iff_of (fun z hz => h z (by simp [hz]))]
    simp
theorem sameV_iff : ∀ (v w : Val), sameV v w = true ↔ v = w := by
  intro v
  refine Val.ind (motive := fun v => ∀ w, sameV v w = true ↔ v = w) ?_ v
  rintro k n s l ih ⟨k', n', s', l'⟩
  rw [sameV]
  simp only [Bool.and_eq_true, beq_iff_eq, sameL_iff_of ih, Val.mk.injEq, and_assoc]
theorem sameL_snoc : ∀ {l l' : List Val} {i : Nat} {x y : Val}, l[i]? = some x → l'[i]? = some y → sameL (l.take (i + 1)) (l'.take (i + 1)) = (sameL (l.take i) (l'.take i) && sameV x y)
  | [], _, i, x, y, h, _ => by simp at h
  | _ :: _, [], i, x, y, _, h => by simp at h
  | a :: l, b :: l', 0, x, y, h1, h2 => by simp at h1 h2; subst h1; subst h2; simp [sameL]
  | a :: l, b :: l', i + 1, x, y, h1, h2 => by
    simp only [List.take_succ_cons, sameL]
    rw [sameL_snoc (by simpa using h1) (by simpa using h2), Bool.and_assoc]
theorem sameL_len : ∀ {l l' : List Val}, sameL l l' = true → l.length = l'.length
  | [], [], _ => rfl
  | [], _ :: _, h => by simp [sameL] at h
  | _ :: _, [], h => by simp [sameL] at h
  | x :: r, y :: r', h => by
    rw [sameL, Bool.and_eq_true] at h
    simp [sameL_len h.2]
theorem sameL_no {l l' : List Val} (h : l.length ≠ l'.length) : sameL l l' = false := by
  cases hb : sameL l l' with
  | false => rfl
  | true => exact absurd (sameL_len hb) h
theorem sameL_diff {l l' : List Val} {i : Nat} {x y : Val} (hx : l[i]? = some x) (hy : l'[i]? = some y) (h : sameV x y = false) : sameL l l' = false := by
  cases hb : sameL l l' with
  | false => rfl
  | true =>
    have := (sameL_iff_of (fun x _ => sameV_iff x)).1 hb
    subst this
    rw [hx] at hy; cases hy
    rw [(sameV_iff x x).2 rfl] at h; cases h
theorem sameV_mk {k n k' n' : Int} {s s' : List UInt8} {l l' : List Val} : sameV (.mk k n s l) (.mk k' n' s' l') = true ↔ (k = k' ∧ n = n' ∧ s = s') ∧ sameL l l' = true := by
  rw [sameV]; simp only [Bool.and_eq_true, beq_iff_eq, and_assoc]
/-! ### Bytes in the making -/
abbrev AccB (H : Hp) (p : Nat × SObj) (a : Option Addr) (c : Nat) (l : List UInt8) : Prop := XL.Acc u8R 5 H p a c l
def FOl (f : Nat → List UInt8) (a : Option Addr) (c : Nat) (j : Nat) (v : Value) (p : Nat × SObj) (H : Hp) : Prop := (j = 0 → AccB H p a c (f 0)) ∧ (0 < j → ∃ a2 c2, v = .slice a2 (f j).length c2 ∧ AccB H p a2 c2 (f j))
theorem FOl_mono (f : Nat → List UInt8) (a : Option Addr) (c : Nat) : ∀ (j : Nat) (v : Value) (p : Nat × SObj) (H H' : Hp), Le H H' → FOl f a c j v p H → FOl f a c j v p H' :=
  fun _ _ _ _ _ hle h => ⟨fun h0 => (h.1 h0).mono hle, fun h0 => let ⟨a2, c2, h1, h2⟩ := h.2 h0; ⟨a2, c2, h1, h2.mono hle⟩⟩
theorem FOl_0 {f : Nat → List UInt8} {a : Option Addr} {c : Nat} {v : Value} {p : Nat × SObj} {H : Hp} (h : AccB H p a c (f 0)) : FOl f a c 0 v p H := ⟨fun _ => h, fun h0 => absurd h0 (by omega)⟩
theorem FOl_s {f : Nat → List UInt8} {a a2 : Option Addr} {c c2 j : Nat} {p : Nat × SObj} {H : Hp} (h : AccB H p a2 c2 (f (j + 1))) : FOl f a c (j + 1) (.slice a2 (f (j + 1)).length c2) p H := ⟨fun h0 => absurd h0 (by omega), fun _ => ⟨a2, c2, rfl, h⟩⟩
/-- the function that writes values of a kind -/
def wfun (b1 : Nat) (k : Int) : Value := if k = 1 then .func (.func 37) #[] #[] else if k = 2 then .func (.func 40) #[] #[] else .func (.func 41) #[] #[.pointer (some ⟨b1, 0, none⟩)]
structure WrH (H : Hp) (bw b1 : Nat) : Prop where
  p : PtH H b1 0 [.pointer (some ⟨bw, 0, none⟩)]
  f1 : PtH H bw 1 [wfun b1 1]
  f2 : PtH H bw 2 [wfun b1 2]
  f3 : PtH H bw 3 [wfun b1 3]
theorem WrH.mono {H H' : Hp} {bw b1 : Nat} (h : WrH H bw b1) (hle : Le H H') : WrH H' bw b1 := ⟨h.p.mono hle, h.f1.mono hle, h.f2.mono hle, h.f3.mono hle⟩
theorem WrH.at {H : Hp} {bw b1 : Nat} (h : WrH H bw b1) {k : Int} (hk : k = 1 ∨ k = 2 ∨ k = 3) : PtH H bw (0 + k.toNat * 1 + 0) [wfun b1 k] := by
  rcases hk with rfl | rfl | rfl
  · exact h.f1
  · exact h.f2
  · exact h.f3
theorem formed_kind {k n : Int} {s : List UInt8} {l : List Val} (h : formedB (.mk k n s l) = true) : k = 1 ∨ k = 2 ∨ k = 3 := Decidable.byContradiction fun hn => by
  rw [formed0 (by omega)] at h; cases h
theorem encV1 {n : Int} {s : List UInt8} {l : List Val} : encV (.mk 1 n s l) = [1] ++ numL (unsV n) := by rw [encV, if_pos rfl]; rfl
theorem encV2 {n : Int} {s : List UInt8} {l : List Val} : encV (.mk 2 n s l) = ([2] ++ numL s.length) ++ s := by rw [encV, if_neg (by decide), if_pos rfl]; rfl
theorem encV3 {n : Int} {s : List UInt8} {l : List Val} : encV (.mk 3 n s l) = ([3] ++ numL l.length) ++ encL l := by rw [encV, if_neg (by decide), if_neg (by decide)]; rfl
theorem enc_wsz (v : Val) : Fit v → (encV v).length ≤ wszV v := by
  refine Val.ind (motive := fun v => Fit v → (encV v).length ≤ wszV v) ?_ v
  intro k n s l ih hf
  obtain ⟨f1, f2, f3, f4⟩ := hf.of
  have hl : (encL l).length ≤ wszL l := by
    clear f3
    induction l with
    | nil => simp [encL]
    | cons x r ihr =>
      rw [encL, wszL, List.length_append]
      have h1 := ih x (by simp) (f4 x (by simp))
      have h2 := ihr (fun y hy => ih y (by simp [hy])) (by
        refine .mk k n s r f1 (by omega) ?_ (fun y hy => f4 y (by simp [hy]))
        have := hf.of.2.2.1; simp at this; omega) (fun y hy => f4 y (by simp [hy]))
      omega
  have n1 := numL_10 (u := unsV n) (by unfold unsV; split <;> omega)
  have n2 := numL_10 (u := s.length) (by omega)
  have n3 := numL_10 (u := l.length) (by omega)
  rw [wszV]
  rw [encV]
  split
  · simp; omega
  · split <;> simp <;> omega
theorem encL_wsz {l : List Val} (h : ∀ x ∈ l, Fit x) : (encL l).length ≤ wszL l := by
  induction l with
  | nil => simp [encL]
  | cons x r ih =>
    rw [encL, wszL, List.length_append]
    have := enc_wsz x (h x (by simp))
    have := ih fun y hy => h y (by simp [hy])
    omega
theorem or_bits (w : Nat) : IntKind.u8.wrap ((BitVec.ofInt (IntKind.bits .u8) ((w % 256 : Nat) : Int) ||| BitVec.ofInt (IntKind.bits .u8) 128).toNat : Nat) = (((UInt8.ofNat (w % 128 + 128)).toNat : Nat) : Int) := by
  rw [show IntKind.bits .u8 = 8 from rfl, or_128 (w % 256) (by omega), wrap_u8_mod]
  have : (UInt8.ofNat (w % 128 + 128)).toNat = w % 128 + 128 := by rw [UInt8.toNat_ofNat']; omega
  rw [this]; omega
theorem shr7 (w : Nat) : ((w : Nat) : Int).fdiv (2 ^ min (7 : Int).toNat (IntKind.bits .u64)) = ((w / 128 : Nat) : Int) := by
  rw [show (2 : Int) ^ min (7 : Int).toNat (IntKind.bits .u64) = 128 from rfl, Int.fdiv_eq_ediv_of_nonneg _ (by omega)]; omega
theorem numL_yes {w : Nat} (h : 128 ≤ w) (o : List UInt8) : (o ++ [UInt8.ofNat (w % 128 + 128)]) ++ numL (w / 128) = o ++ numL w := by
  have e : numL w = UInt8.ofNat (w % 128 + 128) :: numL (w / 128) := by rw [numL, dif_neg (by omega)]
  rw [e]; simp
theorem numL_last {w : Nat} (h : w < 128) : numL w = [UInt8.ofNat w] := by rw [numL, dif_pos h]
theorem all_snocP {α : Type} {l : List α} {k : Nat} {x : α} {p : α → Prop} (h : ∀ y ∈ l.take k, p y) (hx : l[k]? = some x) (hp : p x) : ∀ y ∈ l.take (k + 1), p y := by
  intro y hy
  rw [take_snoc hx, List.mem_append] at hy
  rcases hy with hy | hy
  · exact h y hy
  · simp only [List.mem_singleton] at hy; subst hy; exact hp
theorem pt_at {H : Hp} {b : Nat} {cs : List Value} (h : PtH H b 0 cs) (i : Nat) {v : Value} (hv : cs[i]? = some v) : PtH H b i [v] := by
  obtain ⟨c, T, fz, h1, h2⟩ := h
  refine ⟨c, T, fz, h1, fun j u hj => ?_⟩
  cases j with
  | zero => simp at hj; subst hj; have := h2 i v hv; simpa using this
  | succ j => simp at hj
def eB (v : Val) : List UInt8 := if chkV v = 0 then encV v else []
def EncR (u : Val) (H : Hp) (v : Value) : Prop := ∃ a c, SlR u8R H a c (eB u) ∧ v = .tuple #[.slice a (eB u).length c, .int .i64 (chkV u)]
theorem enc_no {u : Val} {H : Hp} (h : chkV u ≠ 0) : EncR u H (.tuple #[.slice none 0 0, .int .i64 (chkV u)]) := by
  have e : eB u = [] := by unfold eB; rw [if_neg h]
  exact ⟨none, 0, by rw [e]; exact SlR.nil0 _ _, by rw [e]; rfl⟩
theorem enc_yes {u : Val} {H : Hp} {a : Option Addr} {c : Nat} (h : chkV u = 0) (hs : SlR u8R H a c (encV u)) : EncR u H (.tuple #[.slice a (encV u).length c, .int .i64 0]) := by
  have e : eB u = encV u := by unfold eB; rw [if_pos h]
  exact ⟨a, c, by rw [e]; exact hs, by rw [e, h]⟩
theorem wfun_ok {b1 : Nat} {k : Int} (h : k = 1 ∨ k = 2 ∨ k = 3) : match wfun b1 k with | .func .. => True | _ => False := by
  rcases h with rfl | rfl | rfl <;> exact trivial
theorem chk0_formed {v : Val} (h : chkV v = 0) : formedB v = true := by
  unfold chkV at h
  split at h
  · assumption
  · cases h
theorem uns_lt2 {n : Int} (h : -9223372036854775808 ≤ n ∧ n ≤ 9223372036854775807) : unsV n < 18446744073709551616 := by
  unfold unsV; split <;> omega
end Go.Proofs
