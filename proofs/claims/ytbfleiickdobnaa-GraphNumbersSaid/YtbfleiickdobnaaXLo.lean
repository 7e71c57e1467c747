/- Regions that draw their order, where an operation makes a block that stays the call's own. No statement of the program stands here. -/
import Derived.Test.YtbfleiickdobnaaXLn
set_option autoImplicit false
set_option linter.unusedSimpArgs false
set_option linter.unusedVariables false
namespace Go.XL
/-- the blocks that the listed makers have made -/
def extOf (cre : List Nat) (L : Array Bool) (ent : Nat → Nat × SObj) : Own := (cre.filter (lst L)).map ent
theorem ext_none {cre : List Nat} {L : Array Bool} {ent : Nat → Nat × SObj} (h : ∀ j, lst L j = false) : extOf cre L ent = [] := by
  rw [extOf, List.filter_eq_nil_iff.2 (fun j _ => by rw [h j]; simp)]; rfl
theorem ext_old {cre : List Nat} {L L' : Array Bool} {ent : Nat → Nat × SObj} {i : Nat} {p : Nat × SObj} (hi : i ∉ cre) (hL : ∀ j, lst L' j = if j = i then true else lst L j) :
    extOf cre L' (fun j => if j = i then p else ent j) = extOf cre L ent := by
  unfold extOf
  induction cre with
  | nil => rfl
  | cons c cre ih =>
    have h1 : c ≠ i := fun e => hi (by simp [e])
    have h2 := ih (fun h => hi (by simp [h]))
    rw [List.filter_cons, List.filter_cons, hL, if_neg h1]
    split
    · rw [List.map_cons, List.map_cons, h2, if_neg h1]
    · exact h2
theorem ext_new {cre : List Nat} {L L' : Array Bool} {ent : Nat → Nat × SObj} {i : Nat} {p : Nat × SObj} (hnd : cre.Nodup) (hi : i ∈ cre) (hun : lst L i = false) (hL : ∀ j, lst L' j = if j = i then true else lst L j) :
    (extOf cre L' (fun j => if j = i then p else ent j)).Perm (p :: extOf cre L ent) := by
  induction cre with
  | nil => cases hi
  | cons c cre ih =>
    rw [List.nodup_cons] at hnd
    by_cases hc : c = i
    · subst hc
      have h1 := ext_old (ent := ent) (p := p) hnd.1 hL
      unfold extOf at h1 ⊢
      rw [List.filter_cons, List.filter_cons, hL, if_pos rfl, hun, if_pos rfl, if_neg (by simp), List.map_cons, h1, if_pos rfl]
    · have hi' : i ∈ cre := by
        rcases List.mem_cons.1 hi with h | h
        · exact absurd h.symm hc
        · exact h
      have h2 := ih hnd.2 hi'
      unfold extOf at h2 ⊢
      rw [List.filter_cons, List.filter_cons, hL, if_neg hc]
      split
      · rw [List.map_cons, List.map_cons, if_neg hc]
        exact (h2.cons _).trans (List.Perm.swap ..)
      · exact h2
def withEnts (l : List Oper) (FO : Nat → Value → Nat × SObj → Hp → Prop) (H : Hp) (acc : Env) : List Nat → (Own → Prop) → Prop
  | [], K => K []
  | i :: is, K => ∀ p, (∀ v, (∃ t, dstOf l i = some t ∧ Env.get acc t = some v) → FO i v p H) → withEnts l FO H acc is fun es => K (p :: es)
theorem withEnts_of {l : List Oper} {FO : Nat → Value → Nat × SObj → Hp → Prop} {H : Hp} {acc : Env} {ent : Nat → Nat × SObj} : ∀ (cre : List Nat) (K : Own → Prop), withEnts l FO H acc cre K → (∀ i ∈ cre, ∀ v, (∃ t, dstOf l i = some t ∧ Env.get acc t = some v) → FO i v (ent i) H) → K (cre.map ent)
  | [], K, h, _ => h
  | i :: is, K, h, hf => withEnts_of is _ (h (ent i) (hf i (by simp))) (fun j hj => hf j (by simp [hj]))
theorem env_get_mem : ∀ {e : Env} {t : Nat} {u : Value}, Env.get e t = some u → (t, u) ∈ e
  | (k, u') :: r, t, u, h => by
    simp only [Env.get] at h
    cases hb : Nat.beq k t with
    | true => rw [hb] at h; simp at h; subst h; rw [← Nat.eq_of_beq_eq_true hb]; simp
    | false => rw [hb] at h; exact List.mem_cons_of_mem _ (env_get_mem h)

theorem withEnts_cons {l : List Oper} {FO : Nat → Value → Nat × SObj → Hp → Prop} {H : Hp} {acc : Env} {i : Nat} {is : List Nat} {K : Own → Prop} (h : ∀ p, (∀ v, (∃ t, dstOf l i = some t ∧ Env.get acc t = some v) → FO i v p H) → withEnts l FO H acc is fun es => K (p :: es)) : withEnts l FO H acc (i :: is) K := h
theorem withEnts_nil {l : List Oper} {FO : Nat → Value → Nat × SObj → Hp → Prop} {H : Hp} {acc : Env} {K : Own → Prop} (h : K []) : withEnts l FO H acc [] K := h
/-- 'a published slice of these, somewhere' -/
def slG {α : Type} (ρ : Rep α) (l : List α) : Value → Hp → Prop := fun v H => ∃ a c, v = .slice a l.length c ∧ SlR ρ H a c l
theorem slG_mono {α : Type} (ρ : Rep α) (l : List α) : ∀ v H H', Le H H' → slG ρ l v H → slG ρ l v H' := fun _ _ _ hle ⟨a, c, h1, h2⟩ => ⟨a, c, h1, h2.mono hle⟩
/-- 'a slice of the call's own, of these' -/
def ownF {α : Type} (ρ : Rep α) (T : TypeId) (l : List α) : Nat → Value → Nat × SObj → Hp → Prop := fun _ v p H => ∃ a c, v = .slice a l.length c ∧ Acc ρ T H p a c l
theorem ownF_mono {α : Type} (ρ : Rep α) (T : TypeId) (l : List α) : ∀ i v p H H', Le H H' → ownF ρ T l i v p H → ownF ρ T l i v p H' := fun _ _ _ _ _ hle ⟨a, c, h1, h2⟩ => ⟨a, c, h1, h2.mono hle⟩
def anyF : Value → Hp → Prop := fun _ _ => True
theorem anyF_mono : ∀ v H H', Le H H' → anyF v H → anyF v H' := fun _ _ _ _ _ => trivial
def stepQN (Gd : Hp → Prop) (cre : List Nat) (k : Nat) (dst : Option Tmp) (f : Value → Hp → Prop) (fo : Value → Nat × SObj → Hp → Prop) (env : Env) (df : List Deferred) (own : Own) : Exit → St → Prop
  | .normal, σ => Gd σ.H ∧ σ.df = df ∧ ∃ v p, σ.env = putE dst v env ∧ f v σ.H ∧ (bif cre.contains k then σ.own = p :: own ∧ fo v p σ.H else σ.own = own)
  | _, _ => False
theorem stepQN_ok {Gd : Hp → Prop} {cre : List Nat} {k : Nat} {dst : Option Tmp} {f : Value → Hp → Prop} {fo : Value → Nat × SObj → Hp → Prop} {env : Env} {df : List Deferred} {own : Own} {H : Hp} {v : Value} (hk : cre.contains k = false) (hG : Gd H) (hf : f v H) : stepQN Gd cre k dst f fo env df own .normal ⟨putE dst v env, df, H, own⟩ := ⟨hG, rfl, v, (0, .nothing), rfl, hf, by rw [hk]; rfl⟩
theorem stepQN_new {Gd : Hp → Prop} {cre : List Nat} {k : Nat} {dst : Option Tmp} {f : Value → Hp → Prop} {fo : Value → Nat × SObj → Hp → Prop} {env : Env} {df : List Deferred} {own : Own} {H : Hp} {v : Value} {p : Nat × SObj} (hk : cre.contains k = true) (hG : Gd H) (hf : f v H) (hfo : fo v p H) : stepQN Gd cre k dst f fo env df own .normal ⟨putE dst v env, df, H, p :: own⟩ := ⟨hG, rfl, v, p, rfl, hf, by rw [hk]; exact ⟨rfl, hfo⟩⟩
def stepsN (Gd : Hp → Prop) (cre : List Nat) (FO : Nat → Value → Nat × SObj → Hp → Prop) (C : Ctx) (l : List Oper) (F : List (Value → Hp → Prop)) (env : Env) (df : List Deferred) (H : Hp) (own : Own) (m : Nat) : Nat → List Oper → Prop
  | _, [] => True
  | k, o :: rest => bif Nat.blt k m then
      (∀ X ext H', Le H H' → Gd H' → withPreds l F H' (predsOf o) [] fun acc => XO C l.toArray (stepQN Gd cre k o.dst (factAt F k) (FO k) (acc ++ (env ++ X)) df (own ++ ext)) [o] ⟨acc ++ (env ++ X), df, H', own ++ ext⟩) ∧ stepsN Gd cre FO C l F env df H own m (k + 1) rest
    else True
theorem stepsN_cons {Gd : Hp → Prop} {cre : List Nat} {FO : Nat → Value → Nat × SObj → Hp → Prop} {C : Ctx} {l : List Oper} {F : List (Value → Hp → Prop)} {env : Env} {df : List Deferred} {H : Hp} {own : Own} {m k : Nat} {o : Oper} {rest : List Oper} (hk : Nat.blt k m = true)
    (h : ∀ X ext H', Le H H' → Gd H' → withPreds l F H' (predsOf o) [] fun acc => XO C l.toArray (stepQN Gd cre k o.dst (factAt F k) (FO k) (acc ++ (env ++ X)) df (own ++ ext)) [o] ⟨acc ++ (env ++ X), df, H', own ++ ext⟩) (k2 : stepsN Gd cre FO C l F env df H own m (k + 1) rest) : stepsN Gd cre FO C l F env df H own m k (o :: rest) := by
  rw [stepsN, hk]; exact ⟨h, k2⟩
theorem stepsN_end {Gd : Hp → Prop} {cre : List Nat} {FO : Nat → Value → Nat × SObj → Hp → Prop} {C : Ctx} {l : List Oper} {F : List (Value → Hp → Prop)} {env : Env} {df : List Deferred} {H : Hp} {own : Own} {m k : Nat} {rest : List Oper} (hk : Nat.blt k m = false) : stepsN Gd cre FO C l F env df H own m k rest := by
  cases rest with
  | nil => trivial
  | cons o r => rw [stepsN, hk]; trivial
section
variable {C : Ctx} {Q : Exit → St → Prop} {env : Env} {df : List Deferred} {H : Hp} {own : Own}
theorem stepsN_at {Gd : Hp → Prop} {cre : List Nat} {FO : Nat → Value → Nat × SObj → Hp → Prop} {l : List Oper} {F : List (Value → Hp → Prop)} {m : Nat} : ∀ (rest : List Oper) (k : Nat), stepsN Gd cre FO C l F env df H own m k rest → ∀ (i : Nat) (o : Oper), rest[i]? = some o → k + i < m →
    ∀ X ext H', Le H H' → Gd H' → withPreds l F H' (predsOf o) [] fun acc => XO C l.toArray (stepQN Gd cre (k + i) o.dst (factAt F (k + i)) (FO (k + i)) (acc ++ (env ++ X)) df (own ++ ext)) [o] ⟨acc ++ (env ++ X), df, H', own ++ ext⟩
  | [], k, _, i, o, hi, _ => by simp at hi
  | x :: rest, k, h, i, o, hi, hlt => by
    simp only [stepsN] at h
    rw [show Nat.blt k m = true by simp; omega] at h
    cases i with
    | zero => simp only [List.getElem?_cons_zero, Option.some.injEq] at hi; subst hi; exact h.1
    | succ i =>
      have := stepsN_at rest (k + 1) h.2 i o (by simpa using hi) (by omega)
      rwa [show k + 1 + i = k + (i + 1) by omega] at this

theorem XC.drawN (Gd : Hp → Prop) (hG : Gd H) (cre : List Nat) (hnd0 : cre.Nodup) (FO : Nat → Value → Nat × SObj → Hp → Prop) (hFO : ∀ i v p H H', Le H H' → FO i v p H → FO i v p H') {id : Nat} {l : List Oper} (m : Nat) (F : List (Value → Hp → Prop)) (hm : C.P.follows .mixedOrders = true) (hck : drawOk m l (env.map Prod.fst) = true) (hN : ((List.range m).all fun i => match dstOf l i with | some t => Nat.blt t C.N | none => false) = true) (hmono' : monoL F)
    (hcm : (cre.all fun i => Nat.blt i m) = true) (steps : stepsN Gd cre FO C l F env df H own m 0 l)
    (tail : ∀ H', Le H H' → Gd H' → withPreds l F H' (List.range m) [] fun acc => withEnts l FO H' acc cre fun es => XO C l.toArray Q (l.drop m) ⟨acc ++ env, df, H', es ++ own⟩) : XC C (.region id l.toArray true) Q ⟨env, df, H, own⟩ := by
  have hmono := monoF_of hmono'
  intro a₀ w₀ hr₀
  refine wpIn_region_any hm ?_
  simp only [drawOk, Bool.and_eq_true, List.all_eq_true, List.mem_range] at hck
  obtain ⟨⟨hml, hck1⟩, hck2⟩ := hck
  have hml := Nat.le_of_ble_eq_true hml
  have hpre : ∀ i, i < m → ∃ o t, l[i]? = some o ∧ o.guard = none ∧ notDefer o.op = true ∧ o.dst = some t ∧ t ∉ env.map Prod.fst ∧ (∀ j, j < m → i ≠ j → dstOf l j ≠ some t) ∧ (∀ e ∈ o.after, Region.binds .any e = true → e.on < i) ∧ (∀ j ∈ predsOf o, j < m ∧ ∃ e ∈ o.after, Region.binds .any e = true ∧ e.on = j) := by
    intro i hi
    have h := hck1 i hi
    split at h
    · rename_i o ho
      simp only [Bool.and_eq_true, List.all_eq_true] at h
      obtain ⟨⟨⟨⟨hg, hnd⟩, hd⟩, haf⟩, hp⟩ := h
      split at hd
      · rename_i t ht
        simp only [Bool.and_eq_true, List.all_eq_true, List.mem_range, Bool.not_eq_true', List.contains_eq_mem, decide_eq_false_iff_not] at hd
        refine ⟨o, t, ho, by simpa using hg, hnd, ht, hd.1, ?_, ?_, ?_⟩
        · intro j hj hne he
          have := hd.2 j hj
          rw [he] at this
          simp at this
          exact hne this
        · intro e he hb
          have := haf e (by simpa using he)
          simpa [hb] using this
        · intro j hj
          have := hp j hj
          simp only [List.any_eq_true, Bool.and_eq_true] at this
          obtain ⟨h1, e, he, hb, hon⟩ := this
          exact ⟨by simpa using h1, e, by simpa using he, hb, Nat.eq_of_beq_eq_true hon⟩
      · cases hd
    · cases h
  have htl : ∀ (i : Nat) (o : Oper), m ≤ i → l[i]? = some o → (∀ j, j < i → waitsB l l.length o j = true) ∧ (∀ e ∈ o.after, Region.binds .any e = true → e.on < i) := by
    intro i o hi ho
    have hlt := (List.getElem?_eq_some_iff.1 ho).1
    have h := hck2 i hlt
    rw [ho] at h
    rw [show Nat.blt i m = false from blt_ge hi] at h
    simp only [Bool.false_or, Bool.and_eq_true, List.all_eq_true, List.mem_range] at h
    refine ⟨fun j hj => h.1 j hj, fun e he hb => ?_⟩
    · have := h.2 e (by simpa using he)
      simpa [hb] using this
  have hdc : ∀ (i : Nat) (o : Oper), l[i]? = some o → ∀ e ∈ o.after, Region.binds .any e = true → e.on < i := by
    intro i o ho
    rcases Nat.lt_or_ge i m with h | h
    · obtain ⟨o2, t, ho2, _, _, _, _, _, haf, _⟩ := hpre i h
      rw [ho] at ho2; cases ho2; exact haf
    · exact (htl i o h ho).2
  have main : ∀ (fuel : Nat) (L : Array Bool) (a : Act) (w : World) (val : Nat → Value) (ent : Nat → Nat × SObj) (H' : Hp), L.size = l.length → unl l.length L ≤ fuel → Le H H' → Gd H' → (∀ (i : Nat) (o : Oper), l[i]? = some o → lst L i = true → ∀ e ∈ o.after, Region.binds .any e = true → lst L e.on = true) → (∀ j, m ≤ j → lst L j = false) →
      a.tmps.size = C.N → (∀ t v, env.get t = some v → a.tmps.getD t undef = v) → (∃ ms : List Nat, a.defers = ms.map mark ++ df ∧ Ok C.G H' ((own ++ extOf cre L ent) ++ (ms.map hid ++ C.hid)) w) → (∀ i ∈ cre, lst L i = true → FO i (val i) (ent i) H') →
      (∀ i, i < m → lst L i = true → ∀ t, dstOf l i = some t → a.tmps.getD t undef = val i ∧ factAt F i (val i) H') →
      wpAnyIn (Fr C.r) 0 C.P .any l.toArray (lift C H Q) fuel L a w := by
    intro fuel
    induction fuel with
    | zero =>
      intro L a w val ent H' hs hu hle hGd hdown hT hsz henv hok hents hfacts
      have hall : ∀ j, j < m → lst L j = true := by
        intro j hj
        cases hx : lst L j with
        | true => rfl
        | false =>
          have := unl_set (L := L) (i := j) hs (by omega) hx
          omega
      have hm0 : l.length = m := by
        rcases Nat.lt_or_ge m l.length with h | h
        · have := unl_set (L := L) (i := m) hs h (hT m (Nat.le_refl _))
          omega
        · omega
      obtain ⟨acc', hk, hmem⟩ := withPreds_of (val := val) (List.range m) [] _ (tail H' hle hGd) (fun j hj => by
        have hj := List.mem_range.1 hj
        obtain ⟨o, t, ho, _, _, ht, _⟩ := hpre j hj
        have : dstOf l j = some t := by simp [dstOf, ho, ht]
        exact ⟨(hfacts j hj (hall j hj) t this).2, by rw [this]; rfl⟩)
      refine drawTail (m := m) htl hdc 0 m L a w (Nat.le_refl _) hs (by omega) hml ?_ ?_
      · intro j
        rcases Nat.lt_or_ge j m with h | h
        · rw [hall j h]; simp [h]
        · rw [hT j h]; simp; omega
      · have hcall : ∀ i ∈ cre, i < m := fun i hi => by simpa using List.all_eq_true.1 hcm i hi
        have hk2 := withEnts_of (ent := ent) cre _ hk (fun i hi v hg => by
          obtain ⟨t, hd, hg⟩ := hg
          have him := hcall i hi
          obtain ⟨j, hj, hdj, rfl⟩ := hmem t v (env_get_mem (by simpa using hg))
          have hjm := List.mem_range.1 hj
          by_cases hji : i = j
          · subst hji; exact hents i hi (hall i him)
          · obtain ⟨_, t2, _, _, _, _, _, hdis, _⟩ := hpre i him
            have h1 := hpre j hjm
            obtain ⟨o3, t3, ho3, _, _, ht3, _, hdis3, _⟩ := h1
            have e3 : dstOf l j = some t3 := by simp [dstOf, ho3, ht3]
            rw [e3] at hdj; cases hdj
            exact absurd hd (hdis3 i him (Ne.symm hji)))
        have hext : extOf cre L ent = cre.map ent := by
          rw [extOf, List.filter_eq_self.2 (fun i hi => hall i (hcall i hi))]
        have hok2 : ∃ ms : List Nat, a.defers = ms.map mark ++ df ∧ Ok C.G H' ((cre.map ent ++ own) ++ (ms.map hid ++ C.hid)) w := by
          obtain ⟨ms, h1, h2⟩ := hok
          rw [hext] at h2
          exact ⟨ms, h1, h2.perm (List.perm_append_comm.append_right _)⟩
        refine wpList_mono hle _ _ _ (hk2 a w ⟨hsz, ?_, hok2⟩)
        intro t v hg
        simp only [List.append_nil] at hg
        rw [Env.get_append] at hg
        cases hga : Env.get acc' t with
        | none => rw [hga] at hg; exact henv t v (by simpa using hg)
        | some u =>
          rw [hga] at hg; simp at hg; subst hg
          obtain ⟨j, hj, hd, rfl⟩ := hmem t u (by
            clear hmem hk hk2
            induction acc' with
            | nil => cases hga
            | cons p r ih =>
              obtain ⟨k, u'⟩ := p
              simp only [Env.get] at hga
              cases hb : Nat.beq k t with
              | true => rw [hb] at hga; simp at hga; subst hga; rw [← Nat.eq_of_beq_eq_true hb]; simp
              | false => rw [hb] at hga; exact List.mem_cons_of_mem _ (ih hga))
          have hj := List.mem_range.1 hj
          exact (hfacts j hj (hall j hj) t hd).1
    | succ fuel ih =>
      intro L a w val ent H' hs hu hle hGd hdown hT hsz henv hok hents hfacts
      by_cases hall : ∀ j, j < m → lst L j = true
      · obtain ⟨acc', hk, hmem⟩ := withPreds_of (val := val) (List.range m) [] _ (tail H' hle hGd) (fun j hj => by
          have hj := List.mem_range.1 hj
          obtain ⟨o, t, ho, _, _, ht, _⟩ := hpre j hj
          have : dstOf l j = some t := by simp [dstOf, ho, ht]
          exact ⟨(hfacts j hj (hall j hj) t this).2, by rw [this]; rfl⟩)
        have hcount : l.length - m ≤ fuel + 1 := by
          refine Nat.le_trans ?_ hu
          have : unl l.length L = (List.range l.length).countP fun i => decide (m ≤ i) := by
            refine List.countP_congr fun i hi => ?_
            rcases Nat.lt_or_ge i m with h | h
            · rw [hall i h]; simp; omega
            · rw [hT i h]; simp [h]
          rw [this]
          have key : ∀ n, m ≤ n → (List.range n).countP (fun i => decide (m ≤ i)) = n - m := by
            intro n
            induction n with
            | zero => intro h; simp
            | succ n ihn =>
              intro h
              rw [List.range_succ, List.countP_append]
              rcases Nat.lt_or_ge n m with h' | h'
              · have : n + 1 = m := by omega
                subst this
                have h0 : (List.range n).countP (fun i => decide (n + 1 ≤ i)) = 0 := by
                  rw [List.countP_eq_zero]; intro i hi; simp at hi ⊢; omega
                rw [h0]; simp
              · rw [ihn h']; simp [h']; omega
          rw [key _ hml]; exact Nat.le_refl _
        refine drawTail (m := m) htl hdc (fuel + 1) m L a w (Nat.le_refl _) hs hcount hml ?_ ?_
        · intro j
          rcases Nat.lt_or_ge j m with h | h
          · rw [hall j h]; simp [h]
          · rw [hT j h]; simp; omega
        · have hcall : ∀ i ∈ cre, i < m := fun i hi => by simpa using List.all_eq_true.1 hcm i hi
          have hk2 := withEnts_of (ent := ent) cre _ hk (fun i hi v hg => by
            obtain ⟨t, hd, hg⟩ := hg
            have him := hcall i hi
            obtain ⟨j, hj, hdj, rfl⟩ := hmem t v (env_get_mem (by simpa using hg))
            have hjm := List.mem_range.1 hj
            by_cases hji : i = j
            · subst hji; exact hents i hi (hall i him)
            · obtain ⟨_, t2, _, _, _, _, _, hdis, _⟩ := hpre i him
              have h1 := hpre j hjm
              obtain ⟨o3, t3, ho3, _, _, ht3, _, hdis3, _⟩ := h1
              have e3 : dstOf l j = some t3 := by simp [dstOf, ho3, ht3]
              rw [e3] at hdj; cases hdj
              exact absurd hd (hdis3 i him (Ne.symm hji)))
          have hext : extOf cre L ent = cre.map ent := by
            rw [extOf, List.filter_eq_self.2 (fun i hi => hall i (hcall i hi))]
          have hok2 : ∃ ms : List Nat, a.defers = ms.map mark ++ df ∧ Ok C.G H' ((cre.map ent ++ own) ++ (ms.map hid ++ C.hid)) w := by
            obtain ⟨ms, h1, h2⟩ := hok
            rw [hext] at h2
            exact ⟨ms, h1, h2.perm (List.perm_append_comm.append_right _)⟩
          refine wpList_mono hle _ _ _ (hk2 a w ⟨hsz, ?_, hok2⟩)
          intro t v hg
          simp only [List.append_nil] at hg
          rw [Env.get_append] at hg
          cases hga : Env.get acc' t with
          | none => rw [hga] at hg; exact henv t v (by simpa using hg)
          | some u =>
            rw [hga] at hg; simp at hg; subst hg
            obtain ⟨j, hj, hd, rfl⟩ := hmem t u (by
              clear hmem hk hk2
              induction acc' with
              | nil => cases hga
              | cons p r ih =>
                obtain ⟨k, u'⟩ := p
                simp only [Env.get] at hga
                cases hb : Nat.beq k t with
                | true => rw [hb] at hga; simp at hga; subst hga; rw [← Nat.eq_of_beq_eq_true hb]; simp
                | false => rw [hb] at hga; exact List.mem_cons_of_mem _ (ih hga))
            have hj := List.mem_range.1 hj
            exact (hfacts j hj (hall j hj) t hd).1
      · constructor
        · intro hnil
          exfalso
          apply hall
          -- the least one that is not listed is ready
          intro j hj
          induction j using Nat.strongRecOn with
          | _ j ihj =>
            cases hx : lst L j with
            | true => rfl
            | false =>
              exfalso
              obtain ⟨o, t, ho, _, _, _, _, _, haf, _⟩ := hpre j hj
              have : j ∈ Region.ready .any l.toArray L := by
                rw [mem_ready]
                refine ⟨?_, o, by simpa using ho, fun e he hb => ihj e.on (haf e he hb) (by have := haf e he hb; omega)⟩
                unfold lst at hx
                rw [Array.getD_eq_getD_getElem?, Array.getElem?_eq_getElem (by omega)] at hx ⊢
                simpa using hx
              rw [hnil] at this; cases this
        · intro i hi
          rw [mem_ready] at hi
          obtain ⟨h0, o, ho, hbef⟩ := hi
          have hilt : i < l.length := by simpa using (Array.getElem?_eq_some_iff.1 ho).1
          have hun : lst L i = false := by
            unfold lst
            rw [Array.getD_eq_getD_getElem?, Array.getElem?_eq_getElem (by omega)] at h0 ⊢
            simpa using h0
          have ho' : l[i]? = some o := by simpa using ho
          have him : i < m := by
            rcases Nat.lt_or_ge i m with h | h
            · exact h
            · exfalso
              apply hall
              intro j hj
              exact waits_listed hdown _ o j hbef ((htl i o h ho').1 j (by omega))
          obtain ⟨o2, t, ho2, hg, hnd, hd, hkeys, hdis, haf, hprd⟩ := hpre i him
          rw [ho'] at ho2; cases ho2
          have hst := stepsN_at l 0 steps i o ho' (by omega)
          simp only [Nat.zero_add] at hst
          -- all that is known of the slots, as one list
          let X : Env := (List.range m).filterMap fun j => if lst L j then (dstOf l j).map fun t => (t, val j) else none
          have hdstN : ∀ i, i < m → ∀ t, dstOf l i = some t → t < C.N := by
            intro i hi t ht
            have := List.all_eq_true.1 hN i (List.mem_range.2 hi)
            rw [ht] at this
            simpa using this
          obtain ⟨acc', hk, hmem⟩ := withPreds_of (val := val) (predsOf o) [] _ (hst X (extOf cre L ent) H' hle hGd) (fun j hj => by
            obtain ⟨hjm, e, he, hb, hon⟩ := hprd j hj
            obtain ⟨oj, tj, hoj, _, _, htj, _⟩ := hpre j hjm
            have hdj : dstOf l j = some tj := by simp [dstOf, hoj, htj]
            have hlj : lst L j = true := by have := hbef e he hb; rw [hon] at this; exact this
            exact ⟨(hfacts j hjm hlj tj hdj).2, by rw [hdj]; rfl⟩)
          simp only [List.append_nil] at hk
          have hgetmem : ∀ (e : Env) (t : Nat) (u : Value), Env.get e t = some u → (t, u) ∈ e := by
            intro e
            induction e with
            | nil => intro t u h; cases h
            | cons p r ih =>
              intro t u h
              obtain ⟨k, u'⟩ := p
              simp only [Env.get] at h
              cases hb : Nat.beq k t with
              | true => rw [hb] at h; simp at h; subst h; rw [← Nat.eq_of_beq_eq_true hb]; simp
              | false => rw [hb] at h; exact List.mem_cons_of_mem _ (ih t u h)
          have hrel : Rel C ⟨acc' ++ (env ++ X), df, H', own ++ extOf cre L ent⟩ a w := by
            refine ⟨hsz, ?_, hok⟩
            intro t v hgv
            rw [Env.get_append, Env.get_append] at hgv
            cases hga : Env.get acc' t with
            | some u =>
              rw [hga] at hgv; simp at hgv; subst hgv
              obtain ⟨j, hj, hdj, rfl⟩ := hmem t u (hgetmem _ _ _ hga)
              obtain ⟨hjm, e, he, hb, hon⟩ := hprd j hj
              have hlj : lst L j = true := by have := hbef e he hb; rw [hon] at this; exact this
              exact (hfacts j hjm hlj t hdj).1
            | none =>
              rw [hga] at hgv; simp only [Option.none_or] at hgv
              cases hge : Env.get env t with
              | some u => rw [hge] at hgv; simp at hgv; subst hgv; exact henv t u hge
              | none =>
                rw [hge] at hgv; simp only [Option.none_or] at hgv
                have := hgetmem _ _ _ hgv
                obtain ⟨j, hj, hjj⟩ := List.mem_filterMap.1 this
                split at hjj
                · rename_i hlj
                  cases hdj : dstOf l j with
                  | none => rw [hdj] at hjj; cases hjj
                  | some tj =>
                    rw [hdj] at hjj
                    simp only [Option.map_some, Option.some.injEq, Prod.mk.injEq] at hjj
                    obtain ⟨rfl, rfl⟩ := hjj
                    exact (hfacts j (List.mem_range.1 hj) hlj tj hdj).1
                · cases hjj
          have hrun := hk a w hrel
          unfold wpOpIn
          rw [ho]
          simp only [wpListIn, Region.wanted, hg, if_true] at hrun ⊢
          refine wpInOper_mono ?_ ?_ hrun
          · rintro a' w' ⟨σ', hr', hle', hGd', hdf', v, pe, henv', hfv, hown'⟩
            have hty : dstOf l i = some t := by simp [dstOf, ho', hd]
            refine ih (L.setIfInBounds i true) a' w' (fun j => if j = i then v else val j) (fun j => if j = i then pe else ent j) σ'.H (by simpa using hs) ?_ (hle.trans hle') hGd' ?_ ?_ hr'.size ?_ ?_ ?_ ?_
            · have := unl_set hs hilt hun; omega
            · intro i' o' hi' hl' e he hb
              rw [lst_set (by omega)] at hl' ⊢
              split
              · rfl
              · split at hl'
                · rename_i e1 e2; subst e2; rw [ho'] at hi'; cases hi'; exact hbef e he hb
                · exact hdown i' o' hi' hl' e he hb
            · intro j hj
              rw [lst_set (by omega), if_neg (by omega)]
              exact hT j hj
            · intro t' v' hg'
              refine hr'.get t' v' ?_
              rw [henv', hd]
              simp only [putE, Env.get]
              have hne : t ≠ t' := by
                intro e; subst e
                exact hkeys (List.mem_map.2 ⟨(t, v'), hgetmem _ _ _ hg', rfl⟩)
              rw [show Nat.beq t t' = false from beq_ne hne]
              simp only [cond_false]
              rw [Env.get_append, Env.get_append]
              have : Env.get acc' t' = none := by
                cases hga : Env.get acc' t' with
                | none => rfl
                | some u =>
                  obtain ⟨j, hj, hdj, _⟩ := hmem t' u (hgetmem _ _ _ hga)
                  obtain ⟨hjm, _⟩ := hprd j hj
                  obtain ⟨oj, tj, hoj, _, _, htj, hkj, _⟩ := hpre j hjm
                  have : dstOf l j = some tj := by simp [dstOf, hoj, htj]
                  rw [this] at hdj; cases hdj
                  exact absurd (List.mem_map.2 ⟨(t', v'), hgetmem _ _ _ hg', rfl⟩) hkj
              rw [this, hg']; rfl
            · obtain ⟨ms, hd', hok'⟩ := hr'.ok
              refine ⟨ms, by rw [hd', hdf'], ?_⟩
              cases hc : cre.contains i with
              | true =>
                rw [hc] at hown'
                rw [hown'.1] at hok'
                refine hok'.perm (List.Perm.append_right _ ?_)
                exact ((ext_new hnd0 (List.contains_iff_mem.1 hc) hun (fun j => lst_set (by omega) j)).append_left own).trans List.perm_middle
              | false =>
                rw [hc] at hown'
                rw [show σ'.own = own ++ extOf cre L ent from hown'] at hok'
                rw [ext_old (fun h => by rw [List.contains_iff_mem.2 h] at hc; cases hc) (fun j => lst_set (by omega) j)]
                exact hok'
            · intro j hj hlj
              rw [lst_set (by omega)] at hlj
              by_cases hji : j = i
              · subst hji
                rw [List.contains_iff_mem.2 hj] at hown'
                simpa using hown'.2
              · rw [if_neg hji] at hlj
                simp only [if_neg hji]
                exact hFO _ _ _ _ _ hle' (hents j hj hlj)
            · intro j hj hlj tj htj
              rw [lst_set (by omega)] at hlj
              by_cases hji : j = i
              · subst hji
                rw [hty] at htj; cases htj
                simp only [if_true]
                refine ⟨hr'.get t v ?_, hfv⟩
                rw [henv', hd]; simp [putE, Env.get]
              · rw [if_neg hji] at hlj
                obtain ⟨h1, h2⟩ := hfacts j hj hlj tj htj
                simp only [if_neg hji]
                refine ⟨hr'.get tj (val j) ?_, factAt_mono hmono hle' h2⟩
                rw [henv', hd]
                simp only [putE, Env.get]
                have hne : t ≠ tj := by
                  intro e; subst e
                  exact hdis j hj (Ne.symm hji) htj
                rw [show Nat.beq t tj = false from beq_ne hne]
                simp only [cond_false]
                rw [Env.get_append, Env.get_append]
                have hacc : Env.get acc' tj = none ∨ Env.get acc' tj = some (val j) := by
                  cases hga : Env.get acc' tj with
                  | none => exact .inl rfl
                  | some u =>
                    obtain ⟨j', hj', hdj', rfl⟩ := hmem tj u (hgetmem _ _ _ hga)
                    obtain ⟨hjm', _⟩ := hprd j' hj'
                    by_cases hjj : j' = j
                    · subst hjj; exact .inr rfl
                    · obtain ⟨o3, t3, ho3, _, _, ht3, _, hdis3, _⟩ := hpre j hj
                      have : dstOf l j = some t3 := by simp [dstOf, ho3, ht3]
                      rw [this] at htj; cases htj
                      exact absurd hdj' (hdis3 j' hjm' (Ne.symm hjj))
                rcases hacc with hacc | hacc
                · rw [hacc]
                  have henvn : Env.get env tj = none := by
                    cases hge : Env.get env tj with
                    | none => rfl
                    | some u =>
                      obtain ⟨o3, t3, ho3, _, _, ht3, hk3, _⟩ := hpre j hj
                      have : dstOf l j = some t3 := by simp [dstOf, ho3, ht3]
                      rw [this] at htj; cases htj
                      exact absurd (List.mem_map.2 ⟨(tj, u), hgetmem _ _ _ hge, rfl⟩) hk3
                  rw [henvn]
                  simp only [Option.none_or]
                  -- it stands in X, once
                  have hin : (tj, val j) ∈ X := List.mem_filterMap.2 ⟨j, List.mem_range.2 hj, by simp only [hlj, if_true, htj, Option.map_some]⟩
                  have huniq : ∀ u, (tj, u) ∈ X → u = val j := by
                    intro u hu'
                    obtain ⟨j', hj', hjj'⟩ := List.mem_filterMap.1 hu'
                    split at hjj'
                    · cases hdj' : dstOf l j' with
                      | none => rw [hdj'] at hjj'; cases hjj'
                      | some t' =>
                        rw [hdj'] at hjj'
                        simp only [Option.map_some, Option.some.injEq, Prod.mk.injEq] at hjj'
                        obtain ⟨rfl, rfl⟩ := hjj'
                        by_cases hjj : j' = j
                        · subst hjj; rfl
                        · obtain ⟨o3, t3, ho3, _, _, ht3, _, hdis3, _⟩ := hpre j hj
                          have : dstOf l j = some t3 := by simp [dstOf, ho3, ht3]
                          rw [this] at htj; cases htj
                          exact absurd hdj' (hdis3 j' (List.mem_range.1 hj') (Ne.symm hjj))
                    · cases hjj'
                  have hgx : ∀ (e : Env), (tj, val j) ∈ e → (∀ u, (tj, u) ∈ e → u = val j) → Env.get e tj = some (val j) := by
                    intro e
                    induction e with
                    | nil => intro h _; cases h
                    | cons p r ih2 =>
                      intro h hu2
                      obtain ⟨k, u'⟩ := p
                      simp only [Env.get]
                      cases hb : Nat.beq k tj with
                      | true =>
                        have := Nat.eq_of_beq_eq_true hb
                        subst this
                        rw [hu2 u' (by simp)]; rfl
                      | false =>
                        simp only [cond_false]
                        refine ih2 ?_ (fun u hu3 => hu2 u (List.mem_cons_of_mem _ hu3))
                        rcases List.mem_cons.1 h with h | h
                        · cases h; simp at hb
                        · exact h
                  exact hgx X hin huniq
                · rw [hacc]; rfl
          · rintro e a' w' he ⟨σ', _, _, hq⟩
            cases e <;> first | exact absurd rfl he | exact hq.elim
  have hlst0 : ∀ j, lst (Array.replicate l.toArray.size false) j = false := fun j => by simp [lst, Array.getD_eq_getD_getElem?, Array.getElem?_replicate]; split <;> rfl
  exact main l.toArray.size (Array.replicate l.toArray.size false) a₀ _ (fun _ => undef) (fun _ => (0, .nothing)) H (by simp) (by
      refine Nat.le_trans (List.countP_le_length) (by simp)) (Le.refl _) hG (fun i o _ hl => by
      have : lst (Array.replicate l.toArray.size false) i = false := by simp [lst, Array.getD_eq_getD_getElem?, Array.getElem?_replicate]; split <;> rfl
      rw [this] at hl; cases hl) (fun j _ => by simp [lst, Array.getD_eq_getD_getElem?, Array.getElem?_replicate]; split <;> rfl) hr₀.size hr₀.get
    (let ⟨ms, hd, hok⟩ := hr₀.ok; ⟨ms, hd, by rw [ext_none hlst0, List.append_nil]; exact hok.drew⟩) (fun i _ h => by rw [hlst0] at h; cases h) (fun i _ h => by
      have : lst (Array.replicate l.toArray.size false) i = false := by simp [lst, Array.getD_eq_getD_getElem?, Array.getElem?_replicate]; split <;> rfl
      rw [this] at h; cases h)

variable {ops : Array Oper} {rest : List Oper}
variable {dst : Option Tmp} {ty : TypeId} {pos : String} {af : Array Edge}
/-- append to a published slice that has no room for what is added: a new block of the call's own. -/
theorem XO.appendN {α : Type} {ρ : Rep α} {t e : TypeId} {x y : Operand} {a a' : Option Addr} {c c' n n' : Nat} {l l' : List α} {zs : List Value} {agg : Bool}
    (hx : ev env x = some (.slice a n c)) (hs : SlR ρ H a c l) (hln : n = l.length) (hy : ev env y = some (.slice a' n' c')) (hsrc : SlR ρ H a' c' l') (hln' : n' = l'.length) (hroom : c < l.length + l'.length)
    (ht : C.P.underlying t = some (.slice e)) (he : tyF C.P e ρ.sz agg = true) (hz : zeroC C.P e = some zs) (hzl : Nat.beq zs.length ρ.sz = true) (hby : Nat.ble (C.P.bytesOf e) 4096 = true) (hn : l.length + l'.length ≤ 1073741824) (hd : dstOk C.N dst = true)
    (h : ∀ p' a'' c'', Acc ρ e H p' a'' c'' (l ++ l') → XO C ops Q rest ⟨putE dst (.slice a'' (l ++ l').length c'') env, df, H, p' :: own⟩) :
    XO C ops Q (⟨dst, .call { callee := .builtin .append, args := #[x, y], argTypes := #[t, t] }, ty, pos, af, none⟩ :: rest) ⟨env, df, H, own⟩ := by
  cases a with
  | none =>
    obtain rfl := hs.nil rfl
    have hl0 : l = [] := List.length_eq_zero_iff.1 (by have := hs.le; omega)
    subst hl0
    refine XO.open0 (σ := []) fun b => ?_
    refine XO.appendA 0 hx rfl (Acc.nil ρ e H b) hln hy hsrc hln' ht he hz hzl hby hn hd fun p' a'' c'' hacc => ?_
    exact h p' a'' c'' hacc
  | some ad =>
    refine XO.open0 (σ := []) fun b => ?_
    subst hln; subst hln'
    refine XO.op rfl rfl hd fun ρ' w fr ha hok => ?_
    have hcs := hs.cells
    obtain ⟨cs, hrows0, hcells0⟩ := hcs
    obtain ⟨_, inf, hi, hsz⟩ := tyF_run he
    have hzl' := Nat.eq_of_beq_eq_true hzl
    have hby0 := Nat.le_of_ble_eq_true hby
    have hby' : inf.bytes ≤ 4096 := by simpa [Program.bytesOf, hi] using hby0
    have hmul : (l.length + l'.length) * inf.bytes ≤ 140737488355328 := Nat.le_trans (Nat.mul_le_mul hn hby') (by decide)
    obtain ⟨z, hzz, hzc⟩ : ∃ z, inf.zero = some z ∧ z.cells = zs.toArray := by
      unfold zeroC at hz
      rw [hi] at hz
      simp only at hz
      split at hz
      · rename_i z hzz; exact ⟨z, hzz, cellsO_eq hz⟩
      · cases hz
    have hpos : 0 < l'.length := by have := hs.le; omega
    obtain ⟨x0, lt, hl'⟩ : ∃ x0 lt, l' = x0 :: lt := by cases l' with | nil => simp at hpos | cons x0 lt => exact ⟨x0, lt, rfl⟩
    obtain ⟨cs', hrows, hcells⟩ := hsrc.cells
    obtain ⟨b', o', c0, ha', _, _⟩ := hsrc.el 0 x0 (by rw [hl']; rfl)
    have hnews : ∀ j v, cs'[j]? = some v → w.cell? ((⟨b', o', none⟩ : Addr).add j) = some v := by
      intro j v hj
      obtain ⟨cc, T, fz, hH, hc⟩ := hcells b' o' ha' j v hj
      rw [addr_add]
      simp [World.cell?, hok.pub _ _ hH, hc]
    have holds : ∀ j v, cs[j]? = some v → w.cell? (ad.add j) = some v := by
      intro j v hj
      cases hl : l with
      | nil =>
        rw [hl] at hrows0
        obtain rfl : cs = [] := hrows0
        simp at hj
      | cons y0 ly =>
        obtain ⟨b1, o1, _, had, _, _⟩ := hs.el 0 y0 (by rw [hl]; rfl)
        obtain ⟨cc, T, fz, hH, hc⟩ := hcells0 b1 o1 had j v hj
        cases had
        rw [addr_add]
        simp [World.cell?, hok.pub _ _ hH, hc]
    have hlen : cs'.length = l'.length * inf.size := by rw [hsz]; exact hrows.length
    have hrun := run_append_grow (P := C.P) (w := w) t ty e inf z ht hi hzz ad l.length c cs (by rw [hsz]; exact hrows0.length) holds
      ⟨b', o', none⟩ l'.length c' cs' hlen hnews (by omega) (by omega) (growslice_fits (by omega) hmul)
    have hge := grownCap_ge w (l.length + l'.length) c e
    have hok' : Ok C.G H (Own.set2 ((b, SObj.nothing) :: own) 0 (w.heap.size, .row e (grownCap w (l.length + l'.length) c e * ρ.sz) (cs ++ cs')) ++ fr) (w.drew.alloc (.cells (cs.toArray ++ cs'.toArray ++ Builtin.zeroCells z.cells (grownCap w (l.length + l'.length) c e - (l.length + l'.length))) e)) := by
      refine hok.swap (i := 0) rfl ⟨(Builtin.zeroCells z.cells (grownCap w (l.length + l'.length) c e - (l.length + l'.length))).toList, by simp, ?_⟩
      rw [hzc, List.length_append, zeroCells_len, hzl', List.length_append, hrows0.length, hrows.length, ← Nat.add_mul, ← Nat.add_mul]
      congr 1; omega
    refine ⟨.value (.slice (some ⟨w.heap.size, 0, none⟩) (l ++ l').length (grownCap w (l.length + l'.length) c e)), _, _, H, _, ?_, .inl rfl, Le.refl _, hok', h _ _ _ (.inr ⟨cs ++ cs', rfl, rfl, hrows0.append hrows, by simpa using hge⟩)⟩
    subst ha'
    simp only [execOp, resolve, Sem.run_bind]
    simp only [Pure.pure, Sem.run, Result.andThen, invoke, builtin, Sem.run_bind]
    simp [ha _ _ hx, ha _ _ hy, hrun, Result.andThen, Sem.run]
end
end Go.XL
