/- The logic's rules for regions that draw their order, and for scopes. No statement of the program stands here. -/
import Derived.Test.YtbfleiickdobnaaXLf
import Derived.OrdersIn
set_option autoImplicit false
set_option linter.unusedSimpArgs false
set_option linter.unusedVariables false
set_option linter.unnecessarySimpa false
namespace Go.XL

/-! ### Scopes through which the run goes without a goto -/
theorem stepR_scope {P : Program} {b : Frame} {a : Act} {k : List Item} {cs : List Frame} {w : World} {c : Code} : step P (lone (b.atR a (.code (.scope c) :: k)) cs w) = .next (lone (b.atR a (.code c :: .inScope c :: k)) cs w) :=
  step_lone_go (by simp [stepG, stepG.exec, Frame.atR])
theorem stepR_inScope {P : Program} {b : Frame} {a : Act} {k : List Item} {cs : List Frame} {w : World} {c : Code} : step P (lone (b.atR a (.inScope c :: k)) cs w) = .next (lone (b.atR a k) cs w) :=
  step_lone_go (by simp [stepG, stepG.exec, Frame.atR])

def scopeQ (Q : Exit → St → Prop) : Exit → St → Prop
  | .goto _, _ => False
  | e, σ => Q e σ

theorem XC.scope {C : Ctx} {c : Code} {Q : Exit → St → Prop} {σ : St} (h : XC C c (scopeQ Q) σ) : XC C (.scope c) Q σ := by
  intro a w hr b k cs hro hb hroom
  obtain ⟨e, a₁, w₁, hq, harr⟩ := h a w hr b (.inScope c :: k) cs hro hb hroom
  have h0 : (lone (b.atR a (.code (.scope c) :: k)) cs w).fenced C.P (Fr C.r) := fenced_calm hb hroom rfl
  obtain ⟨τ, hr1, hle, hq⟩ := hq
  have hex : ∀ id, exitTo id (.inScope c :: k) = exitTo id k := fun id => by simp [exitTo]
  cases e with
  | normal => exact ⟨.normal, a₁, w₁, ⟨τ, hr1, hle, hq⟩, .head h0 stepR_scope (StepsIn.trans harr (.one (fenced_calm hb hroom rfl) stepR_inScope))⟩
  | exit id =>
    refine ⟨.exit id, a₁, w₁, ⟨τ, hr1, hle, hq⟩, fun k' hk => .head h0 stepR_scope (harr.1 k' (by rw [hex]; exact hk)), fun hr' hk => ?_⟩
    obtain ⟨k₁, h1, h2⟩ := harr.2 hr' (by rw [hex]; exact hk)
    exact ⟨k₁, h1, .head h0 stepR_scope h2⟩
  | goto l => exact hq.elim
  | ret => exact ⟨_, a₁, w₁, ⟨τ, hr1, hle, hq⟩, .of_steps (.one h0 stepR_scope) harr⟩
  | panic ch => exact ⟨_, a₁, w₁, ⟨τ, hr1, hle, hq⟩, .of_steps (.one h0 stepR_scope) harr⟩
  | outgrown => exact ⟨_, a₁, w₁, ⟨τ, hr1, hle, hq⟩, .of_steps (.one h0 stepR_scope) harr⟩

theorem scopeN {Q : Exit → St → Prop} {σ : St} (h : Q .normal σ) : scopeQ Q .normal σ := h
theorem scopeX_ret {Q : Exit → St → Prop} {σ : St} (h : Q .ret σ) : scopeQ Q .ret σ := h
theorem scopeX_exit {Q : Exit → St → Prop} {σ : St} {id : Nat} (h : Q (.exit id) σ) : scopeQ Q (.exit id) σ := h

/-! ### Regions that draw their order -/
def dstOf (l : List Oper) (j : Nat) : Option Nat := match l[j]? with | some o => o.dst | none => none
/-- 'the value is this one' -/
def eqF (c : Value) : Value → Hp → Prop := fun v _ => v = c
theorem eqF_mono (c : Value) : ∀ v H H', Le H H' → eqF c v H → eqF c v H' := fun _ _ _ _ h => h
/-- 'a published slice of these' -/
def slF {α : Type} (ρ : Rep α) (l : List α) : Value → Hp → Prop := fun v H => ∃ b, v = .slice (some ⟨b, 0, none⟩) l.length l.length ∧ SlR ρ H (some ⟨b, 0, none⟩) l.length l
theorem slF_mono {α : Type} (ρ : Rep α) (l : List α) : ∀ v H H', Le H H' → slF ρ l v H → slF ρ l v H' := fun _ _ _ hle ⟨b, h1, h2⟩ => ⟨b, h1, h2.mono hle⟩
def factAt (F : List (Value → Hp → Prop)) : Nat → Value → Hp → Prop
  | 0 => match F with | f :: _ => f | [] => fun _ _ => False
  | n + 1 => match F with | _ :: r => factAt r n | [] => fun _ _ => False
def predsOf (o : Oper) : List Nat := o.after.toList.filterMap fun e => match e.ground with | .data => some e.on | _ => none

def withPreds (l : List Oper) (F : List (Value → Hp → Prop)) (H' : Hp) : List Nat → Env → (Env → Prop) → Prop
  | [], acc, K => K acc
  | j :: js, acc, K => match dstOf l j with
    | some t => ∀ v, factAt F j v H' → withPreds l F H' js ((t, v) :: acc) K
    | none => True

def stepQ (Gd : Hp → Prop) (dst : Option Tmp) (f : Value → Hp → Prop) (env : Env) (df : List Deferred) (own : Own) : Exit → St → Prop
  | .normal, σ => Gd σ.H ∧ σ.df = df ∧ σ.own = own ∧ ∃ v, σ.env = putE dst v env ∧ f v σ.H
  | _, _ => False

def stepsD (Gd : Hp → Prop) (C : Ctx) (l : List Oper) (F : List (Value → Hp → Prop)) (env : Env) (df : List Deferred) (H : Hp) (own : Own) (m : Nat) : Nat → List Oper → Prop
  | _, [] => True
  | k, o :: rest => bif Nat.blt k m then
      (∀ X H', Le H H' → Gd H' → withPreds l F H' (predsOf o) [] fun acc => XO C l.toArray (stepQ Gd o.dst (factAt F k) (acc ++ (env ++ X)) df own) [o] ⟨acc ++ (env ++ X), df, H', own⟩) ∧ stepsD Gd C l F env df H own m (k + 1) rest
    else True

def monoL : List (Value → Hp → Prop) → Prop
  | [] => True
  | f :: r => (∀ v H H', Le H H' → f v H → f v H') ∧ monoL r
def monoF (F : List (Value → Hp → Prop)) : Prop := ∀ f ∈ F, ∀ v H H', Le H H' → f v H → f v H'

theorem monoF_of {F : List (Value → Hp → Prop)} (h : monoL F) : monoF F := by
  induction F with
  | nil => intro f hf; cases hf
  | cons g F ih =>
    intro f hf
    rcases List.mem_cons.1 hf with rfl | hf
    · exact h.1
    · exact ih h.2 f hf

def bindsAll (o : Oper) (i : Nat) : Bool := o.after.any fun e => Region.binds .any e && Nat.beq e.on i

/-- o waits for the operation j, by whatever road -/
def waitsB (l : List Oper) : Nat → Oper → Nat → Bool
  | 0, _, _ => false
  | f + 1, o, j => (o.after.toList.any fun e => Region.binds .any e && Nat.beq e.on j) || (o.after.toList.any fun e => Region.binds .any e && match l[e.on]? with | some o' => waitsB l f o' j | none => false)

/-- What is looked up in the region's text: each of the first m operations writes a slot of its own, under no guard; the later ones wait for all of those, and for each other in turn. -/
def drawOk (m : Nat) (l : List Oper) (keys : List Nat) : Bool :=
  Nat.ble m l.length && (List.range m).all (fun i => match l[i]? with
    | some o => o.guard.isNone && notDefer o.op && (match o.dst with
      | some t => !keys.contains t && (List.range m).all (fun j => Nat.beq i j || !(dstOf l j == some t))
      | none => false) && (o.after.toList.all fun e => !Region.binds .any e || Nat.blt e.on i) && (predsOf o).all (fun j => Nat.blt j m && o.after.toList.any fun e => Region.binds .any e && Nat.beq e.on j)
    | none => false) &&
  (List.range l.length).all (fun i => Nat.blt i m || match l[i]? with
    | some o => (List.range i).all (fun j => waitsB l l.length o j) && (o.after.toList.all fun e => !Region.binds .any e || Nat.blt e.on i)
    | none => false)

theorem factAt_mono {F : List (Value → Hp → Prop)} (h : monoF F) {i : Nat} {v : Value} {H H' : Hp} (hle : Le H H') (hf : factAt F i v H) : factAt F i v H' := by
  induction F generalizing i with
  | nil => cases i <;> exact hf.elim
  | cons f F ih =>
    cases i with
    | zero => exact h f (by simp) v H H' hle hf
    | succ i => exact ih (fun g hg => h g (by simp [hg])) hf

theorem Env.get_append {a b : Env} {t : Nat} : Env.get (a ++ b) t = (Env.get a t).or (Env.get b t) := by
  induction a with
  | nil => simp [Env.get]
  | cons p r ih =>
    obtain ⟨k, u⟩ := p
    simp only [List.cons_append, Env.get]
    cases hk : Nat.beq k t with
    | true => simp
    | false => simpa using ih

theorem withPreds_of {l : List Oper} {F : List (Value → Hp → Prop)} {H' : Hp} {val : Nat → Value} : ∀ (js : List Nat) (acc : Env) (K : Env → Prop), withPreds l F H' js acc K → (∀ j ∈ js, factAt F j (val j) H' ∧ (dstOf l j).isSome = true) →
    ∃ acc', K (acc' ++ acc) ∧ ∀ t v, (t, v) ∈ acc' → ∃ j ∈ js, dstOf l j = some t ∧ v = val j
  | [], acc, K, h, _ => ⟨[], h, fun _ _ h => by cases h⟩
  | j :: js, acc, K, h, hf => by
    obtain ⟨h1, h2⟩ := hf j (by simp)
    obtain ⟨t, ht⟩ := Option.isSome_iff_exists.1 h2
    simp only [withPreds, ht] at h
    obtain ⟨acc', hk, hm⟩ := withPreds_of js _ K (h (val j) h1) (fun j' hj' => hf j' (by simp [hj']))
    refine ⟨acc' ++ [(t, val j)], by simpa using hk, fun t' v' hm' => ?_⟩
    rcases List.mem_append.1 hm' with hm' | hm'
    · obtain ⟨j', hj', h3⟩ := hm t' v' hm'; exact ⟨j', by simp [hj'], h3⟩
    · simp only [List.mem_singleton, Prod.mk.injEq] at hm'
      obtain ⟨rfl, rfl⟩ := hm'
      exact ⟨j, by simp, ht, rfl⟩

theorem wpInOper_mono {C : Ctx} {o : Oper} {a : Act} {w : World} {K K' : Act → World → Prop} {Q Q' : Exit → Act → World → Prop} (h : ∀ a w, K a w → K' a w) (hq : ∀ e a w, e ≠ .normal → Q e a w → Q' e a w)
    (hh : o.wpIn (Fr C.r) 0 C.P a w K Q) : o.wpIn (Fr C.r) 0 C.P a w K' Q' := by
  refine ⟨hh.1, ?_⟩
  have h2 := hh.2
  generalize (o.semAt (Fr C.r).round a.eval).run C.P w = res at h2
  have hlo : LetsOut Q → LetsOut Q' := fun ⟨a, w, l⟩ => ⟨a, w, hq _ _ _ (by simp) l⟩
  cases res with
  | ok nx w' =>
    cases nx with
    | value v => exact h _ _ h2
    | skip => exact h _ _ h2
    | defer d => exact h _ _ h2
    | enter f args =>
      refine ⟨h2.1, h2.2.1, fun cs hcs => ?_⟩
      obtain ⟨e, w', fr, hR, hx⟩ := h2.2.2 cs hcs
      refine ⟨e, w', fr, ?_, hx⟩
      cases e with
      | returned v => exact h _ _ hR
      | panicked ch => exact hq _ _ _ (by simp) hR
      | outgrown => exact hlo hR
    | row row args => exact ⟨h2.1, h2.2.mono fun _ _ hR => h _ _ hR⟩
    | round l f tmps as bd =>
      refine ⟨h2.1, h2.2.mono fun e w hR => ?_⟩
      cases e with
      | returned v => exact h _ _ hR
      | panicked ch => exact hq _ _ _ (by simp) hR
      | outgrown => exact hlo hR
    | _ => exact h2.elim
  | halt hh w' =>
    cases hh with
    | panic v => exact hq _ _ _ (by simp) h2
    | _ => exact h2.elim

theorem beq_ne {a b : Nat} (h : a ≠ b) : Nat.beq a b = false := by
  cases hb : Nat.beq a b with
  | true => exact absurd (Nat.eq_of_beq_eq_true hb) h
  | false => rfl

theorem blt_ge {a b : Nat} (h : b ≤ a) : Nat.blt a b = false := by
  cases hb : Nat.blt a b with
  | true => have : a < b := by simpa using hb
            omega
  | false => rfl

theorem countP_lt {p q : Nat → Bool} : ∀ (l : List Nat), (∀ i, q i = true → p i = true) → (∃ i, i ∈ l ∧ p i = true ∧ q i = false) → l.countP q < l.countP p
  | [], _, ⟨i, h, _⟩ => by cases h
  | x :: l, hq, ⟨i, hi, hp, hn⟩ => by
    have hle : l.countP q ≤ l.countP p := List.countP_mono_left fun a _ h => hq a h
    rw [List.countP_cons, List.countP_cons]
    by_cases hx : x = i
    · subst hx; rw [hp, hn]; simp; omega
    · have hi' : i ∈ l := by rcases List.mem_cons.1 hi with h | h; exact absurd h.symm hx; exact h
      have ih := countP_lt l hq ⟨i, hi', hp, hn⟩
      cases h1 : q x with
      | true => rw [hq x h1]; simp; omega
      | false => simp; omega

abbrev lst (L : Array Bool) (i : Nat) : Bool := L.getD i false
abbrev unl (n : Nat) (L : Array Bool) : Nat := (List.range n).countP fun i => !lst L i

theorem waits_listed {l : List Oper} {L : Array Bool} (hdown : ∀ (i : Nat) (o : Oper), l[i]? = some o → lst L i = true → ∀ e ∈ o.after, Region.binds .any e = true → lst L e.on = true) : ∀ (f : Nat) (o : Oper) (j : Nat),
    (∀ e ∈ o.after, Region.binds .any e = true → lst L e.on = true) → waitsB l f o j = true → lst L j = true
  | 0, _, _, _, h => by cases h
  | f + 1, o, j, ho, h => by
    simp only [waitsB, Bool.or_eq_true, List.any_eq_true, Bool.and_eq_true] at h
    rcases h with ⟨e, he, hb, hon⟩ | ⟨e, he, hb, hw⟩
    · have := ho e (by simpa using he) hb
      rwa [Nat.eq_of_beq_eq_true hon] at this
    · split at hw
      · rename_i o' ho'
        exact waits_listed hdown f o' j (hdown _ _ ho' (ho e (by simpa using he) hb)) hw
      · cases hw

theorem lst_set {L : Array Bool} {i : Nat} (hi : i < L.size) (j : Nat) : lst (L.setIfInBounds i true) j = if j = i then true else lst L j := by
  unfold lst
  by_cases h : j = i
  · subst h; simp [hi]
  · rw [if_neg h]; simp [Array.getElem?_setIfInBounds_ne (Ne.symm h)]

theorem unl_set {n : Nat} {L : Array Bool} {i : Nat} (hs : L.size = n) (hi : i < n) (hl : lst L i = false) : unl n (L.setIfInBounds i true) < unl n L := by
  refine countP_lt _ ?_ ⟨i, by simpa using hi, by simp [hl], ?_⟩
  · intro j hj
    rw [lst_set (by omega)] at hj
    split at hj
    · cases hj
    · exact hj
  · rw [lst_set (by omega)]; simp

section
variable {C : Ctx} {Q : Exit → St → Prop} {env : Env} {df : List Deferred} {H : Hp} {own : Own}

theorem stepsD_at {Gd : Hp → Prop} {l : List Oper} {F : List (Value → Hp → Prop)} {m : Nat} : ∀ (rest : List Oper) (k : Nat), stepsD Gd C l F env df H own m k rest → ∀ (i : Nat) (o : Oper), rest[i]? = some o → k + i < m →
    ∀ X H', Le H H' → Gd H' → withPreds l F H' (predsOf o) [] fun acc => XO C l.toArray (stepQ Gd o.dst (factAt F (k + i)) (acc ++ (env ++ X)) df own) [o] ⟨acc ++ (env ++ X), df, H', own⟩
  | [], k, _, i, o, hi, _ => by simp at hi
  | x :: rest, k, h, i, o, hi, hlt => by
    simp only [stepsD] at h
    rw [show Nat.blt k m = true by simp; omega] at h
    cases i with
    | zero => simp only [List.getElem?_cons_zero, Option.some.injEq] at hi; subst hi; exact h.1
    | succ i =>
      have := stepsD_at rest (k + 1) h.2 i o (by simpa using hi) (by omega)
      rwa [show k + 1 + i = k + (i + 1) by omega] at this

/-- the tail, in the order of the text -/
theorem drawTail {l : List Oper} {Q' : Exit → Act → World → Prop} {m : Nat}
    (hck : ∀ (i : Nat) (o : Oper), m ≤ i → l[i]? = some o → (∀ j, j < i → waitsB l l.length o j = true) ∧ (∀ e ∈ o.after, Region.binds .any e = true → e.on < i))
    (hdc : ∀ (i : Nat) (o : Oper), l[i]? = some o → ∀ e ∈ o.after, Region.binds .any e = true → e.on < i) :
    ∀ (fuel k : Nat) (L : Array Bool) (a : Act) (w : World), m ≤ k → L.size = l.length → l.length - k ≤ fuel → k ≤ l.length → (∀ j, lst L j = decide (j < k)) → wpListIn (Fr C.r) 0 C.P l.toArray Q' (l.drop k) a w →
      wpAnyIn (Fr C.r) 0 C.P .any l.toArray Q' fuel L a w := by
  intro fuel
  induction fuel with
  | zero =>
    intro k L a w hmk hs hf hkn hL h
    have hk : k = l.length := by omega
    subst hk
    rw [List.drop_length] at h
    refine ⟨?_, h⟩
    rw [List.eq_nil_iff_forall_not_mem]
    intro j hj
    rw [mem_ready] at hj
    obtain ⟨h0, o, ho, _⟩ := hj
    have hlt : j < l.length := by simpa using (Array.getElem?_eq_some_iff.1 ho).1
    have := hL j
    unfold lst at this
    rw [Array.getD_eq_getD_getElem?, Array.getElem?_eq_getElem (by omega)] at this h0
    simp only [Option.getD_some] at this h0
    rw [h0] at this; simp at this; omega
  | succ fuel ih =>
    intro k L a w hmk hs hf hkn hL h
    have hready : ∀ j, j ∈ Region.ready .any l.toArray L → j = k ∧ k < l.length := by
      intro j hj
      rw [mem_ready] at hj
      obtain ⟨h0, o, ho, hall⟩ := hj
      have hlt : j < l.length := by simpa using (Array.getElem?_eq_some_iff.1 ho).1
      have hlj := hL j
      unfold lst at hlj
      rw [Array.getD_eq_getD_getElem?, Array.getElem?_eq_getElem (by omega)] at hlj h0
      simp only [Option.getD_some] at hlj h0
      rw [h0] at hlj; simp at hlj
      rcases Nat.lt_or_ge k j with hkj | hkj
      · have hw := (hck j o (by omega) (by simpa using ho)).1 k hkj
        have h1 := waits_listed (L := L) (fun i o hi hl e he hb => by
          rw [hL] at hl ⊢
          have := hdc i o hi e he hb
          simp at hl ⊢; omega) _ o k hall hw
        rw [hL k] at h1; simp at h1
      · exact ⟨by omega, by omega⟩
    rcases Nat.lt_or_ge k l.length with hlt | hge
    · have hk : l[k]? = some l[k] := List.getElem?_eq_getElem hlt
      have hdrop : l.drop k = l[k] :: l.drop (k + 1) := by rw [List.drop_eq_getElem_cons hlt]
      rw [hdrop] at h
      constructor
      · intro hnil
        have : k ∈ Region.ready .any l.toArray L := by
          rw [mem_ready]
          have h2 := hL k
          unfold lst at h2
          refine ⟨?_, l[k], by simpa using hk, ?_⟩
          · rw [Array.getD_eq_getD_getElem?, Array.getElem?_eq_getElem (by omega)] at h2 ⊢
            simpa using h2
          · intro e he hb
            have h3 := hL e.on
            unfold lst at h3
            rw [h3]; simpa using (hck k _ hmk hk).2 e he hb
        rw [hnil] at this; cases this
      · intro j hj
        obtain ⟨rfl, _⟩ := hready j hj
        unfold wpOpIn
        rw [List.getElem?_toArray, hk]
        simp only [wpListIn] at h
        have hnext : ∀ a w, wpListIn (Fr C.r) 0 C.P l.toArray Q' (l.drop (j + 1)) a w → wpAnyIn (Fr C.r) 0 C.P .any l.toArray Q' fuel (L.setIfInBounds j true) a w := by
          intro a w h
          refine ih (j + 1) _ a w (by omega) (by simpa using hs) (by omega) (by omega) ?_ h
          intro i
          rw [lst_set (by omega)]
          split
          · rename_i e; subst e; simp
          · rename_i e; rw [hL i]; simp; omega
        simp only
        split
        · rename_i hw; rw [if_pos hw] at h; exact wpInOper_mono hnext (fun _ _ _ _ h => h) h
        · rename_i hw; rw [if_neg hw] at h; exact ⟨h.1, hnext _ _ h.2⟩
    · have hk : k = l.length := by omega
      subst hk
      rw [List.drop_length] at h
      exact ⟨fun _ => h, fun j hj => by have := (hready j hj).2; omega⟩

theorem XC.drawG (Gd : Hp → Prop) (hG : Gd H) {id : Nat} {l : List Oper} (m : Nat) (F : List (Value → Hp → Prop)) (hm : C.P.follows .mixedOrders = true) (hck : drawOk m l (env.map Prod.fst) = true) (hN : ((List.range m).all fun i => match dstOf l i with | some t => Nat.blt t C.N | none => false) = true) (hmono' : monoL F)
    (steps : stepsD Gd C l F env df H own m 0 l)
    (tail : ∀ H', Le H H' → Gd H' → withPreds l F H' (List.range m) [] fun acc => XO C l.toArray Q (l.drop m) ⟨acc ++ env, df, H', own⟩) : XC C (.region id l.toArray true) Q ⟨env, df, H, own⟩ := by
  have hmono := monoF_of hmono'
  intro a₀ w₀ hr₀
  refine wpIn_region_any hm ?_
  simp only [drawOk, Bool.and_eq_true, List.all_eq_true, List.mem_range] at hck
  obtain ⟨⟨hml, hck1⟩, hck2⟩ := hck
  have hml := Nat.le_of_ble_eq_true hml
  have hpre : ∀ i, i < m → ∃ o t, l[i]? = some o ∧ o.guard = none ∧ notDefer o.op = true ∧ o.dst = some t ∧ t ∉ env.map Prod.fst ∧ (∀ j, j < m → i ≠ j → dstOf l j ≠ some t) ∧ (∀ e ∈ o.after, Region.binds .any e = true → e.on < i) ∧ (∀ j ∈ predsOf o, j < m ∧ ∃ e ∈ o.after, Region.binds .any e = true ∧ e.on = j) := by
    intro i hi
    have h := hck1 i hi
    split at h
    · rename_i o ho
      simp only [Bool.and_eq_true, List.all_eq_true] at h
      obtain ⟨⟨⟨⟨hg, hnd⟩, hd⟩, haf⟩, hp⟩ := h
      split at hd
      · rename_i t ht
        simp only [Bool.and_eq_true, List.all_eq_true, List.mem_range, Bool.not_eq_true', List.contains_eq_mem, decide_eq_false_iff_not] at hd
        refine ⟨o, t, ho, by simpa using hg, hnd, ht, hd.1, ?_, ?_, ?_⟩
        · intro j hj hne he
          have := hd.2 j hj
          rw [he] at this
          simp at this
          exact hne this
        · intro e he hb
          have := haf e (by simpa using he)
          simpa [hb] using this
        · intro j hj
          have := hp j hj
          simp only [List.any_eq_true, Bool.and_eq_true] at this
          obtain ⟨h1, e, he, hb, hon⟩ := this
          exact ⟨by simpa using h1, e, by simpa using he, hb, Nat.eq_of_beq_eq_true hon⟩
      · cases hd
    · cases h
  have htl : ∀ (i : Nat) (o : Oper), m ≤ i → l[i]? = some o → (∀ j, j < i → waitsB l l.length o j = true) ∧ (∀ e ∈ o.after, Region.binds .any e = true → e.on < i) := by
    intro i o hi ho
    have hlt := (List.getElem?_eq_some_iff.1 ho).1
    have h := hck2 i hlt
    rw [ho] at h
    rw [show Nat.blt i m = false from blt_ge hi] at h
    simp only [Bool.false_or, Bool.and_eq_true, List.all_eq_true, List.mem_range] at h
    refine ⟨fun j hj => h.1 j hj, fun e he hb => ?_⟩
    · have := h.2 e (by simpa using he)
      simpa [hb] using this
  have hdc : ∀ (i : Nat) (o : Oper), l[i]? = some o → ∀ e ∈ o.after, Region.binds .any e = true → e.on < i := by
    intro i o ho
    rcases Nat.lt_or_ge i m with h | h
    · obtain ⟨o2, t, ho2, _, _, _, _, _, haf, _⟩ := hpre i h
      rw [ho] at ho2; cases ho2; exact haf
    · exact (htl i o h ho).2
  have main : ∀ (fuel : Nat) (L : Array Bool) (a : Act) (w : World) (val : Nat → Value) (H' : Hp), L.size = l.length → unl l.length L ≤ fuel → Le H H' → Gd H' → (∀ (i : Nat) (o : Oper), l[i]? = some o → lst L i = true → ∀ e ∈ o.after, Region.binds .any e = true → lst L e.on = true) → (∀ j, m ≤ j → lst L j = false) →
      a.tmps.size = C.N → (∀ t v, env.get t = some v → a.tmps.getD t undef = v) → (∃ ms : List Nat, a.defers = ms.map mark ++ df ∧ Ok C.G H' (own ++ (ms.map hid ++ C.hid)) w) →
      (∀ i, i < m → lst L i = true → ∀ t, dstOf l i = some t → a.tmps.getD t undef = val i ∧ factAt F i (val i) H') →
      wpAnyIn (Fr C.r) 0 C.P .any l.toArray (lift C H Q) fuel L a w := by
    intro fuel
    induction fuel with
    | zero =>
      intro L a w val H' hs hu hle hGd hdown hT hsz henv hok hfacts
      have hall : ∀ j, j < m → lst L j = true := by
        intro j hj
        cases hx : lst L j with
        | true => rfl
        | false =>
          have := unl_set (L := L) (i := j) hs (by omega) hx
          omega
      have hm0 : l.length = m := by
        rcases Nat.lt_or_ge m l.length with h | h
        · have := unl_set (L := L) (i := m) hs h (hT m (Nat.le_refl _))
          omega
        · omega
      obtain ⟨acc', hk, hmem⟩ := withPreds_of (val := val) (List.range m) [] _ (tail H' hle hGd) (fun j hj => by
        have hj := List.mem_range.1 hj
        obtain ⟨o, t, ho, _, _, ht, _⟩ := hpre j hj
        have : dstOf l j = some t := by simp [dstOf, ho, ht]
        exact ⟨(hfacts j hj (hall j hj) t this).2, by rw [this]; rfl⟩)
      refine drawTail (m := m) htl hdc 0 m L a w (Nat.le_refl _) hs (by omega) hml ?_ ?_
      · intro j
        rcases Nat.lt_or_ge j m with h | h
        · rw [hall j h]; simp [h]
        · rw [hT j h]; simp; omega
      · refine wpList_mono hle _ _ _ (hk a w ⟨hsz, ?_, hok⟩)
        intro t v hg
        simp only [List.append_nil] at hg
        rw [Env.get_append] at hg
        cases hga : Env.get acc' t with
        | none => rw [hga] at hg; exact henv t v (by simpa using hg)
        | some u =>
          rw [hga] at hg; simp at hg; subst hg
          obtain ⟨j, hj, hd, rfl⟩ := hmem t u (by
            clear hmem hk
            induction acc' with
            | nil => cases hga
            | cons p r ih =>
              obtain ⟨k, u'⟩ := p
              simp only [Env.get] at hga
              cases hb : Nat.beq k t with
              | true => rw [hb] at hga; simp at hga; subst hga; rw [← Nat.eq_of_beq_eq_true hb]; simp
              | false => rw [hb] at hga; exact List.mem_cons_of_mem _ (ih hga))
          have hj := List.mem_range.1 hj
          exact (hfacts j hj (hall j hj) t hd).1
    | succ fuel ih =>
      intro L a w val H' hs hu hle hGd hdown hT hsz henv hok hfacts
      by_cases hall : ∀ j, j < m → lst L j = true
      · obtain ⟨acc', hk, hmem⟩ := withPreds_of (val := val) (List.range m) [] _ (tail H' hle hGd) (fun j hj => by
          have hj := List.mem_range.1 hj
          obtain ⟨o, t, ho, _, _, ht, _⟩ := hpre j hj
          have : dstOf l j = some t := by simp [dstOf, ho, ht]
          exact ⟨(hfacts j hj (hall j hj) t this).2, by rw [this]; rfl⟩)
        have hcount : l.length - m ≤ fuel + 1 := by
          refine Nat.le_trans ?_ hu
          have : unl l.length L = (List.range l.length).countP fun i => decide (m ≤ i) := by
            refine List.countP_congr fun i hi => ?_
            rcases Nat.lt_or_ge i m with h | h
            · rw [hall i h]; simp; omega
            · rw [hT i h]; simp [h]
          rw [this]
          have key : ∀ n, m ≤ n → (List.range n).countP (fun i => decide (m ≤ i)) = n - m := by
            intro n
            induction n with
            | zero => intro h; simp
            | succ n ihn =>
              intro h
              rw [List.range_succ, List.countP_append]
              rcases Nat.lt_or_ge n m with h' | h'
              · have : n + 1 = m := by omega
                subst this
                have h0 : (List.range n).countP (fun i => decide (n + 1 ≤ i)) = 0 := by
                  rw [List.countP_eq_zero]; intro i hi; simp at hi ⊢; omega
                rw [h0]; simp
              · rw [ihn h']; simp [h']; omega
          rw [key _ hml]; exact Nat.le_refl _
        refine drawTail (m := m) htl hdc (fuel + 1) m L a w (Nat.le_refl _) hs hcount hml ?_ ?_
        · intro j
          rcases Nat.lt_or_ge j m with h | h
          · rw [hall j h]; simp [h]
          · rw [hT j h]; simp; omega
        · refine wpList_mono hle _ _ _ (hk a w ⟨hsz, ?_, hok⟩)
          intro t v hg
          simp only [List.append_nil] at hg
          rw [Env.get_append] at hg
          cases hga : Env.get acc' t with
          | none => rw [hga] at hg; exact henv t v (by simpa using hg)
          | some u =>
            rw [hga] at hg; simp at hg; subst hg
            obtain ⟨j, hj, hd, rfl⟩ := hmem t u (by
              clear hmem hk
              induction acc' with
              | nil => cases hga
              | cons p r ih =>
                obtain ⟨k, u'⟩ := p
                simp only [Env.get] at hga
                cases hb : Nat.beq k t with
                | true => rw [hb] at hga; simp at hga; subst hga; rw [← Nat.eq_of_beq_eq_true hb]; simp
                | false => rw [hb] at hga; exact List.mem_cons_of_mem _ (ih hga))
            have hj := List.mem_range.1 hj
            exact (hfacts j hj (hall j hj) t hd).1
      · constructor
        · intro hnil
          exfalso
          apply hall
          -- the least one that is not listed is ready
          intro j hj
          induction j using Nat.strongRecOn with
          | _ j ihj =>
            cases hx : lst L j with
            | true => rfl
            | false =>
              exfalso
              obtain ⟨o, t, ho, _, _, _, _, _, haf, _⟩ := hpre j hj
              have : j ∈ Region.ready .any l.toArray L := by
                rw [mem_ready]
                refine ⟨?_, o, by simpa using ho, fun e he hb => ihj e.on (haf e he hb) (by have := haf e he hb; omega)⟩
                unfold lst at hx
                rw [Array.getD_eq_getD_getElem?, Array.getElem?_eq_getElem (by omega)] at hx ⊢
                simpa using hx
              rw [hnil] at this; cases this
        · intro i hi
          rw [mem_ready] at hi
          obtain ⟨h0, o, ho, hbef⟩ := hi
          have hilt : i < l.length := by simpa using (Array.getElem?_eq_some_iff.1 ho).1
          have hun : lst L i = false := by
            unfold lst
            rw [Array.getD_eq_getD_getElem?, Array.getElem?_eq_getElem (by omega)] at h0 ⊢
            simpa using h0
          have ho' : l[i]? = some o := by simpa using ho
          have him : i < m := by
            rcases Nat.lt_or_ge i m with h | h
            · exact h
            · exfalso
              apply hall
              intro j hj
              exact waits_listed hdown _ o j hbef ((htl i o h ho').1 j (by omega))
          obtain ⟨o2, t, ho2, hg, hnd, hd, hkeys, hdis, haf, hprd⟩ := hpre i him
          rw [ho'] at ho2; cases ho2
          have hst := stepsD_at l 0 steps i o ho' (by omega)
          simp only [Nat.zero_add] at hst
          -- all that is known of the slots, as one list
          let X : Env := (List.range m).filterMap fun j => if lst L j then (dstOf l j).map fun t => (t, val j) else none
          have hdstN : ∀ i, i < m → ∀ t, dstOf l i = some t → t < C.N := by
            intro i hi t ht
            have := List.all_eq_true.1 hN i (List.mem_range.2 hi)
            rw [ht] at this
            simpa using this
          obtain ⟨acc', hk, hmem⟩ := withPreds_of (val := val) (predsOf o) [] _ (hst X H' hle hGd) (fun j hj => by
            obtain ⟨hjm, e, he, hb, hon⟩ := hprd j hj
            obtain ⟨oj, tj, hoj, _, _, htj, _⟩ := hpre j hjm
            have hdj : dstOf l j = some tj := by simp [dstOf, hoj, htj]
            have hlj : lst L j = true := by have := hbef e he hb; rw [hon] at this; exact this
            exact ⟨(hfacts j hjm hlj tj hdj).2, by rw [hdj]; rfl⟩)
          simp only [List.append_nil] at hk
          have hgetmem : ∀ (e : Env) (t : Nat) (u : Value), Env.get e t = some u → (t, u) ∈ e := by
            intro e
            induction e with
            | nil => intro t u h; cases h
            | cons p r ih =>
              intro t u h
              obtain ⟨k, u'⟩ := p
              simp only [Env.get] at h
              cases hb : Nat.beq k t with
              | true => rw [hb] at h; simp at h; subst h; rw [← Nat.eq_of_beq_eq_true hb]; simp
              | false => rw [hb] at h; exact List.mem_cons_of_mem _ (ih t u h)
          have hrel : Rel C ⟨acc' ++ (env ++ X), df, H', own⟩ a w := by
            refine ⟨hsz, ?_, hok⟩
            intro t v hgv
            rw [Env.get_append, Env.get_append] at hgv
            cases hga : Env.get acc' t with
            | some u =>
              rw [hga] at hgv; simp at hgv; subst hgv
              obtain ⟨j, hj, hdj, rfl⟩ := hmem t u (hgetmem _ _ _ hga)
              obtain ⟨hjm, e, he, hb, hon⟩ := hprd j hj
              have hlj : lst L j = true := by have := hbef e he hb; rw [hon] at this; exact this
              exact (hfacts j hjm hlj t hdj).1
            | none =>
              rw [hga] at hgv; simp only [Option.none_or] at hgv
              cases hge : Env.get env t with
              | some u => rw [hge] at hgv; simp at hgv; subst hgv; exact henv t u hge
              | none =>
                rw [hge] at hgv; simp only [Option.none_or] at hgv
                have := hgetmem _ _ _ hgv
                obtain ⟨j, hj, hjj⟩ := List.mem_filterMap.1 this
                split at hjj
                · rename_i hlj
                  cases hdj : dstOf l j with
                  | none => rw [hdj] at hjj; cases hjj
                  | some tj =>
                    rw [hdj] at hjj
                    simp only [Option.map_some, Option.some.injEq, Prod.mk.injEq] at hjj
                    obtain ⟨rfl, rfl⟩ := hjj
                    exact (hfacts j (List.mem_range.1 hj) hlj tj hdj).1
                · cases hjj
          have hrun := hk a w hrel
          unfold wpOpIn
          rw [ho]
          simp only [wpListIn, Region.wanted, hg, if_true] at hrun ⊢
          refine wpInOper_mono ?_ ?_ hrun
          · rintro a' w' ⟨σ', hr', hle', hGd', hdf', hown', v, henv', hfv⟩
            have hty : dstOf l i = some t := by simp [dstOf, ho', hd]
            refine ih (L.setIfInBounds i true) a' w' (fun j => if j = i then v else val j) σ'.H (by simpa using hs) ?_ (hle.trans hle') hGd' ?_ ?_ hr'.size ?_ ?_ ?_
            · have := unl_set hs hilt hun; omega
            · intro i' o' hi' hl' e he hb
              rw [lst_set (by omega)] at hl' ⊢
              split
              · rfl
              · split at hl'
                · rename_i e1 e2; subst e2; rw [ho'] at hi'; cases hi'; exact hbef e he hb
                · exact hdown i' o' hi' hl' e he hb
            · intro j hj
              rw [lst_set (by omega), if_neg (by omega)]
              exact hT j hj
            · intro t' v' hg'
              refine hr'.get t' v' ?_
              rw [henv', hd]
              simp only [putE, Env.get]
              have hne : t ≠ t' := by
                intro e; subst e
                exact hkeys (List.mem_map.2 ⟨(t, v'), hgetmem _ _ _ hg', rfl⟩)
              rw [show Nat.beq t t' = false from beq_ne hne]
              simp only [cond_false]
              rw [Env.get_append, Env.get_append]
              have : Env.get acc' t' = none := by
                cases hga : Env.get acc' t' with
                | none => rfl
                | some u =>
                  obtain ⟨j, hj, hdj, _⟩ := hmem t' u (hgetmem _ _ _ hga)
                  obtain ⟨hjm, _⟩ := hprd j hj
                  obtain ⟨oj, tj, hoj, _, _, htj, hkj, _⟩ := hpre j hjm
                  have : dstOf l j = some tj := by simp [dstOf, hoj, htj]
                  rw [this] at hdj; cases hdj
                  exact absurd (List.mem_map.2 ⟨(t', v'), hgetmem _ _ _ hg', rfl⟩) hkj
              rw [this, hg']; rfl
            · obtain ⟨ms, hd', hok'⟩ := hr'.ok
              exact ⟨ms, by rw [hd', hdf'], by rw [hown'] at hok'; exact hok'⟩
            · intro j hj hlj tj htj
              rw [lst_set (by omega)] at hlj
              by_cases hji : j = i
              · subst hji
                rw [hty] at htj; cases htj
                simp only [if_true]
                refine ⟨hr'.get t v ?_, hfv⟩
                rw [henv', hd]; simp [putE, Env.get]
              · rw [if_neg hji] at hlj
                obtain ⟨h1, h2⟩ := hfacts j hj hlj tj htj
                simp only [if_neg hji]
                refine ⟨hr'.get tj (val j) ?_, factAt_mono hmono hle' h2⟩
                rw [henv', hd]
                simp only [putE, Env.get]
                have hne : t ≠ tj := by
                  intro e; subst e
                  exact hdis j hj (Ne.symm hji) htj
                rw [show Nat.beq t tj = false from beq_ne hne]
                simp only [cond_false]
                rw [Env.get_append, Env.get_append]
                have hacc : Env.get acc' tj = none ∨ Env.get acc' tj = some (val j) := by
                  cases hga : Env.get acc' tj with
                  | none => exact .inl rfl
                  | some u =>
                    obtain ⟨j', hj', hdj', rfl⟩ := hmem tj u (hgetmem _ _ _ hga)
                    obtain ⟨hjm', _⟩ := hprd j' hj'
                    by_cases hjj : j' = j
                    · subst hjj; exact .inr rfl
                    · obtain ⟨o3, t3, ho3, _, _, ht3, _, hdis3, _⟩ := hpre j hj
                      have : dstOf l j = some t3 := by simp [dstOf, ho3, ht3]
                      rw [this] at htj; cases htj
                      exact absurd hdj' (hdis3 j' hjm' (Ne.symm hjj))
                rcases hacc with hacc | hacc
                · rw [hacc]
                  have henvn : Env.get env tj = none := by
                    cases hge : Env.get env tj with
                    | none => rfl
                    | some u =>
                      obtain ⟨o3, t3, ho3, _, _, ht3, hk3, _⟩ := hpre j hj
                      have : dstOf l j = some t3 := by simp [dstOf, ho3, ht3]
                      rw [this] at htj; cases htj
                      exact absurd (List.mem_map.2 ⟨(tj, u), hgetmem _ _ _ hge, rfl⟩) hk3
                  rw [henvn]
                  simp only [Option.none_or]
                  -- it stands in X, once
                  have hin : (tj, val j) ∈ X := List.mem_filterMap.2 ⟨j, List.mem_range.2 hj, by simp only [hlj, if_true, htj, Option.map_some]⟩
                  have huniq : ∀ u, (tj, u) ∈ X → u = val j := by
                    intro u hu'
                    obtain ⟨j', hj', hjj'⟩ := List.mem_filterMap.1 hu'
                    split at hjj'
                    · cases hdj' : dstOf l j' with
                      | none => rw [hdj'] at hjj'; cases hjj'
                      | some t' =>
                        rw [hdj'] at hjj'
                        simp only [Option.map_some, Option.some.injEq, Prod.mk.injEq] at hjj'
                        obtain ⟨rfl, rfl⟩ := hjj'
                        by_cases hjj : j' = j
                        · subst hjj; rfl
                        · obtain ⟨o3, t3, ho3, _, _, ht3, _, hdis3, _⟩ := hpre j hj
                          have : dstOf l j = some t3 := by simp [dstOf, ho3, ht3]
                          rw [this] at htj; cases htj
                          exact absurd hdj' (hdis3 j' (List.mem_range.1 hj') (Ne.symm hjj))
                    · cases hjj'
                  have hgx : ∀ (e : Env), (tj, val j) ∈ e → (∀ u, (tj, u) ∈ e → u = val j) → Env.get e tj = some (val j) := by
                    intro e
                    induction e with
                    | nil => intro h _; cases h
                    | cons p r ih2 =>
                      intro h hu2
                      obtain ⟨k, u'⟩ := p
                      simp only [Env.get]
                      cases hb : Nat.beq k tj with
                      | true =>
                        have := Nat.eq_of_beq_eq_true hb
                        subst this
                        rw [hu2 u' (by simp)]; rfl
                      | false =>
                        simp only [cond_false]
                        refine ih2 ?_ (fun u hu3 => hu2 u (List.mem_cons_of_mem _ hu3))
                        rcases List.mem_cons.1 h with h | h
                        · cases h; simp at hb
                        · exact h
                  exact hgx X hin huniq
                · rw [hacc]; rfl
          · rintro e a' w' he ⟨σ', _, _, hq⟩
            cases e <;> first | exact absurd rfl he | exact hq.elim
  exact main l.toArray.size (Array.replicate l.toArray.size false) a₀ _ (fun _ => undef) H (by simp) (by
      refine Nat.le_trans (List.countP_le_length) (by simp)) (Le.refl _) hG (fun i o _ hl => by
      have : lst (Array.replicate l.toArray.size false) i = false := by simp [lst, Array.getD_eq_getD_getElem?, Array.getElem?_replicate]; split <;> rfl
      rw [this] at hl; cases hl) (fun j _ => by simp [lst, Array.getD_eq_getD_getElem?, Array.getElem?_replicate]; split <;> rfl) hr₀.size hr₀.get
    (let ⟨ms, hd, hok⟩ := hr₀.ok; ⟨ms, hd, hok.drew⟩) (fun i _ h => by
      have : lst (Array.replicate l.toArray.size false) i = false := by simp [lst, Array.getD_eq_getD_getElem?, Array.getElem?_replicate]; split <;> rfl
      rw [this] at h; cases h)

/-- Where no operation publishes anything. -/
theorem XC.draw {id : Nat} {l : List Oper} (m : Nat) (F : List (Value → Hp → Prop)) (hm : C.P.follows .mixedOrders = true) (hck : drawOk m l (env.map Prod.fst) = true) (hN : ((List.range m).all fun i => match dstOf l i with | some t => Nat.blt t C.N | none => false) = true) (hmono : monoL F)
    (steps : stepsD (fun H' => H' = H) C l F env df H own m 0 l)
    (tail : withPreds l F H (List.range m) [] fun acc => XO C l.toArray Q (l.drop m) ⟨acc ++ env, df, H, own⟩) : XC C (.region id l.toArray true) Q ⟨env, df, H, own⟩ :=
  XC.drawG (fun H' => H' = H) rfl m F hm hck hN hmono steps (fun H' _ e => by subst e; exact tail)
end
theorem stepsK_cons {C : Ctx} {l : List Oper} {F : List (Value → Hp → Prop)} {env : Env} {df : List Deferred} {H : Hp} {own : Own} {m k : Nat} {o : Oper} {rest : List Oper} (hk : Nat.blt k m = true)
    (h : ∀ X, withPreds l F H (predsOf o) [] fun acc => XO C l.toArray (stepQ (fun H' => H' = H) o.dst (factAt F k) (acc ++ (env ++ X)) df own) [o] ⟨acc ++ (env ++ X), df, H, own⟩) (h2 : stepsD (fun H' => H' = H) C l F env df H own m (k + 1) rest) : stepsD (fun H' => H' = H) C l F env df H own m k (o :: rest) := by
  simp only [stepsD, hk]
  exact ⟨fun X H' _ e => by subst e; exact h X, h2⟩

theorem SlR.addr {α : Type} {ρ : Rep α} {H : Hp} {a : Option Addr} {c : Nat} {l : List α} (h : SlR ρ H a c l) (hl : 0 < l.length) : ∃ b o, a = some ⟨b, o, none⟩ :=
  let ⟨b, o, _, h1, _⟩ := h.el 0 l[0] (List.getElem?_eq_getElem hl); ⟨b, o, h1⟩
theorem SlR.elem {α : Type} {ρ : Rep α} {H : Hp} {b o c : Nat} {l : List α} (h : SlR ρ H (some ⟨b, o, none⟩) c l) (i : Nat) (hi : i < l.length) : ∃ cs u, l[i]? = some u ∧ ρ.R H cs u ∧ PtH H b (o + i * ρ.sz) cs := by
  obtain ⟨b', o', cs, h1, h2, h3⟩ := h.el i l[i] (List.getElem?_eq_getElem hi)
  cases h1
  exact ⟨cs, _, List.getElem?_eq_getElem hi, h3, h2⟩

section
variable {C : Ctx} {ops : Array Oper} {Q : Exit → St → Prop} {rest : List Oper} {env : Env} {df : List Deferred} {H : Hp} {own : Own}
variable {dst : Option Tmp} {ty : TypeId} {pos : String} {af : Array Edge}
theorem XO.loadHF {t : TypeId} {x : Operand} {b o off sz : Nat} {agg : Bool} {cs vs : List Value} {v : Value} (hx : ev env x = some (.pointer (some ⟨b, o + off, none⟩))) (hp : PtH H b o cs)
    (ht : tyF C.P t sz agg = true) (hl : subL cs off sz = some vs) (hv : mkV agg vs = some v) (hd : dstOk C.N dst = true)
    (h : XO C ops Q rest ⟨putE dst v env, df, H, own⟩) :
    XO C ops Q (⟨dst, .load t x, ty, pos, af, none⟩ :: rest) ⟨env, df, H, own⟩ := by
  obtain ⟨h1, h2, h3⟩ := subL_eq hl
  obtain ⟨c, T, fz, hb, hc⟩ := hp
  refine XO.loadH (cs := vs) hx ⟨c, T, fz, hb, fun j u hj => ?_⟩ ht h3 hv hd h
  rw [h1, List.getElem?_take] at hj
  split at hj
  · rw [List.getElem?_drop] at hj
    have := hc _ _ hj
    rwa [← Nat.add_assoc] at this
  · cases hj
theorem XO.indexE {t e : TypeId} {x y : Operand} {k : IntKind} {i : Int} {b o n c sz : Nat} {agg : Bool} (hx : ev env x = some (.slice (some ⟨b, o, none⟩) n c)) (hy : ev env y = some (.int k i))
    (ht : C.P.underlying t = some (.slice e)) (he : tyF C.P e sz agg = true) (h0 : 0 ≤ i) (h1 : i < n) (hd : dstOk C.N dst = true)
    (h : XO C ops Q rest ⟨putE dst (.pointer (some ⟨b, o + i.toNat * sz, none⟩)) env, df, H, own⟩) :
    XO C ops Q (⟨dst, .indexAddr t x y, ty, pos, af, none⟩ :: rest) ⟨env, df, H, own⟩ := by
  refine XO.pure rfl rfl hd (fun ρ' ha w => ?_) h
  simp only [execOp, ha _ _ hx, ha _ _ hy, Instr.indexAt, asIntOf, Sem.run_bind]
  simp only [Pure.pure, Sem.run, Result.andThen, run_underlying ht, Sem.run_bind]
  simp only [h0, h1, and_self, if_true, Sem.run_bind, run_sizeOf he, Result.andThen, addr_add]
  rfl
end
theorem withPreds_cons {l : List Oper} {F : List (Value → Hp → Prop)} {H' : Hp} {js js' : List Nat} {j t : Nat} {acc : Env} {K : Env → Prop} (hj : js = j :: js') (ht : dstOf l j = some t) (h : ∀ v, factAt F j v H' → withPreds l F H' js' ((t, v) :: acc) K) : withPreds l F H' js acc K := by
  subst hj; simp only [withPreds, ht]; exact h
theorem withPreds_nil {l : List Oper} {F : List (Value → Hp → Prop)} {H' : Hp} {js : List Nat} {acc : Env} {K : Env → Prop} (hj : js = []) (h : K acc) : withPreds l F H' js acc K := by subst hj; exact h
theorem stepsD_cons {Gd : Hp → Prop} {C : Ctx} {l : List Oper} {F : List (Value → Hp → Prop)} {env : Env} {df : List Deferred} {H : Hp} {own : Own} {m k : Nat} {o : Oper} {rest : List Oper} (hk : Nat.blt k m = true)
    (h : ∀ X H', Le H H' → Gd H' → withPreds l F H' (predsOf o) [] fun acc => XO C l.toArray (stepQ Gd o.dst (factAt F k) (acc ++ (env ++ X)) df own) [o] ⟨acc ++ (env ++ X), df, H', own⟩) (h2 : stepsD Gd C l F env df H own m (k + 1) rest) : stepsD Gd C l F env df H own m k (o :: rest) := by
  simp only [stepsD, hk]; exact ⟨h, h2⟩
theorem stepsD_end {Gd : Hp → Prop} {C : Ctx} {l : List Oper} {F : List (Value → Hp → Prop)} {env : Env} {df : List Deferred} {H : Hp} {own : Own} {m k : Nat} {rest : List Oper} (hk : Nat.blt k m = false) : stepsD Gd C l F env df H own m k rest := by
  cases rest with
  | nil => trivial
  | cons o r => simp only [stepsD, hk]; trivial
theorem stepQ_ok {Gd : Hp → Prop} {dst : Option Tmp} {f : Value → Hp → Prop} {env : Env} {df : List Deferred} {own : Own} {H : Hp} {v : Value} (hG : Gd H) (hf : f v H) : stepQ Gd dst f env df own .normal ⟨putE dst v env, df, H, own⟩ := ⟨hG, rfl, rfl, v, rfl, hf⟩
end Go.XL
