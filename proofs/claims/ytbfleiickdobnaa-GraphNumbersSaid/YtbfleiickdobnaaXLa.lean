/- A small program logic over the walk of a function's code: symbolic slots, a published heap that only grows, and a list of blocks of the call's own. No statement of the program stands here. -/
import Derived.WalkKit
import Derived.RangeFuncLeaves
import Derived.RangeFuncCalls
set_option autoImplicit false
namespace Go.XL

/-! ### The heap's two parts -/
abbrev Hp := Nat → Option Obj
def Le (H H' : Hp) : Prop := ∀ b o, H b = some o → H' b = some o
theorem Le.refl (H : Hp) : Le H H := fun _ _ h => h
theorem Le.trans {A B C : Hp} (h : Le A B) (k : Le B C) : Le A C := fun b o e => k b o (h b o e)
theorem Le.none {A B : Hp} (h : Le A B) {b : Nat} (e : B b = none) : A b = none := by
  cases hA : A b with
  | none => rfl
  | some o => rw [h b o hA] at e; cases e

inductive SObj where
  | cells (T : TypeId) (c : List Value)
  | row (T : TypeId) (n : Nat) (xs : List Value)
  | obj (o : Obj)
  | nothing

def SObj.some : SObj → Bool | .nothing => false | _ => true

def SObj.Is : SObj → Obj → Prop
  | .nothing, _ => False
  | .cells T c, o => o = .cells c.toArray T (0, 0)
  | .row T n xs, o => ∃ c : List Value, o = .cells (xs ++ c).toArray T (0, 0) ∧ (xs ++ c).length = n
  | .obj o', o => o = o'

abbrev Own := List (Nat × SObj)

def live (own : Own) : Own := own.filter (·.2.some)
theorem live_append (a b : Own) : live (a ++ b) = live a ++ live b := List.filter_append ..

structure OkL (G : World) (H : Hp) (own : Own) (w : World) : Prop where
  os : w.os = G.os
  tape : w.tape = G.tape
  out : w.output = G.output
  pub : ∀ b o, H b = some o → w.heap[b]? = some o
  mine : ∀ p ∈ own, (∃ o, p.2.Is o ∧ w.heap[p.1]? = some o) ∧ H p.1 = none
  nd : (own.map Prod.fst).Nodup

def Ok (G : World) (H : Hp) (own : Own) (w : World) : Prop := OkL G H (live own) w

theorem Ok.shrink {G : World} {H H' : Hp} {own own' : Own} {w : World} (h : Ok G H' own' w) (hle : Le H H') (hs : own.Sublist own') : Ok G H own w :=
  ⟨h.os, h.tape, h.out, fun b o e => h.pub b o (hle b o e), fun p hp => let ⟨a, b⟩ := h.mine p ((hs.filter _).mem hp); ⟨a, hle.none b⟩, ((hs.filter _).map _).nodup h.nd⟩

theorem Ok.perm {G : World} {H : Hp} {own own' : Own} {w : World} (h : Ok G H own w) (hp : own'.Perm own) : Ok G H own' w :=
  ⟨h.os, h.tape, h.out, h.pub, fun p hm => h.mine p ((hp.filter _).mem_iff.1 hm), (((hp.filter _).map Prod.fst).nodup_iff).2 h.nd⟩

theorem Ok.drew {G : World} {H : Hp} {own : Own} {w : World} (h : Ok G H own w) : Ok G H own { w with drawn := w.drawn + 1 } :=
  ⟨h.os, h.tape, h.out, h.pub, h.mine, h.nd⟩

theorem heap_lt {w : World} {b : Nat} {o : Obj} (h : w.heap[b]? = some o) : b < w.heap.size := by
  obtain ⟨h, _⟩ := Array.getElem?_eq_some_iff.1 h
  exact h

theorem live_cons {b : Nat} {s : SObj} {own : Own} (h : s.some = true) : live ((b, s) :: own) = (b, s) :: live own := by
  simp [live, h]

theorem Is_some {s : SObj} {o : Obj} (h : s.Is o) : s.some = true := by cases s <;> first | rfl | exact h.elim

theorem Ok.at {G : World} {H : Hp} {own : Own} {w : World} (h : Ok G H own w) {p : Nat × SObj} (hp : p ∈ own) (hs : p.2.some = true) : (∃ o, p.2.Is o ∧ w.heap[p.1]? = some o) ∧ H p.1 = none :=
  h.mine p (List.mem_filter.2 ⟨hp, hs⟩)

/-- A new block of the call's own. -/
theorem Ok.new {G : World} {H : Hp} {own : Own} {w : World} (h : Ok G H own w) {o : Obj} {s : SObj} (hs : s.Is o) :
    Ok G H ((w.heap.size, s) :: own) { w with heap := w.heap.push o } := by
  have hn : H w.heap.size = none := by
    cases e : H w.heap.size with
    | none => rfl
    | some o => exact absurd (heap_lt (h.pub _ _ e)) (Nat.lt_irrefl _)
  have hlt : ∀ (b : Nat) (o' : Obj), w.heap[b]? = some o' → (w.heap.push o)[b]? = some o' := by
    intro b o' e
    rw [Array.getElem?_push, if_neg (by have := heap_lt e; omega)]
    exact e
  refine ⟨h.os, h.tape, h.out, fun b o' e => hlt _ _ (h.pub b o' e), ?_, ?_⟩
  · intro p hp
    rw [live_cons (Is_some hs)] at hp
    rcases List.mem_cons.1 hp with rfl | hp
    · exact ⟨⟨o, hs, by simp⟩, hn⟩
    · obtain ⟨⟨o', h1, h2⟩, h3⟩ := h.mine p hp
      exact ⟨⟨o', h1, hlt _ _ h2⟩, h3⟩
  · rw [live_cons (Is_some hs)]
    simp only [List.map_cons, List.nodup_cons]
    refine ⟨?_, h.nd⟩
    intro hm
    obtain ⟨p, hp, e⟩ := List.mem_map.1 hm
    obtain ⟨⟨o', _, h2⟩, _⟩ := h.mine p hp
    rw [e] at h2
    exact absurd (heap_lt h2) (Nat.lt_irrefl _)

/-- One block of the call's own is written. -/
theorem Ok.write {G : World} {H : Hp} {pre post : Own} {w w' : World} {b : Nat} {s s' : SObj} (h : Ok G H (pre ++ (b, s) :: post) w) {o' : Obj} (hs0 : s.some = true) (hs : s'.Is o')
    (h1 : w'.os = w.os) (h2 : w'.tape = w.tape) (h3 : w'.output = w.output) (hb : w'.heap[b]? = some o') (hk : ∀ k, k ≠ b → w'.heap[k]? = w.heap[k]?) :
    Ok G H (pre ++ (b, s') :: post) w' := by
  unfold Ok at h ⊢
  rw [live_append, live_cons hs0] at h
  rw [live_append, live_cons (Is_some hs)]
  generalize live pre = pre at h ⊢
  generalize live post = post at h ⊢
  have hnd := h.nd
  simp only [List.map_append, List.map_cons] at hnd
  have hmid : (b, s) ∈ pre ++ (b, s) :: post := by simp
  have hne : ∀ p, p ∈ pre ∨ p ∈ post → p.1 ≠ b := by
    intro p hp e
    rw [List.nodup_append] at hnd
    obtain ⟨_, hn2, hn3⟩ := hnd
    rcases hp with hp | hp
    · exact hn3 p.1 (List.mem_map.2 ⟨p, hp, rfl⟩) b (by simp) e
    · exact (List.nodup_cons.1 hn2).1 (List.mem_map.2 ⟨p, hp, e⟩)
  have hHb := (h.mine _ hmid).2
  refine ⟨h1.trans h.os, h2.trans h.tape, h3.trans h.out, fun k o e => ?_, ?_, ?_⟩
  · rw [hk k (by rintro rfl; rw [hHb] at e; cases e)]
    exact h.pub k o e
  · intro p hp
    rcases List.mem_append.1 hp with hp | hp
    · obtain ⟨⟨o, a, c⟩, d⟩ := h.mine p (by simp [hp])
      exact ⟨⟨o, a, by rw [hk _ (hne p (.inl hp))]; exact c⟩, d⟩
    · rcases List.mem_cons.1 hp with rfl | hp
      · exact ⟨⟨o', hs, hb⟩, hHb⟩
      · obtain ⟨⟨o, a, c⟩, d⟩ := h.mine p (by simp [hp])
        exact ⟨⟨o, a, by rw [hk _ (hne p (.inr hp))]; exact c⟩, d⟩
  · simp only [List.map_append, List.map_cons]
    exact hnd

/-- A block of the call's own is published. -/
theorem Ok.publish {G : World} {H : Hp} {pre post : Own} {w : World} {b : Nat} {s : SObj} (h : Ok G H (pre ++ (b, s) :: post) w) (hs0 : s.some = true) :
    ∃ H' o, Le H H' ∧ H' b = some o ∧ s.Is o ∧ Ok G H' (pre ++ post) w := by
  unfold Ok at h ⊢
  rw [live_append, live_cons hs0] at h
  rw [live_append]
  generalize live pre = pre at h ⊢
  generalize live post = post at h ⊢
  obtain ⟨⟨o, hso, hw⟩, hb⟩ := h.mine (b, s) (by simp)
  have hnd := h.nd
  simp only [List.map_append, List.map_cons] at hnd
  have hne : ∀ p, p ∈ pre ∨ p ∈ post → p.1 ≠ b := by
    intro p hp e
    rw [List.nodup_append] at hnd
    obtain ⟨_, hn2, hn3⟩ := hnd
    rcases hp with hp | hp
    · exact hn3 p.1 (List.mem_map.2 ⟨p, hp, rfl⟩) b (by simp) e
    · exact (List.nodup_cons.1 hn2).1 (List.mem_map.2 ⟨p, hp, e⟩)
  refine ⟨fun k => if k = b then .some o else H k, o, ?_, by simp, hso, h.os, h.tape, h.out, ?_, ?_, ?_⟩
  · intro k u hk
    by_cases e : k = b
    · subst e; simp only at hb; rw [hb] at hk; cases hk
    · simp [e, hk]
  · intro k u hk
    by_cases e : k = b
    · subst e; simp at hk; subst hk; exact hw
    · simp [e] at hk; exact h.pub k u hk
  · intro p hp
    obtain ⟨h1, h2⟩ := h.mine p (by rcases List.mem_append.1 hp with hp | hp <;> simp [hp])
    refine ⟨h1, ?_⟩
    simp [hne p (by rcases List.mem_append.1 hp with hp | hp <;> simp [hp]), h2]
  · simp only [List.map_append]
    exact (List.Sublist.append_left (List.sublist_cons_self _ _) _).nodup hnd

/-! ### Own lists by place: each of these reckons to a literal -/
def Own.at : Own → Nat → Option (Nat × SObj)
  | [], _ => none
  | p :: _, 0 => some p
  | _ :: r, i + 1 => Own.at r i
def Own.put : Own → Nat → SObj → Option Own
  | [], _, _ => none
  | p :: r, 0, s => some ((p.1, s) :: r)
  | p :: r, i + 1, s => match Own.put r i s with | some r' => some (p :: r') | none => none
def Own.put2 : Own → Nat → Nat × SObj → Option Own
  | [], _, _ => none
  | _ :: r, 0, q => some (q :: r)
  | p :: r, i + 1, q => match Own.put2 r i q with | some r' => some (p :: r') | none => none
def Own.del : Own → Nat → Option Own
  | [], _ => none
  | _ :: r, 0 => some r
  | p :: r, i + 1 => match Own.del r i with | some r' => some (p :: r') | none => none

theorem Own.at_split {own : Own} {i : Nat} {p : Nat × SObj} (h : Own.at own i = some p) : ∃ pre post, own = pre ++ p :: post ∧ pre.length = i := by
  induction own generalizing i with
  | nil => cases h
  | cons q r ih =>
    cases i with
    | zero => cases h; exact ⟨[], r, rfl, rfl⟩
    | succ i => obtain ⟨pre, post, rfl, hl⟩ := ih (i := i) h; exact ⟨q :: pre, post, rfl, by simp [hl]⟩

theorem Own.put_split {pre post : Own} {b : Nat} {s s' : SObj} : Own.put (pre ++ (b, s) :: post) pre.length s' = some (pre ++ (b, s') :: post) := by
  induction pre with
  | nil => rfl
  | cons q r ih => simp [Own.put, ih]

theorem Own.put2_split {pre post : Own} {p q : Nat × SObj} : Own.put2 (pre ++ p :: post) pre.length q = some (pre ++ q :: post) := by
  induction pre with
  | nil => rfl
  | cons q r ih => simp [Own.put2, ih]

theorem Own.del_split {pre post : Own} {p : Nat × SObj} : Own.del (pre ++ p :: post) pre.length = some (pre ++ post) := by
  induction pre with
  | nil => rfl
  | cons q r ih => simp [Own.del, ih]

/-! ### Slots -/
abbrev Env := List (Nat × Value)
def Env.get : Env → Nat → Option Value
  | [], _ => none
  | (k, v) :: e, t => bif Nat.beq k t then some v else Env.get e t
def putE (d : Option Tmp) (v : Value) (e : Env) : Env := match d with | some t => (t, v) :: e | none => e

def ev (e : Env) : Operand → Option Value
  | .tmp t => e.get t
  | .const v => some v
  | .global g => some (.pointer (some ⟨g, 0, none⟩))
  | .func f => some (.func (.func f) #[] #[])
def evs (e : Env) : List Operand → Option (List Value)
  | [] => some []
  | x :: xs => match ev e x with
    | some v => match evs e xs with | some vs => some (v :: vs) | none => none
    | none => none

def Env.keep (e : Env) : List Nat → Option Env
  | [] => some []
  | t :: ts => match e.get t with
    | some v => match Env.keep e ts with | some r => some ((t, v) :: r) | none => none
    | none => none

def Prov (e : Env) : Env → Prop
  | [] => True
  | (t, v) :: r => e.get t = some v ∧ Prov e r

theorem Env.get_of_prov {e e' : Env} (h : Prov e e') {t : Nat} {v : Value} (hg : Env.get e' t = some v) : Env.get e t = some v := by
  induction e' with
  | nil => cases hg
  | cons p r ih =>
    obtain ⟨k, u⟩ := p
    obtain ⟨h1, h2⟩ := h
    simp only [Env.get] at hg
    cases hk : Nat.beq k t with
    | true => rw [hk] at hg; simp at hg; subst hg; rw [← Nat.eq_of_beq_eq_true hk]; exact h1
    | false => rw [hk] at hg; exact ih h2 hg

theorem Env.keep_prov {e e' : Env} {ts : List Nat} (h : e.keep ts = some e') : Prov e e' := by
  induction ts generalizing e' with
  | nil => cases h; trivial
  | cons t ts ih =>
    simp only [Env.keep] at h
    split at h
    · rename_i v hv
      split at h
      · rename_i r hr; cases h; exact ⟨hv, ih hr⟩
      · cases h
    · cases h

/-! ### The state, and what a piece of code is asked -/
structure Ctx where
  P : Program
  G : World
  N : Nat
  r : Option Nat := none
  /-- what else of the call's own lies there (in a round: the loop's record) -/
  hid : Own := []
structure St where
  env : Env
  df : List Deferred
  H : Hp
  own : Own

/-- The mark that an outermost loop over a function leaves among the deferred calls, and its block. -/
def mark (r : Nat) : Deferred := { target := .collected r, args := #[] }
def hid (r : Nat) : Nat × SObj := (r, .obj (.deferred (some [])))

structure Rel (C : Ctx) (σ : St) (a : Act) (w : World) : Prop where
  size : a.tmps.size = C.N
  get : ∀ t v, σ.env.get t = some v → a.tmps.getD t undef = v
  ok : ∃ ms : List Nat, a.defers = ms.map mark ++ σ.df ∧ Ok C.G σ.H (σ.own ++ (ms.map Go.XL.hid ++ C.hid)) w

abbrev Fr (r : Option Nat) : Fence := { Fence.wide with round := r }

def lift (C : Ctx) (H : Hp) (Q : Exit → St → Prop) (e : Exit) (a : Act) (w : World) : Prop :=
  ∃ σ, Rel C σ a w ∧ Le H σ.H ∧ Q e σ

theorem lift_mono {C : Ctx} {H H' : Hp} {Q Q' : Exit → St → Prop} {e : Exit} {a : Act} {w : World} (h : lift C H' Q e a w) (hle : Le H H') (hq : ∀ σ, Le H' σ.H → Q e σ → Q' e σ) : lift C H Q' e a w :=
  let ⟨σ, r, l, q⟩ := h; ⟨σ, r, hle.trans l, hq σ l q⟩

def XC (C : Ctx) (c : Code) (Q : Exit → St → Prop) (σ : St) : Prop :=
  ∀ a w, Rel C σ a w → c.wpIn (Fr C.r) 0 C.P (lift C σ.H Q) a w
def XO (C : Ctx) (ops : Array Oper) (Q : Exit → St → Prop) (rest : List Oper) (σ : St) : Prop :=
  ∀ a w, Rel C σ a w → wpListIn (Fr C.r) 0 C.P ops (lift C σ.H Q) rest a w

theorem Rel.eval {C : Ctx} {σ : St} {a : Act} {w : World} (h : Rel C σ a w) {x : Operand} {v : Value} (hx : ev σ.env x = some v) : a.eval x = v := by
  cases x with
  | tmp t => exact h.get t v hx
  | const u => simp only [ev, Option.some.injEq] at hx; exact hx
  | global g => simp only [ev, Option.some.injEq] at hx; exact hx
  | func f => simp only [ev, Option.some.injEq] at hx; exact hx

theorem Rel.evals {C : Ctx} {σ : St} {a : Act} {w : World} (h : Rel C σ a w) {xs : List Operand} {vs : List Value} (hx : evs σ.env xs = some vs) : xs.map a.eval = vs := by
  induction xs generalizing vs with
  | nil => cases hx; rfl
  | cons x xs ih =>
    simp only [evs] at hx
    split at hx
    · rename_i v hv
      split at hx
      · rename_i r hr; cases hx; simp [h.eval hv, ih hr]
      · cases hx
    · cases hx

theorem Rel.weaken {C : Ctx} {σ : St} {a : Act} {w : World} (h : Rel C σ a w) {env' : Env} {H' : Hp} {own' : Own} (he : Prov σ.env env') (hH : Le H' σ.H) (ho : own'.Sublist σ.own) : Rel C ⟨env', σ.df, H', own'⟩ a w :=
  let ⟨ms, hd, hk⟩ := h.ok
  ⟨h.size, fun t v hg => h.get t v (Env.get_of_prov he hg), ms, hd, hk.shrink hH (ho.append_right _)⟩

theorem Rel.perm {C : Ctx} {env : Env} {df : List Deferred} {H : Hp} {own own' : Own} {a : Act} {w : World} (h : Rel C ⟨env, df, H, own⟩ a w) (ho : own'.Perm own) : Rel C ⟨env, df, H, own'⟩ a w :=
  let ⟨ms, hd, hk⟩ := h.ok
  ⟨h.size, h.get, ms, hd, hk.perm (ho.append_right _)⟩

theorem put_defers (a : Act) (d : Option Tmp) (v : Value) : (a.put d v).defers = a.defers := by cases d <;> rfl

theorem Rel.put {C : Ctx} {env : Env} {df : List Deferred} {H : Hp} {own : Own} {a : Act} {w : World} (h : Rel C ⟨env, df, H, own⟩ a w) {d : Option Tmp} (hd : ∀ t, d = some t → t < C.N) (v : Value)
    {H' : Hp} {own' : Own} {w' : World} (hok : ∃ ms : List Nat, a.defers = ms.map mark ++ df ∧ Ok C.G H' (own' ++ (ms.map Go.XL.hid ++ C.hid)) w') : Rel C ⟨putE d v env, df, H', own'⟩ (a.put d v) w' := by
  cases d with
  | none => exact ⟨h.size, h.get, hok⟩
  | some t =>
    have ht := hd t rfl
    refine ⟨by simp [Act.put, h.size], ?_, hok⟩
    intro k u hk
    simp only [putE, Env.get] at hk
    cases hb : Nat.beq t k with
    | true =>
      rw [hb] at hk; simp at hk; subst hk
      obtain rfl := Nat.eq_of_beq_eq_true hb
      have hs := h.size
      simp [Act.put, Array.getD, hs, ht]
    | false =>
      rw [hb] at hk
      have hne : t ≠ k := fun e => by rw [e] at hb; simp at hb
      have := h.get k u hk
      simp only [Act.put, Array.getD_eq_getD_getElem?] at this ⊢
      rw [Array.getElem?_setIfInBounds_ne hne]
      exact this

theorem XC.mono {C : Ctx} {c : Code} {Q Q' : Exit → St → Prop} {σ : St} (h : XC C c Q σ) (hq : ∀ e τ, Le σ.H τ.H → Q e τ → Q' e τ) : XC C c Q' σ :=
  fun a w hr => Go.wpIn_mono (h a w hr) fun _ _ _ l => lift_mono l (Le.refl _) fun τ hl q => hq _ τ hl q

/-! ### The rules of code -/
def seqQ (C : Ctx) (y : Code) (Q : Exit → St → Prop) : Exit → St → Prop
  | .normal, σ => XC C y Q σ
  | e, σ => Q e σ
def blockQ (id : Nat) (Q : Exit → St → Prop) : Exit → St → Prop
  | .exit id', σ => bif Nat.beq id' id then Q .normal σ else Q (.exit id') σ
  | e, σ => Q e σ

theorem XC.seq {C : Ctx} {x y : Code} {Q : Exit → St → Prop} {σ : St} (h : XC C x (seqQ C y Q) σ) : XC C (.seq x y) Q σ := by
  intro a w hr
  refine wpIn_seq (Go.wpIn_mono (h a w hr) ?_)
  intro e a w hl
  obtain ⟨τ, hr, hle, hq⟩ := hl
  cases e with
  | normal => exact Go.wpIn_mono (hq a w hr) fun _ _ _ l => lift_mono l hle fun _ _ q => q
  | exit _ => exact ⟨τ, hr, hle, hq⟩
  | goto _ => exact ⟨τ, hr, hle, hq⟩
  | ret => exact ⟨τ, hr, hle, hq⟩
  | panic _ => exact ⟨τ, hr, hle, hq⟩
  | outgrown => exact ⟨τ, hr, hle, hq⟩

theorem XC.seq2 {C : Ctx} {y : Code} {Q : Exit → St → Prop} {σ : St} (h : XC C y Q σ) : seqQ C y Q .normal σ := h
theorem XC.skip {C : Ctx} {Q : Exit → St → Prop} {σ : St} (h : Q .normal σ) : XC C .skip Q σ :=
  fun _ _ hr => wpIn_skip ⟨σ, hr, Le.refl _, h⟩
theorem XC.label {C : Ctx} {l : Nat} {Q : Exit → St → Prop} {σ : St} (h : Q .normal σ) : XC C (.label l) Q σ :=
  fun _ _ hr => wpIn_label ⟨σ, hr, Le.refl _, h⟩
theorem XC.exit {C : Ctx} {id : Nat} {Q : Exit → St → Prop} {σ : St} (h : Q (.exit id) σ) : XC C (.exit id) Q σ :=
  fun _ _ hr => wpIn_exit ⟨σ, hr, Le.refl _, h⟩
theorem XC.goto {C : Ctx} {l : Nat} {Q : Exit → St → Prop} {σ : St} (h : Q (.goto l) σ) : XC C (.goto l) Q σ :=
  fun _ _ hr => wpIn_goto ⟨σ, hr, Le.refl _, h⟩
theorem XC.ret {C : Ctx} {Q : Exit → St → Prop} {σ : St} (h : Q .ret σ) : XC C .ret Q σ :=
  fun _ _ hr => wpIn_ret ⟨σ, hr, Le.refl _, h⟩

theorem XC.condT {C : Ctx} {c : Operand} {x y : Code} {Q : Exit → St → Prop} {env : Env} {df : List Deferred} {H : Hp} {own : Own} {b : Bool} (hc : ev env c = some (.bool b)) (hb : b = true) (h : XC C x Q ⟨env, df, H, own⟩) : XC C (.cond c x y) Q ⟨env, df, H, own⟩ :=
  fun a w hr => wpIn_cond_true (by subst hb; exact hr.eval hc) (h a w hr)
theorem XC.condF {C : Ctx} {c : Operand} {x y : Code} {Q : Exit → St → Prop} {env : Env} {df : List Deferred} {H : Hp} {own : Own} {b : Bool} (hc : ev env c = some (.bool b)) (hb : b = false) (h : XC C y Q ⟨env, df, H, own⟩) : XC C (.cond c x y) Q ⟨env, df, H, own⟩ :=
  fun a w hr => wpIn_cond_false (by subst hb; exact hr.eval hc) (h a w hr)
theorem XC.condB {C : Ctx} {c : Operand} {x y : Code} {Q : Exit → St → Prop} {env : Env} {df : List Deferred} {H : Hp} {own : Own} {b : Bool} (hc : ev env c = some (.bool b)) (ht : b = true → XC C x Q ⟨env, df, H, own⟩) (hf : b = false → XC C y Q ⟨env, df, H, own⟩) : XC C (.cond c x y) Q ⟨env, df, H, own⟩ := by
  cases hb : b with
  | true => exact XC.condT hc hb (ht hb)
  | false => exact XC.condF hc hb (hf hb)
theorem XC.cond {C : Ctx} {c : Operand} {x y : Code} {Q : Exit → St → Prop} {env : Env} {df : List Deferred} {H : Hp} {own : Own} {p : Prop} [Decidable p] (hc : ev env c = some (.bool (decide p))) (ht : p → XC C x Q ⟨env, df, H, own⟩) (hf : ¬ p → XC C y Q ⟨env, df, H, own⟩) : XC C (.cond c x y) Q ⟨env, df, H, own⟩ :=
  XC.condB hc (fun h => ht (by simpa using h)) (fun h => hf (by simpa using h))

theorem XC.block {C : Ctx} {id : Nat} {c : Code} {Q : Exit → St → Prop} {σ : St} (h : XC C c (blockQ id Q) σ) : XC C (.block id c) Q σ := by
  intro a w hr
  refine wpIn_block (Go.wpIn_mono (h a w hr) ?_)
  intro e a w hl
  obtain ⟨τ, hr, hle, hq⟩ := hl
  cases e with
  | exit id' =>
    simp only [Exit.inBlock]
    simp only [blockQ] at hq
    cases hb : Nat.beq id' id with
    | true => rw [hb] at hq; rw [if_pos (Nat.eq_of_beq_eq_true hb)]; exact ⟨τ, hr, hle, hq⟩
    | false => rw [hb] at hq; rw [if_neg (fun e => by rw [e] at hb; simp at hb)]; exact ⟨τ, hr, hle, hq⟩
  | normal => exact ⟨τ, hr, hle, hq⟩
  | goto _ => exact ⟨τ, hr, hle, hq⟩
  | ret => exact ⟨τ, hr, hle, hq⟩
  | panic _ => exact ⟨τ, hr, hle, hq⟩
  | outgrown => exact ⟨τ, hr, hle, hq⟩

/-- What is asked at the end of a loop's round. -/
def loopQ {ι : Type} (I : ι → St → Prop) (μ : ι → Nat) (i : ι) (Q : Exit → St → Prop) : Exit → St → Prop
  | .normal, σ => ∃ j, μ j < μ i ∧ I j σ
  | e, σ => Q e σ

theorem least1 {p : Nat → Prop} (h : ∃ n, p n) : ∃ n, p n ∧ ∀ m, p m → n ≤ m := by
  obtain ⟨n, hn⟩ := h
  induction n using Nat.strongRecOn with
  | _ n ih =>
    by_cases hx : ∃ m, m < n ∧ p m
    · obtain ⟨m, hm, hp⟩ := hx; exact ih m hm hp
    · exact ⟨n, hn, fun m hm => by
        rcases Nat.lt_or_ge m n with hl | hg
        · exact absurd ⟨m, hl, hm⟩ hx
        · exact hg⟩

theorem least2 {α β : Type} (p : α → β → Nat → Prop) : ∃ m : α → β → Nat, ∀ a w, (∃ n, p a w n) → p a w (m a w) ∧ ∀ n, p a w n → m a w ≤ n := by
  have h : ∀ x : α × β, ∃ n, (∃ k, p x.1 x.2 k) → p x.1 x.2 n ∧ ∀ k, p x.1 x.2 k → n ≤ k := by
    intro x
    by_cases hx : ∃ k, p x.1 x.2 k
    · obtain ⟨n, hn⟩ := least1 hx; exact ⟨n, fun _ => hn⟩
    · exact ⟨0, fun h => absurd h hx⟩
  exact ⟨fun a w => Classical.choose (h (a, w)), fun a w => Classical.choose_spec (h (a, w))⟩

/-- A loop: 'I i' describes the state at its head (an entailed one: 'Ent'). -/
theorem XC.loopG {C : Ctx} {c : Code} {Q : Exit → St → Prop} {ι : Type} (I : ι → St → Prop) (μ : ι → Nat) (i₀ : ι) {σ : St} (h₀ : I i₀ σ)
    (round : ∀ i τ, Le σ.H τ.H → I i τ → XC C c (loopQ I μ i Q) τ) : XC C (.loop c) Q σ := by
  intro a w hr
  obtain ⟨m, hm⟩ := least2 fun (a : Act) (w : World) n => ∃ i τ, Rel C τ a w ∧ Le σ.H τ.H ∧ I i τ ∧ μ i = n
  refine wpIn_loop (fun a w => ∃ i τ, Rel C τ a w ∧ Le σ.H τ.H ∧ I i τ) m ⟨i₀, σ, hr, Le.refl _, h₀⟩ ?_
  intro a w hI
  obtain ⟨i', τ', h1', h2', h3'⟩ := hI
  obtain ⟨⟨i, τ, h1, h2, h3, h4⟩, _⟩ := hm a w ⟨μ i', i', τ', h1', h2', h3', rfl⟩
  refine Go.wpIn_mono (round i τ h2 h3 a w h1) ?_
  intro e a' w' hl
  obtain ⟨τ', hr', hle, hq⟩ := hl
  cases e with
  | normal =>
    obtain ⟨j, hj, hI'⟩ := hq
    refine ⟨⟨j, τ', hr', h2.trans hle, hI'⟩, ?_⟩
    have := (hm a' w' ⟨μ j, j, τ', hr', h2.trans hle, hI', rfl⟩).2 _ ⟨j, τ', hr', h2.trans hle, hI', rfl⟩
    omega
  | exit _ => exact ⟨τ', hr', h2.trans hle, hq⟩
  | goto _ => exact ⟨τ', hr', h2.trans hle, hq⟩
  | ret => exact ⟨τ', hr', h2.trans hle, hq⟩
  | panic _ => exact ⟨τ', hr', h2.trans hle, hq⟩
  | outgrown => exact ⟨τ', hr', h2.trans hle, hq⟩

end Go.XL
