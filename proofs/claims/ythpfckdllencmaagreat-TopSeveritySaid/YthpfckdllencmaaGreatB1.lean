/- Short names for small steps. No statement of the program stands here. -/
import Derived.KernelRfl
import Derived.Test.YthpfckdllencmaaGreatProg
import Derived.WalkKit
import Derived.RangeFuncLeaves
import Derived.RangeFuncCalls
import Derived.OrdersIn
import Derived.RangeFuncRecord
namespace Go
abbrev aI:=@decide_eq_false
abbrev bG:=@decide_eq_true
abbrev eT:=@of_decide_eq_true
abbrev fM:=@of_decide_eq_false
abbrev aJ:=@List.getElem?_eq_getElem
abbrev bY:=@List.getElem?_eq_some_iff
abbrev cF:=@List.mem_of_getElem?
abbrev dB:=@List.getD_eq_getElem?_getD
abbrev dG:=@if_neg
abbrev eX:=@if_pos
abbrev dJ:=@List.getElem?_eq_none
abbrev dY:=@Array.getD_eq_getD_getElem?
abbrev eE:=@Option.some.inj
abbrev eK:=@Nat.le_trans
abbrev eM:=@List.append_assoc
abbrev eN:=@Int.toNat_natCast
abbrev eS:=@Nat.zero_le
abbrev fB:=@List.length_map
abbrev fJ:=@List.take_of_length_le
abbrev fL:=@Bool.and_eq_true
abbrev fP:=@List.cons_append
abbrev fQ:=@List.length_append
abbrev fV:=@Nat.eq_of_beq_eq_true
abbrev fW:=@Int.natAbs_natCast
abbrev gA:=@Array.getElem?_replicate
abbrev gG:=@Array.getElem?_eq_getElem
abbrev gF:=@List.take_length
abbrev gH:=@List.append_nil
abbrev gM:=@List.mem_append
abbrev fA:=@List.mem_range
abbrev gQ:=@List.length_set
abbrev gR:=@List.length_replicate
abbrev gJ:=@Nat.lt_or_ge
abbrev gT:=@Nat.le_refl
abbrev gW:=@List.Perm.swap
abbrev gN:=@List.nil_append
abbrev iC:=@List.ext_getElem?
abbrev jF:=@List.mem_append_left
abbrev mX:=@List.mem_cons_of_mem
abbrev jL:=@List.length_cons
abbrev lD:=@List.mem_filter
abbrev gS:=@List.mem_map
abbrev jS:=@Nat.lt_of_le_of_lt
abbrev pF:=@Int.natAbs_neg
abbrev iI:=@List.getElem?_map
abbrev lV:=@Decidable.not_not
abbrev jP:=@List.Sublist.refl
abbrev mO:=@List.Perm.refl
abbrev iR:=@List.getElem?_set
abbrev lW:=@List.mem_singleton
abbrev nO:=@List.take_append_drop
abbrev mF:=@List.getElem?_cons_zero
theorem sL {α : Type} (l : List α) : l.Sublist l:=jP l
theorem sC {α : Type} {a : α} {l m : List α} (h : l.Sublist m) : l.Sublist (a :: m):=List.Sublist.cons a h
theorem sD {α : Type} {a : α} {l m : List α} (h : l.Sublist m) : (a :: l).Sublist (a :: m):=List.Sublist.cons_cons a h
theorem zA {α : Type} {l m : List α} (h : l.Sublist m:=by repeat (first | exact sL _ | apply sC)) : l.Sublist m:=h
theorem zB {α : Type} {l m : List α} (h : l.Sublist m:=by repeat (first | exact sL _ | apply sD | apply sC)) : l.Sublist m:=h
theorem zO {p : Prop} (h : p:=by omega) : p:=h
theorem zD {p : Prop} (h : p:=by decide) : p:=h
theorem zK {p : Prop} (h : p:=by kernel_rfl) : p:=h
theorem zE {p : Prop} (h : p:=by assumption) : p:=h
theorem zF {p : Prop} (h : p:=by first | decide | omega) : p:=h
theorem zP {p : Prop} (h : p:=by simp) : p:=h
theorem zI {p : Prop} (h : p:=by simp;omega) : p:=h
theorem p1 {α β : Type} {a c : α} {b d : β} (h : (a,b) = (c,d)) : a = c:=congrArg Prod.fst h
theorem p2 {α β : Type} {a c : α} {b d : β} (h : (a,b) = (c,d)) : b = d:=congrArg Prod.snd h
end Go

namespace Go.Proofs
abbrev iF:=@Tryz.underlying114
abbrev mI:=@Tryz.underlying141
abbrev eC:=@Tryz.underlying170
abbrev mS:=@Tryz.underlying171
abbrev nD:=@Tryz.underlying20
abbrev cH:=@Tryz.underlying22
abbrev gP:=@Tryz.underlying23
abbrev cJ:=@Tryz.underlying24
abbrev pU:=@Tryz.underlying27
abbrev lL:=@Tryz.underlying3
abbrev bK:=@Tryz.underlying30
abbrev iZ:=@Tryz.underlying34
abbrev nR:=@Tryz.underlying4
abbrev eI:=@Tryz.underlying49
abbrev nS:=@Tryz.underlying5
abbrev oM:=@Tryz.underlying82
abbrev lE:=@Tryz.underlying87
end Go.Proofs

set_option autoImplicit false
namespace Go.XL
/-! ### The heap's two parts -/
abbrev Hp:=Nat → Option Obj
def Le (H H' : Hp) : Prop:=∀ b o,H b = some o → H' b = some o
theorem Le.refl (H : Hp) : Le H H:=fun _ _ h=>h
theorem Le.trans {A B C : Hp} (h : Le A B) (k : Le B C) : Le A C:=fun b o e=>k b o (h b o e)
theorem Le.none {A B : Hp} (h : Le A B) {b : Nat} (e : B b = none) : A b = none:=by
 cases hA : A b with
 | none=>rfl
 | some o=>rw [h b o hA] at e;cases e
inductive SObj where
 | cells (T : TypeId) (c : List Value)
 | row (T : TypeId) (n : Nat) (xs : List Value)
 | obj (o : Obj)
 | nothing
def SObj.some : SObj → Bool | .nothing=>false | _=>true
def SObj.Is : SObj → Obj → Prop
 | .nothing,_=>False
 | .cells T c,o=>o = .cells c.toArray T (0,0)
 | .row T n xs,o=>∃ c : List Value,o = .cells (xs ++ c).toArray T (0,0) ∧ (xs ++ c).length = n
 | .obj o',o=>o = o'
abbrev Own:=List (Nat × SObj)
def aBp (own : Own) : Own:=own.filter (·.2.some)
theorem uW (a b : Own) : aBp (a ++ b) = aBp a ++ aBp b:=List.filter_append ..
structure OkL (G : World) (H : Hp) (own : Own) (w : World) : Prop where
 os : w.os = G.os
 tape : w.tape = G.tape
 out : w.output = G.output
 pub : ∀ b o,H b = some o → w.heap[b]? = some o
 mine : ∀ p ∈ own,(∃ o,p.2.Is o ∧ w.heap[p.1]? = some o) ∧ H p.1 = none
 nd : (own.map Prod.fst).Nodup
def Ok (G : World) (H : Hp) (own : Own) (w : World) : Prop:=OkL G H (aBp own) w
theorem Ok.shrink {G : World} {H H' : Hp} {own own' : Own} {w : World} (h : Ok G H' own' w) (hle : Le H H') (hs : own.Sublist own') : Ok G H own w :=
 ⟨h.os,h.tape,h.out,fun b o e=>h.pub b o (hle b o e),fun p hp=>let ⟨a,b⟩:=h.mine p ((hs.filter _).mem hp);⟨a,hle.none b⟩,((hs.filter _).map _).nodup h.nd⟩
theorem Ok.perm {G : World} {H : Hp} {own own' : Own} {w : World} (h : Ok G H own w) (hp : own'.Perm own) : Ok G H own' w :=
 ⟨h.os,h.tape,h.out,h.pub,fun p hm=>h.mine p ((hp.filter _).mem_iff.1 hm),(((hp.filter _).map Prod.fst).nodup_iff).2 h.nd⟩
theorem Ok.drew {G : World} {H : Hp} {own : Own} {w : World} (h : Ok G H own w) : Ok G H own { w with drawn:=w.drawn + 1 } :=
 ⟨h.os,h.tape,h.out,h.pub,h.mine,h.nd⟩
theorem yN {w : World} {b : Nat} {o : Obj} (h : w.heap[b]? = some o) : b < w.heap.size:=by
 obtain ⟨h,_⟩:=Array.getElem?_eq_some_iff.1 h;exact h
theorem uA {b : Nat} {s : SObj} {own : Own} (h : s.some = true) : aBp ((b,s) :: own) = (b,s) :: aBp own:=by
 simp [aBp,h]
theorem aN0 {s : SObj} {o : Obj} (h : s.Is o) : s.some = true:=by cases s <;> first | rfl | exact h.elim
theorem Ok.at {G : World} {H : Hp} {own : Own} {w : World} (h : Ok G H own w) {p : Nat × SObj} (hp : p ∈ own) (hs : p.2.some = true) : (∃ o,p.2.Is o ∧ w.heap[p.1]? = some o) ∧ H p.1 = none :=
 h.mine p (lD.2 ⟨hp,hs⟩)
theorem Ok.new {G : World} {H : Hp} {own : Own} {w : World} (h : Ok G H own w) {o : Obj} {s : SObj} (hs : s.Is o) :
  Ok G H ((w.heap.size,s) :: own) { w with heap:=w.heap.push o }:=by
 have hn : H w.heap.size = none:=by
  cases e : H w.heap.size with
  | none=>rfl
  | some o=>exact absurd (yN (h.pub _ _ e)) (Nat.lt_irrefl _)
 have hlt : ∀ (b : Nat) (o' : Obj),w.heap[b]? = some o' → (w.heap.push o)[b]? = some o':=by
  intro b o' e;rw [Array.getElem?_push,dG (by have:=yN e;omega)];exact e
 refine ⟨h.os,h.tape,h.out,fun b o' e=>hlt _ _ (h.pub b o' e),?_,?_⟩
 ·intro p hp;rw [uA (aN0 hs)] at hp;rcases List.mem_cons.1 hp with rfl | hp
  ·exact ⟨⟨o,hs,by simp⟩,hn⟩
  obtain ⟨⟨o',h1,h2⟩,h3⟩:=h.mine p hp;exact ⟨⟨o',h1,hlt _ _ h2⟩,h3⟩
 rw [uA (aN0 hs)];simp only [List.map_cons,List.nodup_cons];refine ⟨?_,h.nd⟩;intro hm;obtain ⟨p,hp,e⟩:=gS.1 hm;obtain ⟨⟨o',_,h2⟩,_⟩:=h.mine p hp;rw [e] at h2;exact absurd (yN h2) (Nat.lt_irrefl _)
theorem Ok.write {G : World} {H : Hp} {pre post : Own} {w w' : World} {b : Nat} {s s' : SObj} (h : Ok G H (pre ++ (b,s) :: post) w) {o' : Obj} (hs0 : s.some = true) (hs : s'.Is o')
  (h1 : w'.os = w.os) (h2 : w'.tape = w.tape) (h3 : w'.output = w.output) (hb : w'.heap[b]? = some o') (hk : ∀ k,k ≠ b → w'.heap[k]? = w.heap[k]?) :
  Ok G H (pre ++ (b,s') :: post) w':=by
 unfold Ok at h ⊢;rw [uW,uA hs0] at h;rw [uW,uA (aN0 hs)];generalize aBp pre = pre at h ⊢;generalize aBp post = post at h ⊢;have hnd:=h.nd;simp only [List.map_append,List.map_cons] at hnd;have hmid : (b,s) ∈ pre ++ (b,s) :: post:=by simp
 have hne : ∀ p,p ∈ pre ∨ p ∈ post → p.1 ≠ b:=by
  intro p hp e;rw [List.nodup_append] at hnd;obtain ⟨_,hn2,hn3⟩:=hnd;rcases hp with hp | hp
  ·exact hn3 p.1 (gS.2 ⟨p,hp,rfl⟩) b zP e
  exact (List.nodup_cons.1 hn2).1 (gS.2 ⟨p,hp,e⟩)
 have hHb:=(h.mine _ hmid).2;refine ⟨h1.trans h.os,h2.trans h.tape,h3.trans h.out,fun k o e=>?_,?_,?_⟩
 ·rw [hk k (by rintro rfl;rw [hHb] at e;cases e)];exact h.pub k o e
 ·intro p hp;rcases gM.1 hp with hp | hp
  ·obtain ⟨⟨o,a,c⟩,d⟩:=h.mine p (by simp [hp]);exact ⟨⟨o,a,by rw [hk _ (hne p (.inl hp))];exact c⟩,d⟩
  rcases List.mem_cons.1 hp with rfl | hp
  ·exact ⟨⟨o',hs,hb⟩,hHb⟩
  obtain ⟨⟨o,a,c⟩,d⟩:=h.mine p (by simp [hp]);exact ⟨⟨o,a,by rw [hk _ (hne p (.inr hp))];exact c⟩,d⟩
 simp only [List.map_append,List.map_cons];exact hnd
theorem Ok.publish {G : World} {H : Hp} {pre post : Own} {w : World} {b : Nat} {s : SObj} (h : Ok G H (pre ++ (b,s) :: post) w) (hs0 : s.some = true) :
  ∃ H' o,Le H H' ∧ H' b = some o ∧ s.Is o ∧ Ok G H' (pre ++ post) w:=by
 unfold Ok at h ⊢;rw [uW,uA hs0] at h;rw [uW];generalize aBp pre = pre at h ⊢;generalize aBp post = post at h ⊢;obtain ⟨⟨o,hso,hw⟩,hb⟩:=h.mine (b,s) zP;have hnd:=h.nd;simp only [List.map_append,List.map_cons] at hnd
 have hne : ∀ p,p ∈ pre ∨ p ∈ post → p.1 ≠ b:=by
  intro p hp e;rw [List.nodup_append] at hnd;obtain ⟨_,hn2,hn3⟩:=hnd;rcases hp with hp | hp
  ·exact hn3 p.1 (gS.2 ⟨p,hp,rfl⟩) b zP e
  exact (List.nodup_cons.1 hn2).1 (gS.2 ⟨p,hp,e⟩)
 refine ⟨fun k=>if k = b then .some o else H k,o,?_,by simp,hso,h.os,h.tape,h.out,?_,?_,?_⟩
 ·intro k u hk;by_cases e : k = b
  ·subst e;simp only at hb;rw [hb] at hk;cases hk
  simp [e,hk]
 ·intro k u hk;by_cases e : k = b
  ·subst e;simp at hk;subst hk;exact hw
  simp [e] at hk;exact h.pub k u hk
 ·intro p hp;obtain ⟨h1,h2⟩:=h.mine p (by rcases gM.1 hp with hp | hp <;> simp [hp]);refine ⟨h1,?_⟩;simp [hne p (by rcases gM.1 hp with hp | hp <;> simp [hp]),h2]
 simp only [List.map_append];exact (List.Sublist.append_left (List.sublist_cons_self _ _) _).nodup hnd
/-! ### Own lists by place: each of these reckons to a literal -/
def Own.at : Own → Nat → Option (Nat × SObj)
 | [],_=>none
 | p :: _,0=>some p
 | _ :: r,i + 1=>Own.at r i
def Own.put : Own → Nat → SObj → Option Own
 | [],_,_=>none
 | p :: r,0,s=>some ((p.1,s) :: r)
 | p :: r,i + 1,s=>match Own.put r i s with | some r'=>some (p :: r') | none=>none
def Own.put2 : Own → Nat → Nat × SObj → Option Own
 | [],_,_=>none
 | _ :: r,0,q=>some (q :: r)
 | p :: r,i + 1,q=>match Own.put2 r i q with | some r'=>some (p :: r') | none=>none
def Own.del : Own → Nat → Option Own
 | [],_=>none
 | _ :: r,0=>some r
 | p :: r,i + 1=>match Own.del r i with | some r'=>some (p :: r') | none=>none
theorem Own.at_split {own : Own} {i : Nat} {p : Nat × SObj} (h : Own.at own i = some p) : ∃ pre post,own = pre ++ p :: post ∧ pre.length = i:=by
 induction own generalizing i with
 | nil=>cases h
 | cons q r ih =>
  cases i with
  | zero=>cases h;exact ⟨[],r,rfl,rfl⟩
  | succ i=>obtain ⟨pre,post,rfl,hl⟩:=ih (i:=i) h;exact ⟨q :: pre,post,rfl,by simp [hl]⟩
theorem Own.put_split {pre post : Own} {b : Nat} {s s' : SObj} : Own.put (pre ++ (b,s) :: post) pre.length s' = some (pre ++ (b,s') :: post):=by
 induction pre with
 | nil=>rfl
 | cons q r ih=>simp [Own.put,ih]
theorem Own.del_split {pre post : Own} {p : Nat × SObj} : Own.del (pre ++ p :: post) pre.length = some (pre ++ post):=by
 induction pre with
 | nil=>rfl
 | cons q r ih=>simp [Own.del,ih]
/-! ### Slots -/
abbrev gY:=List (Nat × Value)
def gY.get : gY → Nat → Option Value
 | [],_=>none
 | (k,v) :: e,t=>bif Nat.beq k t then some v else gY.get e t
def jI (d : Option Tmp) (v : Value) (e : gY) : gY:=match d with | some t=>(t,v) :: e | none=>e
def ev (e : gY) : Operand → Option Value
 | .tmp t=>e.get t
 | .const v=>some v
 | .global g=>some (.pointer (some ⟨g,0,none⟩))
 | .func f=>some (.func (.func f) #[] #[])
def evs (e : gY) : List Operand → Option (List Value)
 | []=>some []
 | x :: xs=>match ev e x with
  | some v=>match evs e xs with | some vs=>some (v :: vs) | none=>none
  | none=>none
def gY.keep (e : gY) : List Nat → Option gY
 | []=>some []
 | t :: ts=>match e.get t with
  | some v=>match gY.keep e ts with | some r=>some ((t,v) :: r) | none=>none
  | none=>none
def aGb (e : gY) : gY → Prop
 | []=>True
 | (t,v) :: r=>e.get t = some v ∧ aGb e r
theorem gY.get_of_prov {e e' : gY} (h : aGb e e') {t : Nat} {v : Value} (hg : gY.get e' t = some v) : gY.get e t = some v:=by
 induction e' with
 | nil=>cases hg
 | cons p r ih =>
  obtain ⟨k,u⟩:=p;obtain ⟨h1,h2⟩:=h;simp only [gY.get] at hg;cases hk : Nat.beq k t with
  | true=>rw [hk] at hg;simp at hg;subst hg;rw [← fV hk];exact h1
  | false=>rw [hk] at hg;exact ih h2 hg
theorem gY.keep_prov {e e' : gY} {ts : List Nat} (h : e.keep ts = some e') : aGb e e':=by
 induction ts generalizing e' with
 | nil=>cases h;trivial
 | cons t ts ih =>
  simp only [gY.keep] at h;split at h
  ·rename_i v hv
   split at h
   ·rename_i r hr;cases h;exact ⟨hv,ih hr⟩
   cases h
  cases h
/-! ### The state,and what a piece of code is asked -/
structure Ctx where
 P : Program
 G : World
 N : Nat
 r : Option Nat:=none
 /-- what else of the call's own lies there (in a round: the loop's record) -/
 hid : Own:=[]
structure St where
 env : gY
 df : List Deferred
 H : Hp
 own : Own
def mark (r : Nat) : Deferred:={ target:=.collected r,args:=#[] }
def hid (r : Nat) : Nat × SObj:=(r,.obj (.deferred (some [])))
structure Rel (C : Ctx) (σ : St) (a : Act) (w : World) : Prop where
 size : a.tmps.size = C.N
 get : ∀ t v,σ.env.get t = some v → a.tmps.getD t undef = v
 ok : ∃ ms : List Nat,a.defers = ms.map mark ++ σ.df ∧ Ok C.G σ.H (σ.own ++ (ms.map Go.XL.hid ++ C.hid)) w
abbrev Fr (r : Option Nat) : Fence:={ Fence.wide with round:=r }
def nW (C : Ctx) (H : Hp) (Q : Exit → St → Prop) (e : Exit) (a : Act) (w : World) : Prop :=
 ∃ σ,Rel C σ a w ∧ Le H σ.H ∧ Q e σ
theorem uG {C : Ctx} {H H' : Hp} {Q Q' : Exit → St → Prop} {e : Exit} {a : Act} {w : World} (h : nW C H' Q e a w) (hle : Le H H') (hq : ∀ σ,Le H' σ.H → Q e σ → Q' e σ) : nW C H Q' e a w :=
 let ⟨σ,r,l,q⟩:=h;⟨σ,r,hle.trans l,hq σ l q⟩
def XC (C : Ctx) (c : Code) (Q : Exit → St → Prop) (σ : St) : Prop :=
 ∀ a w,Rel C σ a w → c.wpIn (Fr C.r) 0 C.P (nW C σ.H Q) a w
def XO (C : Ctx) (ops : Array Oper) (Q : Exit → St → Prop) (rest : List Oper) (σ : St) : Prop :=
 ∀ a w,Rel C σ a w → wpListIn (Fr C.r) 0 C.P ops (nW C σ.H Q) rest a w
theorem Rel.eval {C : Ctx} {σ : St} {a : Act} {w : World} (h : Rel C σ a w) {x : Operand} {v : Value} (hx : ev σ.env x = some v) : a.eval x = v:=by
 cases x with
 | tmp t=>exact h.get t v hx
 | const u=>simp only [ev,Option.some.injEq] at hx;exact hx
 | global g=>simp only [ev,Option.some.injEq] at hx;exact hx
 | func f=>simp only [ev,Option.some.injEq] at hx;exact hx
theorem Rel.evals {C : Ctx} {σ : St} {a : Act} {w : World} (h : Rel C σ a w) {xs : List Operand} {vs : List Value} (hx : evs σ.env xs = some vs) : xs.map a.eval = vs:=by
 induction xs generalizing vs with
 | nil=>cases hx;rfl
 | cons x xs ih =>
  simp only [evs] at hx;split at hx
  ·rename_i v hv
   split at hx
   ·rename_i r hr;cases hx;simp [h.eval hv,ih hr]
   cases hx
  cases hx
theorem Rel.weaken {C : Ctx} {σ : St} {a : Act} {w : World} (h : Rel C σ a w) {env' : gY} {H' : Hp} {own' : Own} (he : aGb σ.env env') (hH : Le H' σ.H) (ho : own'.Sublist σ.own) : Rel C ⟨env',σ.df,H',own'⟩ a w :=
 let ⟨ms,hd,hk⟩:=h.ok
 ⟨h.size,fun t v hg=>h.get t v (gY.get_of_prov he hg),ms,hd,hk.shrink hH (ho.append_right _)⟩
theorem Rel.perm {C : Ctx} {env : gY} {df : List Deferred} {H : Hp} {own own' : Own} {a : Act} {w : World} (h : Rel C ⟨env,df,H,own⟩ a w) (ho : own'.Perm own) : Rel C ⟨env,df,H,own'⟩ a w :=
 let ⟨ms,hd,hk⟩:=h.ok
 ⟨h.size,h.get,ms,hd,hk.perm (ho.append_right _)⟩
theorem Rel.put {C : Ctx} {env : gY} {df : List Deferred} {H : Hp} {own : Own} {a : Act} {w : World} (h : Rel C ⟨env,df,H,own⟩ a w) {d : Option Tmp} (hd : ∀ t,d = some t → t < C.N) (v : Value)
  {H' : Hp} {own' : Own} {w' : World} (hok : ∃ ms : List Nat,a.defers = ms.map mark ++ df ∧ Ok C.G H' (own' ++ (ms.map Go.XL.hid ++ C.hid)) w') : Rel C ⟨jI d v env,df,H',own'⟩ (a.put d v) w':=by
 cases d with
 | none=>exact ⟨h.size,h.get,hok⟩
 | some t =>
  have ht:=hd t rfl;refine ⟨by simp [Act.put,h.size],?_,hok⟩;intro k u hk;simp only [jI,gY.get] at hk;cases hb : Nat.beq t k with
  | true =>
   rw [hb] at hk;simp at hk;subst hk;obtain rfl:=fV hb;have hs:=h.size;simp [Act.put,Array.getD,hs,ht]
  | false =>
   rw [hb] at hk;have hne : t ≠ k:=fun e=>by rw [e] at hb;simp at hb
   have:=h.get k u hk;simp only [Act.put,dY] at this ⊢;rw [Array.getElem?_setIfInBounds_ne hne];exact this
theorem XC.mono {C : Ctx} {c : Code} {Q Q' : Exit → St → Prop} {σ : St} (h : XC C c Q σ) (hq : ∀ e τ,Le σ.H τ.H → Q e τ → Q' e τ) : XC C c Q' σ :=
 fun a w hr=>Go.wpIn_mono (h a w hr) fun _ _ _ l=>uG l (Le.refl _) fun τ hl q=>hq _ τ hl q
/-! ### The rules of code -/
def aQ6 (C : Ctx) (y : Code) (Q : Exit → St → Prop) : Exit → St → Prop
 | .normal,σ=>XC C y Q σ
 | e,σ=>Q e σ
def aBd (id : Nat) (Q : Exit → St → Prop) : Exit → St → Prop
 | .exit id',σ=>bif Nat.beq id' id then Q .normal σ else Q (.exit id') σ
 | e,σ=>Q e σ
theorem cO {C : Ctx} {x y : Code} {Q : Exit → St → Prop} {σ : St} (h : XC C x (aQ6 C y Q) σ) : XC C (.seq x y) Q σ:=by
 intro a w hr;refine wpIn_seq (Go.wpIn_mono (h a w hr) ?_);intro e a w hl;obtain ⟨τ,hr,hle,hq⟩:=hl;cases e with
 | normal=>exact Go.wpIn_mono (hq a w hr) fun _ _ _ l=>uG l hle fun _ _ q=>q
 | exit _=>exact ⟨τ,hr,hle,hq⟩
 | goto _=>exact ⟨τ,hr,hle,hq⟩
 | ret=>exact ⟨τ,hr,hle,hq⟩
 | panic _=>exact ⟨τ,hr,hle,hq⟩
 | outgrown=>exact ⟨τ,hr,hle,hq⟩
theorem bO {C : Ctx} {y : Code} {Q : Exit → St → Prop} {σ : St} (h : XC C y Q σ) : aQ6 C y Q .normal σ:=h
theorem eF {C : Ctx} {Q : Exit → St → Prop} {σ : St} (h : Q .normal σ) : XC C .skip Q σ :=
 fun _ _ hr=>wpIn_skip ⟨σ,hr,Le.refl _,h⟩
theorem XC.label {C : Ctx} {l : Nat} {Q : Exit → St → Prop} {σ : St} (h : Q .normal σ) : XC C (.label l) Q σ :=
 fun _ _ hr=>wpIn_label ⟨σ,hr,Le.refl _,h⟩
theorem gI {C : Ctx} {id : Nat} {Q : Exit → St → Prop} {σ : St} (h : Q (.exit id) σ) : XC C (.exit id) Q σ :=
 fun _ _ hr=>wpIn_exit ⟨σ,hr,Le.refl _,h⟩
theorem eP {C : Ctx} {Q : Exit → St → Prop} {σ : St} (h : Q .ret σ) : XC C .ret Q σ :=
 fun _ _ hr=>wpIn_ret ⟨σ,hr,Le.refl _,h⟩
theorem jB {C : Ctx} {c : Operand} {x y : Code} {Q : Exit → St → Prop} {env : gY} {df : List Deferred} {H : Hp} {own : Own} {b : Bool} (hc : ev env c = some (.bool b)) (hb : b = true) (h : XC C x Q ⟨env,df,H,own⟩) : XC C (.cond c x y) Q ⟨env,df,H,own⟩ :=
 fun a w hr=>wpIn_cond_true (by subst hb;exact hr.eval hc) (h a w hr)
theorem gD {C : Ctx} {c : Operand} {x y : Code} {Q : Exit → St → Prop} {env : gY} {df : List Deferred} {H : Hp} {own : Own} {b : Bool} (hc : ev env c = some (.bool b)) (hb : b = false) (h : XC C y Q ⟨env,df,H,own⟩) : XC C (.cond c x y) Q ⟨env,df,H,own⟩ :=
 fun a w hr=>wpIn_cond_false (by subst hb;exact hr.eval hc) (h a w hr)
theorem mN {C : Ctx} {c : Operand} {x y : Code} {Q : Exit → St → Prop} {env : gY} {df : List Deferred} {H : Hp} {own : Own} {b : Bool} (hc : ev env c = some (.bool b)) (ht : b = true → XC C x Q ⟨env,df,H,own⟩) (hf : b = false → XC C y Q ⟨env,df,H,own⟩) : XC C (.cond c x y) Q ⟨env,df,H,own⟩:=by
 cases hb : b with
 | true=>exact jB hc hb (ht hb)
 | false=>exact gD hc hb (hf hb)
theorem fC {C : Ctx} {c : Operand} {x y : Code} {Q : Exit → St → Prop} {env : gY} {df : List Deferred} {H : Hp} {own : Own} {p : Prop} [Decidable p] (hc : ev env c = some (.bool (decide p))) (ht : p → XC C x Q ⟨env,df,H,own⟩) (hf : ¬ p → XC C y Q ⟨env,df,H,own⟩) : XC C (.cond c x y) Q ⟨env,df,H,own⟩ :=
 mN hc (fun h=>ht (by simpa using h)) (fun h=>hf (by simpa using h))
theorem dK {C : Ctx} {id : Nat} {c : Code} {Q : Exit → St → Prop} {σ : St} (h : XC C c (aBd id Q) σ) : XC C (.block id c) Q σ:=by
 intro a w hr;refine wpIn_block (Go.wpIn_mono (h a w hr) ?_);intro e a w hl;obtain ⟨τ,hr,hle,hq⟩:=hl;cases e with
 | exit id' =>
  simp only [Exit.inBlock];simp only [aBd] at hq;cases hb : Nat.beq id' id with
  | true=>rw [hb] at hq;rw [eX (fV hb)];exact ⟨τ,hr,hle,hq⟩
  | false=>rw [hb] at hq;rw [dG (fun e=>by rw [e] at hb;simp at hb)];exact ⟨τ,hr,hle,hq⟩
 | normal=>exact ⟨τ,hr,hle,hq⟩
 | goto _=>exact ⟨τ,hr,hle,hq⟩
 | ret=>exact ⟨τ,hr,hle,hq⟩
 | panic _=>exact ⟨τ,hr,hle,hq⟩
 | outgrown=>exact ⟨τ,hr,hle,hq⟩
def aM7 {ι : Type} (I : ι → St → Prop) (μ : ι → Nat) (i : ι) (Q : Exit → St → Prop) : Exit → St → Prop
 | .normal,σ=>∃ j,μ j < μ i ∧ I j σ
 | e,σ=>Q e σ
theorem least1 {p : Nat → Prop} (h : ∃ n,p n) : ∃ n,p n ∧ ∀ m,p m → n ≤ m:=by
 obtain ⟨n,hn⟩:=h
 induction n using Nat.strongRecOn with
 | _ n ih =>
  by_cases hx : ∃ m,m < n ∧ p m
  ·obtain ⟨m,hm,hp⟩:=hx;exact ih m hm hp
  exact ⟨n,hn,fun m hm=>by
   rcases gJ m n with hl | hg
   ·exact absurd ⟨m,hl,hm⟩ hx
   exact hg⟩
theorem least2 {α β : Type} (p : α → β → Nat → Prop) : ∃ m : α → β → Nat,∀ a w,(∃ n,p a w n) → p a w (m a w) ∧ ∀ n,p a w n → m a w ≤ n:=by
 have h : ∀ x : α × β,∃ n,(∃ k,p x.1 x.2 k) → p x.1 x.2 n ∧ ∀ k,p x.1 x.2 k → n ≤ k:=by
  intro x;by_cases hx : ∃ k,p x.1 x.2 k
  ·obtain ⟨n,hn⟩:=least1 hx;exact ⟨n,fun _=>hn⟩
  exact ⟨0,fun h=>absurd h hx⟩
 exact ⟨fun a w=>Classical.choose (h (a,w)),fun a w=>Classical.choose_spec (h (a,w))⟩
theorem XC.loopG {C : Ctx} {c : Code} {Q : Exit → St → Prop} {ι : Type} (I : ι → St → Prop) (μ : ι → Nat) (i₀ : ι) {σ : St} (h₀ : I i₀ σ)
  (round : ∀ i τ,Le σ.H τ.H → I i τ → XC C c (aM7 I μ i Q) τ) : XC C (.loop c) Q σ:=by
 intro a w hr;obtain ⟨m,hm⟩:=least2 fun (a : Act) (w : World) n=>∃ i τ,Rel C τ a w ∧ Le σ.H τ.H ∧ I i τ ∧ μ i = n;refine wpIn_loop (fun a w=>∃ i τ,Rel C τ a w ∧ Le σ.H τ.H ∧ I i τ) m ⟨i₀,σ,hr,Le.refl _,h₀⟩ ?_;intro a w hI;obtain ⟨i',τ',h1',h2',h3'⟩:=hI;obtain ⟨⟨i,τ,h1,h2,h3,h4⟩,_⟩:=hm a w ⟨μ i',i',τ',h1',h2',h3',rfl⟩;refine Go.wpIn_mono (round i τ h2 h3 a w h1) ?_;intro e a' w' hl;obtain ⟨τ',hr',hle,hq⟩:=hl;cases e with
 | normal =>
  obtain ⟨j,hj,hI'⟩:=hq;refine ⟨⟨j,τ',hr',h2.trans hle,hI'⟩,?_⟩;have:=(hm a' w' ⟨μ j,j,τ',hr',h2.trans hle,hI',rfl⟩).2 _ ⟨j,τ',hr',h2.trans hle,hI',rfl⟩;omega
 | exit _=>exact ⟨τ',hr',h2.trans hle,hq⟩
 | goto _=>exact ⟨τ',hr',h2.trans hle,hq⟩
 | ret=>exact ⟨τ',hr',h2.trans hle,hq⟩
 | panic _=>exact ⟨τ',hr',h2.trans hle,hq⟩
 | outgrown=>exact ⟨τ',hr',h2.trans hle,hq⟩
end Go.XL

set_option linter.unusedSimpArgs false
namespace Go.XL
def wM : Op → Bool | .defer _=>false | _=>true
def iU (N : Nat) : Option Tmp → Bool | none=>true | some t=>Nat.blt t N
theorem aAm {N : Nat} {d : Option Tmp} (h : iU N d = true) : ∀ t,d = some t → t < N:=by
 intro t e;subst e;simpa [iU] using h
/-! ### Function contracts -/
def aKa (P : Program) (f : FuncId) : Prop:=∀ args w,(callFunc f args).run P w = .ok (.enter f args) w
def iP (P : Program) (f : FuncId) (args : Array Value) (H : Hp) (own : Own) (R : Ending → Hp → Own → Prop) : Prop :=
 aKa P f ∧ ∀ G rest w,Ok G H (own ++ rest) w → Calls P f args w fun e w'=>e ≠ .outgrown ∧ ∃ H' own',Le H H' ∧ Ok G H' (own' ++ rest) w' ∧ R e H' own'
theorem iP.mono {P : Program} {f : FuncId} {args : Array Value} {H : Hp} {own : Own} {R R' : Ending → Hp → Own → Prop} (h : iP P f args H own R) (hr : ∀ e H' own',Le H H' → R e H' own' → R' e H' own') : iP P f args H own R' :=
 ⟨h.1,fun G rest w ok=>(h.2 G rest w ok).mono fun _ _ ⟨h0,H',own',h1,h2,h3⟩=>⟨h0,H',own',h1,h2,hr _ _ _ h1 h3⟩⟩
def gY.init : Nat → List Value → Option gY
 | _,[]=>some []
 | i,v :: vs=>match gY.init (i + 1) vs with | some e=>some ((i,v) :: e) | none=>none
theorem gY.init_get {vs : List Value} {i : Nat} {e : gY} (h : gY.init i vs = some e) {t : Nat} {v : Value} (hg : gY.get e t = some v) : i ≤ t ∧ vs[t - i]? = some v:=by
 induction vs generalizing i e with
 | nil=>cases h;cases hg
 | cons u us ih =>
  simp only [gY.init] at h;split at h
  ·rename_i e' he
   cases h;simp only [gY.get] at hg;cases hb : Nat.beq i t with
   | true =>
    rw [hb] at hg;simp at hg;subst hg;obtain rfl:=fV hb;simp
   | false =>
    rw [hb] at hg;obtain ⟨h1,h2⟩:=ih he hg;refine ⟨zO,?_⟩;rw [show t - i = (t - (i + 1)) + 1 by omega];simpa using h2
  cases h
def aPz (e : gY) : List ResultVar → Option (List Value)
 | []=>some []
 | .tmp t :: r=>match e.get t with
  | some v=>match aPz e r with | some vs=>some (v :: vs) | none=>none
  | none=>none
 | .cell .. :: _=>none
def aJd : List Value → Value | [v]=>v | vs=>.tuple vs.toArray
theorem aH7 {C : Ctx} {σ : St} {a : Act} {w w' : World} (hr : Rel C σ a w) {fn : Func} {rs : List ResultVar} (hf : fn.results = rs.toArray) {vs : List Value} (h : aPz σ.env rs = some vs) :
  (results fn a.tmps).run C.P w' = .ok (aJd vs) w':=by
 have key : ∀ (g : ResultVar → Sem Value),(∀ t,g (.tmp t) = pure (a.tmps.getD t undef)) → ∀ (rs : List ResultVar) (vs : List Value),aPz σ.env rs = some vs →
   (rs.mapM g).run C.P w' = .ok vs w':=by
  intro g hg rs
  induction rs with
  | nil=>intro vs h;cases h;rfl
  | cons r rs ih =>
   intro vs h;cases r with
   | cell b t=>cases h
   | tmp t =>
    simp only [aPz] at h;split at h
    ·rename_i v hv
     split at h
     ·rename_i us hus
      cases h;have h1:=hr.get t v hv;have h2:=ih us hus;rw [List.mapM_cons];simp only [Sem.run_bind,hg,h1];show (Result.ok v w').andThen _ = _;show (Sem.run C.P (List.mapM g rs) w').andThen _ = _;rw [h2];rfl
     cases h
    cases h
 unfold results;rw [hf,List.mapM_toArray];simp only [Sem.run_bind,Sem.run_map];rw [key _ (fun _=>rfl) rs vs h];cases vs with
 | nil=>rfl
 | cons v vs=>cases vs <;> rfl
def bodyQ (rs : List ResultVar) (R : Ending → Hp → Own → Prop) (rest : Own) : Exit → St → Prop
 | .normal,σ | .ret,σ=>σ.df = [] ∧ ∃ vs own',aPz σ.env rs = some vs ∧ (own' ++ rest).Sublist σ.own ∧ R (.returned (aJd vs)) σ.H own'
 | .panic chain,σ=>σ.df = [] ∧ ∃ own',(own' ++ rest).Sublist σ.own ∧ R (.panicked chain) σ.H own'
 | _,_=>False
section
variable {C : Ctx} {y : Code} {Q : Exit → St → Prop} {σ : St} {id id' : Nat}
theorem fD (h : Q .ret σ) : aQ6 C y Q .ret σ:=h
theorem fE (h : Q (.exit id) σ) : aQ6 C y Q (.exit id) σ:=h
theorem pV {ch : List PanicEntry} (h : Q (.panic ch) σ) : aQ6 C y Q (.panic ch) σ:=h
theorem fY (h : Q .normal σ) : aBd id Q .normal σ:=h
theorem iS (h : Q .ret σ) : aBd id Q .ret σ:=h
theorem aN6 {ch : List PanicEntry} (h : Q (.panic ch) σ) : aBd id Q (.panic ch) σ:=h
theorem fU (hb : Nat.beq id' id = true) (h : Q .normal σ) : aBd id Q (.exit id') σ:=by simp only [aBd,hb];exact h
theorem blockMiss (hb : Nat.beq id' id = false) (h : Q (.exit id') σ) : aBd id Q (.exit id') σ:=by simp only [aBd,hb];exact h
theorem jR {ι : Type} {I : ι → St → Prop} {μ : ι → Nat} {i : ι} (h : Q .ret σ) : aM7 I μ i Q .ret σ:=h
theorem eY {ι : Type} {I : ι → St → Prop} {μ : ι → Nat} {i : ι} (h : Q (.exit id) σ) : aM7 I μ i Q (.exit id) σ:=h
theorem aH9 {ch : List PanicEntry} {ι : Type} {I : ι → St → Prop} {μ : ι → Nat} {i : ι} (h : Q (.panic ch) σ) : aM7 I μ i Q (.panic ch) σ:=h
end
theorem aBo {P : Program} {fn : Func} {tmps : Array Value} {G : World} {H : Hp} {u : FrameMode} (hu : u ≠ .run) {R : Ending → World → Prop} : ∀ (ms : List Nat) (own : Own) (w : World),
  Ok G H (own ++ ms.map hid) w → (∀ w',Ok G H own w' → LeavesIn Fence.wide 0 P fn tmps R [] u w') → LeavesInM Fence.wide 0 P fn tmps R (ms.map mark) u w
 | [],own,w,ok,h=>by simpa [LeavesInM] using h w (by simpa using ok)
 | r :: ms,own,w,ok,h=>by
  have hm : (hid r) ∈ own ++ (r :: ms).map hid:=by simp
  obtain ⟨⟨o,ho,hw⟩,_⟩:=ok.at hm rfl;simp only [hid,SObj.Is] at ho;subst ho;have hw' : w.heap[r]? = some (.deferred (some [])):=hw;refine ⟨hu,.inl ⟨r,{ w with heap:=w.heap.setIfInBounds r (.deferred none) },rfl,?_,?_⟩⟩
  ·have hw2:=hw';simp [Instr.takeDeferred,getObj,setObj,Sem.run_bind,Sem.run,Result.andThen,hw2,bind,Sem.bind,pure]
  refine aBo hu ms own _ ?_ h;have ok' : Ok G H (own ++ ((r,SObj.obj (.deferred (some []))) :: ms.map hid)) w:=ok
  have:=ok'.write (b:=r) (s':=.obj (.deferred none)) (o':=.deferred none) (w':={ w with heap:=w.heap.setIfInBounds r (.deferred none) }) rfl rfl rfl rfl rfl
   (by have:=yN hw';simp [this]) (fun k hk=>by simp [Array.getElem?_setIfInBounds,Ne.symm hk])
  exact this.shrink (Le.refl _) (List.Sublist.append_left (List.sublist_cons_self _ _) _)
theorem iP.intro {P : Program} {f : FuncId} {fn : Func} {c : Code} {args : List Value} {H : Hp} {own : Own} {R : Ending → Hp → Own → Prop} {N : Nat} {env : gY} {rs : List ResultVar}
  (hf : P.funcs[f]? = some fn) (hb : fn.body = some c) (hn : (fn.name == "runtime.NumGoroutine") = false) (hN : fn.ntmps = N) (hrs : fn.results = rs.toArray) (hlt : Nat.ble args.length N = true)
  (hi : gY.init 0 args = some env)
  (h : ∀ G rest,XC ⟨P,G,N,none,[]⟩ c (bodyQ rs R rest) ⟨env,[],H,own ++ rest⟩) : iP P f args.toArray H own R:=by
 refine ⟨fun a_s w=>?_,fun G rest w ok=>?_⟩
 ·have hn' : fn.name ≠ "runtime.NumGoroutine":=by simpa using hn
  simp [callFunc,program,Sem.run_bind,Sem.run,Result.andThen,hf,hn',hb,bind,Sem.bind,pure]
 refine callsIn_wide.1 (callsIn_of_wp_marks (n:=0) hf hb trivial ?_)
 have hrel : Rel ⟨P,G,N,none,[]⟩ ⟨env,[],H,own ++ rest⟩ { tmps:=args.toArray ++ Array.replicate (fn.ntmps - args.toArray.size) undef,defers:=[] } w:=by
  have hle : args.length ≤ N:=Nat.le_of_ble_eq_true hlt;refine ⟨by simp [hN];omega,?_,[],rfl,by simpa using ok⟩;intro t v hg;obtain ⟨_,h2⟩:=gY.init_get hi hg;simp only [Nat.sub_zero] at h2
  have hlt : t < args.length:=by
   rcases gJ t args.length with h | h
   ·exact h
   rw [dJ h] at h2;cases h2
  rw [dY,Array.getElem?_append_left (by simpa using hlt)];simp [h2]
 refine Go.wpIn_mono (h G rest _ w hrel) ?_;intro e a w' hl;obtain ⟨τ,hr,hle,hq⟩:=hl
 have hR : ∀ e own',e ≠ .outgrown → (own' ++ rest).Sublist τ.own → R e τ.H own' → ∀ w'',Ok G τ.H τ.own w'' → (e ≠ .outgrown ∧ ∃ H' own',Le H H' ∧ Ok G H' (own' ++ rest) w'' ∧ R e H' own') :=
  fun e own' he hs hr w'' ok=>⟨he,τ.H,own',hle,ok.shrink (Le.refl _) hs,hr⟩
 have fin : ∀ vs own',τ.df = [] → aPz τ.env rs = some vs → (own' ++ rest).Sublist τ.own → R (.returned (aJd vs)) τ.H own' → LeavesInM Fence.wide 0 P fn a.tmps (fun e w'=>e ≠ .outgrown ∧ ∃ H' own',Le H H' ∧ Ok G H' (own' ++ rest) w' ∧ R e H' own') a.defers .returning w':=by
  intro vs own' hd hres hs hRR;obtain ⟨ms,hdf,hok⟩:=hr.ok;rw [hdf,hd,gH];refine aBo zP ms τ.own w' (by simpa using hok) ?_;intro w'' ok'';exact ⟨_,aH7 hr hrs hres,hR _ own' zP hs hRR w'' ok''⟩
 cases e with
 | normal=>obtain ⟨hd,vs,own',hres,hs,hRR⟩:=hq;exact fin vs own' hd hres hs hRR
 | ret=>obtain ⟨hd,vs,own',hres,hs,hRR⟩:=hq;exact fin vs own' hd hres hs hRR
 | panic chain =>
  obtain ⟨hd,own',hs,hRR⟩:=hq;obtain ⟨ms,hdf,hok⟩:=hr.ok;show LeavesInM Fence.wide 0 P fn a.tmps _ a.defers (.panicking chain) w';rw [hdf,hd,gH];refine aBo zP ms τ.own w' (by simpa using hok) ?_;intro w'' ok'';exact hR _ own' zP hs hRR w'' ok''
 | exit _=>exact hq.elim
 | goto _=>exact hq.elim
 | outgrown=>exact hq.elim
end Go.XL

set_option linter.unusedVariables false
namespace Go.XL
abbrev aS5 (env : gY) (ρ : Operand → Value) : Prop:=∀ x u,ev env x = some u → ρ x = u
def OpRuns (C : Ctx) (env : gY) (H : Hp) (own : Own) (o : Oper) (K : Value → Hp → Own → Prop) : Prop :=
 ∀ (ρ : Operand → Value) (w : World) (fr : Own),aS5 env ρ → Ok C.G H (own ++ fr) w →
  ∃ nx v w' H' own',(execOp ρ o).run C.P w = .ok nx w' ∧ (nx = .value v ∨ (nx = .skip ∧ v = undef)) ∧ Le H H' ∧ Ok C.G H' (own' ++ fr) w' ∧ K v H' own'
theorem lZ {C : Ctx} {ops : Array Oper} {Q : Exit → St → Prop} {H H' : Hp} (hle : Le H H') (l : List Oper) (a : Act) (w : World) (h : wpListIn (Fr C.r) 0 C.P ops (nW C H' Q) l a w) : wpListIn (Fr C.r) 0 C.P ops (nW C H Q) l a w:=by
 have hq : ∀ e a w,nW C H' Q e a w → nW C H Q e a w:=fun _ _ _ l=>uG l hle fun _ _ q=>q
 induction l generalizing a w with
 | nil=>exact hq _ _ _ h
 | cons o l ih =>
  simp only [wpListIn] at h ⊢;split at h
  ·rename_i hw
   rw [eX hw];refine ⟨h.1,?_⟩;have h2:=h.2;generalize (o.semAt (Fr C.r).round a.eval).run C.P w = res at h2;have hlo : LetsOut (nW C H' Q) → LetsOut (nW C H Q):=fun ⟨a,w,l⟩=>⟨a,w,hq _ _ _ l⟩
   cases res with
   | ok nx w' =>
    cases nx with
    | value v=>exact ih _ _ h2
    | skip=>exact ih _ _ h2
    | defer d=>exact ih _ _ h2
    | enter f args =>
     refine ⟨h2.1,h2.2.1,fun cs hcs=>?_⟩;obtain ⟨e,w',fr,hR,hx⟩:=h2.2.2 cs hcs;refine ⟨e,w',fr,?_,hx⟩;cases e with
     | returned v=>exact ih _ _ hR
     | panicked ch=>exact hq _ _ _ hR
     | outgrown=>exact hlo hR
    | row row args=>exact ⟨h2.1,h2.2.mono fun _ _ hR=>ih _ _ hR⟩
    | round l f tmps a_s bd =>
     refine ⟨h2.1,h2.2.mono fun e w hR=>?_⟩;cases e with
     | returned v=>exact ih _ _ hR
     | panicked ch=>exact hq _ _ _ hR
     | outgrown=>exact hlo hR
    | _=>exact h2.elim
   | halt hh w' =>
    cases hh with
    | panic v=>exact hq _ _ _ h2
    | _=>exact h2.elim
  rename_i hw
  rw [dG hw];exact ⟨h.1,ih _ _ h.2⟩
section
variable {C : Ctx} {ops : Array Oper} {Q : Exit → St → Prop} {rest : List Oper} {env : gY} {df : List Deferred} {H : Hp} {own : Own}
theorem dL {id : Nat} {l : List Oper} {σ : St} (h : XO C l.toArray Q l σ) : XC C (.region id l.toArray false) Q σ :=
 fun a w hr=>wpIn_region_lit (h a w hr)
theorem bF {σ : St} (h : Q .normal σ) : XO C ops Q [] σ:=fun _ _ hr=>⟨σ,hr,Le.refl _,h⟩
theorem yS (r : Option Nat) (ρ : Operand → Value) (o : Oper) (h : wM o.op = true) : Oper.semAt r ρ o = execOp ρ o :=
 Oper.semAt_eq r ρ o (fun c e=>by rw [e] at h;cases h)
theorem vO {o : Oper} (hg : o.guard = none) (hnd : wM o.op = true) (hd : iU C.N o.dst = true)
  (h : OpRuns C env H own o fun v H' own'=>XO C ops Q rest ⟨jI o.dst v env,df,H',own'⟩) : XO C ops Q (o :: rest) ⟨env,df,H,own⟩:=by
 intro a w hr;refine wpListIn_plain hg fun K hK=>⟨fun _ _=>trivial,?_⟩
 obtain ⟨ms,hdf,hok⟩:=hr.ok;obtain ⟨nx,v,w',H',own',hrun,hnx,hle,hok',hk⟩:=h a.eval w (ms.map hid ++ C.hid) (fun x u hx=>hr.eval hx) hok;rw [yS _ _ _ hnd,hrun];have hput:=hr.put (aAm hd) v (H':=H') (own':=own') (w':=w') ⟨ms,hdf,hok'⟩
 have hnext : K (a.put o.dst v) w':=by
  exact hK _ _ (lZ hle _ _ _ (hk _ _ hput))
 rcases hnx with rfl | ⟨rfl,rfl⟩
 ·exact hnext
 exact hnext
theorem aHo {dst : Option Tmp} {op : Op} {ty : TypeId} {pos : String} {af : Array Edge} {j t : Nat} {want b : Bool} (hj : (ops[j]?).bind (·.dst) = some t) (hv : env.get t = some (.bool b)) (hb : b = want) (hN : Nat.blt t C.N = true)
  (h : XO C ops Q (⟨dst,op,ty,pos,af,none⟩ :: rest) ⟨env,df,H,own⟩) : XO C ops Q (⟨dst,op,ty,pos,af,some (j,want)⟩ :: rest) ⟨env,df,H,own⟩:=by
 intro a w hr;have h1:=h a w hr;subst hb;have hlt : t < a.tmps.size:=by rw [hr.size];simpa using hN
 have hy : yielded ops a.tmps j = some b:=by
  have:=hr.get t _ hv;rw [dY] at this;simp only [yielded,hj,Option.bind_some];rw [gG hlt] at this ⊢;simp only [Option.getD_some] at this;rw [this]
 simp only [wpListIn,Region.wanted,hy,beq_self_eq_true,if_true] at h1 ⊢;exact h1
theorem aHw {dst : Option Tmp} {op : Op} {ty : TypeId} {pos : String} {af : Array Edge} {j t : Nat} {want b : Bool} (hj : (ops[j]?).bind (·.dst) = some t) (hv : env.get t = some (.bool b)) (hb : b = !want) (hN : Nat.blt t C.N = true) (hd : iU C.N dst = true)
  (h : XO C ops Q rest ⟨jI dst undef env,df,H,own⟩) : XO C ops Q (⟨dst,op,ty,pos,af,some (j,want)⟩ :: rest) ⟨env,df,H,own⟩:=by
 intro a w hr;subst hb;have hlt : t < a.tmps.size:=by rw [hr.size];simpa using hN
 have hy : yielded ops a.tmps j = some (!want):=by
  have:=hr.get t _ hv;rw [dY] at this;simp only [yielded,hj,Option.bind_some];rw [gG hlt] at this ⊢;simp only [Option.getD_some] at this;rw [this]
 have hw : Region.wanted (⟨dst,op,ty,pos,af,some (j,want)⟩ : Oper) (yielded ops a.tmps) = false:=by
  simp only [Region.wanted,hy];cases want <;> rfl
 simp only [wpListIn,hw];exact ⟨fun _ _=>trivial,h _ _ (hr.put (aAm hd) undef hr.ok)⟩
theorem kF {o : Oper} {v : Value} (hg : o.guard = none) (hnd : wM o.op = true) (hd : iU C.N o.dst = true) (hv : ∀ ρ,aS5 env ρ → ∀ w,(execOp ρ o).run C.P w = .ok (.value v) w)
  (h : XO C ops Q rest ⟨jI o.dst v env,df,H,own⟩) : XO C ops Q (o :: rest) ⟨env,df,H,own⟩ :=
 vO hg hnd hd fun ρ w fr ha hok=>⟨_,v,w,H,own,hv ρ ha w,.inl rfl,Le.refl _,hok,h⟩
section ops
variable {dst : Option Tmp} {ty : TypeId} {pos : String} {af : Array Edge}
theorem XO.move {x : Operand} {v : Value} (hx : ev env x = some v) (hd : iU C.N dst = true) (h : XO C ops Q rest ⟨jI dst v env,df,H,own⟩) :
  XO C ops Q (⟨dst,.move x,ty,pos,af,none⟩ :: rest) ⟨env,df,H,own⟩ :=
 kF rfl rfl hd (fun ρ ha w=>by simp [execOp,ha _ _ hx,Sem.run,Pure.pure]) h
theorem XO.assign {x : Operand} {v : Value} (hx : ev env x = some v) (hd : iU C.N dst = true) (h : XO C ops Q rest ⟨jI dst v env,df,H,own⟩) :
  XO C ops Q (⟨dst,.assign x,ty,pos,af,none⟩ :: rest) ⟨env,df,H,own⟩ :=
 kF rfl rfl hd (fun ρ ha w=>by simp [execOp,ha _ _ hx,Sem.run,Pure.pure]) h
theorem XO.pickT {c x y : Operand} {b : Bool} {v : Value} (hc : ev env c = some (.bool b)) (hb : b = true) (hx : ev env x = some v) (hd : iU C.N dst = true) (h : XO C ops Q rest ⟨jI dst v env,df,H,own⟩) :
  XO C ops Q (⟨dst,.pick c x y,ty,pos,af,none⟩ :: rest) ⟨env,df,H,own⟩ :=
 kF rfl rfl hd (fun ρ ha w=>by subst hb;simp [execOp,ha _ _ hx,ha _ _ hc,asBool,Sem.run,Pure.pure,bind,Sem.bind]) h
theorem XO.pickF {c x y : Operand} {b : Bool} {v : Value} (hc : ev env c = some (.bool b)) (hb : b = false) (hx : ev env y = some v) (hd : iU C.N dst = true) (h : XO C ops Q rest ⟨jI dst v env,df,H,own⟩) :
  XO C ops Q (⟨dst,.pick c x y,ty,pos,af,none⟩ :: rest) ⟨env,df,H,own⟩ :=
 kF rfl rfl hd (fun ρ ha w=>by subst hb;simp [execOp,ha _ _ hx,ha _ _ hc,asBool,Sem.run,Pure.pure,bind,Sem.bind]) h
/-! Numbers -/
theorem rB {P : Program} {ρ : Operand → Value} {op : BinOp} {xt yt : TypeId} {x y : Operand} {k k' : IntKind} {a b : Int} {w : World} (hx : ρ x = .int k a) (hy : ρ y = .int k' b) :
  (execOp ρ ⟨dst,.binOp op xt x y yt,ty,pos,af,none⟩).run P w = ((binOp op xt (.int k a) (.int k' b)).run P w).andThen fun v w=>.ok (.value v) w:=by
 have hgd : ∀ w,(eqGuard op xt x y (.int k a) (.int k' b)).run P w = .ok () w:=by
  intro w;unfold eqGuard;cases op <;> rfl
 simp only [execOp,hx,hy,Sem.run_bind,hgd];simp only [Result.andThen];cases (binOp op xt (.int k a) (.int k' b)).run P w <;> rfl
theorem fR {xt yt : TypeId} {x y : Operand} {k : IntKind} {a b c : Int} (hx : ev env x = some (.int k a)) (hy : ev env y = some (.int k b)) (hw : k.wrap (a + b) = c) (hd : iU C.N dst = true)
  (h : XO C ops Q rest ⟨jI dst (.int k c) env,df,H,own⟩) : XO C ops Q (⟨dst,.binOp .add xt x y yt,ty,pos,af,none⟩ :: rest) ⟨env,df,H,own⟩ :=
 kF rfl rfl hd (fun ρ ha w=>by rw [rB (ha _ _ hx) (ha _ _ hy)];simp [binOp,Op.intArith,hw,Sem.run,Pure.pure,Result.andThen]) h
theorem lK {xt yt : TypeId} {x y : Operand} {k : IntKind} {a b c : Int} (hx : ev env x = some (.int k a)) (hy : ev env y = some (.int k b)) (hw : k.wrap (a - b) = c) (hd : iU C.N dst = true)
  (h : XO C ops Q rest ⟨jI dst (.int k c) env,df,H,own⟩) : XO C ops Q (⟨dst,.binOp .sub xt x y yt,ty,pos,af,none⟩ :: rest) ⟨env,df,H,own⟩ :=
 kF rfl rfl hd (fun ρ ha w=>by rw [rB (ha _ _ hx) (ha _ _ hy)];simp [binOp,Op.intArith,hw,Sem.run,Pure.pure,Result.andThen]) h
theorem aAb {xt yt : TypeId} {x y : Operand} {k : IntKind} {a b c : Int} (hx : ev env x = some (.int k a)) (hy : ev env y = some (.int k b)) (hw : k.wrap (a * b) = c) (hd : iU C.N dst = true)
  (h : XO C ops Q rest ⟨jI dst (.int k c) env,df,H,own⟩) : XO C ops Q (⟨dst,.binOp .mul xt x y yt,ty,pos,af,none⟩ :: rest) ⟨env,df,H,own⟩ :=
 kF rfl rfl hd (fun ρ ha w=>by rw [rB (ha _ _ hx) (ha _ _ hy)];simp [binOp,Op.intArith,hw,Sem.run,Pure.pure,Result.andThen]) h
theorem aNf {xt yt : TypeId} {x y : Operand} {k : IntKind} {a b c : Int} (hx : ev env x = some (.int k a)) (hy : ev env y = some (.int k b)) (h0 : b ≠ 0) (hw : k.wrap (a.tdiv b) = c) (hd : iU C.N dst = true)
  (h : XO C ops Q rest ⟨jI dst (.int k c) env,df,H,own⟩) : XO C ops Q (⟨dst,.binOp .quo xt x y yt,ty,pos,af,none⟩ :: rest) ⟨env,df,H,own⟩ :=
 kF rfl rfl hd (fun ρ ha w=>by rw [rB (ha _ _ hx) (ha _ _ hy)];simp [binOp,Op.intDiv,h0,hw,Sem.run,Pure.pure,Result.andThen]) h
theorem XO.rem {xt yt : TypeId} {x y : Operand} {k : IntKind} {a b c : Int} (hx : ev env x = some (.int k a)) (hy : ev env y = some (.int k b)) (h0 : b ≠ 0) (hw : a.tmod b = c) (hd : iU C.N dst = true)
  (h : XO C ops Q rest ⟨jI dst (.int k c) env,df,H,own⟩) : XO C ops Q (⟨dst,.binOp .rem xt x y yt,ty,pos,af,none⟩ :: rest) ⟨env,df,H,own⟩ :=
 kF rfl rfl hd (fun ρ ha w=>by rw [rB (ha _ _ hx) (ha _ _ hy)];simp [binOp,Op.intDiv,h0,hw,Sem.run,Pure.pure,Result.andThen]) h
def aVj : BinOp → Int → Int → Bool
 | .eql,a,b=>decide (a = b) | .neq,a,b=>decide (a ≠ b) | .lss,a,b=>decide (a < b) | .leq,a,b=>decide (a ≤ b)
 | .gtr,a,b=>decide (b < a) | .geq,a,b=>decide (b ≤ a) | _,_,_=>false
def isCmp : BinOp → Bool | .eql | .neq | .lss | .leq | .gtr | .geq=>true | _=>false
theorem aD6 {op : BinOp} {xt yt : TypeId} {x y : Operand} {k : IntKind} {a b : Int} {v : Bool} (hx : ev env x = some (.int k a)) (hy : ev env y = some (.int k b)) (hop : isCmp op = true) (hv : aVj op a b = v) (hd : iU C.N dst = true)
  (h : XO C ops Q rest ⟨jI dst (.bool v) env,df,H,own⟩) : XO C ops Q (⟨dst,.binOp op xt x y yt,ty,pos,af,none⟩ :: rest) ⟨env,df,H,own⟩ :=
 kF rfl rfl hd (fun ρ ha w=>by
  subst hv;rw [rB (ha _ _ hx) (ha _ _ hy)]
  cases op <;> first | (exact absurd hop zD) | rfl | (simp [binOp,Op.intCmp,aVj,Sem.run,Pure.pure,Result.andThen];done) | (simp [binOp,Op.intCmp,aVj,Sem.run,Pure.pure,Result.andThen,bne];rfl)) h
theorem XO.eql {xt yt : TypeId} {x y : Operand} {k : IntKind} {a b : Int} (hx : ev env x = some (.int k a)) (hy : ev env y = some (.int k b)) (hd : iU C.N dst = true)
  (h : XO C ops Q rest ⟨jI dst (.bool (decide (a = b))) env,df,H,own⟩) : XO C ops Q (⟨dst,.binOp .eql xt x y yt,ty,pos,af,none⟩ :: rest) ⟨env,df,H,own⟩:=aD6 hx hy rfl rfl hd h
theorem XO.neq {xt yt : TypeId} {x y : Operand} {k : IntKind} {a b : Int} (hx : ev env x = some (.int k a)) (hy : ev env y = some (.int k b)) (hd : iU C.N dst = true)
  (h : XO C ops Q rest ⟨jI dst (.bool (decide (a ≠ b))) env,df,H,own⟩) : XO C ops Q (⟨dst,.binOp .neq xt x y yt,ty,pos,af,none⟩ :: rest) ⟨env,df,H,own⟩:=aD6 hx hy rfl rfl hd h
theorem XO.lss {xt yt : TypeId} {x y : Operand} {k : IntKind} {a b : Int} (hx : ev env x = some (.int k a)) (hy : ev env y = some (.int k b)) (hd : iU C.N dst = true)
  (h : XO C ops Q rest ⟨jI dst (.bool (decide (a < b))) env,df,H,own⟩) : XO C ops Q (⟨dst,.binOp .lss xt x y yt,ty,pos,af,none⟩ :: rest) ⟨env,df,H,own⟩:=aD6 hx hy rfl rfl hd h
theorem XO.leq {xt yt : TypeId} {x y : Operand} {k : IntKind} {a b : Int} (hx : ev env x = some (.int k a)) (hy : ev env y = some (.int k b)) (hd : iU C.N dst = true)
  (h : XO C ops Q rest ⟨jI dst (.bool (decide (a ≤ b))) env,df,H,own⟩) : XO C ops Q (⟨dst,.binOp .leq xt x y yt,ty,pos,af,none⟩ :: rest) ⟨env,df,H,own⟩:=aD6 hx hy rfl rfl hd h
theorem XO.gtr {xt yt : TypeId} {x y : Operand} {k : IntKind} {a b : Int} (hx : ev env x = some (.int k a)) (hy : ev env y = some (.int k b)) (hd : iU C.N dst = true)
  (h : XO C ops Q rest ⟨jI dst (.bool (decide (b < a))) env,df,H,own⟩) : XO C ops Q (⟨dst,.binOp .gtr xt x y yt,ty,pos,af,none⟩ :: rest) ⟨env,df,H,own⟩:=aD6 hx hy rfl rfl hd h
theorem XO.geq {xt yt : TypeId} {x y : Operand} {k : IntKind} {a b : Int} (hx : ev env x = some (.int k a)) (hy : ev env y = some (.int k b)) (hd : iU C.N dst = true)
  (h : XO C ops Q rest ⟨jI dst (.bool (decide (b ≤ a))) env,df,H,own⟩) : XO C ops Q (⟨dst,.binOp .geq xt x y yt,ty,pos,af,none⟩ :: rest) ⟨env,df,H,own⟩:=aD6 hx hy rfl rfl hd h
theorem XO.neg {xt : TypeId} {x : Operand} {k : IntKind} {a c : Int} (hx : ev env x = some (.int k a)) (hw : k.wrap (0 - a) = c) (hd : iU C.N dst = true)
  (h : XO C ops Q rest ⟨jI dst (.int k c) env,df,H,own⟩) : XO C ops Q (⟨dst,.unOp .neg xt x,ty,pos,af,none⟩ :: rest) ⟨env,df,H,own⟩ :=
 kF rfl rfl hd (fun ρ ha w=>by
  have hw' : k.wrap (-a) = c:=by simpa using hw
  simp [execOp,ha _ _ hx,Op.unary,Op.intArith,hw',Sem.run,Pure.pure,bind,Sem.bind]) h
theorem lB {xt : TypeId} {x : Operand} {b : Bool} (hx : ev env x = some (.bool b)) (hd : iU C.N dst = true)
  (h : XO C ops Q rest ⟨jI dst (.bool (!b)) env,df,H,own⟩) : XO C ops Q (⟨dst,.unOp .not xt x,ty,pos,af,none⟩ :: rest) ⟨env,df,H,own⟩ :=
 kF rfl rfl hd (fun ρ ha w=>by simp [execOp,ha _ _ hx,Op.unary,Sem.run,Pure.pure,bind,Sem.bind]) h
theorem aFf {xt : TypeId} {x : Operand} {p : Prop} [Decidable p] (hx : ev env x = some (.bool (decide p))) (hd : iU C.N dst = true)
  (h : XO C ops Q rest ⟨jI dst (.bool (decide (¬ p))) env,df,H,own⟩) : XO C ops Q (⟨dst,.unOp .not xt x,ty,pos,af,none⟩ :: rest) ⟨env,df,H,own⟩ :=
 lB hx hd (by rw [← decide_not];exact h)
theorem XO.extract {x : Operand} {i : Nat} {vs : List Value} {v : Value} (hx : ev env x = some (.tuple vs.toArray)) (hv : vs[i]? = some v) (hd : iU C.N dst = true)
  (h : XO C ops Q rest ⟨jI dst v env,df,H,own⟩) : XO C ops Q (⟨dst,.extract x i,ty,pos,af,none⟩ :: rest) ⟨env,df,H,own⟩ :=
 kF rfl rfl hd (fun ρ ha w=>by simp [execOp,ha _ _ hx,Instr.extract,hv,Sem.run,Pure.pure,bind,Sem.bind]) h
/-! Calls -/
theorem aNn {ρ : Operand → Value} (ha : aS5 env ρ) {xs : List Operand} {vs : List Value} (h : evs env xs = some vs) : xs.map ρ = vs:=by
 induction xs generalizing vs with
 | nil=>cases h;rfl
 | cons x xs ih =>
  simp only [evs] at h;split at h
  ·rename_i v hv
   split at h
   ·rename_i r hr;cases h;simp [ha _ _ hv,ih hr]
   cases h
  cases h
theorem xH {f : FuncId} {xs : List Operand} {ts : Array TypeId} {vs : List Value} {nQ : Own} {R : Ending → Hp → Own → Prop}
  (hxs : evs env xs = some vs) (hf : iP C.P f vs.toArray H nQ R) (hd : iU C.N dst = true) {rst : Own} (ho : own = nQ ++ rst)
  (h : ∀ v H' own',Le H H' → R (.returned v) H' own' → ∃ H'' own'',Le H H'' ∧ Le H'' H' ∧ own''.Sublist (own' ++ rst) ∧ XO C ops Q rest ⟨jI dst v env,df,H'',own''⟩)
  (hp : ∀ ch H' own',Le H H' → R (.panicked ch) H' own' → Q (.panic ch) ⟨env,df,H',own' ++ rst⟩) :
  XO C ops Q (⟨dst,.call { callee:=.value (.func f),args:=xs.toArray,argTypes:=ts },ty,pos,af,none⟩ :: rest) ⟨env,df,H,own⟩:=by
 intro a w hr;refine wpListIn_plain rfl fun K hK=>⟨fun _ _=>trivial,?_⟩
 obtain ⟨ms,hdf,hok⟩:=hr.ok;subst ho;rw [yS _ _ _ rfl]
 have hrun : (execOp a.eval ⟨dst,.call { callee:=.value (.func f),args:=xs.toArray,argTypes:=ts },ty,pos,af,none⟩).run C.P w = .ok (.enter f vs.toArray) w:=by
  show (callFunc f (#[] ++ xs.toArray.map a.eval ++ #[])).run C.P w = _;have : #[] ++ xs.toArray.map a.eval ++ #[] = vs.toArray:=by simp [hr.evals hxs]
  rw [this];exact hf.1 _ _
 rw [hrun];have vN : Ok C.G H (nQ ++ (rst ++ (ms.map hid ++ C.hid))) w:=by rw [← eM];exact hok
 have hcalls:=hf.2 C.G (rst ++ (ms.map hid ++ C.hid)) w vN;refine ⟨fun hx=>(by cases hx),?_⟩;have hin : CallsIn Fence.wide 0 C.P f vs.toArray w _:=callsIn_wide.2 hcalls;have hin2 : CallsIn (Fr C.r) 0 C.P f vs.toArray w _:=hin;refine ⟨hin2.1,fun cs hcs=>?_⟩;obtain ⟨e,w',fr,⟨hne,H',own',hle,hok',hR⟩,hx⟩:=hin2.2 cs hcs;refine ⟨e,w',fr,?_,hx⟩;rw [← eM] at hok';cases e with
 | returned v =>
  obtain ⟨H'',own'',h1,h2,h3,h4⟩:=h v H' own' hle hR;exact hK _ _ (lZ h1 _ _ _ (h4 _ _ (hr.put (aAm hd) v ⟨ms,hdf,hok'.shrink h2 (h3.append_right _)⟩)))
 | panicked ch=>exact ⟨⟨env,df,H',own' ++ rst⟩,⟨hr.size,hr.get,ms,hdf,hok'⟩,hle,hp ch H' own' hle hR⟩
 | outgrown=>exact absurd rfl hne
def eQ (R : Value → Hp → Own → Prop) : Ending → Hp → Own → Prop
 | .returned v,H,own=>R v H own
 | _,_,_=>False
theorem eQ.mk {R : Value → Hp → Own → Prop} {v : Value} {H : Hp} {own : Own} (h : R v H own) : eQ R (.returned v) H own:=h
theorem XO.callG {f : FuncId} {xs : List Operand} {ts : Array TypeId} {vs : List Value} {nQ : Own} {R : Value → Hp → Own → Prop}
  (hxs : evs env xs = some vs) (hf : iP C.P f vs.toArray H nQ (eQ R)) (hd : iU C.N dst = true) {rst : Own} (ho : own = nQ ++ rst)
  (h : ∀ v H' own',Le H H' → R v H' own' → XO C ops Q rest ⟨jI dst v env,df,H',own' ++ rst⟩) :
  XO C ops Q (⟨dst,.call { callee:=.value (.func f),args:=xs.toArray,argTypes:=ts },ty,pos,af,none⟩ :: rest) ⟨env,df,H,own⟩ :=
 xH hxs hf hd ho (fun v H' own' hle hR=>⟨H',_,hle,Le.refl _,jP _,h v H' own' hle hR⟩) (fun _ _ _ _ hR=>hR.elim)
theorem eZ {f : FuncId} {xs : List Operand} {ts : Array TypeId} {vs : List Value} {R : Value → Hp → Prop}
  (hxs : evs env xs = some vs) (hf : iP C.P f vs.toArray H [] (eQ fun v H' _=>R v H')) (hd : iU C.N dst = true)
  (h : ∀ v H',Le H H' → R v H' → XO C ops Q rest ⟨jI dst v env,df,H',own⟩) :
  XO C ops Q (⟨dst,.call { callee:=.value (.func f),args:=xs.toArray,argTypes:=ts },ty,pos,af,none⟩ :: rest) ⟨env,df,H,own⟩ :=
 xH hxs hf hd (rst:=own) rfl (fun v H' own' hle hR=>⟨H',own,hle,Le.refl _,List.sublist_append_right _ _,h v H' hle hR⟩) (fun _ _ _ _ hR=>hR.elim)
theorem fH {f : FuncId} {xs : List Operand} {ts : Array TypeId} {vs : List Value} {v : Value} (hxs : evs env xs = some vs) (hf : iP C.P f vs.toArray H [] (eQ fun u _ _=>u = v)) (hd : iU C.N dst = true)
  (h : XO C ops Q rest ⟨jI dst v env,df,H,own⟩) :
  XO C ops Q (⟨dst,.call { callee:=.value (.func f),args:=xs.toArray,argTypes:=ts },ty,pos,af,none⟩ :: rest) ⟨env,df,H,own⟩ :=
 xH hxs hf hd (rst:=own) rfl (fun u H' own' hle hR=>by obtain rfl : u = v:=hR;exact ⟨H,own,Le.refl _,hle,List.sublist_append_right _ _,h⟩) (fun _ _ _ _ hR=>hR.elim)
theorem kO {f : FuncId} {xs : List Operand} {ts : Array TypeId} {vs : List Value} {R : Value → Prop} (hxs : evs env xs = some vs) (hf : iP C.P f vs.toArray H [] (eQ fun u _ _=>R u)) (hd : iU C.N dst = true)
  (h : ∀ v,R v → XO C ops Q rest ⟨jI dst v env,df,H,own⟩) :
  XO C ops Q (⟨dst,.call { callee:=.value (.func f),args:=xs.toArray,argTypes:=ts },ty,pos,af,none⟩ :: rest) ⟨env,df,H,own⟩ :=
 xH hxs hf hd (rst:=own) rfl (fun u H' own' hle hR=>⟨H,own,Le.refl _,hle,List.sublist_append_right _ _,h u hR⟩) (fun _ _ _ _ hR=>hR.elim)
theorem iM {dst : Option Tmp} {op : Op} {ty : TypeId} {pos : String} {af : Array Edge} {j t : Nat} {want b : Bool} (hj : (ops[j]?).bind (·.dst) = some t) (hv : env.get t = some (.bool b)) (hN : Nat.blt t C.N = true) (hd : iU C.N dst = true)
  (hy : b = want → XO C ops Q (⟨dst,op,ty,pos,af,none⟩ :: rest) ⟨env,df,H,own⟩) (hn : b = (!want) → XO C ops Q rest ⟨jI dst undef env,df,H,own⟩) : XO C ops Q (⟨dst,op,ty,pos,af,some (j,want)⟩ :: rest) ⟨env,df,H,own⟩:=by
 cases b <;> cases want
 ·exact aHo hj hv rfl hN (hy rfl)
 ·exact aHw hj hv rfl hN hd (hn rfl)
 ·exact aHw hj hv rfl hN hd (hn rfl)
 exact aHo hj hv rfl hN (hy rfl)
theorem qZ {s t : TypeId} {x : Operand} {ds : TypeDesc} {k k' : IntKind} {a c : Int} (hx : ev env x = some (.int k a)) (hs : C.P.underlying s = some ds) (ht : C.P.underlying t = some (.int k')) (hw : k'.wrap a = c) (hd : iU C.N dst = true)
  (h : XO C ops Q rest ⟨jI dst (.int k' c) env,df,H,own⟩) : XO C ops Q (⟨dst,.convert s t x,ty,pos,af,none⟩ :: rest) ⟨env,df,H,own⟩ :=
 kF rfl rfl hd (fun ρ ha w=>by
  simp only [execOp,ha _ _ hx,convert,Sem.run_bind]
  simp only [underlying,program,Sem.run_bind,bind,Sem.bind,Sem.run,hs,ht,Pure.pure,Result.andThen,Conv.intToInt,hw]) h
end ops
end
section
variable {C : Ctx} {ops : Array Oper} {Q : Exit → St → Prop} {rest : List Oper} {env : gY} {df : List Deferred} {H : Hp} {own : Own}
variable {dst : Option Tmp} {ty : TypeId} {pos : String} {af : Array Edge}
theorem zM {x : Operand} {v : Value} (hx : (ev env x,iU C.N dst) = (some v,true)) (h : XO C ops Q rest ⟨jI dst v env,df,H,own⟩) : XO C ops Q (⟨dst,.move x,ty,pos,af,none⟩ :: rest) ⟨env,df,H,own⟩:=XO.move (p1 hx) (p2 hx) h
theorem zG {x : Operand} {v : Value} (hx : (ev env x,iU C.N dst) = (some v,true)) (h : XO C ops Q rest ⟨jI dst v env,df,H,own⟩) : XO C ops Q (⟨dst,.assign x,ty,pos,af,none⟩ :: rest) ⟨env,df,H,own⟩:=XO.assign (p1 hx) (p2 hx) h
theorem zX {x : Operand} {i : Nat} {vs : List Value} {v : Value} (hx : (ev env x,vs[i]?,iU C.N dst) = (some (.tuple vs.toArray),some v,true))
    (h : XO C ops Q rest ⟨jI dst v env,df,H,own⟩) : XO C ops Q (⟨dst,.extract x i,ty,pos,af,none⟩ :: rest) ⟨env,df,H,own⟩:=XO.extract (p1 hx) (p1 (p2 hx)) (p2 (p2 hx)) h
theorem zT {dst : Option Tmp} {op : Op} {ty : TypeId} {pos : String} {af : Array Edge} {j t : Nat} {want b : Bool} (hj : ((ops[j]?).bind (·.dst),env.get t,Nat.blt t C.N) = (some t,some (.bool b),true)) (hb : b = want)
    (h : XO C ops Q (⟨dst,op,ty,pos,af,none⟩ :: rest) ⟨env,df,H,own⟩) : XO C ops Q (⟨dst,op,ty,pos,af,some (j,want)⟩ :: rest) ⟨env,df,H,own⟩:=aHo (p1 hj) (p1 (p2 hj)) hb (p2 (p2 hj)) h
theorem zU {dst : Option Tmp} {op : Op} {ty : TypeId} {pos : String} {af : Array Edge} {j t : Nat} {want b : Bool} (hj : ((ops[j]?).bind (·.dst),env.get t,Nat.blt t C.N,iU C.N dst) = (some t,some (.bool b),true,true)) (hb : b = !want)
    (h : XO C ops Q rest ⟨jI dst undef env,df,H,own⟩) : XO C ops Q (⟨dst,op,ty,pos,af,some (j,want)⟩ :: rest) ⟨env,df,H,own⟩:=aHw (p1 hj) (p1 (p2 hj)) hb (p1 (p2 (p2 hj))) (p2 (p2 (p2 hj))) h
theorem zN {y : Code} {σ : St} (h : XC C y Q σ) : XO C ops (aQ6 C y Q) [] σ:=bF (bO h)
theorem zS {id : Nat} {l : List Oper} {y : Code} {σ : St} (h : XO C l.toArray (aQ6 C y Q) l σ) : XC C (.seq (.region id l.toArray false) y) Q σ:=cO (dL h)
end
theorem zV {b : Bool} (h : b = true) {C : Ctx} {ops : Array Oper} {Q : Exit → St → Prop} {rest : List Oper} {env : gY} {df : List Deferred} {H : Hp} {own : Own} {dst : Option Tmp} {ty : TypeId} {pos : String} {af : Array Edge} {c x y : Operand} {v : Value} (hc : (ev env c,ev env x,iU C.N dst) = (some (.bool b),some v,true)) (k : XO C ops Q rest ⟨jI dst v env,df,H,own⟩) :
    XO C ops Q (⟨dst,.pick c x y,ty,pos,af,none⟩ :: rest) ⟨env,df,H,own⟩:=XO.pickT (p1 hc) h (p1 (p2 hc)) (p2 (p2 hc)) k
theorem zW {b : Bool} (h : b = false) {C : Ctx} {ops : Array Oper} {Q : Exit → St → Prop} {rest : List Oper} {env : gY} {df : List Deferred} {H : Hp} {own : Own} {dst : Option Tmp} {ty : TypeId} {pos : String} {af : Array Edge} {c x y : Operand} {v : Value} (hc : (ev env c,ev env y,iU C.N dst) = (some (.bool b),some v,true)) (k : XO C ops Q rest ⟨jI dst v env,df,H,own⟩) :
    XO C ops Q (⟨dst,.pick c x y,ty,pos,af,none⟩ :: rest) ⟨env,df,H,own⟩:=XO.pickF (p1 hc) h (p1 (p2 hc)) (p2 (p2 hc)) k
theorem zJ {C : Ctx} {ops : Array Oper} {Q : Exit → St → Prop} {rest : List Oper} {env : gY} {df : List Deferred} {H : Hp} {own : Own} {dst : Option Tmp} {ty : TypeId} {pos : String} {af : Array Edge} {xt yt : TypeId} {x y : Operand} {k : IntKind} {a b : Int} (hx : (ev env x,ev env y,iU C.N dst) = (some (.int k a),some (.int k b),true))
    (h : XO C ops Q rest ⟨jI dst (.bool (decide (a ≠ b))) env,df,H,own⟩) : XO C ops Q (⟨dst,.binOp .neq xt x y yt,ty,pos,af,none⟩ :: rest) ⟨env,df,H,own⟩:=XO.neq (p1 hx) (p1 (p2 hx)) (p2 (p2 hx)) h
theorem zL {C : Ctx} {ops : Array Oper} {Q : Exit → St → Prop} {rest : List Oper} {env : gY} {df : List Deferred} {H : Hp} {own : Own} {dst : Option Tmp} {ty : TypeId} {pos : String} {af : Array Edge} {xt yt : TypeId} {x y : Operand} {k : IntKind} {a b : Int} (hx : (ev env x,ev env y,iU C.N dst) = (some (.int k a),some (.int k b),true))
    (h : XO C ops Q rest ⟨jI dst (.bool (decide (a < b))) env,df,H,own⟩) : XO C ops Q (⟨dst,.binOp .lss xt x y yt,ty,pos,af,none⟩ :: rest) ⟨env,df,H,own⟩:=XO.lss (p1 hx) (p1 (p2 hx)) (p2 (p2 hx)) h
theorem zY {C : Ctx} {ops : Array Oper} {Q : Exit → St → Prop} {rest : List Oper} {env : gY} {df : List Deferred} {H : Hp} {own : Own} {dst : Option Tmp} {ty : TypeId} {pos : String} {af : Array Edge} {xt yt : TypeId} {x y : Operand} {k : IntKind} {a b : Int} (hx : (ev env x,ev env y,iU C.N dst) = (some (.int k a),some (.int k b),true))
    (h : XO C ops Q rest ⟨jI dst (.bool (decide (b < a))) env,df,H,own⟩) : XO C ops Q (⟨dst,.binOp .gtr xt x y yt,ty,pos,af,none⟩ :: rest) ⟨env,df,H,own⟩:=XO.gtr (p1 hx) (p1 (p2 hx)) (p2 (p2 hx)) h
theorem zZ {C : Ctx} {ops : Array Oper} {Q : Exit → St → Prop} {rest : List Oper} {env : gY} {df : List Deferred} {H : Hp} {own : Own} {dst : Option Tmp} {ty : TypeId} {pos : String} {af : Array Edge} {xt yt : TypeId} {x y : Operand} {k : IntKind} {a b : Int} (hx : (ev env x,ev env y,iU C.N dst) = (some (.int k a),some (.int k b),true))
    (h : XO C ops Q rest ⟨jI dst (.bool (decide (a = b))) env,df,H,own⟩) : XO C ops Q (⟨dst,.binOp .eql xt x y yt,ty,pos,af,none⟩ :: rest) ⟨env,df,H,own⟩:=XO.eql (p1 hx) (p1 (p2 hx)) (p2 (p2 hx)) h
theorem yA {C : Ctx} {ops : Array Oper} {Q : Exit → St → Prop} {rest : List Oper} {env : gY} {df : List Deferred} {H : Hp} {own : Own} {dst : Option Tmp} {ty : TypeId} {pos : String} {af : Array Edge} {xt yt : TypeId} {x y : Operand} {k : IntKind} {a b : Int} (hx : (ev env x,ev env y,iU C.N dst) = (some (.int k a),some (.int k b),true))
    (h : XO C ops Q rest ⟨jI dst (.bool (decide (a ≤ b))) env,df,H,own⟩) : XO C ops Q (⟨dst,.binOp .leq xt x y yt,ty,pos,af,none⟩ :: rest) ⟨env,df,H,own⟩:=XO.leq (p1 hx) (p1 (p2 hx)) (p2 (p2 hx)) h
theorem yB {C : Ctx} {ops : Array Oper} {Q : Exit → St → Prop} {rest : List Oper} {env : gY} {df : List Deferred} {H : Hp} {own : Own} {dst : Option Tmp} {ty : TypeId} {pos : String} {af : Array Edge} {xt yt : TypeId} {x y : Operand} {k : IntKind} {a b : Int} (hx : (ev env x,ev env y,iU C.N dst) = (some (.int k a),some (.int k b),true))
    (h : XO C ops Q rest ⟨jI dst (.bool (decide (b ≤ a))) env,df,H,own⟩) : XO C ops Q (⟨dst,.binOp .geq xt x y yt,ty,pos,af,none⟩ :: rest) ⟨env,df,H,own⟩:=XO.geq (p1 hx) (p1 (p2 hx)) (p2 (p2 hx)) h
end Go.XL

namespace Go.XL
/-! ### Facts on types (closed,zK) -/
def aX1 : TypeDesc → Bool | .struct _ | .array _ _=>true | _=>false
def tP (P : Program) (t : TypeId) (sz : Nat) (agg : Bool) : Bool :=
 match P.underlying t,P.info? t with | some d,some i=>aX1 d == agg && i.size == sz | _,_=>false
def aFn : Value → Option (List Value) | .agg ⟨l⟩=>some l | v=>some [v]
def nB (P : Program) (t : TypeId) : Option (List Value) :=
 match P.info? t with | some i=>(match i.zero with | some z=>aFn z | none=>none) | none=>none
def qF (P : Program) (t : TypeId) (f : Nat) : Option Nat :=
 match P.underlying t with
 | some (.struct fs)=>(match fs[f]? with | some fd=>(match P.info? fd.type with | some i=>(if i.size = 0 then none else some fd.offset) | none=>none) | none=>none)
 | _=>none
def aOi (P : Program) (t : TypeId) (f : Nat) : Option (Nat × TypeId) :=
 match P.underlying t with
 | some (.struct fs)=>(match fs[f]? with | some fd=>some (fd.offset,fd.type) | none=>none)
 | _=>none
def aIo : List Value → Nat → Nat → Option (List Value)
 | _,0,0=>some []
 | x :: xs,0,n + 1=>match aIo xs 0 n with | some r=>some (x :: r) | none=>none
 | _ :: xs,o + 1,n=>aIo xs o n
 | [],_,_=>none
def aG2 : List Value → Nat → List Value → Option (List Value)
 | xs,0,[]=>some xs
 | _ :: xs,0,v :: vs=>match aG2 xs 0 vs with | some r=>some (v :: r) | none=>none
 | x :: xs,o + 1,vs=>match aG2 xs o vs with | some r=>some (x :: r) | none=>none
 | [],_,_=>none
def mkV : Bool → List Value → Option Value
 | true,vs=>some (.agg ⟨vs⟩)
 | false,[v]=>some v
 | false,_=>none
def vI : List Value → Bool
 | []=>true
 | v :: vs=>Value.oneCell' v && vI vs
theorem aFu {vs : List Value} (h : vI vs = true) : ∀ v ∈ vs,v.oneCell' = true:=by
 induction vs with
 | nil=>intro v hv;cases hv
 | cons u us ih =>
  simp only [vI,fL] at h;intro v hv;rcases List.mem_cons.1 hv with rfl | hv
  ·exact h.1
  exact ih h.2 v hv
theorem aIt {xs : List Value} {o n : Nat} {vs : List Value} (h : aIo xs o n = some vs) : vs = (xs.drop o).take n ∧ o + n ≤ xs.length ∧ vs.length = n:=by
 induction xs generalizing o n vs with
 | nil =>
  cases o with
  | zero=>cases n with
   | zero=>cases h;simp
   | succ n=>cases h
  | succ o=>cases h
 | cons x xs ih =>
  cases o with
  | zero =>
   cases n with
   | zero=>cases h;simp
   | succ n =>
    simp only [aIo] at h;split at h
    ·rename_i r hr
     cases h;obtain ⟨h1,h2,h3⟩:=ih hr;refine ⟨?_,by simp;omega,by simp [h3]⟩;simp only [List.drop_zero,List.take_succ_cons,List.cons.injEq,true_and] at h1 ⊢;exact h1
    cases h
  | succ o =>
   simp only [aIo] at h;obtain ⟨h1,h2,h3⟩:=ih h;exact ⟨by simpa using h1,by simp;omega,h3⟩
theorem aI5 {xs : List Value} {o : Nat} {vs r : List Value} (h : aG2 xs o vs = some r) : r = xs.take o ++ vs ++ xs.drop (o + vs.length) ∧ o + vs.length ≤ xs.length:=by
 induction xs generalizing o vs r with
 | nil =>
  cases o with
  | zero=>cases vs with
   | nil=>cases h;simp
   | cons v vs=>cases h
  | succ o=>cases vs <;> cases h
 | cons x xs ih =>
  cases o with
  | zero =>
   cases vs with
   | nil=>cases h;simp
   | cons v vs =>
    simp only [aG2] at h;split at h
    ·rename_i q hq
     cases h;obtain ⟨h1,h2⟩:=ih hq;refine ⟨?_,by simp at h2 ⊢;omega⟩;simp only [List.take_zero,gN,Nat.zero_add,jL,List.drop_succ_cons,fP,List.cons.injEq,true_and] at h1 ⊢;exact h1
    cases h
  | succ o =>
   have h' : (match aG2 xs o vs with | some r=>some (x :: r) | none=>none) = some r:=by cases vs <;> exact h
   split at h'
   ·rename_i q hq
    cases h';obtain ⟨h1,h2⟩:=ih hq;refine ⟨?_,by simp;omega⟩;rw [h1,show o + 1 + vs.length = (o + vs.length) + 1 by omega];simp
   cases h'
section runs
variable {P : Program} {w : World}
theorem wB {t : TypeId} {sz : Nat} {agg : Bool} (h : tP P t sz agg = true) : (∃ d,P.underlying t = some d ∧ aX1 d = agg) ∧ ∃ i,P.info? t = some i ∧ i.size = sz:=by
 unfold tP at h;split at h
 ·rename_i d i hd hi
  simp only [fL,beq_iff_eq] at h;exact ⟨⟨d,hd,h.1⟩,i,hi,h.2⟩
 cases h
theorem aMl {t : TypeId} {sz : Nat} {agg : Bool} (h : tP P t sz agg = true) : (isAgg t).run P w = .ok agg w:=by
 obtain ⟨⟨d,hd,ha⟩,_⟩:=wB h;subst ha;simp only [isAgg,underlying,program,Sem.run_bind,Sem.run,Result.andThen,hd,bind,Sem.bind,Pure.pure];cases d <;> rfl
theorem mJ {t : TypeId} {sz : Nat} {agg : Bool} (h : tP P t sz agg = true) : (sizeOf t).run P w = .ok sz w:=by
 obtain ⟨_,i,hi,hs⟩:=wB h;subst hs;simp [sizeOf,typeInfo,program,Sem.run_bind,Sem.run,Result.andThen,hi,bind,Sem.bind,Pure.pure]
theorem jC {t : TypeId} {d : TypeDesc} (h : P.underlying t = some d) : (underlying t).run P w = .ok d w:=by
 simp [underlying,program,Sem.run,h,bind,Sem.bind,Pure.pure]
theorem yM {t : TypeId} {sz : Nat} {agg : Bool} (h : tP P t sz agg = true) {b o : Nat} {vs : List Value} {v : Value} (hl : vs.length = sz) (hc : ∀ j u,vs[j]? = some u → w.cell? ⟨b,o + j,none⟩ = some u) (hv : mkV agg vs = some v) :
  (loadVar t ⟨b,o,none⟩).run P w = .ok v w:=by
 have hadd : ∀ j,(⟨b,o,none⟩ : Addr).add j = ⟨b,o + j,none⟩:=by intro j;unfold Addr.add;split <;> simp_all
 unfold loadVar;rw [Sem.run_bind,aMl h];simp only [Result.andThen];cases agg with
 | true =>
  cases hv;have h1:=run_loadCells_list (P:=P) (w:=w) ⟨b,o,none⟩ vs (fun j u hj=>by rw [hadd];exact hc j u hj);subst hl;simp only [if_true,Sem.run_bind,mJ h,Result.andThen,h1];rfl
 | false =>
  obtain ⟨u,rfl⟩ : ∃ u,vs = [u]:=by
   cases vs with
   | nil=>cases hv
   | cons x xs=>cases xs with
    | nil=>exact ⟨x,rfl⟩
    | cons _ _=>cases hv
  simp only [mkV,Option.some.injEq] at hv;subst hv;have:=hc 0 u rfl;simp only [Nat.add_zero] at this;simp [load,Sem.run,this]
theorem rX {v : Value} {vs : List Value} (h : aFn v = some vs) : v.cells = vs.toArray:=by
 cases v with
 | agg cs=>cases cs;cases h;rfl
 | _=>cases h;rfl
end runs
section
variable {C : Ctx} {ops : Array Oper} {Q : Exit → St → Prop} {rest : List Oper} {env : gY} {df : List Deferred} {H : Hp} {own : Own}
variable {dst : Option Tmp} {ty : TypeId} {pos : String} {af : Array Edge}
/-! ### Variables of the call's own -/
theorem iW {T : TypeId} {x : Operand} {v : Value} {vs : List Value} (hx : ev env x = some v) (hv : aFn v = some vs) (hd : iU C.N dst = true)
  (h : ∀ b,XO C ops Q rest ⟨jI dst (.pointer (some ⟨b,0,none⟩)) env,df,H,(b,.cells T vs) :: own⟩) :
  XO C ops Q (⟨dst,.box T x,ty,pos,af,none⟩ :: rest) ⟨env,df,H,own⟩ :=
 vO rfl rfl hd fun ρ w fr ha hok=>⟨.value (.pointer (some ⟨w.heap.size,0,none⟩)),_,_,H,(w.heap.size,.cells T vs) :: own,
  by simp [execOp,Instr.box,ha _ _ hx,newVar,newRow,newObj,rX hv,Sem.run,Pure.pure,bind,Sem.bind],.inl rfl,Le.refl _,hok.new (s:=.cells T vs) rfl,h _⟩
theorem fI {T : TypeId} {vs : List Value} (hz : nB C.P T = some vs) (hd : iU C.N dst = true)
  (h : ∀ b,XO C ops Q rest ⟨jI dst (.pointer (some ⟨b,0,none⟩)) env,df,H,(b,.cells T vs) :: own⟩) :
  XO C ops Q (⟨dst,.alloc T,ty,pos,af,none⟩ :: rest) ⟨env,df,H,own⟩:=by
 refine vO rfl rfl hd fun ρ w fr ha hok=>⟨.value (.pointer (some ⟨w.heap.size,0,none⟩)),_,_,H,(w.heap.size,.cells T vs) :: own,?_,.inl rfl,Le.refl _,hok.new (s:=.cells T vs) rfl,h _⟩
 unfold nB at hz;split at hz
 ·rename_i i hi
  split at hz
  ·rename_i z hzz
   simp [execOp,Instr.alloc,zeroValue,typeInfo,program,hi,hzz,newVar,newRow,newObj,rX hz,Sem.run,Pure.pure,bind,Sem.bind]
  cases hz
 cases hz
theorem aGg {G : World} {H : Hp} {own : Own} {w : World} (hok : Ok G H own w) {b : Nat} {T : TypeId} {cs : List Value} (hm : (b,SObj.cells T cs) ∈ own) : w.heap[b]? = some (.cells cs.toArray T (0,0)):=by
 obtain ⟨⟨o,ho,hw⟩,_⟩:=hok.at hm rfl;simp only [SObj.Is] at ho;subst ho;exact hw
theorem Own.at_mem {own : Own} {i : Nat} {p : Nat × SObj} (h : Own.at own i = some p) : p ∈ own:=by
 obtain ⟨pre,post,rfl,_⟩:=Own.at_split h;simp
theorem bT (i : Nat) {t T : TypeId} {x : Operand} {b o sz : Nat} {agg : Bool} {cs vs : List Value} {v : Value} (hx : ev env x = some (.pointer (some ⟨b,o,none⟩))) (ho : Own.at own i = some (b,.cells T cs))
  (ht : tP C.P t sz agg = true) (hl : aIo cs o sz = some vs) (hv : mkV agg vs = some v) (hd : iU C.N dst = true)
  (h : XO C ops Q rest ⟨jI dst v env,df,H,own⟩) :
  XO C ops Q (⟨dst,.load t x,ty,pos,af,none⟩ :: rest) ⟨env,df,H,own⟩:=by
 refine vO rfl rfl hd fun ρ w fr ha hok=>⟨.value v,v,w,H,own,?_,.inl rfl,Le.refl _,hok,h⟩
 have hb:=aGg hok (jF fr (Own.at_mem ho));obtain ⟨h1,h2,h3⟩:=aIt hl
 have hrun:=yM (P:=C.P) (w:=w) ht (b:=b) (o:=o) h3 (v:=v) (fun j u hj=>by
  rw [h1,List.getElem?_take] at hj;split at hj
  ·rw [List.getElem?_drop] at hj;simp [World.cell?,hb,hj]
  cases hj) hv
 simp only [execOp,ha _ _ hx,Instr.loadAt,Instr.sureAddr,Sem.run_bind];simp only [Sem.run,Pure.pure,Result.andThen,hrun]
theorem eG (i : Nat) {t T : TypeId} {x y : Operand} {b o sz : Nat} {agg : Bool} {cs vs cs' : List Value} {own' : Own} {v : Value} (hx : ev env x = some (.pointer (some ⟨b,o,none⟩))) (hy : ev env y = some v)
  (ho : Own.at own i = some (b,.cells T cs)) (hv : aFn v = some vs) (ht : tP C.P t sz agg = true) (hsz : vs.length = sz) (h1 : vI vs = true) (hs : aG2 cs o vs = some cs') (hp : Own.put own i (.cells T cs') = some own') (hd : iU C.N dst = true)
  (h : XO C ops Q rest ⟨jI dst undef env,df,H,own'⟩) :
  XO C ops Q (⟨dst,.store t x y,ty,pos,af,none⟩ :: rest) ⟨env,df,H,own⟩:=by
 refine vO rfl rfl hd fun ρ w fr ha hok=>?_;have hb:=aGg hok (jF fr (Own.at_mem ho));obtain ⟨e1,e2⟩:=aI5 hs;have hrun:=run_storeCells_at (P:=C.P) b o T vs 0 cs.toArray w hb (by simpa using e2) (aFu h1);simp only [Nat.add_zero] at hrun;rw [← e1] at hrun;refine ⟨.skip,undef,w.setRow b cs'.toArray,H,own',?_,.inr ⟨rfl,rfl⟩,Le.refl _,?_,h⟩
 ·simp only [execOp,ha _ _ hx,ha _ _ hy,Instr.storeAt,Instr.sureAddr,Sem.run_bind,storeVar,mJ ht,rX hv];simp only [Sem.run,Pure.pure,Result.andThen,Sem.run_bind,mJ ht,hsz,List.size_toArray,ne_eq,not_true_eq_false,if_false];rw [hrun]
 obtain ⟨pre,post,rfl,rfl⟩:=Own.at_split ho;rw [Own.put_split] at hp;cases hp;simp only [eM,fP] at hok ⊢;refine hok.write (s':=.cells T cs') (o':=.cells cs'.toArray T (0,0)) rfl rfl rfl rfl rfl ?_ ?_
 ·exact setRow_heap w b _ _ T _ hb
 intro k hk;simp [World.setRow,Array.getElem?_modify,Ne.symm hk]
/-! ### Structs a_s values -/
theorem XO.field {t t' : TypeId} {x : Operand} {f off sz : Nat} {agg : Bool} {cs vs : List Value} {v : Value} (hx : ev env x = some (.agg ⟨cs⟩)) (hf : aOi C.P t f = some (off,t')) (ht : tP C.P t' sz agg = true)
  (hl : aIo cs off sz = some vs) (hv : mkV agg vs = some v) (hd : iU C.N dst = true) (h : XO C ops Q rest ⟨jI dst v env,df,H,own⟩) :
  XO C ops Q (⟨dst,.field t x f,ty,pos,af,none⟩ :: rest) ⟨env,df,H,own⟩:=by
 refine kF rfl rfl hd (fun ρ ha w=>?_) h;obtain ⟨h1,h2,h3⟩:=aIt hl;unfold aOi at hf;split at hf
 ·rename_i fs hfs
  split at hf
  ·rename_i fd hfd
   cases hf
   have hpart : (part fd.type ⟨cs⟩ fd.offset).run C.P w = .ok v w:=by
    unfold part;rw [Sem.run_bind,aMl ht];simp only [Result.andThen];cases agg with
    | true =>
     cases hv;simp only [if_true,Sem.run_bind,mJ ht,Result.andThen];simp [Sem.run,Pure.pure,h1]
    | false =>
     obtain ⟨u,rfl⟩ : ∃ u,vs = [u]:=by
      cases vs with
      | nil=>cases hv
      | cons x xs=>cases xs with
       | nil=>exact ⟨x,rfl⟩
       | cons _ _=>cases hv
     cases hv
     have : cs[fd.offset]? = some v:=by
      have h4 : ((cs.drop fd.offset).take sz)[0]? = some v:=by rw [← h1];rfl
      rw [List.getElem?_take] at h4;split at h4
      ·simpa using h4
      cases h4
     simp [this,Sem.run,Pure.pure]
   simp only [execOp,ha _ _ hx,Instr.field,Sem.run_bind,jC hfs,Result.andThen];simp only [hfd,asAgg,Sem.run_bind];simp only [Sem.run,Pure.pure,Result.andThen,hpart]
  cases hf
 cases hf
/-! ### Published data -/
end
structure Rep (α : Type) where
 sz : Nat
 R : Hp → List Value → α → Prop
 len : ∀ {H cs a},R H cs a → cs.length = sz
 one : ∀ {H cs a},R H cs a → vI cs = true
 mono : ∀ {H H' cs a},Le H H' → R H cs a → R H' cs a
def rC (H : Hp) (b o : Nat) (cs : List Value) : Prop:=∃ c T fz,H b = some (.cells c T fz) ∧ ∀ j u,cs[j]? = some u → c[o + j]? = some u
theorem rC.mono {H H' : Hp} {b o : Nat} {cs : List Value} (hle : Le H H') (h : rC H b o cs) : rC H' b o cs :=
 let ⟨c,T,fz,h1,h2⟩:=h;⟨c,T,fz,hle _ _ h1,h2⟩
structure SlR {α : Type} (ρ : Rep α) (H : Hp) (a : Option Addr) (c : Nat) (l : List α) : Prop where
 le : l.length ≤ c
 nil : a = none → c = 0
 el : ∀ (i : Nat) (x : α),l[i]? = some x → ∃ b o cs,a = some ⟨b,o,none⟩ ∧ rC H b (o + i * ρ.sz) cs ∧ ρ.R H cs x
theorem SlR.mono {α : Type} {ρ : Rep α} {H H' : Hp} {a : Option Addr} {c : Nat} {l : List α} (hle : Le H H') (h : SlR ρ H a c l) : SlR ρ H' a c l :=
 ⟨h.le,h.nil,fun i x hx=>let ⟨b,o,cs,h1,h2,h3⟩:=h.el i x hx;⟨b,o,cs,h1,h2.mono hle,ρ.mono hle h3⟩⟩
theorem SlR.nil0 {α : Type} (ρ : Rep α) (H : Hp) : SlR ρ H none 0 ([] : List α):=⟨gT _,fun _=>rfl,fun i x h=>by simp at h⟩
def gV (k : IntKind) : Rep Int where
 sz:=1
 R:=fun _ cs a=>cs = [.int k a]
 len:=fun h=>by subst h;rfl
 one:=fun h=>by subst h;rfl
 mono:=fun _ h=>h
def aE2 : Rep Bool where
 sz:=1
 R:=fun _ cs a=>cs = [.bool a]
 len:=fun h=>by subst h;rfl
 one:=fun h=>by subst h;rfl
 mono:=fun _ h=>h
def strR : Rep ByteArray where
 sz:=1
 R:=fun _ cs a=>cs = [.string a]
 len:=fun h=>by subst h;rfl
 one:=fun h=>by subst h;rfl
 mono:=fun _ h=>h
def slR {α : Type} (ρ : Rep α) : Rep (List α) where
 sz:=1
 R:=fun H cs l=>∃ a c,cs = [.slice a l.length c] ∧ SlR ρ H a c l
 len:=fun ⟨_,_,h,_⟩=>by subst h;rfl
 one:=fun ⟨_,_,h,_⟩=>by subst h;rfl
 mono:=fun hle ⟨a,c,h,k⟩=>⟨a,c,h,k.mono hle⟩
section
variable {C : Ctx} {ops : Array Oper} {Q : Exit → St → Prop} {rest : List Oper} {env : gY} {df : List Deferred} {H : Hp} {own : Own}
variable {dst : Option Tmp} {ty : TypeId} {pos : String} {af : Array Edge}
theorem eD {t e : TypeId} {x : Operand} {a : Option Addr} {n c : Nat} {ts : Array TypeId} (hx : ev env x = some (.slice a n c)) (ht : C.P.underlying t = some (.slice e)) (hd : iU C.N dst = true)
  (h : XO C ops Q rest ⟨jI dst (.int .i64 n) env,df,H,own⟩) :
  XO C ops Q (⟨dst,.call { callee:=.builtin .len,args:=#[x],argTypes:=#[t] },ty,pos,af,none⟩ :: rest) ⟨env,df,H,own⟩ :=
 kF rfl rfl hd (fun ρ ha w=>by
  simp only [execOp,resolve,Sem.run_bind];simp only [Pure.pure,Sem.run,Result.andThen,invoke,builtin,Sem.run_bind,Builtin.len_]
  simp [ha _ _ hx,Sem.run_bind,jC ht,Result.andThen,goInt,Pure.pure,Sem.run]) h
theorem aEc {α : Type} {ρ : Rep α} {t e : TypeId} {x y : Operand} {k : IntKind} {i : Int} {a : Option Addr} {c : Nat} {l : List α} {agg : Bool} (hx : ev env x = some (.slice a l.length c)) (hs : SlR ρ H a c l) (hy : ev env y = some (.int k i))
  (ht : C.P.underlying t = some (.slice e)) (he : tP C.P e ρ.sz agg = true) (h0 : 0 ≤ i) (h1 : i < l.length) (hd : iU C.N dst = true)
  (h : ∀ b o cs u,l[i.toNat]? = some u → ρ.R H cs u → rC H b o cs → XO C ops Q rest ⟨jI dst (.pointer (some ⟨b,o,none⟩)) env,df,H,own⟩) :
  XO C ops Q (⟨dst,.indexAddr t x y,ty,pos,af,none⟩ :: rest) ⟨env,df,H,own⟩:=by
 have hlt : i.toNat < l.length:=zO
 obtain ⟨b,o,cs,rfl,hp,hr⟩:=hs.el i.toNat l[i.toNat] (aJ hlt);refine kF rfl rfl hd (v:=.pointer (some ⟨b,o + i.toNat * ρ.sz,none⟩)) (fun ρ' ha w=>?_) (h b _ cs _ (aJ hlt) hr hp);have hadd : ∀ j,(⟨b,o,none⟩ : Addr).add j = ⟨b,o + j,none⟩:=by intro j;unfold Addr.add;split <;> simp_all
 simp only [execOp,ha _ _ hx,ha _ _ hy,Instr.indexAt,asIntOf,Sem.run_bind];simp only [Pure.pure,Sem.run,Result.andThen,jC ht,Sem.run_bind];simp only [h0,h1,and_self,if_true,Sem.run_bind,mJ he,Result.andThen,hadd];rfl
theorem eH {t : TypeId} {x : Operand} {b o sz : Nat} {agg : Bool} {cs : List Value} {v : Value} (hx : ev env x = some (.pointer (some ⟨b,o,none⟩))) (hp : rC H b o cs)
  (ht : tP C.P t sz agg = true) (hl : cs.length = sz) (hv : mkV agg cs = some v) (hd : iU C.N dst = true)
  (h : XO C ops Q rest ⟨jI dst v env,df,H,own⟩) :
  XO C ops Q (⟨dst,.load t x,ty,pos,af,none⟩ :: rest) ⟨env,df,H,own⟩:=by
 refine vO rfl rfl hd fun ρ w fr ha hok=>⟨.value v,v,w,H,own,?_,.inl rfl,Le.refl _,hok,h⟩
 obtain ⟨c,T,fz,hb,hc⟩:=hp;have hw:=hok.pub _ _ hb;have hrun:=yM (P:=C.P) (w:=w) ht (b:=b) (o:=o) hl (v:=v) (fun j u hj=>by simp [World.cell?,hw,hc j u hj]) hv;simp only [execOp,ha _ _ hx,Instr.loadAt,Instr.sureAddr,Sem.run_bind];simp only [Sem.run,Pure.pure,Result.andThen,hrun]
theorem bJ {t : TypeId} {x : Operand} {f off b o : Nat} (hx : ev env x = some (.pointer (some ⟨b,o,none⟩))) (hf : qF C.P t f = some off) (hd : iU C.N dst = true)
  (h : XO C ops Q rest ⟨jI dst (.pointer (some ⟨b,o + off,none⟩)) env,df,H,own⟩) :
  XO C ops Q (⟨dst,.fieldAddr t x f,ty,pos,af,none⟩ :: rest) ⟨env,df,H,own⟩:=by
 refine kF rfl rfl hd (fun ρ ha w=>?_) h;have hadd : ∀ j,(⟨b,o,none⟩ : Addr).add j = ⟨b,o + j,none⟩:=by intro j;unfold Addr.add;split <;> simp_all
 unfold qF at hf;split at hf
 ·rename_i fs hfs
  split at hf
  ·rename_i fd hfd
   split at hf
   ·rename_i i hi
    split at hf
    ·cases hf
    rename_i hz
    cases hf;simp only [execOp,ha _ _ hx,Instr.fieldAt,Sem.run_bind,jC hfs,Result.andThen,hfd,Instr.sureAddr];simp only [Pure.pure,Sem.run,Result.andThen,fieldPlace,sizeOf,typeInfo,program,Sem.run_bind,hi,hz,if_false,hadd,bind,Sem.bind]
   cases hf
  cases hf
 cases hf
theorem fT (i : Nat) {b : Nat} {s : SObj} {own' : Own} (ho : Own.at own i = some (b,s)) (hs : s.some = true) (hp : Own.del own i = some own')
  (h : ∀ H' o,Le H H' → H' b = some o → s.Is o → XO C ops Q rest ⟨env,df,H',own'⟩) : XO C ops Q rest ⟨env,df,H,own⟩:=by
 intro a w hr;obtain ⟨ms,hdf,hok⟩:=hr.ok;obtain ⟨pre,post,rfl,rfl⟩:=Own.at_split ho;rw [Own.del_split] at hp;cases hp;simp only [eM,fP] at hok;obtain ⟨H',o,hle,hb,hso,hok'⟩:=hok.publish hs;exact lZ hle _ _ _ (h H' o hle hb hso a w ⟨hr.size,hr.get,ms,hdf,by simpa using hok'⟩)
theorem rC.of_is {H : Hp} {b : Nat} {T : TypeId} {cs : List Value} {o : Obj} (hb : H b = some o) (hs : (SObj.cells T cs).Is o) : rC H b 0 cs:=by
 simp only [SObj.Is] at hs;subst hs;exact ⟨_,_,_,hb,fun j u hj=>by simpa using hj⟩
theorem eU (ts : List Nat) {c : Code} {env' : gY} (hk : gY.keep env ts = some env') (h : XC C c Q ⟨env',df,H,own⟩) : XC C c Q ⟨env,df,H,own⟩ :=
 fun a w hr=>h a w (hr.weaken (gY.keep_prov hk) (Le.refl _) (jP _))
theorem pK {e : gY} {t : Nat} {k : IntKind} {a b : Int} (hg : gY.get e t = some (.int k a)) (h : a = b) : gY.get e t = some (.int k b):=by rw [hg,h]
theorem aJ0 {e : gY} : aGb e []:=trivial
theorem iL {e : gY} {t : Nat} {v : Value} {r : gY} (h : gY.get e t = some v) (k : aGb e r) : aGb e ((t,v) :: r):=⟨h,k⟩
def aSd (base : gY) {ι : Type} (H0 : Hp) (df : List Deferred) (U : ι → gY) (B : ι → Hp → Own → Prop) (i : ι) (σ : St) : Prop :=
 ∃ own,B i σ.H own ∧ aGb σ.env (U i ++ base) ∧ own.Sublist σ.own ∧ σ.df = df ∧ Le H0 σ.H
theorem gO {ι : Type} {c : Code} (base : gY) (U : ι → gY) (B : ι → Hp → Own → Prop) (μ : ι → Nat) (i₀ : ι) (hp : aGb env (U i₀ ++ base)) {own0 : Own} (ho : own0.Sublist own) (h₀ : B i₀ H own0)
  (round : ∀ i H' own',Le H H' → B i H' own' → XC C c (aM7 (aSd base H df U B) μ i Q) ⟨U i ++ base,df,H',own'⟩) : XC C (.loop c) Q ⟨env,df,H,own⟩:=by
 refine XC.loopG (aSd base H df U B) μ i₀ ⟨own0,h₀,hp,ho,rfl,Le.refl _⟩ ?_;rintro i ⟨env',df',H',own'⟩ hle ⟨own1,hB,hp,ho,rfl,jJ⟩;exact fun a w hr=>round i H' own1 jJ hB a w (hr.weaken hp (Le.refl _) ho)
theorem eW {ι : Type} {base : gY} {H0 : Hp} {df : List Deferred} {U : ι → gY} {B : ι → Hp → Own → Prop} {μ : ι → Nat} {i : ι} {Q : Exit → St → Prop} {env : gY} {H' : Hp} {own' : Own} (j : ι) {own1 : Own}
  (hμ : μ j < μ i) (hp : aGb env (U j ++ base)) (hB : B j H' own1) (ho : own1.Sublist own') (hle : Le H0 H') : aM7 (aSd base H0 df U B) μ i Q .normal ⟨env,df,H',own'⟩ :=
 ⟨j,hμ,own1,hB,hp,ho,rfl,hle⟩
theorem eV {α : Type} {ρ : Rep α} {t e : TypeId} {x y : Operand} {k : IntKind} {i : Nat} {a : Option Addr} {c : Nat} {l : List α} {agg : Bool} (hx : ev env x = some (.slice a l.length c)) (hs : SlR ρ H a c l) (hy : ev env y = some (.int k (i : Nat)))
  (ht : C.P.underlying t = some (.slice e)) (he : tP C.P e ρ.sz agg = true) (h1 : i < l.length) (hd : iU C.N dst = true)
  (h : ∀ b o cs u,l[i]? = some u → ρ.R H cs u → rC H b o cs → XO C ops Q rest ⟨jI dst (.pointer (some ⟨b,o,none⟩)) env,df,H,own⟩) :
  XO C ops Q (⟨dst,.indexAddr t x y,ty,pos,af,none⟩ :: rest) ⟨env,df,H,own⟩ :=
 aEc hx hs hy ht he zO zO hd h
theorem dT {n : Int} (h1 : -9223372036854775808 ≤ n) (h2 : n < 9223372036854775808) : IntKind.i64.wrap n = n:=IntWalk.i64_in n zO
theorem aI1 {a b : Int} (h1 : 0 ≤ a) (h2 : 0 < b) (h3 : a < 9223372036854775808) : IntKind.i64.wrap (a.tdiv b) = a / b:=by
 rw [Int.tdiv_eq_ediv_of_nonneg h1];exact dT (by have:=Int.ediv_nonneg h1 (Int.le_of_lt h2);omega) (by have:=Int.ediv_le_self b h1;omega)
end
theorem zC {e r : gY} (h : aGb e r:=by repeat (first | exact aJ0 | refine iL rfl ?_)) : aGb e r:=h
end Go.XL

namespace Go.XL
def evP (e : gY) : List (Nat × Operand) → Option (List (Nat × Value))
 | []=>some []
 | (i,x) :: r=>match ev e x with
  | some v=>match evP e r with | some vs=>some ((i,v) :: vs) | none=>none
  | none=>none
theorem aNr {env : gY} {ρ : Operand → Value} (ha : aS5 env ρ) {ps : List (Nat × Operand)} {vs : List (Nat × Value)} (h : evP env ps = some vs) : ps.map (fun p=>(p.1,ρ p.2)) = vs:=by
 induction ps generalizing vs with
 | nil=>cases h;rfl
 | cons p ps ih =>
  obtain ⟨i,x⟩:=p;simp only [evP] at h;split at h
  ·rename_i v hv
   split at h
   ·rename_i r hr;cases h;simp [ha _ _ hv,ih hr]
   cases h
  cases h
def aKn (pl : Nat → Option (Nat × Nat)) : List Value → List (Nat × Value) → Option (List Value)
 | zs,[]=>some zs
 | zs,(i,v) :: r=>match pl i with
  | some (off,sz)=>match aFn v with
   | some vs=>bif Nat.beq vs.length sz then (match aG2 zs off vs with | some zs'=>aKn pl zs' r | none=>none) else none
   | none=>none
  | none=>none
theorem foldl_setL : ∀ (vs : List Value) (k off : Nat) (zs r : List Value),aG2 zs (off + k) vs = some r →
    ((vs.zipIdx k).foldl (fun (cs : Array Value) (p : Value × Nat)=>cs.setIfInBounds (off + p.2) p.1) zs.toArray) = r.toArray:=by
  intro vs
  induction vs with
  | nil =>
    intro k off zs r h;obtain ⟨h1,_⟩:=aI5 h;simp only [gH,List.length_nil,Nat.add_zero,nO] at h1;subst h1;rfl
  | cons v vs ih =>
    intro k off zs r h;obtain ⟨h1,h2⟩:=aI5 h;simp only [jL] at h1 h2;simp only [List.zipIdx_cons,List.foldl_cons];have hset : (zs.toArray).setIfInBounds (off + k) v = (zs.set (off + k) v).toArray:=by simp
    rw [hset];refine ih (k + 1) off _ r ?_
    have : ∀ (zs : List Value) (o : Nat) (vs : List Value),o + vs.length ≤ zs.length → aG2 zs o vs = some (zs.take o ++ vs ++ zs.drop (o + vs.length)):=by
      intro zs
      induction zs with
      | nil=>intro o vs h;obtain ⟨rfl,h'⟩ : o = 0 ∧ vs.length = 0:=by simp at h ⊢;omega
             obtain rfl:=List.eq_nil_of_length_eq_zero h';rfl
      | cons z zs ih =>
        intro o vs h;cases o with
        | zero=>cases vs with
          | nil=>rfl
          | cons v vs =>
            simp only [aG2];rw [ih 0 vs (by simp at h ⊢;omega)];simp
        | succ o =>
          have e : aG2 (z :: zs) (o + 1) vs = (match aG2 zs o vs with | some r=>some (z :: r) | none=>none):=by cases vs <;> rfl
          rw [e,ih o vs (by simp at h;omega)];simp [show o + 1 + vs.length = (o + vs.length) + 1 by omega]
    have hlt : off + k < zs.length:=zO
    have hs : zs.set (off + k) v = zs.take (off + k) ++ v :: zs.drop (off + k + 1):=List.set_eq_take_append_cons_drop ▸ by simp [hlt]
    rw [this _ _ _ zI,h1,hs];have hl : (zs.take (off + k)).length = off + k:=by simp;omega
    have key : ∀ (p q : List Value) (m : Nat),p.length = off + k → (p ++ v :: q).take (off + k + 1) = p ++ [v] ∧ (p ++ v :: q).drop (off + k + 1 + m) = q.drop m:=by
      intro p q m hp;refine ⟨?_,?_⟩
      · rw [List.take_append,hp,show off + k + 1 - (off + k) = 1 by omega,fJ zO];rfl
      rw [List.drop_append,hp,show off + k + 1 + m - (off + k) = m + 1 by omega,List.drop_eq_nil_of_le zO];rfl
    obtain ⟨k1,k2⟩:=key _ (zs.drop (off + k + 1)) vs.length hl;rw [← Nat.add_assoc (off + k) 1 0,Nat.add_zero] at *;have e : off + (k + 1) = off + k + 1:=zO
    rw [e,k1,k2,List.drop_drop];simp [Nat.add_comm,Nat.add_left_comm]
theorem aNi {pl : Nat → Option (Nat × Nat)} {ps : List (Nat × Value)} {zs r : List Value} (h : aKn pl zs ps = some r) : Instr.fill pl zs.toArray ps = some r.toArray:=by
 induction ps generalizing zs with
 | nil=>cases h;rfl
 | cons p ps ih =>
  obtain ⟨i,v⟩:=p;simp only [aKn] at h;split at h
  ·rename_i off sz hpl
   split at h
   ·rename_i vs hvs
    cases hb : Nat.beq vs.length sz with
    | false=>rw [hb] at h;cases h
    | true =>
     rw [hb] at h;simp only [cond_true] at h;split at h
     ·rename_i zs' hz
      have wD:=fV hb;obtain ⟨_,h2⟩:=aI5 hz;simp only [Instr.fill,hpl,rX hvs];rw [dG zI];have:=foldl_setL vs 0 off zs zs' (by simpa using hz);rw [← Array.foldl_toList,Array.toList_zipIdx,this];exact ih h
     cases h
   cases h
  cases h
def vS (P : Program) (t : TypeId) : Option (List (Nat × Nat)) :=
 match P.underlying t with
 | some (.struct fs)=>some (fs.toList.map fun f=>(f.offset,P.cellsOf f.type))
 | _=>none
def vV (P : Program) (t : TypeId) : Bool :=
 match P.underlying t with
 | some (.struct fs)=>fs.all fun f=>(P.info? f.type).isSome
 | _=>false
def atL (l : List (Nat × Nat)) : Nat → Option (Nat × Nat)
 | 0=>match l with | []=>none | x :: _=>some x
 | n + 1=>match l with | []=>none | _ :: r=>atL r n
theorem atL_eq (l : List (Nat × Nat)) (n : Nat) : atL l n = l[n]?:=by
 induction l generalizing n with
 | nil=>cases n <;> rfl
 | cons x r ih=>cases n with
  | zero=>rfl
  | succ n=>simpa [atL] using ih n
def vD (zs : List Value) : Nat → List Value
 | 0=>[]
 | n + 1=>zs ++ vD zs n
theorem aCw (zs : List Value) (n : Nat) : (vD zs n).length = n * zs.length:=by
 induction n with
 | zero=>simp [vD]
 | succ n ih=>simp [vD,ih,Nat.add_mul,Nat.add_comm]
theorem repL_get (zs : List Value) (hz : 0 < zs.length) (n i : Nat) (hi : i < n * zs.length) : (vD zs n)[i]? = zs[i % zs.length]?:=by
 induction n generalizing i with
 | zero=>simp at hi
 | succ n ih =>
  simp only [vD];rcases gJ i zs.length with h | h
  ·rw [List.getElem?_append_left h,Nat.mod_eq_of_lt h]
  rw [List.getElem?_append_right h,ih _ (by rw [Nat.add_mul] at hi;omega),Nat.mod_eq_sub_mod h]
theorem aJ8 (zs : List Value) (hz : 0 < zs.length) (n : Nat) : ((Array.range (n * zs.length)).map (fun i=>zs.toArray[i % zs.toArray.size]!)) = (vD zs n).toArray:=by
 apply Array.ext_getElem?;intro i;rw [Array.getElem?_map];rcases gJ i (n * zs.length) with h | h
 ·have hm : i % zs.length < zs.length:=Nat.mod_lt _ hz;have e1 : (vD zs n).toArray[i]? = zs[i % zs.length]?:=by rw [List.getElem?_toArray];exact repL_get zs hz n i h
  rw [e1];simp [h,hm]
 simp only [List.getElem?_toArray];rw [dJ (by rw [aCw];exact h)];simp [Array.getElem?_eq_none,h]
theorem aC2 {P : Program} {w : World} {t : TypeId} {zs : List Value} (hz : nB P t = some zs) : ∃ z,(zeroValue t).run P w = .ok z w ∧ z.cells = zs.toArray:=by
 unfold nB at hz;split at hz
 ·rename_i i hi
  split at hz
  ·rename_i z hzz
   exact ⟨z,by simp [zeroValue,typeInfo,program,hi,hzz,Sem.run,Pure.pure,bind,Sem.bind],rX hz⟩
  cases hz
 cases hz
section
variable {C : Ctx} {ops : Array Oper} {Q : Exit → St → Prop} {rest : List Oper} {env : gY} {df : List Deferred} {H : Hp} {own : Own}
variable {dst : Option Tmp} {ty : TypeId} {pos : String} {af : Array Edge}
theorem mapM_places {P : Program} {w : World} : ∀ (fs : List Field),(fs.all fun f=>(P.info? f.type).isSome) = true →
  (fs.mapM (m:=Sem) fun f=>do pure (f.offset,← sizeOf f.type)).run P w = .ok (fs.map fun f=>(f.offset,P.cellsOf f.type)) w:=by
 intro fs
 induction fs with
 | nil=>intro _;rfl
 | cons f fs ih =>
  intro h;simp only [List.all_cons,fL] at h;obtain ⟨i,hi⟩:=Option.isSome_iff_exists.1 h.1
  have h1 : (sizeOf f.type).run P w = .ok (P.cellsOf f.type) w:=by
   simp [sizeOf,typeInfo,program,Sem.run,hi,bind,Sem.bind,Pure.pure,Program.cellsOf]
  rw [List.mapM_cons];have ih':=ih h.2;generalize fs.mapM (m:=Sem) (fun f=>do Pure.pure (f.offset,← sizeOf f.type)) = m at ih';simp only [Sem.run_bind,h1];show (Sem.run P m w).andThen _ = _;rw [ih'];rfl
theorem mC {t : TypeId} {ps : List (Nat × Operand)} {pl : List (Nat × Nat)} {vs : List (Nat × Value)} {zs r : List Value} (hk : vV C.P t = true) (hf : vS C.P t = some pl) (hz : nB C.P t = some zs) (hv : evP env ps = some vs) (hr : aKn (atL pl) zs vs = some r) (hd : iU C.N dst = true)
  (h : XO C ops Q rest ⟨jI dst (.agg ⟨r⟩) env,df,H,own⟩) :
  XO C ops Q (⟨dst,.build t ps.toArray,ty,pos,af,none⟩ :: rest) ⟨env,df,H,own⟩:=by
 refine kF rfl rfl hd (fun ρ ha w=>?_) h;obtain ⟨z,hz1,hz2⟩:=aC2 (w:=w) hz;unfold vS at hf;unfold vV at hk;split at hf
 ·rename_i fs hfs
  rw [hfs] at hk;simp only at hk;cases hf;have hm:=mapM_places (P:=C.P) (w:=w) fs.toList (by simpa using hk);have hfill:=aNi hr;have hpl : atL (fs.toList.map fun f=>(f.offset,C.P.cellsOf f.type)) = fun (i : Nat)=>(fs.toList.map fun f=>(f.offset,C.P.cellsOf f.type))[i]?:=funext (atL_eq _);rw [hpl] at hfill;have hparts : (ps.toArray.map (fun p=>(p.1,ρ p.2))).toList = vs:=by simp [aNr ha hv]
  have hm2 : (fs.mapM (m:=Sem) fun f=>do Pure.pure (f.offset,← sizeOf f.type)).run C.P w = .ok (fs.toList.map fun f=>(f.offset,C.P.cellsOf f.type)).toArray w:=by
   rw [← Array.toArray_toList (xs:=fs),List.mapM_toArray,Sem.run_map,hm];simp [Result.andThen]
  show ((do Pure.pure (Next.value (← Instr.build t (ps.toArray.map (fun p=>(p.1,ρ p.2)))))) : Sem Next).run C.P w = _;rw [Sem.run_bind]
  have hb : (Instr.build t (ps.toArray.map (fun p=>(p.1,ρ p.2)))).run C.P w = .ok (.agg ⟨r⟩) w:=by
   unfold Instr.build;rw [Sem.run_bind,hz1];simp only [Result.andThen,Sem.run_bind,jC hfs];rw [hm2];simp only [Result.andThen,hparts,hz2];have : (fun (x : Nat)=>(List.map (fun f=>(f.offset,C.P.cellsOf f.type)) fs.toList).toArray[x]?) = fun (i : Nat)=>(fs.toList.map fun f=>(f.offset,C.P.cellsOf f.type))[i]?:=by funext i;simp
   rw [this,hfill];rfl
  rw [hb];rfl
 cases hf
theorem fS {t e : TypeId} {n sz : Nat} {agg : Bool} {ps : List (Nat × Operand)} {vs : List (Nat × Value)} {zs r : List Value} (hv : evP env ps = some vs) (ht : C.P.underlying t = some (.slice e)) (he : tP C.P e sz agg = true) (hz : nB C.P e = some zs)
  (hzl : (Nat.blt 0 sz && Nat.beq zs.length sz && Nat.ble (n * sz) 16777216) = true) (hr : aKn (fun i=>some (i * sz,sz)) (vD zs n) vs = some r) (hd : iU C.N dst = true)
  (h : ∀ b,XO C ops Q rest ⟨jI dst (.slice (some ⟨b,0,none⟩) n n) env,df,H,(b,.cells e r) :: own⟩) :
  XO C ops Q (⟨dst,.buildSlice t n ps.toArray,ty,pos,af,none⟩ :: rest) ⟨env,df,H,own⟩:=by
 refine vO rfl rfl hd fun ρ w fr ha hok=>⟨.value (.slice (some ⟨w.heap.size,0,none⟩) n n),_,_,H,(w.heap.size,.cells e r) :: own,?_,.inl rfl,Le.refl _,hok.new (s:=.cells e r) rfl,h _⟩
 simp only [fL] at hzl;obtain ⟨⟨hz0,hz1⟩,hz2⟩:=hzl;have hz0 : 0 < sz:=by simpa using hz0
 have hz1:=fV hz1;have hz2:=Nat.le_of_ble_eq_true hz2;obtain ⟨z,hzr,hzc⟩:=aC2 (w:=w) hz;have hparts : (ps.toArray.map (fun p=>(p.1,ρ p.2))).toList = vs:=by simp [aNr ha hv]
 show ((do Pure.pure (Next.value (← Instr.buildSlice t n (ps.toArray.map (fun p=>(p.1,ρ p.2)))))) : Sem Next).run C.P w = _;rw [Sem.run_bind]
 have hb : (Instr.buildSlice t n (ps.toArray.map (fun p=>(p.1,ρ p.2)))).run C.P w = .ok (.slice (some ⟨w.heap.size,0,none⟩) n n) { w with heap:=w.heap.push (.cells r.toArray e (0,0)) }:=by
  unfold Instr.buildSlice;rw [Sem.run_bind,jC ht];simp only [Result.andThen,Sem.run_bind,mJ he];rw [dG zO];have hfill:=aNi hr;rw [← aJ8 zs zO,hz1] at hfill;by_cases hn : n * sz = 0
  ·rw [eX hn];rw [hn] at hfill ⊢;have e0 : Array.map (fun x=>zs.toArray[x % zs.toArray.size]!) (Array.range 0) = #[]:=by simp
   have e1 : ∀ g : Nat → Value,Array.map g (Array.range 0) = #[]:=by intro g;simp
   simp only [Sem.run,Pure.pure,Result.andThen,hparts,e1,e0] at hfill ⊢;rw [hfill];simp [newRow,newObj,Sem.run,bind,Sem.bind,Pure.pure]
  rw [dG hn];simp only [Sem.run_bind,hzr,Result.andThen];simp only [Sem.run,Pure.pure,Result.andThen,hparts,hzc];rw [hfill];simp [newRow,newObj,Sem.run,bind,Sem.bind,Pure.pure]
 rw [hb];rfl
end
/-! ### Rows of elements -/
def iH {α : Type} (ρ : Rep α) (H : Hp) : List Value → List α → Prop
 | cs,[]=>cs = []
 | cs,x :: l=>∃ c1 c2,cs = c1 ++ c2 ∧ ρ.R H c1 x ∧ iH ρ H c2 l
theorem iH.mono {α : Type} {ρ : Rep α} {H H' : Hp} (hle : Le H H') {cs : List Value} {l : List α} (h : iH ρ H cs l) : iH ρ H' cs l:=by
 induction l generalizing cs with
 | nil=>exact h
 | cons x l ih=>obtain ⟨c1,c2,h1,h2,h3⟩:=h;exact ⟨c1,c2,h1,ρ.mono hle h2,ih h3⟩
theorem iH.length {α : Type} {ρ : Rep α} {H : Hp} {cs : List Value} {l : List α} (h : iH ρ H cs l) : cs.length = l.length * ρ.sz:=by
 induction l generalizing cs with
 | nil=>cases h;simp
 | cons x l ih=>obtain ⟨c1,c2,rfl,h2,h3⟩:=h;simp [ρ.len h2,ih h3,Nat.add_mul,Nat.add_comm]
theorem oneAll_append {a b : List Value} : vI (a ++ b) = (vI a && vI b):=by
 induction a with
 | nil=>simp [vI]
 | cons x a ih=>simp [vI,ih,Bool.and_assoc]
theorem iH.one {α : Type} {ρ : Rep α} {H : Hp} {cs : List Value} {l : List α} (h : iH ρ H cs l) : vI cs = true:=by
 induction l generalizing cs with
 | nil=>cases h;rfl
 | cons x l ih=>obtain ⟨c1,c2,rfl,h2,h3⟩:=h;rw [oneAll_append,ρ.one h2,ih h3];rfl
theorem iH.append {α : Type} {ρ : Rep α} {H : Hp} {cs ds : List Value} {l m : List α} (h : iH ρ H cs l) (k : iH ρ H ds m) : iH ρ H (cs ++ ds) (l ++ m):=by
 induction l generalizing cs with
 | nil=>cases h;exact k
 | cons x l ih=>obtain ⟨c1,c2,rfl,h2,h3⟩:=h;exact ⟨c1,c2 ++ ds,by simp,h2,ih h3⟩
theorem iH.get {α : Type} {ρ : Rep α} {H : Hp} {cs : List Value} {l : List α} (h : iH ρ H cs l) {i : Nat} {x : α} (hx : l[i]? = some x) : ∃ c1,ρ.R H c1 x ∧ ∀ j u,c1[j]? = some u → cs[i * ρ.sz + j]? = some u:=by
 induction l generalizing cs i with
 | nil=>simp at hx
 | cons y l ih =>
  obtain ⟨c1,c2,rfl,h2,h3⟩:=h;cases i with
  | zero =>
   simp at hx;subst hx;refine ⟨c1,h2,fun j u hj=>?_⟩;rw [List.getElem?_append_left (by simpa using (bY.1 hj).1)];simpa using hj
  | succ i =>
   obtain ⟨c,h4,h5⟩:=ih h3 (by simpa using hx);refine ⟨c,h4,fun j u hj=>?_⟩;rw [List.getElem?_append_right (by rw [ρ.len h2,Nat.add_mul];omega),ρ.len h2,show (i + 1) * ρ.sz + j - ρ.sz = i * ρ.sz + j by rw [Nat.add_mul];omega];exact h5 j u hj
theorem SlR.cells {α : Type} {ρ : Rep α} {H : Hp} {a : Option Addr} {c : Nat} {l : List α} (h : SlR ρ H a c l) : ∃ cs,iH ρ H cs l ∧ ∀ b o,a = some ⟨b,o,none⟩ → ∀ j u,cs[j]? = some u → ∃ cc T fz,H b = some (.cells cc T fz) ∧ cc[o + j]? = some u:=by
 have key : ∀ (n : Nat) (l' : List α),(∀ i x,l'[i]? = some x → l[n + i]? = some x) → ∃ cs,iH ρ H cs l' ∧ ∀ b o,a = some ⟨b,o,none⟩ → ∀ j u,cs[j]? = some u → ∃ cc T fz,H b = some (.cells cc T fz) ∧ cc[o + n * ρ.sz + j]? = some u:=by
  intro n l'
  induction l' generalizing n with
  | nil=>intro _;exact ⟨[],rfl,fun _ _ _ j u hj=>by simp at hj⟩
  | cons x l' ih =>
   intro hl;obtain ⟨cs,h1,h2⟩:=ih (n + 1) (fun i y hy=>by have:=hl (i + 1) y (by simpa using hy);rw [show n + 1 + i = n + (i + 1) by omega];exact this);obtain ⟨b,o,c1,ha,⟨cc,T,fz,hb,hc⟩,hr⟩:=h.el n x (by simpa using hl 0 x rfl);refine ⟨c1 ++ cs,⟨c1,cs,rfl,hr,h1⟩,fun b' o' ha' j u hj=>?_⟩;rw [ha] at ha';cases ha';rcases gJ j c1.length with hlt | hge
   ·rw [List.getElem?_append_left hlt] at hj;exact ⟨cc,T,fz,hb,hc j u hj⟩
   rw [List.getElem?_append_right hge] at hj;obtain ⟨cc',T',fz',hb',hc'⟩:=h2 b o ha _ _ hj;rw [ρ.len hr] at hc' hge;exact ⟨cc',T',fz',hb',by rw [show o + n * ρ.sz + j = o + (n + 1) * ρ.sz + (j - ρ.sz) by rw [Nat.add_mul];omega];exact hc'⟩
 obtain ⟨cs,h1,h2⟩:=key 0 l (fun i x hx=>by simpa using hx);exact ⟨cs,h1,fun b o ha j u hj=>by simpa using h2 b o ha j u hj⟩
theorem SlR.of_rows {α : Type} {ρ : Rep α} {H : Hp} {b : Nat} {c : Array Value} {T : TypeId} {fz : Nat × Nat} {cs : List Value} {l : List α} {cap : Nat} (hb : H b = some (.cells c T fz)) (hc : ∀ (j : Nat) (u : Value),cs[j]? = some u → c[j]? = some u) (h : iH ρ H cs l) (hl : l.length ≤ cap) : SlR ρ H (some ⟨b,0,none⟩) cap l :=
 ⟨hl,(fun h=>by cases h),fun i x hx=>by
  obtain ⟨c1,h1,h2⟩:=h.get hx
  exact ⟨b,0,c1,rfl,⟨c,T,fz,hb,fun j u hj=>by simpa using hc _ u (h2 j u hj)⟩,h1⟩⟩
theorem SlR.lit {α : Type} {ρ : Rep α} {H : Hp} {b : Nat} {T : TypeId} {cs : List Value} {o : Obj} {l : List α} (hb : H b = some o) (ho : (SObj.cells T cs).Is o) (h : iH ρ H cs l) : SlR ρ H (some ⟨b,0,none⟩) l.length l:=by
 simp only [SObj.Is] at ho;subst ho;exact SlR.of_rows hb (fun j u hj=>by simpa using hj) h (gT _)
def Acc {α : Type} (ρ : Rep α) (T : TypeId) (H : Hp) (p : Nat × SObj) (a : Option Addr) (c : Nat) (l : List α) : Prop :=
 (a = none ∧ c = 0 ∧ l = [] ∧ p.2 = .nothing) ∨ ∃ xs,a = some ⟨p.1,0,none⟩ ∧ p.2 = .row T (c * ρ.sz) xs ∧ iH ρ H xs l ∧ l.length ≤ c
theorem Acc.mono {α : Type} {ρ : Rep α} {T : TypeId} {H H' : Hp} {p : Nat × SObj} {a : Option Addr} {c : Nat} {l : List α} (hle : Le H H') (h : Acc ρ T H p a c l) : Acc ρ T H' p a c l:=by
 rcases h with h | ⟨xs,h1,h2,h3,h4⟩
 ·exact .inl h
 exact .inr ⟨xs,h1,h2,h3.mono hle,h4⟩
theorem Acc.le {α : Type} {ρ : Rep α} {T : TypeId} {H : Hp} {p : Nat × SObj} {a : Option Addr} {c : Nat} {l : List α} (h : Acc ρ T H p a c l) : l.length ≤ c:=by
 rcases h with ⟨_,h,h',_⟩ | ⟨_,_,_,_,h⟩
 ·subst h';simp
 exact h
theorem Acc.nil {α : Type} (ρ : Rep α) (T : TypeId) (H : Hp) (b : Nat) : Acc ρ T H (b,.nothing) none 0 ([] : List α):=.inl ⟨rfl,rfl,rfl,rfl⟩
end Go.XL

namespace Go.XL
def Own.set2 : Own → Nat → Nat × SObj → Own
 | [],_,_=>[]
 | _ :: r,0,q=>q :: r
 | p :: r,i + 1,q=>p :: Own.set2 r i q
theorem Own.set2_split {pre post : Own} {p q : Nat × SObj} : Own.set2 (pre ++ p :: post) pre.length q = pre ++ q :: post:=by
 induction pre with
 | nil=>rfl
 | cons x r ih=>simp [Own.set2,ih]
theorem Own.set2_at {own : Own} {i : Nat} {p : Nat × SObj} (h : Own.at own i = some p) : Own.set2 own i p = own:=by
 obtain ⟨pre,post,rfl,rfl⟩:=Own.at_split h;exact Own.set2_split
theorem Ok.swap {G : World} {H : Hp} {own fr : Own} {w : World} {i : Nat} {p : Nat × SObj} (h : Ok G H (own ++ fr) w) (hp : Own.at own i = some p) {o : Obj} {s : SObj} (hs : s.Is o) :
  Ok G H (Own.set2 own i (w.heap.size,s) ++ fr) (w.drew.alloc o):=by
 obtain ⟨pre,post,rfl,rfl⟩:=Own.at_split hp;rw [Own.set2_split]
 have h1 : Ok G H (pre ++ (post ++ fr)) w.drew:=by
  refine (Ok.shrink h (Le.refl _) ?_).drew;simp only [eM,fP];exact List.Sublist.append_left (List.sublist_cons_self _ _) _
 have h2 : Ok G H ((w.heap.size,s) :: (pre ++ (post ++ fr))) (w.drew.alloc o):=h1.new hs;refine h2.perm ?_;simp only [eM,fP];exact List.perm_middle
theorem Ok.write2 {G : World} {H : Hp} {own fr : Own} {w : World} {i b : Nat} {s s' : SObj} (h : Ok G H (own ++ fr) w) (hp : Own.at own i = some (b,s)) (hs0 : s.some = true) {cs : Array Value} {old : Array Value} {T : TypeId}
  (hb : w.heap[b]? = some (.cells old T (0,0))) (hs : s'.Is (.cells cs T (0,0))) : Ok G H (Own.set2 own i (b,s') ++ fr) (w.setRow b cs):=by
 obtain ⟨pre,post,rfl,rfl⟩:=Own.at_split hp;rw [Own.set2_split];simp only [eM,fP] at h ⊢;exact h.write hs0 hs rfl rfl rfl (setRow_heap w b _ _ T _ hb) (fun k hk=>by simp [World.setRow,Array.getElem?_modify,Ne.symm hk])
theorem sM {zs : List Value} (n : Nat) : (Builtin.zeroCells zs.toArray n).toList.length = n * zs.length:=by simp [Builtin.zeroCells]
section
variable {C : Ctx} {ops : Array Oper} {Q : Exit → St → Prop} {rest : List Oper} {env : gY} {df : List Deferred} {H : Hp} {own : Own}
variable {dst : Option Tmp} {ty : TypeId} {pos : String} {af : Array Edge}
theorem tV (b o j : Nat) : (⟨b,o,none⟩ : Addr).add j = ⟨b,o + j,none⟩:=by unfold Addr.add;split <;> simp_all
theorem aNz {G : World} {H : Hp} {own : Own} {w : World} (hok : Ok G H own w) {b n : Nat} {T : TypeId} {xs : List Value} (hm : (b,SObj.row T n xs) ∈ own) : ∃ c : List Value,w.heap[b]? = some (.cells (xs ++ c).toArray T (0,0)) ∧ (xs ++ c).length = n:=by
 obtain ⟨⟨o,⟨c,ho,hn⟩,hw⟩,_⟩:=hok.at hm rfl;subst ho;exact ⟨c,hw,hn⟩
theorem run_append_acc {α : Type} {ρ : Rep α} {P : Program} {G : World} {w : World} {fr : Own} {t e t' : TypeId} {i : Nat} {p : Nat × SObj} {a a' : Option Addr} {c c' : Nat} {l l' : List α} {zs : List Value} {agg : Bool}
  (hok : Ok G H (own ++ fr) w) (hp : Own.at own i = some p) (hacc : Acc ρ e H p a c l) (hsrc : SlR ρ H a' c' l')
  (ht : P.underlying t = some (.slice e)) (he : tP P e ρ.sz agg = true) (hz : nB P e = some zs) (hzl : Nat.beq zs.length ρ.sz = true) (hby : Nat.ble (P.bytesOf e) 4096 = true) (hn : l.length + l'.length ≤ 1073741824) :
  ∃ p' a'' c'' w',(Builtin.append_ #[t,t] t' #[.slice a l.length c,.slice a' l'.length c']).run P w = .ok (.slice a'' (l ++ l').length c'') w' ∧ Acc ρ e H p' a'' c'' (l ++ l') ∧ Ok G H (Own.set2 own i p' ++ fr) w':=by
 obtain ⟨_,inf,hi,hsz⟩:=wB he;have hzl:=fV hzl;have hby:=Nat.le_of_ble_eq_true hby;have hby' : inf.bytes ≤ 4096:=by simpa [Program.bytesOf,hi] using hby
 have hmul : (l.length + l'.length) * inf.bytes ≤ 140737488355328:=eK (Nat.mul_le_mul hn hby') zD
 obtain ⟨z,hzz,hzc⟩ : ∃ z,inf.zero = some z ∧ z.cells = zs.toArray:=by
  unfold nB at hz;rw [hi] at hz;simp only at hz;split at hz
  ·rename_i z hzz;exact ⟨z,hzz,rX hz⟩
  cases hz
 cases hl' : l' with
 | nil =>
  have hc:=hacc.le;refine ⟨p,a,c,w,?_,by simpa using hacc,by rw [Own.set2_at hp];exact hok⟩;have hlc : l.length ≤ c:=hc
  have hf : ∀ w : World,(Builtin.firstCells inf.size 0 (.slice a' 0 c')).run P w = .ok #[] w:=by
   intro w;cases a' <;> simp [Builtin.firstCells,loadCells,loadCellsFrom,Sem.run,Pure.pure]
  simp only [gH,List.length_nil];simp [Builtin.append_,jC ht,sizeOf,typeInfo,hi,Builtin.lenOf,hlc,hf];cases a <;> simp [storeCells,Sem.run,Pure.pure]
 | cons x0 lt =>
  rw [← hl'];have hpos : 0 < l'.length:=by rw [hl'];simp
  obtain ⟨cs',hrows,hcells⟩:=hsrc.cells;obtain ⟨b',o',c0,ha',_,_⟩:=hsrc.el 0 x0 (by rw [hl'];rfl)
  have hnews : ∀ j v,cs'[j]? = some v → w.cell? ((⟨b',o',none⟩ : Addr).add j) = some v:=by
   intro j v hj;obtain ⟨cc,T,fz,hH,hc⟩:=hcells b' o' ha' j v hj;rw [tV];simp [World.cell?,hok.pub _ _ hH,hc]
  have wD : cs'.length = l'.length * inf.size:=by rw [hsz];exact hrows.length
  rcases hacc with ⟨rfl,rfl,rfl,hnone⟩ | ⟨xs,rfl,hrow,hxs,hlc⟩
  ·have hrun:=run_append_nil (P:=P) (w:=w) t t' e inf z ht hi hzz ⟨b',o',none⟩ l'.length c' cs' wD hnews hpos (by simp at hn;omega) (by simp at hmul;omega);have hge:=grownCap_ge w l'.length 0 e;refine ⟨(w.heap.size,.row e (grownCap w l'.length 0 e * ρ.sz) cs'),_,_,w.drew.alloc (.cells (cs'.toArray ++ Builtin.zeroCells z.cells (grownCap w l'.length 0 e - l'.length)) e),?_,.inr ⟨cs',rfl,rfl,by simpa using hrows,by simpa using hge⟩,?_⟩
   ·rw [ha'];simpa using hrun
   refine hok.swap hp ⟨(Builtin.zeroCells z.cells (grownCap w l'.length 0 e - l'.length)).toList,by simp,?_⟩;rw [hzc,fQ,sM,hzl,hrows.length,← Nat.add_mul]
   congr 1;omega
  obtain ⟨b,s⟩:=p;simp only at hrow hp ⊢;subst hrow;obtain ⟨ct,hbw,hbn⟩:=aNz hok (jF fr (Own.at_mem hp));by_cases hroom : l.length + l'.length ≤ c
  ·have hfit : l.length * inf.size + cs'.length ≤ (xs ++ ct).toArray.size:=by
    simp only [List.size_toArray];rw [hbn,wD,hsz,← Nat.add_mul];exact Nat.mul_le_mul_right _ hroom
   have hrun:=run_append_room (P:=P) (w:=w) t t' e inf ht hi b l.length c (xs ++ ct).toArray hbw ⟨b',o',none⟩ l'.length c' cs' wD hnews (aFu hrows.one) hroom hfit;refine ⟨(b,.row e (c * ρ.sz) (xs ++ cs')),_,_,w.setRow b ((xs ++ ct).toArray.toList.take (l.length * inf.size) ++ cs' ++ (xs ++ ct).toArray.toList.drop (l.length * inf.size + cs'.length)).toArray,?_,.inr ⟨xs ++ cs',rfl,rfl,hxs.append hrows,by simpa using hroom⟩,?_⟩
   ·rw [ha'];simpa using hrun
   have hxl : xs.length = l.length * inf.size:=by rw [hsz];exact hxs.length
   refine hok.write2 hp rfl hbw ⟨(xs ++ ct).drop (l.length * inf.size + cs'.length),?_,?_⟩
   ·rw [List.take_append_of_le_length (by simp [hxl]),fJ (by simp [hxl])]
   have h5 : (xs ++ ct).length = c * ρ.sz:=hbn;simp only [List.size_toArray] at hfit;simp only [fQ,List.length_drop] at h5 hfit ⊢;omega
  have hrun:=run_append_grow (P:=P) (w:=w) t t' e inf z ht hi hzz ⟨b,0,none⟩ l.length c xs (by rw [hsz];exact hxs.length)
   (fun j v hj=>by
    have hj':=(bY.1 hj).1;rw [tV];simp only [World.cell?,hbw,Nat.zero_add];simp only [Option.isSome_none,Bool.false_eq_true,if_false,List.getElem?_toArray]
    rw [List.getElem?_append_left hj',hj])
   ⟨b',o',none⟩ l'.length c' cs' wD hnews zO zO (growslice_fits zO hmul)
  have hge:=grownCap_ge w (l.length + l'.length) c e;refine ⟨(w.heap.size,.row e (grownCap w (l.length + l'.length) c e * ρ.sz) (xs ++ cs')),_,_,w.drew.alloc (.cells (xs.toArray ++ cs'.toArray ++ Builtin.zeroCells z.cells (grownCap w (l.length + l'.length) c e - (l.length + l'.length))) e),?_,.inr ⟨xs ++ cs',rfl,rfl,hxs.append hrows,by simpa using hge⟩,?_⟩
  ·rw [ha'];simpa using hrun
  refine hok.swap hp ⟨(Builtin.zeroCells z.cells (grownCap w (l.length + l'.length) c e - (l.length + l'.length))).toList,by simp,?_⟩;rw [hzc,fQ,sM,hzl,fQ,hxs.length,hrows.length,← Nat.add_mul,← Nat.add_mul]
  congr 1;omega
theorem iV (i : Nat) {α : Type} {ρ : Rep α} {t e : TypeId} {x y : Operand} {p : Nat × SObj} {a a' : Option Addr} {c c' n n' : Nat} {l l' : List α} {zs : List Value} {agg : Bool}
  (hx : ev env x = some (.slice a n c)) (hp : Own.at own i = some p) (hacc : Acc ρ e H p a c l) (hln : n = l.length) (hy : ev env y = some (.slice a' n' c')) (hsrc : SlR ρ H a' c' l') (hln' : n' = l'.length)
  (ht : C.P.underlying t = some (.slice e)) (he : tP C.P e ρ.sz agg = true) (hz : nB C.P e = some zs) (hzl : Nat.beq zs.length ρ.sz = true) (hby : Nat.ble (C.P.bytesOf e) 4096 = true) (hn : l.length + l'.length ≤ 1073741824) (hd : iU C.N dst = true)
  (h : ∀ p' a'' c'',Acc ρ e H p' a'' c'' (l ++ l') → XO C ops Q rest ⟨jI dst (.slice a'' (l ++ l').length c'') env,df,H,Own.set2 own i p'⟩) :
  XO C ops Q (⟨dst,.call { callee:=.builtin .append,args:=#[x,y],argTypes:=#[t,t] },ty,pos,af,none⟩ :: rest) ⟨env,df,H,own⟩:=by
 refine vO rfl rfl hd fun ρ' w fr ha hok=>?_;subst hln;subst hln';obtain ⟨p',a'',c'',w',hrun,hacc',hok'⟩:=run_append_acc (P:=C.P) (t:=t) (t':=ty) hok hp hacc hsrc ht he hz hzl hby hn;refine ⟨.value (.slice a'' (l ++ l').length c''),_,w',H,_,?_,.inl rfl,Le.refl _,hok',h p' a'' c'' hacc'⟩;simp only [execOp,resolve,Sem.run_bind];simp only [Pure.pure,Sem.run,Result.andThen,invoke,builtin,Sem.run_bind];simp [ha _ _ hx,ha _ _ hy,hrun,Result.andThen,Sem.run]
theorem aF9 {σ : Own} (h : ∀ b,XO C ops Q rest ⟨env,df,H,(b,.nothing) :: own⟩) : XO C ops Q rest ⟨env,df,H,own⟩:=by
 intro a w hr;exact h 0 a w ⟨hr.size,hr.get,hr.ok⟩
theorem lR {c : Code} (b : Nat) (h : XC C c Q ⟨env,df,H,(b,.nothing) :: own⟩) : XC C c Q ⟨env,df,H,own⟩:=by
 intro a w hr;exact h a w ⟨hr.size,hr.get,hr.ok⟩
theorem wA {α : Type} {ρ : Rep α} {T : TypeId} {G : World} {w : World} {fr : Own} {i : Nat} {p : Nat × SObj} {a : Option Addr} {c : Nat} {l : List α} {own' : Own} (hok : Ok G H (own ++ fr) w) (hp : Own.at own i = some p) (hacc : Acc ρ T H p a c l) (hdl : Own.del own i = some own') :
  ∃ H',Le H H' ∧ SlR ρ H' a c l ∧ Ok G H' (own' ++ fr) w:=by
 obtain ⟨pre,post,rfl,rfl⟩:=Own.at_split hp;rw [Own.del_split] at hdl;cases hdl;simp only [eM,fP] at hok ⊢;rcases hacc with ⟨rfl,rfl,rfl,hs⟩ | ⟨xs,rfl,hs,hr,hl⟩
 ·exact ⟨H,Le.refl _,SlR.nil0 ρ H,hok.shrink (Le.refl _) (List.Sublist.append_left (List.sublist_cons_self _ _) _)⟩
 obtain ⟨b,s⟩:=p;simp only at hs;subst hs;obtain ⟨H',o,hle,hb,⟨ct,ho,hct⟩,hok'⟩:=hok.publish rfl;subst ho;exact ⟨H',hle,SlR.of_rows hb (fun j u hj=>by rw [List.getElem?_toArray,List.getElem?_append_left (bY.1 hj).1];exact hj) (hr.mono hle) hl,hok'⟩
theorem uU (i : Nat) {α : Type} {ρ : Rep α} {T : TypeId} {cd : Code} {p : Nat × SObj} {a : Option Addr} {c : Nat} {l : List α} {own' : Own} (hp : Own.at own i = some p) (hacc : Acc ρ T H p a c l) (hdl : Own.del own i = some own')
  (h : ∀ H',Le H H' → SlR ρ H' a c l → XC C cd Q ⟨env,df,H',own'⟩) : XC C cd Q ⟨env,df,H,own⟩:=by
 intro act w hr;obtain ⟨ms,hdf,hok⟩:=hr.ok;obtain ⟨H',hle,hs,hok'⟩:=wA hok hp hacc hdl;exact Go.wpIn_mono (h H' hle hs act w ⟨hr.size,hr.get,ms,hdf,hok'⟩) fun _ _ _ l=>uG l hle fun _ _ q=>q
theorem iO (i : Nat) {α : Type} {ρ : Rep α} {T : TypeId} {p : Nat × SObj} {a : Option Addr} {c : Nat} {l : List α} {own' : Own} (hp : Own.at own i = some p) (hacc : Acc ρ T H p a c l) (hdl : Own.del own i = some own')
  (h : ∀ H',Le H H' → SlR ρ H' a c l → XO C ops Q rest ⟨env,df,H',own'⟩) : XO C ops Q rest ⟨env,df,H,own⟩:=by
 intro act w hr;obtain ⟨ms,hdf,hok⟩:=hr.ok;obtain ⟨H',hle,hs,hok'⟩:=wA hok hp hacc hdl;exact lZ hle _ _ _ (h H' hle hs act w ⟨hr.size,hr.get,ms,hdf,hok'⟩)
theorem Acc.lit {α : Type} {ρ : Rep α} {T : TypeId} {b : Nat} {cs : List Value} {l : List α} (h : iH ρ H cs l) : Acc ρ T H (b,.row T (l.length * ρ.sz) cs) (some ⟨b,0,none⟩) l.length l:=.inr ⟨cs,rfl,rfl,h,gT _⟩
theorem XO.toRow (i : Nat) {b : Nat} {T : TypeId} {cs : List Value} (hp : Own.at own i = some (b,.cells T cs)) (h : XO C ops Q rest ⟨env,df,H,Own.set2 own i (b,.row T cs.length cs)⟩) : XO C ops Q rest ⟨env,df,H,own⟩:=by
 intro act w hr;obtain ⟨ms,hdf,hok⟩:=hr.ok;refine h act w ⟨hr.size,hr.get,ms,hdf,?_⟩;obtain ⟨pre,post,rfl,rfl⟩:=Own.at_split hp;rw [Own.set2_split];simp only [eM,fP] at hok ⊢;have hb:=aGg hok (b:=b) (T:=T) (cs:=cs) zP;exact hok.write (s':=.row T cs.length cs) rfl ⟨[],by simp,by simp⟩ rfl rfl rfl hb (fun _ _=>rfl)
end
end Go.XL

set_option linter.unnecessarySimpa false
namespace Go.XL
/-! ### Scopes through which the run goes without a goto -/
theorem sY {P : Program} {b : Frame} {a : Act} {k : List Item} {cs : List Frame} {w : World} {c : Code} : step P (lone (b.atR a (.code (.scope c) :: k)) cs w) = .next (lone (b.atR a (.code c :: .inScope c :: k)) cs w) :=
 step_lone_go (by simp [stepG,stepG.exec,Frame.atR])
theorem stepR_inScope {P : Program} {b : Frame} {a : Act} {k : List Item} {cs : List Frame} {w : World} {c : Code} : step P (lone (b.atR a (.inScope c :: k)) cs w) = .next (lone (b.atR a k) cs w) :=
 step_lone_go (by simp [stepG,stepG.exec,Frame.atR])
def aUx (Q : Exit → St → Prop) : Exit → St → Prop
 | .goto _,_=>False
 | e,σ=>Q e σ
theorem XC.scope {C : Ctx} {c : Code} {Q : Exit → St → Prop} {σ : St} (h : XC C c (aUx Q) σ) : XC C (.scope c) Q σ:=by
 intro a w hr b k cs hro hb hroom;obtain ⟨e,a₁,w₁,hq,harr⟩:=h a w hr b (.inScope c :: k) cs hro hb hroom;have h0 : (lone (b.atR a (.code (.scope c) :: k)) cs w).fenced C.P (Fr C.r):=fenced_calm hb hroom rfl;obtain ⟨τ,hr1,hle,hq⟩:=hq;have hex : ∀ id,exitTo id (.inScope c :: k) = exitTo id k:=fun id=>by simp [exitTo]
 cases e with
 | normal=>exact ⟨.normal,a₁,w₁,⟨τ,hr1,hle,hq⟩,.head h0 sY (StepsIn.trans harr (.one (fenced_calm hb hroom rfl) stepR_inScope))⟩
 | exit id =>
  refine ⟨.exit id,a₁,w₁,⟨τ,hr1,hle,hq⟩,fun k' hk=>.head h0 sY (harr.1 k' (by rw [hex];exact hk)),fun hr' hk=>?_⟩;obtain ⟨k₁,h1,h2⟩:=harr.2 hr' (by rw [hex];exact hk);exact ⟨k₁,h1,.head h0 sY h2⟩
 | goto l=>exact hq.elim
 | ret=>exact ⟨_,a₁,w₁,⟨τ,hr1,hle,hq⟩,.of_steps (.one h0 sY) harr⟩
 | panic ch=>exact ⟨_,a₁,w₁,⟨τ,hr1,hle,hq⟩,.of_steps (.one h0 sY) harr⟩
 | outgrown=>exact ⟨_,a₁,w₁,⟨τ,hr1,hle,hq⟩,.of_steps (.one h0 sY) harr⟩
theorem scopeX_ret {Q : Exit → St → Prop} {σ : St} (h : Q .ret σ) : aUx Q .ret σ:=h
def gU (l : List Oper) (j : Nat) : Option Nat:=match l[j]? with | some o=>o.dst | none=>none
def gC (c : Value) : Value → Hp → Prop:=fun v _=>v = c
theorem aH (c : Value) : ∀ v H H',Le H H' → gC c v H → gC c v H':=fun _ _ _ _ h=>h
def slF {α : Type} (ρ : Rep α) (l : List α) : Value → Hp → Prop:=fun v H=>∃ b,v = .slice (some ⟨b,0,none⟩) l.length l.length ∧ SlR ρ H (some ⟨b,0,none⟩) l.length l
theorem oQ {α : Type} (ρ : Rep α) (l : List α) : ∀ v H H',Le H H' → slF ρ l v H → slF ρ l v H':=fun _ _ _ hle ⟨b,h1,h2⟩=>⟨b,h1,h2.mono hle⟩
def jN (F : List (Value → Hp → Prop)) : Nat → Value → Hp → Prop
 | 0=>match F with | f :: _=>f | []=>fun _ _=>False
 | n + 1=>match F with | _ :: r=>jN r n | []=>fun _ _=>False
def yP (o : Oper) : List Nat:=o.after.toList.filterMap fun e=>match e.ground with | .data=>some e.on | _=>none
def nE (l : List Oper) (F : List (Value → Hp → Prop)) (H' : Hp) : List Nat → gY → (gY → Prop) → Prop
 | [],acc,K=>K acc
 | j :: js,acc,K=>match gU l j with
  | some t=>∀ v,jN F j v H' → nE l F H' js ((t,v) :: acc) K
  | none=>True
def aMi (Gd : Hp → Prop) (dst : Option Tmp) (f : Value → Hp → Prop) (env : gY) (df : List Deferred) (own : Own) : Exit → St → Prop
 | .normal,σ=>Gd σ.H ∧ σ.df = df ∧ σ.own = own ∧ ∃ v,σ.env = jI dst v env ∧ f v σ.H
 | _,_=>False
def uD (Gd : Hp → Prop) (C : Ctx) (l : List Oper) (F : List (Value → Hp → Prop)) (env : gY) (df : List Deferred) (H : Hp) (own : Own) (m : Nat) : Nat → List Oper → Prop
 | _,[]=>True
 | k,o :: rest=>bif Nat.blt k m then
   (∀ X H',Le H H' → Gd H' → nE l F H' (yP o) [] fun acc=>XO C l.toArray (aMi Gd o.dst (jN F k) (acc ++ (env ++ X)) df own) [o] ⟨acc ++ (env ++ X),df,H',own⟩) ∧ uD Gd C l F env df H own m (k + 1) rest
  else True
def aE3 : List (Value → Hp → Prop) → Prop
 | []=>True
 | f :: r=>(∀ v H H',Le H H' → f v H → f v H') ∧ aE3 r
def aW0 (F : List (Value → Hp → Prop)) : Prop:=∀ f ∈ F,∀ v H H',Le H H' → f v H → f v H'
theorem xK {F : List (Value → Hp → Prop)} (h : aE3 F) : aW0 F:=by
 induction F with
 | nil=>intro f hf;cases hf
 | cons g F ih =>
  intro f hf;rcases List.mem_cons.1 hf with rfl | hf
  ·exact h.1
  exact ih h.2 f hf
def bindsAll (o : Oper) (i : Nat) : Bool:=o.after.any fun e=>Region.binds .any e && Nat.beq e.on i
def sW (l : List Oper) : Nat → Oper → Nat → Bool
 | 0,_,_=>false
 | f + 1,o,j=>(o.after.toList.any fun e=>Region.binds .any e && Nat.beq e.on j) || (o.after.toList.any fun e=>Region.binds .any e && match l[e.on]? with | some o'=>sW l f o' j | none=>false)
def aRi (m : Nat) (l : List Oper) (keys : List Nat) : Bool :=
 Nat.ble m l.length && (List.range m).all (fun i=>match l[i]? with
  | some o=>o.guard.isNone && wM o.op && (match o.dst with
   | some t=>!keys.contains t && (List.range m).all (fun j=>Nat.beq i j || !(gU l j == some t))
   | none=>false) && (o.after.toList.all fun e=>!Region.binds .any e || Nat.blt e.on i) && (yP o).all (fun j=>Nat.blt j m && o.after.toList.any fun e=>Region.binds .any e && Nat.beq e.on j)
  | none=>false) &&
 (List.range l.length).all (fun i=>Nat.blt i m || match l[i]? with
  | some o=>(List.range i).all (fun j=>sW l l.length o j) && (o.after.toList.all fun e=>!Region.binds .any e || Nat.blt e.on i)
  | none=>false)
theorem rR {F : List (Value → Hp → Prop)} (h : aW0 F) {i : Nat} {v : Value} {H H' : Hp} (hle : Le H H') (hf : jN F i v H) : jN F i v H':=by
 induction F generalizing i with
 | nil=>cases i <;> exact hf.elim
 | cons f F ih =>
  cases i with
  | zero=>exact h f zP v H H' hle hf
  | succ i=>exact ih (fun g hg=>h g (by simp [hg])) hf
theorem gY.get_append {a b : gY} {t : Nat} : gY.get (a ++ b) t = (gY.get a t).or (gY.get b t):=by
 induction a with
 | nil=>simp [gY.get]
 | cons p r ih =>
  obtain ⟨k,u⟩:=p;simp only [fP,gY.get];cases hk : Nat.beq k t with
  | true=>simp
  | false=>simpa using ih
theorem vY {l : List Oper} {F : List (Value → Hp → Prop)} {H' : Hp} {val : Nat → Value} : ∀ (js : List Nat) (acc : gY) (K : gY → Prop),nE l F H' js acc K → (∀ j ∈ js,jN F j (val j) H' ∧ (gU l j).isSome = true) →
  ∃ acc',K (acc' ++ acc) ∧ ∀ t v,(t,v) ∈ acc' → ∃ j ∈ js,gU l j = some t ∧ v = val j
 | [],acc,K,h,_=>⟨[],h,fun _ _ h=>by cases h⟩
 | j :: js,acc,K,h,hf=>by
  obtain ⟨h1,h2⟩:=hf j zP;obtain ⟨t,ht⟩:=Option.isSome_iff_exists.1 h2;simp only [nE,ht] at h;obtain ⟨acc',hk,hm⟩:=vY js _ K (h (val j) h1) (fun j' hj'=>hf j' (by simp [hj']));refine ⟨acc' ++ [(t,val j)],by simpa using hk,fun t' v' hm'=>?_⟩;rcases gM.1 hm' with hm' | hm'
  ·obtain ⟨j',hj',h3⟩:=hm t' v' hm';exact ⟨j',by simp [hj'],h3⟩
  simp only [lW,Prod.mk.injEq] at hm';obtain ⟨rfl,rfl⟩:=hm';exact ⟨j,by simp,ht,rfl⟩
theorem oV {C : Ctx} {o : Oper} {a : Act} {w : World} {K K' : Act → World → Prop} {Q Q' : Exit → Act → World → Prop} (h : ∀ a w,K a w → K' a w) (hq : ∀ e a w,e ≠ .normal → Q e a w → Q' e a w)
  (hh : o.wpIn (Fr C.r) 0 C.P a w K Q) : o.wpIn (Fr C.r) 0 C.P a w K' Q':=by
 refine ⟨hh.1,?_⟩;have h2:=hh.2;generalize (o.semAt (Fr C.r).round a.eval).run C.P w = res at h2;have hlo : LetsOut Q → LetsOut Q':=fun ⟨a,w,l⟩=>⟨a,w,hq _ _ _ zP l⟩
 cases res with
 | ok nx w' =>
  cases nx with
  | value v=>exact h _ _ h2
  | skip=>exact h _ _ h2
  | defer d=>exact h _ _ h2
  | enter f args =>
   refine ⟨h2.1,h2.2.1,fun cs hcs=>?_⟩;obtain ⟨e,w',fr,hR,hx⟩:=h2.2.2 cs hcs;refine ⟨e,w',fr,?_,hx⟩;cases e with
   | returned v=>exact h _ _ hR
   | panicked ch=>exact hq _ _ _ zP hR
   | outgrown=>exact hlo hR
  | row row args=>exact ⟨h2.1,h2.2.mono fun _ _ hR=>h _ _ hR⟩
  | round l f tmps a_s bd =>
   refine ⟨h2.1,h2.2.mono fun e w hR=>?_⟩;cases e with
   | returned v=>exact h _ _ hR
   | panicked ch=>exact hq _ _ _ zP hR
   | outgrown=>exact hlo hR
  | _=>exact h2.elim
 | halt hh w' =>
  cases hh with
  | panic v=>exact hq _ _ _ zP h2
  | _=>exact h2.elim
theorem aRo {a b : Nat} (h : a ≠ b) : Nat.beq a b = false:=by
 cases hb : Nat.beq a b with
 | true=>exact absurd (fV hb) h
 | false=>rfl
theorem aE7 {a b : Nat} (h : b ≤ a) : Nat.blt a b = false:=by
  cases hb : Nat.blt a b with
  | true=>have : a < b:=by simpa using hb
          omega
  | false=>rfl
theorem aM6 {p q : Nat → Bool} : ∀ (l : List Nat),(∀ i,q i = true → p i = true) → (∃ i,i ∈ l ∧ p i = true ∧ q i = false) → l.countP q < l.countP p
 | [],_,⟨i,h,_⟩=>by cases h
 | x :: l,hq,⟨i,hi,hp,hn⟩=>by
  have hle : l.countP q ≤ l.countP p:=List.countP_mono_left fun a _ h=>hq a h;rw [List.countP_cons,List.countP_cons];by_cases hx : x = i
  ·subst hx;rw [hp,hn];simp;omega
  have hi' : i ∈ l:=by rcases List.mem_cons.1 hi with h | h;exact absurd h.symm hx;exact h
  have ih:=aM6 l hq ⟨i,hi',hp,hn⟩;cases h1 : q x with
  | true=>rw [hq x h1];simp;omega
  | false=>simp;omega
abbrev jU (L : Array Bool) (i : Nat) : Bool:=L.getD i false
abbrev unl (n : Nat) (L : Array Bool) : Nat:=(List.range n).countP fun i=>!jU L i
theorem nC {l : List Oper} {L : Array Bool} (hdown : ∀ (i : Nat) (o : Oper),l[i]? = some o → jU L i = true → ∀ e ∈ o.after,Region.binds .any e = true → jU L e.on = true) : ∀ (f : Nat) (o : Oper) (j : Nat),
  (∀ e ∈ o.after,Region.binds .any e = true → jU L e.on = true) → sW l f o j = true → jU L j = true
 | 0,_,_,_,h=>by cases h
 | f + 1,o,j,ho,h=>by
  simp only [sW,Bool.or_eq_true,List.any_eq_true,fL] at h;rcases h with ⟨e,he,hb,hon⟩ | ⟨e,he,hb,hw⟩
  ·have:=ho e (by simpa using he) hb;rwa [fV hon] at this
  split at hw
  ·rename_i o' ho'
   exact nC hdown f o' j (hdown _ _ ho' (ho e (by simpa using he) hb)) hw
  cases hw
theorem jT {L : Array Bool} {i : Nat} (hi : i < L.size) (j : Nat) : jU (L.setIfInBounds i true) j = if j = i then true else jU L j:=by
 unfold jU;by_cases h : j = i
 ·subst h;simp [hi]
 rw [dG h];simp [Array.getElem?_setIfInBounds_ne (Ne.symm h)]
theorem qT {n : Nat} {L : Array Bool} {i : Nat} (hs : L.size = n) (hi : i < n) (hl : jU L i = false) : unl n (L.setIfInBounds i true) < unl n L:=by
 refine aM6 _ ?_ ⟨i,by simpa using hi,by simp [hl],?_⟩
 ·intro j hj;rw [jT zO] at hj;split at hj
  ·cases hj
  exact hj
 rw [jT zO];simp
section
variable {C : Ctx} {Q : Exit → St → Prop} {env : gY} {df : List Deferred} {H : Hp} {own : Own}
theorem aMb {Gd : Hp → Prop} {l : List Oper} {F : List (Value → Hp → Prop)} {m : Nat} : ∀ (rest : List Oper) (k : Nat),uD Gd C l F env df H own m k rest → ∀ (i : Nat) (o : Oper),rest[i]? = some o → k + i < m →
  ∀ X H',Le H H' → Gd H' → nE l F H' (yP o) [] fun acc=>XO C l.toArray (aMi Gd o.dst (jN F (k + i)) (acc ++ (env ++ X)) df own) [o] ⟨acc ++ (env ++ X),df,H',own⟩
 | [],k,_,i,o,hi,_=>by simp at hi
 | x :: rest,k,h,i,o,hi,hlt=>by
  simp only [uD] at h;rw [show Nat.blt k m = true by simp;omega] at h;cases i with
  | zero=>simp only [mF,Option.some.injEq] at hi;subst hi;exact h.1
  | succ i =>
   have:=aMb rest (k + 1) h.2 i o (by simpa using hi) zO;rwa [show k + 1 + i = k + (i + 1) by omega] at this
theorem vC {l : List Oper} {Q' : Exit → Act → World → Prop} {m : Nat}
  (hck : ∀ (i : Nat) (o : Oper),m ≤ i → l[i]? = some o → (∀ j,j < i → sW l l.length o j = true) ∧ (∀ e ∈ o.after,Region.binds .any e = true → e.on < i))
  (hdc : ∀ (i : Nat) (o : Oper),l[i]? = some o → ∀ e ∈ o.after,Region.binds .any e = true → e.on < i) :
  ∀ (fuel k : Nat) (L : Array Bool) (a : Act) (w : World),m ≤ k → L.size = l.length → l.length - k ≤ fuel → k ≤ l.length → (∀ j,jU L j = decide (j < k)) → wpListIn (Fr C.r) 0 C.P l.toArray Q' (l.drop k) a w →
   wpAnyIn (Fr C.r) 0 C.P .any l.toArray Q' fuel L a w:=by
 intro fuel
 induction fuel with
 | zero =>
  intro k L a w hmk hs hf hkn hL h;have hk : k = l.length:=zO
  subst hk;rw [List.drop_length] at h;refine ⟨?_,h⟩;rw [List.eq_nil_iff_forall_not_mem];intro j hj;rw [mem_ready] at hj;obtain ⟨h0,o,ho,_⟩:=hj;have hlt : j < l.length:=by simpa using (Array.getElem?_eq_some_iff.1 ho).1
  have:=hL j;unfold jU at this;rw [dY,gG zO] at this h0;simp only [Option.getD_some] at this h0;rw [h0] at this;simp at this;omega
 | succ fuel ih =>
  intro k L a w hmk hs hf hkn hL h
  have hready : ∀ j,j ∈ Region.ready .any l.toArray L → j = k ∧ k < l.length:=by
   intro j hj;rw [mem_ready] at hj;obtain ⟨h0,o,ho,hall⟩:=hj;have hlt : j < l.length:=by simpa using (Array.getElem?_eq_some_iff.1 ho).1
   have hlj:=hL j;unfold jU at hlj;rw [dY,gG zO] at hlj h0;simp only [Option.getD_some] at hlj h0;rw [h0] at hlj;simp at hlj;rcases gJ k j with hkj | hkj
   ·have hw:=(hck j o zO (by simpa using ho)).1 k hkj
    have h1:=nC (L:=L) (fun i o hi hl e he hb=>by
     rw [hL] at hl ⊢;have:=hdc i o hi e he hb
     simp at hl ⊢;omega) _ o k hall hw
    rw [hL k] at h1;simp at h1
   exact ⟨zO,zO⟩
  rcases gJ k l.length with hlt | hge
  ·have hk : l[k]? = some l[k]:=aJ hlt;have hdrop : l.drop k = l[k] :: l.drop (k + 1):=by rw [List.drop_eq_getElem_cons hlt]
   rw [hdrop] at h;constructor
   ·intro hnil
    have : k ∈ Region.ready .any l.toArray L:=by
     rw [mem_ready];have h2:=hL k;unfold jU at h2;refine ⟨?_,l[k],by simpa using hk,?_⟩
     ·rw [dY,gG zO] at h2 ⊢;simpa using h2
     intro e he hb;have h3:=hL e.on;unfold jU at h3;rw [h3];simpa using (hck k _ hmk hk).2 e he hb
    rw [hnil] at this;cases this
   intro j hj;obtain ⟨rfl,_⟩:=hready j hj;unfold wpOpIn;rw [List.getElem?_toArray,hk];simp only [wpListIn] at h
   have hnext : ∀ a w,wpListIn (Fr C.r) 0 C.P l.toArray Q' (l.drop (j + 1)) a w → wpAnyIn (Fr C.r) 0 C.P .any l.toArray Q' fuel (L.setIfInBounds j true) a w:=by
    intro a w h;refine ih (j + 1) _ a w zO (by simpa using hs) zO zO ?_ h;intro i;rw [jT zO];split
    ·rename_i e;subst e;simp
    rename_i e;rw [hL i];simp;omega
   simp only;split
   ·rename_i hw;rw [eX hw] at h;exact oV hnext (fun _ _ _ _ h=>h) h
   rename_i hw;rw [dG hw] at h;exact ⟨h.1,hnext _ _ h.2⟩
  have hk : k = l.length:=zO
  subst hk;rw [List.drop_length] at h;exact ⟨fun _=>h,fun j hj=>by have:=(hready j hj).2;omega⟩
theorem nX (Gd : Hp → Prop) (hG : Gd H) {id : Nat} {l : List Oper} (m : Nat) (F : List (Value → Hp → Prop)) (hm : C.P.follows .mixedOrders = true) (hck : aRi m l (env.map Prod.fst) = true) (hN : ((List.range m).all fun i=>match gU l i with | some t=>Nat.blt t C.N | none=>false) = true) (hmono' : aE3 F)
  (steps : uD Gd C l F env df H own m 0 l)
  (tail : ∀ H',Le H H' → Gd H' → nE l F H' (List.range m) [] fun acc=>XO C l.toArray Q (l.drop m) ⟨acc ++ env,df,H',own⟩) : XC C (.region id l.toArray true) Q ⟨env,df,H,own⟩:=by
 have hmono:=xK hmono';intro a₀ w₀ hr₀;refine wpIn_region_any hm ?_;simp only [aRi,fL,List.all_eq_true,fA] at hck;obtain ⟨⟨hml,hck1⟩,hck2⟩:=hck;have hml:=Nat.le_of_ble_eq_true hml
 have hpre : ∀ i,i < m → ∃ o t,l[i]? = some o ∧ o.guard = none ∧ wM o.op = true ∧ o.dst = some t ∧ t ∉ env.map Prod.fst ∧ (∀ j,j < m → i ≠ j → gU l j ≠ some t) ∧ (∀ e ∈ o.after,Region.binds .any e = true → e.on < i) ∧ (∀ j ∈ yP o,j < m ∧ ∃ e ∈ o.after,Region.binds .any e = true ∧ e.on = j):=by
  intro i hi;have h:=hck1 i hi;split at h
  ·rename_i o ho
   simp only [fL,List.all_eq_true] at h;obtain ⟨⟨⟨⟨hg,hnd⟩,hd⟩,haf⟩,hp⟩:=h;split at hd
   ·rename_i t ht
    simp only [fL,List.all_eq_true,fA,Bool.not_eq_true',List.contains_eq_mem,decide_eq_false_iff_not] at hd;refine ⟨o,t,ho,by simpa using hg,hnd,ht,hd.1,?_,?_,?_⟩
    ·intro j hj hne he;have:=hd.2 j hj;rw [he] at this;simp at this;exact hne this
    ·intro e he hb;have:=haf e (by simpa using he);simpa [hb] using this
    intro j hj;have:=hp j hj;simp only [List.any_eq_true,fL] at this;obtain ⟨h1,e,he,hb,hon⟩:=this;exact ⟨by simpa using h1,e,by simpa using he,hb,fV hon⟩
   cases hd
  cases h
 have htl : ∀ (i : Nat) (o : Oper),m ≤ i → l[i]? = some o → (∀ j,j < i → sW l l.length o j = true) ∧ (∀ e ∈ o.after,Region.binds .any e = true → e.on < i):=by
  intro i o hi ho;have hlt:=(bY.1 ho).1;have h:=hck2 i hlt;rw [ho] at h;rw [show Nat.blt i m = false from aE7 hi] at h;simp only [Bool.false_or,fL,List.all_eq_true,fA] at h;refine ⟨fun j hj=>h.1 j hj,fun e he hb=>?_⟩
  ·have:=h.2 e (by simpa using he);simpa [hb] using this
 have hdc : ∀ (i : Nat) (o : Oper),l[i]? = some o → ∀ e ∈ o.after,Region.binds .any e = true → e.on < i:=by
  intro i o ho;rcases gJ i m with h | h
  ·obtain ⟨o2,t,ho2,_,_,_,_,_,haf,_⟩:=hpre i h;rw [ho] at ho2;cases ho2;exact haf
  exact (htl i o h ho).2
 have main : ∀ (fuel : Nat) (L : Array Bool) (a : Act) (w : World) (val : Nat → Value) (H' : Hp),L.size = l.length → unl l.length L ≤ fuel → Le H H' → Gd H' → (∀ (i : Nat) (o : Oper),l[i]? = some o → jU L i = true → ∀ e ∈ o.after,Region.binds .any e = true → jU L e.on = true) → (∀ j,m ≤ j → jU L j = false) →
   a.tmps.size = C.N → (∀ t v,env.get t = some v → a.tmps.getD t undef = v) → (∃ ms : List Nat,a.defers = ms.map mark ++ df ∧ Ok C.G H' (own ++ (ms.map hid ++ C.hid)) w) →
   (∀ i,i < m → jU L i = true → ∀ t,gU l i = some t → a.tmps.getD t undef = val i ∧ jN F i (val i) H') →
   wpAnyIn (Fr C.r) 0 C.P .any l.toArray (nW C H Q) fuel L a w:=by
  intro fuel
  induction fuel with
  | zero =>
   intro L a w val H' hs hu hle hGd hdown hT hsz henv hok hfacts
   have hall : ∀ j,j < m → jU L j = true:=by
    intro j hj;cases hx : jU L j with
    | true=>rfl
    | false =>
     have:=qT (L:=L) (i:=j) hs zO hx;omega
   have hm0 : l.length = m:=by
    rcases gJ m l.length with h | h
    ·have:=qT (L:=L) (i:=m) hs h (hT m (gT _));omega
    omega
   obtain ⟨acc',hk,hmem⟩:=vY (val:=val) (List.range m) [] _ (tail H' hle hGd) (fun j hj=>by
    have hj:=fA.1 hj;obtain ⟨o,t,ho,_,_,ht,_⟩:=hpre j hj;have : gU l j = some t:=by simp [gU,ho,ht]
    exact ⟨(hfacts j hj (hall j hj) t this).2,by rw [this];rfl⟩)
   refine vC (m:=m) htl hdc 0 m L a w (gT _) hs zO hml ?_ ?_
   ·intro j;rcases gJ j m with h | h
    ·rw [hall j h];simp [h]
    rw [hT j h];simp;omega
   refine lZ hle _ _ _ (hk a w ⟨hsz,?_,hok⟩);intro t v hg;simp only [gH] at hg;rw [gY.get_append] at hg;cases hga : gY.get acc' t with
   | none=>rw [hga] at hg;exact henv t v (by simpa using hg)
   | some u =>
    rw [hga] at hg;simp at hg;subst hg
    obtain ⟨j,hj,hd,rfl⟩:=hmem t u (by
     clear hmem hk
     induction acc' with
     | nil=>cases hga
     | cons p r ih =>
      obtain ⟨k,u'⟩:=p;simp only [gY.get] at hga;cases hb : Nat.beq k t with
      | true=>rw [hb] at hga;simp at hga;subst hga;rw [← fV hb];simp
      | false=>rw [hb] at hga;exact mX _ (ih hga))
    have hj:=fA.1 hj;exact (hfacts j hj (hall j hj) t hd).1
  | succ fuel ih =>
   intro L a w val H' hs hu hle hGd hdown hT hsz henv hok hfacts;by_cases hall : ∀ j,j < m → jU L j = true
   ·obtain ⟨acc',hk,hmem⟩:=vY (val:=val) (List.range m) [] _ (tail H' hle hGd) (fun j hj=>by
     have hj:=fA.1 hj;obtain ⟨o,t,ho,_,_,ht,_⟩:=hpre j hj;have : gU l j = some t:=by simp [gU,ho,ht]
     exact ⟨(hfacts j hj (hall j hj) t this).2,by rw [this];rfl⟩)
    have hcount : l.length - m ≤ fuel + 1:=by
     refine eK ?_ hu
     have : unl l.length L = (List.range l.length).countP fun i=>decide (m ≤ i):=by
      refine List.countP_congr fun i hi=>?_;rcases gJ i m with h | h
      ·rw [hall i h];simp;omega
      rw [hT i h];simp [h]
     rw [this]
     have key : ∀ n,m ≤ n → (List.range n).countP (fun i=>decide (m ≤ i)) = n - m:=by
      intro n
      induction n with
      | zero=>intro h;simp
      | succ n ihn =>
       intro h;rw [List.range_succ,List.countP_append];rcases gJ n m with h' | h'
       ·have : n + 1 = m:=zO
        subst this
        have h0 : (List.range n).countP (fun i=>decide (n + 1 ≤ i)) = 0:=by
         rw [List.countP_eq_zero];intro i hi;simp at hi ⊢;omega
        rw [h0];simp
       rw [ihn h'];simp [h'];omega
     rw [key _ hml];exact gT _
    refine vC (m:=m) htl hdc (fuel + 1) m L a w (gT _) hs hcount hml ?_ ?_
    ·intro j;rcases gJ j m with h | h
     ·rw [hall j h];simp [h]
     rw [hT j h];simp;omega
    refine lZ hle _ _ _ (hk a w ⟨hsz,?_,hok⟩);intro t v hg;simp only [gH] at hg;rw [gY.get_append] at hg;cases hga : gY.get acc' t with
    | none=>rw [hga] at hg;exact henv t v (by simpa using hg)
    | some u =>
     rw [hga] at hg;simp at hg;subst hg
     obtain ⟨j,hj,hd,rfl⟩:=hmem t u (by
      clear hmem hk
      induction acc' with
      | nil=>cases hga
      | cons p r ih =>
       obtain ⟨k,u'⟩:=p;simp only [gY.get] at hga;cases hb : Nat.beq k t with
       | true=>rw [hb] at hga;simp at hga;subst hga;rw [← fV hb];simp
       | false=>rw [hb] at hga;exact mX _ (ih hga))
     have hj:=fA.1 hj;exact (hfacts j hj (hall j hj) t hd).1
   constructor
   ·intro hnil;exfalso;apply hall
    -- the least one that is not listed is ready
    intro j hj
    induction j using Nat.strongRecOn with
    | _ j ihj =>
     cases hx : jU L j with
     | true=>rfl
     | false =>
      exfalso;obtain ⟨o,t,ho,_,_,_,_,_,haf,_⟩:=hpre j hj
      have : j ∈ Region.ready .any l.toArray L:=by
       rw [mem_ready];refine ⟨?_,o,by simpa using ho,fun e he hb=>ihj e.on (haf e he hb) (by have:=haf e he hb;omega)⟩;unfold jU at hx;rw [dY,gG zO] at hx ⊢;simpa using hx
      rw [hnil] at this;cases this
   intro i hi;rw [mem_ready] at hi;obtain ⟨h0,o,ho,hbef⟩:=hi;have hilt : i < l.length:=by simpa using (Array.getElem?_eq_some_iff.1 ho).1
   have hun : jU L i = false:=by
    unfold jU;rw [dY,gG zO] at h0 ⊢;simpa using h0
   have ho' : l[i]? = some o:=by simpa using ho
   have him : i < m:=by
    rcases gJ i m with h | h
    ·exact h
    exfalso;apply hall;intro j hj;exact nC hdown _ o j hbef ((htl i o h ho').1 j zO)
   obtain ⟨o2,t,ho2,hg,hnd,hd,hkeys,hdis,haf,hprd⟩:=hpre i him;rw [ho'] at ho2;cases ho2;have hst:=aMb l 0 steps i o ho' zO;simp only [Nat.zero_add] at hst
   -- all that is known of the slots,a_s one list
   let X : gY:=(List.range m).filterMap fun j=>if jU L j then (gU l j).map fun t=>(t,val j) else none
   have hdstN : ∀ i,i < m → ∀ t,gU l i = some t → t < C.N:=by
    intro i hi t ht;have:=List.all_eq_true.1 hN i (fA.2 hi);rw [ht] at this;simpa using this
   obtain ⟨acc',hk,hmem⟩:=vY (val:=val) (yP o) [] _ (hst X H' hle hGd) (fun j hj=>by
    obtain ⟨hjm,e,he,hb,hon⟩:=hprd j hj;obtain ⟨oj,tj,hoj,_,_,htj,_⟩:=hpre j hjm;have hdj : gU l j = some tj:=by simp [gU,hoj,htj]
    have hlj : jU L j = true:=by have:=hbef e he hb;rw [hon] at this;exact this
    exact ⟨(hfacts j hjm hlj tj hdj).2,by rw [hdj];rfl⟩)
   simp only [gH] at hk
   have hgetmem : ∀ (e : gY) (t : Nat) (u : Value),gY.get e t = some u → (t,u) ∈ e:=by
    intro e
    induction e with
    | nil=>intro t u h;cases h
    | cons p r ih =>
     intro t u h;obtain ⟨k,u'⟩:=p;simp only [gY.get] at h;cases hb : Nat.beq k t with
     | true=>rw [hb] at h;simp at h;subst h;rw [← fV hb];simp
     | false=>rw [hb] at h;exact mX _ (ih t u h)
   have hrel : Rel C ⟨acc' ++ (env ++ X),df,H',own⟩ a w:=by
    refine ⟨hsz,?_,hok⟩;intro t v hgv;rw [gY.get_append,gY.get_append] at hgv;cases hga : gY.get acc' t with
    | some u =>
     rw [hga] at hgv;simp at hgv;subst hgv;obtain ⟨j,hj,hdj,rfl⟩:=hmem t u (hgetmem _ _ _ hga);obtain ⟨hjm,e,he,hb,hon⟩:=hprd j hj;have hlj : jU L j = true:=by have:=hbef e he hb;rw [hon] at this;exact this
     exact (hfacts j hjm hlj t hdj).1
    | none =>
     rw [hga] at hgv;simp only [Option.none_or] at hgv;cases hge : gY.get env t with
     | some u=>rw [hge] at hgv;simp at hgv;subst hgv;exact henv t u hge
     | none =>
      rw [hge] at hgv;simp only [Option.none_or] at hgv;have:=hgetmem _ _ _ hgv;obtain ⟨j,hj,hjj⟩:=List.mem_filterMap.1 this;split at hjj
      ·rename_i hlj
       cases hdj : gU l j with
       | none=>rw [hdj] at hjj;cases hjj
       | some tj =>
        rw [hdj] at hjj;simp only [Option.map_some,Option.some.injEq,Prod.mk.injEq] at hjj;obtain ⟨rfl,rfl⟩:=hjj;exact (hfacts j (fA.1 hj) hlj tj hdj).1
      cases hjj
   have hrun:=hk a w hrel;unfold wpOpIn;rw [ho];simp only [wpListIn,Region.wanted,hg,if_true] at hrun ⊢;refine oV ?_ ?_ hrun
   ·rintro a' w' ⟨σ',hr',hle',hGd',hdf',hown',v,henv',hfv⟩;have hty : gU l i = some t:=by simp [gU,ho',hd]
    refine ih (L.setIfInBounds i true) a' w' (fun j=>if j = i then v else val j) σ'.H (by simpa using hs) ?_ (hle.trans hle') hGd' ?_ ?_ hr'.size ?_ ?_ ?_
    ·have:=qT hs hilt hun;omega
    ·intro i' o' hi' hl' e he hb;rw [jT zO] at hl' ⊢;split
     ·rfl
     split at hl'
     ·rename_i e1 e2;subst e2;rw [ho'] at hi';cases hi';exact hbef e he hb
     exact hdown i' o' hi' hl' e he hb
    ·intro j hj;rw [jT zO,dG zO];exact hT j hj
    ·intro t' v' hg';refine hr'.get t' v' ?_;rw [henv',hd];simp only [jI,gY.get]
     have hne : t ≠ t':=by
      intro e;subst e;exact hkeys (gS.2 ⟨(t,v'),hgetmem _ _ _ hg',rfl⟩)
     rw [show Nat.beq t t' = false from aRo hne];simp only [cond_false];rw [gY.get_append,gY.get_append]
     have : gY.get acc' t' = none:=by
      cases hga : gY.get acc' t' with
      | none=>rfl
      | some u =>
       obtain ⟨j,hj,hdj,_⟩:=hmem t' u (hgetmem _ _ _ hga);obtain ⟨hjm,_⟩:=hprd j hj;obtain ⟨oj,tj,hoj,_,_,htj,hkj,_⟩:=hpre j hjm;have : gU l j = some tj:=by simp [gU,hoj,htj]
       rw [this] at hdj;cases hdj;exact absurd (gS.2 ⟨(t',v'),hgetmem _ _ _ hg',rfl⟩) hkj
     rw [this,hg'];rfl
    ·obtain ⟨ms,hd',hok'⟩:=hr'.ok;exact ⟨ms,by rw [hd',hdf'],by rw [hown'] at hok';exact hok'⟩
    intro j hj hlj tj htj;rw [jT zO] at hlj;by_cases hji : j = i
    ·subst hji;rw [hty] at htj;cases htj;simp only [if_true];refine ⟨hr'.get t v ?_,hfv⟩;rw [henv',hd];simp [jI,gY.get]
    rw [dG hji] at hlj;obtain ⟨h1,h2⟩:=hfacts j hj hlj tj htj;simp only [dG hji];refine ⟨hr'.get tj (val j) ?_,rR hmono hle' h2⟩;rw [henv',hd];simp only [jI,gY.get]
    have hne : t ≠ tj:=by
     intro e;subst e;exact hdis j hj (Ne.symm hji) htj
    rw [show Nat.beq t tj = false from aRo hne];simp only [cond_false];rw [gY.get_append,gY.get_append]
    have hacc : gY.get acc' tj = none ∨ gY.get acc' tj = some (val j):=by
     cases hga : gY.get acc' tj with
     | none=>exact .inl rfl
     | some u =>
      obtain ⟨j',hj',hdj',rfl⟩:=hmem tj u (hgetmem _ _ _ hga);obtain ⟨hjm',_⟩:=hprd j' hj';by_cases hjj : j' = j
      ·subst hjj;exact .inr rfl
      obtain ⟨o3,t3,ho3,_,_,ht3,_,hdis3,_⟩:=hpre j hj;have : gU l j = some t3:=by simp [gU,ho3,ht3]
      rw [this] at htj;cases htj;exact absurd hdj' (hdis3 j' hjm' (Ne.symm hjj))
    rcases hacc with hacc | hacc
    ·rw [hacc]
     have henvn : gY.get env tj = none:=by
      cases hge : gY.get env tj with
      | none=>rfl
      | some u =>
       obtain ⟨o3,t3,ho3,_,_,ht3,hk3,_⟩:=hpre j hj;have : gU l j = some t3:=by simp [gU,ho3,ht3]
       rw [this] at htj;cases htj;exact absurd (gS.2 ⟨(tj,u),hgetmem _ _ _ hge,rfl⟩) hk3
     rw [henvn];simp only [Option.none_or]
     -- it stands in X,once
     have hin : (tj,val j) ∈ X:=List.mem_filterMap.2 ⟨j,fA.2 hj,by simp only [hlj,if_true,htj,Option.map_some]⟩
     have huniq : ∀ u,(tj,u) ∈ X → u = val j:=by
      intro u hu';obtain ⟨j',hj',hjj'⟩:=List.mem_filterMap.1 hu';split at hjj'
      ·cases hdj' : gU l j' with
       | none=>rw [hdj'] at hjj';cases hjj'
       | some t' =>
        rw [hdj'] at hjj';simp only [Option.map_some,Option.some.injEq,Prod.mk.injEq] at hjj';obtain ⟨rfl,rfl⟩:=hjj';by_cases hjj : j' = j
        ·subst hjj;rfl
        obtain ⟨o3,t3,ho3,_,_,ht3,_,hdis3,_⟩:=hpre j hj;have : gU l j = some t3:=by simp [gU,ho3,ht3]
        rw [this] at htj;cases htj;exact absurd hdj' (hdis3 j' (fA.1 hj') (Ne.symm hjj))
      cases hjj'
     have hgx : ∀ (e : gY),(tj,val j) ∈ e → (∀ u,(tj,u) ∈ e → u = val j) → gY.get e tj = some (val j):=by
      intro e
      induction e with
      | nil=>intro h _;cases h
      | cons p r ih2 =>
       intro h hu2;obtain ⟨k,u'⟩:=p;simp only [gY.get];cases hb : Nat.beq k tj with
       | true =>
        have:=fV hb;subst this;rw [hu2 u' zP];rfl
       | false =>
        simp only [cond_false];refine ih2 ?_ (fun u hu3=>hu2 u (mX _ hu3));rcases List.mem_cons.1 h with h | h
        ·cases h;simp at hb
        exact h
     exact hgx X hin huniq
    rw [hacc];rfl
   rintro e a' w' he ⟨σ',_,_,hq⟩;cases e <;> first | exact absurd rfl he | exact hq.elim
 exact main l.toArray.size (Array.replicate l.toArray.size false) a₀ _ (fun _=>undef) H zP (by
   refine eK (List.countP_le_length) zP) (Le.refl _) hG (fun i o _ hl=>by
   have : jU (Array.replicate l.toArray.size false) i = false:=by simp [jU,dY,gA];split <;> rfl
   rw [this] at hl;cases hl) (fun j _=>by simp [jU,dY,gA];split <;> rfl) hr₀.size hr₀.get
  (let ⟨ms,hd,hok⟩:=hr₀.ok;⟨ms,hd,hok.drew⟩) (fun i _ h=>by
   have : jU (Array.replicate l.toArray.size false) i = false:=by simp [jU,dY,gA];split <;> rfl
   rw [this] at h;cases h)
theorem pI {id : Nat} {l : List Oper} (m : Nat) (F : List (Value → Hp → Prop)) (hm : C.P.follows .mixedOrders = true) (hck : aRi m l (env.map Prod.fst) = true) (hN : ((List.range m).all fun i=>match gU l i with | some t=>Nat.blt t C.N | none=>false) = true) (hmono : aE3 F)
  (steps : uD (fun H'=>H' = H) C l F env df H own m 0 l)
  (tail : nE l F H (List.range m) [] fun acc=>XO C l.toArray Q (l.drop m) ⟨acc ++ env,df,H,own⟩) : XC C (.region id l.toArray true) Q ⟨env,df,H,own⟩ :=
 nX (fun H'=>H' = H) rfl m F hm hck hN hmono steps (fun H' _ e=>by subst e;exact tail)
end
theorem dF {C : Ctx} {l : List Oper} {F : List (Value → Hp → Prop)} {env : gY} {df : List Deferred} {H : Hp} {own : Own} {m k : Nat} {o : Oper} {rest : List Oper} (hk : Nat.blt k m = true)
  (h : ∀ X,nE l F H (yP o) [] fun acc=>XO C l.toArray (aMi (fun H'=>H' = H) o.dst (jN F k) (acc ++ (env ++ X)) df own) [o] ⟨acc ++ (env ++ X),df,H,own⟩) (h2 : uD (fun H'=>H' = H) C l F env df H own m (k + 1) rest) : uD (fun H'=>H' = H) C l F env df H own m k (o :: rest):=by
 simp only [uD,hk];exact ⟨fun X H' _ e=>by subst e;exact h X,h2⟩
theorem SlR.addr {α : Type} {ρ : Rep α} {H : Hp} {a : Option Addr} {c : Nat} {l : List α} (h : SlR ρ H a c l) (hl : 0 < l.length) : ∃ b o,a = some ⟨b,o,none⟩ :=
 let ⟨b,o,_,h1,_⟩:=h.el 0 l[0] (aJ hl);⟨b,o,h1⟩
theorem SlR.elem {α : Type} {ρ : Rep α} {H : Hp} {b o c : Nat} {l : List α} (h : SlR ρ H (some ⟨b,o,none⟩) c l) (i : Nat) (hi : i < l.length) : ∃ cs u,l[i]? = some u ∧ ρ.R H cs u ∧ rC H b (o + i * ρ.sz) cs:=by
 obtain ⟨b',o',cs,h1,h2,h3⟩:=h.el i l[i] (aJ hi);cases h1;exact ⟨cs,_,aJ hi,h3,h2⟩
section
variable {C : Ctx} {ops : Array Oper} {Q : Exit → St → Prop} {rest : List Oper} {env : gY} {df : List Deferred} {H : Hp} {own : Own}
variable {dst : Option Tmp} {ty : TypeId} {pos : String} {af : Array Edge}
theorem nF {t : TypeId} {x : Operand} {b o off sz : Nat} {agg : Bool} {cs vs : List Value} {v : Value} (hx : ev env x = some (.pointer (some ⟨b,o + off,none⟩))) (hp : rC H b o cs)
  (ht : tP C.P t sz agg = true) (hl : aIo cs off sz = some vs) (hv : mkV agg vs = some v) (hd : iU C.N dst = true)
  (h : XO C ops Q rest ⟨jI dst v env,df,H,own⟩) :
  XO C ops Q (⟨dst,.load t x,ty,pos,af,none⟩ :: rest) ⟨env,df,H,own⟩:=by
 obtain ⟨h1,h2,h3⟩:=aIt hl;obtain ⟨c,T,fz,hb,hc⟩:=hp;refine eH (cs:=vs) hx ⟨c,T,fz,hb,fun j u hj=>?_⟩ ht h3 hv hd h;rw [h1,List.getElem?_take] at hj;split at hj
 ·rw [List.getElem?_drop] at hj;have:=hc _ _ hj;rwa [← Nat.add_assoc] at this
 cases hj
theorem fK {t e : TypeId} {x y : Operand} {k : IntKind} {i : Int} {b o n c sz : Nat} {agg : Bool} (hx : ev env x = some (.slice (some ⟨b,o,none⟩) n c)) (hy : ev env y = some (.int k i))
  (ht : C.P.underlying t = some (.slice e)) (he : tP C.P e sz agg = true) (h0 : 0 ≤ i) (h1 : i < n) (hd : iU C.N dst = true)
  (h : XO C ops Q rest ⟨jI dst (.pointer (some ⟨b,o + i.toNat * sz,none⟩)) env,df,H,own⟩) :
  XO C ops Q (⟨dst,.indexAddr t x y,ty,pos,af,none⟩ :: rest) ⟨env,df,H,own⟩:=by
 refine kF rfl rfl hd (fun ρ' ha w=>?_) h;simp only [execOp,ha _ _ hx,ha _ _ hy,Instr.indexAt,asIntOf,Sem.run_bind];simp only [Pure.pure,Sem.run,Result.andThen,jC ht,Sem.run_bind];simp only [h0,h1,and_self,if_true,Sem.run_bind,mJ he,Result.andThen,tV];rfl
end
theorem eJ {l : List Oper} {F : List (Value → Hp → Prop)} {H' : Hp} {js js' : List Nat} {j t : Nat} {acc : gY} {K : gY → Prop} (hj : js = j :: js') (ht : gU l j = some t) (h : ∀ v,jN F j v H' → nE l F H' js' ((t,v) :: acc) K) : nE l F H' js acc K:=by
 subst hj;simp only [nE,ht];exact h
theorem aF {l : List Oper} {F : List (Value → Hp → Prop)} {H' : Hp} {js : List Nat} {acc : gY} {K : gY → Prop} (hj : js = []) (h : K acc) : nE l F H' js acc K:=by subst hj;exact h
theorem dH {Gd : Hp → Prop} {C : Ctx} {l : List Oper} {F : List (Value → Hp → Prop)} {env : gY} {df : List Deferred} {H : Hp} {own : Own} {m k : Nat} {o : Oper} {rest : List Oper} (hk : Nat.blt k m = true)
  (h : ∀ X H',Le H H' → Gd H' → nE l F H' (yP o) [] fun acc=>XO C l.toArray (aMi Gd o.dst (jN F k) (acc ++ (env ++ X)) df own) [o] ⟨acc ++ (env ++ X),df,H',own⟩) (h2 : uD Gd C l F env df H own m (k + 1) rest) : uD Gd C l F env df H own m k (o :: rest):=by
 simp only [uD,hk];exact ⟨h,h2⟩
theorem jH {Gd : Hp → Prop} {C : Ctx} {l : List Oper} {F : List (Value → Hp → Prop)} {env : gY} {df : List Deferred} {H : Hp} {own : Own} {m k : Nat} {rest : List Oper} (hk : Nat.blt k m = false) : uD Gd C l F env df H own m k rest:=by
 cases rest with
 | nil=>trivial
 | cons o r=>simp only [uD,hk];trivial
theorem eO {Gd : Hp → Prop} {dst : Option Tmp} {f : Value → Hp → Prop} {env : gY} {df : List Deferred} {own : Own} {H : Hp} {v : Value} (hG : Gd H) (hf : f v H) : aMi Gd dst f env df own .normal ⟨jI dst v env,df,H,own⟩:=⟨hG,rfl,rfl,v,rfl,hf⟩
theorem gL {l : List Oper} {F : List (Value → Hp → Prop)} {H' : Hp} {js js' : List Nat} {j t : Nat} {acc : gY} {K : gY → Prop} {x : Value} (hj : (js,gU l j,jN F j) = (j :: js',some t,gC x)) (h : nE l F H' js' ((t,x) :: acc) K) : nE l F H' js acc K :=
  eJ (p1 hj) (p1 (p2 hj)) fun v hv=>by rw [show jN F j = gC x from p2 (p2 hj)] at hv;obtain rfl : v = x:=hv;exact h
theorem zQ {C : Ctx} {ops : Array Oper} {Gd : Hp → Prop} {dst : Option Tmp} {f : Value → Hp → Prop} {env : gY} {df : List Deferred} {own : Own} {H : Hp} {v : Value} (hG : Gd H:=by exact rfl) (hf : f v H:=by exact rfl) : XO C ops (aMi Gd dst f env df own) [] ⟨jI dst v env,df,H,own⟩:=bF (eO hG hf)
end Go.XL

namespace Go.XL
def aTc (P : Program) (v : Value) (args : Array Value) (w : World) (R : Ending → World → Prop) : Prop :=
 ∃ d nx w',(Deferred.ofValue v args).run P w = .ok d w ∧ (invoke d.target d.args).run P w = .ok nx w' ∧
  match nx with
  | .enter f a_s=>Calls P f a_s w' R
  | .round l f tmps a_s bd=>RoundIn Fence.wide 0 P l f tmps a_s bd w' R
  | _=>False
def wH (P : Program) (v : Value) (args : List Value) (H : Hp) (own : Own) (R : Ending → Hp → Own → Prop) : Prop :=
 ∀ G rest w,Ok G H (own ++ rest) w → aTc P v args.toArray w fun e w'=>e ≠ .outgrown ∧ ∃ H' own',Le H H' ∧ Ok G H' (own' ++ rest) w' ∧ R e H' own'
theorem aTc.mono {P : Program} {v : Value} {args : Array Value} {w : World} {R R' : Ending → World → Prop} (h : aTc P v args w R) (hr : ∀ e w',R e w' → R' e w') : aTc P v args w R':=by
 obtain ⟨d,nx,w',h1,h2,h3⟩:=h;refine ⟨d,nx,w',h1,h2,?_⟩;cases nx with
 | enter f a_s=>exact Calls.mono h3 hr
 | round l f tmps a_s bd=>exact RoundIn.mono h3 hr
 | _=>exact h3.elim
theorem wH.mono {P : Program} {v : Value} {args : List Value} {H : Hp} {own : Own} {R R' : Ending → Hp → Own → Prop} (h : wH P v args H own R) (hr : ∀ e H' own',Le H H' → R e H' own' → R' e H' own') : wH P v args H own R' :=
 fun G rest w ok=>(h G rest w ok).mono fun _ _ ⟨h0,H',own',h1,h2,h3⟩=>⟨h0,H',own',h1,h2,hr _ _ _ h1 h3⟩
theorem wH.of_fn {P : Program} {f : FuncId} {args cap : List Value} {H : Hp} {own : Own} {R : Ending → Hp → Own → Prop} (h : iP P f (args ++ cap).toArray H own R) : wH P (.func (.func f) #[] cap.toArray) args H own R:=by
 intro G rest w ok;refine ⟨_,.enter f (args ++ cap).toArray,w,rfl,?_,h.2 G rest w ok⟩;have:=h.1 (args ++ cap).toArray w;simpa [invoke] using this
theorem Own.perm_mid (l nQ rst : Own) : (nQ ++ (l ++ rst)).Perm (l ++ (nQ ++ rst)):=by
 rw [← eM,← eM];exact List.Perm.append_right _ List.perm_append_comm
section
variable {C : Ctx} {ops : Array Oper} {Q : Exit → St → Prop} {rest : List Oper} {env : gY} {df : List Deferred} {H : Hp} {own : Own}
variable {dst : Option Tmp} {ty : TypeId} {pos : String} {af : Array Edge}
theorem mA {fn : Fn} {cs : List Operand} {vs : List Value} (hc : evs env cs = some vs) (hd : iU C.N dst = true)
  (h : XO C ops Q rest ⟨jI dst (.func fn #[] vs.toArray) env,df,H,own⟩) : XO C ops Q (⟨dst,.makeFunc fn #[] cs.toArray,ty,pos,af,none⟩ :: rest) ⟨env,df,H,own⟩ :=
 kF rfl rfl hd (fun ρ ha w=>by
  have:=aNn ha hc
  simp [execOp,Instr.makeFunc,this,Sem.run,Pure.pure,bind,Sem.bind]) h
theorem aCv {x : Operand} {xs : List Operand} {ts : Array TypeId} {v : Value} {vs : List Value} {l nQ rst : Own} {R : Ending → Hp → Own → Prop} (hx : ev env x = some v) (hnf : match x with | .func _=>False | _=>True)
  (hxs : evs env xs = some vs) (hf : wH C.P v vs H nQ R) (hd : iU C.N dst = true) (ho : own = l ++ (nQ ++ rst))
  (h : ∀ u H' own',Le H H' → R (.returned u) H' own' → ∃ H'' own'',Le H H'' ∧ Le H'' H' ∧ own''.Sublist (l ++ (own' ++ rst)) ∧ XO C ops Q rest ⟨jI dst u env,df,H'',own''⟩)
  (hp : ∀ ch H' own',Le H H' → R (.panicked ch) H' own' → Q (.panic ch) ⟨env,df,H',l ++ (own' ++ rst)⟩) :
  XO C ops Q (⟨dst,.call { callee:=.value x,args:=xs.toArray,argTypes:=ts },ty,pos,af,none⟩ :: rest) ⟨env,df,H,own⟩:=by
 intro a w hr;refine wpListIn_plain rfl fun K hK=>⟨fun _ _=>trivial,?_⟩
 obtain ⟨ms,hdf,hok⟩:=hr.ok;subst ho;rw [yS _ _ _ rfl]
 have vN : Ok C.G H (nQ ++ (l ++ (rst ++ (ms.map hid ++ C.hid)))) w:=by
  refine hok.perm ?_;simp only [eM];exact Own.perm_mid _ _ _
 obtain ⟨d,nx,w',h1,h2,h3⟩:=hf C.G _ w vN
 have hrun : (execOp a.eval ⟨dst,.call { callee:=.value x,args:=xs.toArray,argTypes:=ts },ty,pos,af,none⟩).run C.P w = .ok nx w':=by
  have hmap : Array.map a.eval xs.toArray = vs.toArray:=by simp [hr.evals hxs]
  simp only [execOp,resolve,Sem.run_bind,hr.eval hx,hmap,h1,Result.andThen,h2]
 rw [hrun]
 have hback : ∀ {H' : Hp} {own' : Own} {w'' : World},Ok C.G H' (own' ++ (l ++ (rst ++ (ms.map hid ++ C.hid)))) w'' → Ok C.G H' ((l ++ (own' ++ rst)) ++ (ms.map hid ++ C.hid)) w'':=by
  intro H' own' w'' hk;refine hk.perm ?_;simp only [eM];exact (Own.perm_mid _ _ _).symm
 have fin : ∀ e w'',(e ≠ .outgrown ∧ ∃ H' own',Le H H' ∧ Ok C.G H' (own' ++ (l ++ (rst ++ (ms.map hid ++ C.hid)))) w'' ∧ R e H' own') →
   (match e,w'' with
    | .returned u,w''=>K (a.put dst u) w''
    | .panicked ch,w''=>nW C H Q (.panic ch) a w''
    | .outgrown,_=>LetsOut (nW C H Q)):=by
  rintro e w'' ⟨hne,H',own',hle,hok',hR⟩;cases e with
  | returned u =>
   obtain ⟨H'',own'',k1,k2,k3,k4⟩:=h u H' own' hle hR;exact hK _ _ (lZ k1 _ _ _ (k4 _ _ (hr.put (aAm hd) u ⟨ms,hdf,(hback hok').shrink k2 (k3.append_right _)⟩)))
  | panicked ch=>exact ⟨⟨env,df,H',l ++ (own' ++ rst)⟩,⟨hr.size,hr.get,ms,hdf,hback hok'⟩,hle,hp ch H' own' hle hR⟩
  | outgrown=>exact absurd rfl hne
 cases nx with
 | enter f a_s =>
  refine ⟨fun hx=>(by cases hx),?_⟩;have hin : CallsIn Fence.wide 0 C.P f a_s w' _:=callsIn_wide.2 h3;have hin2 : CallsIn (Fr C.r) 0 C.P f a_s w' _:=hin;refine ⟨hin2.1,fun cs hcs=>?_⟩;obtain ⟨e,w'',fr,hR,hx⟩:=hin2.2 cs hcs;exact ⟨e,w'',fr,fin e w'' hR,hx⟩
 | round lp f tmps a_s bd =>
  refine ⟨fun hx=>(by cases hx),?_⟩;have hin2 : RoundIn (Fr C.r) 0 C.P lp f tmps a_s bd w' _:=h3;exact hin2.mono fun e w'' hR=>fin e w'' hR
 | _=>exact h3.elim
theorem qQ {x : Operand} {xs : List Operand} {ts : Array TypeId} {v : Value} {vs : List Value} (l : Own) {nQ rst : Own} {R : Value → Hp → Own → Prop} (hx : ev env x = some v) (hnf : match x with | .func _=>False | _=>True)
  (hxs : evs env xs = some vs) (hf : wH C.P v vs H nQ (eQ R)) (hd : iU C.N dst = true) (ho : own = l ++ (nQ ++ rst))
  (h : ∀ u H' own',Le H H' → R u H' own' → XO C ops Q rest ⟨jI dst u env,df,H',l ++ (own' ++ rst)⟩) :
  XO C ops Q (⟨dst,.call { callee:=.value x,args:=xs.toArray,argTypes:=ts },ty,pos,af,none⟩ :: rest) ⟨env,df,H,own⟩ :=
 aCv hx hnf hxs hf hd ho (fun u H' own' hle hR=>⟨H',_,hle,Le.refl _,jP _,h u H' own' hle hR⟩) (fun _ _ _ _ hR=>hR.elim)
theorem sZ {x : Operand} {xs : List Operand} {ts : Array TypeId} {v : Value} {vs : List Value} {R : Value → Prop} (hx : ev env x = some v) (hnf : match x with | .func _=>False | _=>True)
  (hxs : evs env xs = some vs) (hf : wH C.P v vs H [] (eQ fun u _ _=>R u)) (hd : iU C.N dst = true)
  (h : ∀ u,R u → XO C ops Q rest ⟨jI dst u env,df,H,own⟩) :
  XO C ops Q (⟨dst,.call { callee:=.value x,args:=xs.toArray,argTypes:=ts },ty,pos,af,none⟩ :: rest) ⟨env,df,H,own⟩ :=
 aCv (l:=[]) (nQ:=[]) (rst:=own) hx hnf hxs hf hd rfl (fun u H' own' hle hR=>⟨H,own,Le.refl _,hle,by simp,h u hR⟩) (fun _ _ _ _ hR=>hR.elim)
theorem kK {f : FuncId} {xs : List Operand} {ts : Array TypeId} {vs : List Value} (l : Own) {nQ rst : Own} {R : Value → Hp → Own → Prop}
  (hxs : evs env xs = some vs) (hf : iP C.P f vs.toArray H nQ (eQ R)) (hd : iU C.N dst = true) (ho : own = l ++ (nQ ++ rst))
  (h : ∀ v H' own',Le H H' → R v H' own' → XO C ops Q rest ⟨jI dst v env,df,H',l ++ (own' ++ rst)⟩) :
  XO C ops Q (⟨dst,.call { callee:=.value (.func f),args:=xs.toArray,argTypes:=ts },ty,pos,af,none⟩ :: rest) ⟨env,df,H,own⟩:=by
 have hf' : wH C.P (.func (.func f) #[] #[]) vs H nQ (eQ R):=by
  have:=wH.of_fn (P:=C.P) (f:=f) (args:=vs) (cap:=[]) (H:=H) (own:=nQ) (R:=eQ R) (by simpa using hf);exact this
 intro a w hr;have hr' : Rel C ⟨env,df,H,nQ ++ (l ++ rst)⟩ a w:=hr.perm (by subst ho;exact Own.perm_mid _ _ _);refine lZ (Le.refl _) _ _ _ (xH (C:=C) (ops:=ops) (Q:=Q) (rest:=rest) (df:=df) hxs hf hd (rst:=l ++ rst) rfl ?_ (fun _ _ _ _ hR=>hR.elim) a w hr');intro v H' own' hle hR;refine ⟨H',own' ++ (l ++ rst),hle,Le.refl _,jP _,?_⟩;intro a w hr;exact h v H' own' hle hR a w (hr.perm (Own.perm_mid _ _ _).symm)
end
/-! ### Iterators -/
def aV9 {α : Type} (P : Program) (f : FuncId) (cap : List Value) (H : Hp) (ownI : Own) (enc : α → List Value) (xs : List α) : Prop :=
 ∀ (yv : Value) (J : List α → Hp → Own → Prop) (K : Hp → Own → Prop) (ownY : Own),
  (∀ pre x post,xs = pre ++ x :: post → ∀ H' own',Le H H' → J pre H' own' → wH P yv (enc x) H' own' (eQ fun v H'' own''=>(v = .bool true ∧ J (pre ++ [x]) H'' own'') ∨ (v = .bool false ∧ K H'' own''))) →
  J [] H ownY →
  iP P f ((yv :: cap).toArray) H (ownI ++ ownY) (eQ fun v H' own'=>v = .tuple #[] ∧ ∃ ownI' ownY',own' = ownI' ++ ownY' ∧ (J xs H' ownY' ∨ K H' ownY'))
def wO : List Tmp → List Value → gY → gY
 | t :: ts,v :: vs,e=>wO ts vs ((t,v) :: e)
 | _,_,e=>e
def aRj {α : Type} (l : Nat) (I : List α → Hp → Own → Prop) (Kx : Code → Hp → Own → Prop) (pre : List α) : Exit → St → Prop
 | .normal,σ=>σ.df = [] ∧ ∃ o,o.Sublist σ.own ∧ I pre σ.H o
 | .exit id,σ=>σ.df = [] ∧ ∃ o,o.Sublist σ.own ∧ Kx (.exit id) σ.H o
 | .goto t,σ=>σ.df = [] ∧ ∃ o,o.Sublist σ.own ∧ Kx (.goto t) σ.H o
 | .ret,σ=>σ.df = [] ∧ ∃ o,o.Sublist σ.own ∧ Kx .ret σ.H o
 | _,_=>False
def jumpOf : Code → Option Exit
 | .exit id=>some (.exit id)
 | .goto l=>some (.goto l)
 | .ret=>some .ret
 | _=>none
end Go.XL

namespace Go.XL
def aIy (C : Ctx) (body : Code) (Q : Exit → St → Prop) : Exit → St → Prop
 | .normal,σ=>XC C body Q σ
 | _,_=>False
theorem tS {C : Ctx} {body : Code} {Q : Exit → St → Prop} {σ : St} (h : XC C body Q σ) : aIy C body Q .normal σ:=h
theorem aG7 : ∀ (ps : List Tmp) (vs : List Value) (env : gY) (tmps : Array Value),ps.length = vs.length → (∀ p ∈ ps,p < tmps.size) → (∀ t v,env.get t = some v → tmps.getD t undef = v) →
  (((ps.zip vs).foldl (fun (tmps : Array Value) (x : Tmp × Value)=>tmps.setIfInBounds x.1 x.2) tmps).size = tmps.size) ∧
  ∀ t v,(wO ps vs env).get t = some v → ((ps.zip vs).foldl (fun (tmps : Array Value) (x : Tmp × Value)=>tmps.setIfInBounds x.1 x.2) tmps).getD t undef = v
 | [],vs,env,tmps,hl,_,h=>by
  cases vs with
  | nil=>exact ⟨rfl,h⟩
  | cons v vs=>simp at hl
 | p :: ps,vs,env,tmps,hl,hp,h=>by
  cases vs with
  | nil=>simp at hl
  | cons v vs =>
   simp only [List.zip_cons_cons,List.foldl_cons,wO]
   have:=aG7 ps vs ((p,v) :: env) (tmps.setIfInBounds p v) (by simpa using hl) (fun q hq=>by simpa using hp q (by simp [hq])) (by
    intro t u hg;simp only [gY.get] at hg;cases hb : Nat.beq p t with
    | true =>
     rw [hb] at hg;simp at hg;subst hg;obtain rfl:=fV hb;simp [dY,hp p zP]
    | false =>
     rw [hb] at hg;have hne : p ≠ t:=fun e=>by rw [e] at hb;simp at hb
     have h1:=h t u hg;rw [dY] at h1 ⊢;rw [Array.getElem?_setIfInBounds_ne hne]
     exact h1)
   exact ⟨by simpa using this.1,this.2⟩
theorem aFv {C : Ctx} {env : gY} {df : List Deferred} {H : Hp} {own : Own} {a : Act} {w : World} {fn : FuncId} {ps : Array Tmp} {a_s bd : Code} (hr : Rel C ⟨env,df,H,own⟩ a w) (hround : C.r = none ∨ ∃ l0 r0,C.r = some l0 ∧ (l0,SObj.obj (.loop r0)) ∈ C.hid) :
  ∃ l mk w₁ D,∃ ms' : List Nat,(Instr.enterLoop fn a.tmps ps a_s bd C.r).run C.P w = .ok (l,mk) w₁ ∧ mk ++ a.defers = ms'.map mark ++ df ∧
   Ok C.G H (((l,.obj (.loop { state:=.ready,pending:=none,fn,tmps:=a.tmps,params:=ps,assign:=a_s,body:=bd,defers:=D })) :: own) ++ (ms'.map hid ++ C.hid)) w₁:=by
 obtain ⟨ms,hd,hok⟩:=hr.ok;rcases hround with hn | ⟨l0,r0,hs,hm⟩
 ·rw [hn];refine ⟨_,_,_,w.heap.size,w.heap.size :: ms,run_enterLoop_outer fn a.tmps ps a_s bd,?_,?_⟩
  ·rw [hd];rfl
  have h1 : Ok C.G H (hid w.heap.size :: (own ++ (ms.map hid ++ C.hid))) (w.alloc (.deferred (some []))):=hok.new (s:=.obj (.deferred (some []))) rfl;have h2:=h1.new (s:=.obj (.loop { state:=.ready,pending:=none,fn,tmps:=a.tmps,params:=ps,assign:=a_s,body:=bd,defers:=w.heap.size })) rfl;refine (show Ok C.G H _ _ from h2).perm ?_;simp only [World.size_alloc,List.map_cons,fP];exact List.Perm.cons _ List.perm_middle
 rw [hs]
 have hl0 : w.heap[l0]? = some (.loop r0):=by
  obtain ⟨⟨o,ho,hw⟩,_⟩:=hok.at (p:=(l0,SObj.obj (.loop r0))) (by simp [hm]) rfl;simp only [SObj.Is] at ho;subst ho;exact hw
 refine ⟨w.heap.size,[],w.alloc (.loop { state:=.ready,pending:=none,fn,tmps:=a.tmps,params:=ps,assign:=a_s,body:=bd,defers:=r0.defers }),r0.defers,ms,?_,by simpa using hd,?_⟩
 ·unfold Instr.enterLoop;simp only [Sem.run_bind,run_getLoop hl0,Result.andThen,Sem.run_pure,run_newObj_alloc]
 exact hok.new (s:=.obj (.loop { state:=.ready,pending:=none,fn,tmps:=a.tmps,params:=ps,assign:=a_s,body:=bd,defers:=r0.defers })) rfl
theorem Ok.putObj {G : World} {H : Hp} {own : Own} {w : World} {l : Nat} {o o' : Obj} (h : Ok G H ((l,.obj o) :: own) w) : Ok G H ((l,.obj o') :: own) (w.putObj l o'):=by
 have h' : Ok G H ([] ++ (l,SObj.obj o) :: own) w:=h;obtain ⟨⟨o1,ho1,hw1⟩,_⟩:=h.at (p:=(l,.obj o)) zP rfl;exact h'.write (s':=.obj o') rfl rfl rfl rfl rfl (World.putObj_heap_same (yN hw1)) (fun k hk=>World.putObj_heap_other hk)
theorem Ok.objAt {G : World} {H : Hp} {own : Own} {w : World} {l : Nat} {o : Obj} (h : Ok G H ((l,.obj o) :: own) w) : w.heap[l]? = some o:=by
 obtain ⟨⟨o1,ho1,hw1⟩,_⟩:=h.at (p:=(l,.obj o)) zP rfl;simp only [SObj.Is] at ho1;subst ho1;exact hw1
section
variable {C : Ctx} {Q : Exit → St → Prop} {env : gY} {df : List Deferred} {H : Hp} {own : Own}
theorem qS {α : Type} {g : Operand} {ps : List Tmp} {assign body : Code} {f : FuncId} {cap : List Value} {enc : α → List Value} {xs : List α} {ownI own2 : Own}
  (hg : ev env g = some (.func (.func f) #[] cap.toArray)) (hseq : aV9 C.P f cap H ownI enc xs) (hps : ∀ x,(enc x).length = ps.length) (hpN : (ps.all fun p=>Nat.blt p C.N) = true)
  (ho : own = ownI ++ own2) (I : List α → Hp → Own → Prop) (Kx : Code → Hp → Own → Prop) (h0 : I [] H own2)
  (hround : C.r = none ∨ ∃ l0 r0,C.r = some l0 ∧ (l0,SObj.obj (.loop r0)) ∈ C.hid)
  (hbody : ∀ G l hd1 hd2,(∃ r0,(l,SObj.obj (.loop r0)) ∈ hd2) → ∀ pre x post,xs = pre ++ x :: post → ∀ H' own',Le H H' → I pre H' own' →
   XC ⟨C.P,G,C.N,some l,hd1⟩ assign (aIy ⟨C.P,G,C.N,some l,hd2⟩ body (aRj l I Kx (pre ++ [x]))) ⟨wO ps (enc x) env,[],H',own'⟩)
  (hdone : ∀ H' own',Le H H' → I xs H' own' → Q .normal ⟨env,df,H',own'⟩)
  (hjump : ∀ c H' own',Le H H' → Kx c H' own' → XC C c Q ⟨env,df,H',own'⟩) : XC C (.rangeFunc g ps.toArray assign body) Q ⟨env,df,H,own⟩:=by
 intro a w hr;refine wpIn_rangeFunc ?_;intro fn hfn;subst ho;obtain ⟨l,mk,w₁,D,ms',hrun,hdf,hok₁⟩:=aFv (fn:=fn) (ps:=ps.toArray) («a_s»:=assign) (bd:=body) hr hround;have hga:=hr.eval hg
 let rec0 : Loop:={ state:=.ready,pending:=none,fn,tmps:=a.tmps,params:=ps.toArray,assign:=assign,body:=body,defers:=D }
 let yv : Value:=.func (.yield l) #[] #[]
 let J : List α → Hp → Own → Prop:=fun pre H' ownY=>∃ own2',ownY = (l,.obj (.loop rec0)) :: own2' ∧ I pre H' own2'
 let K : Hp → Own → Prop:=fun H' ownY=>∃ own2' c,ownY = (l,.obj (.loop { rec0 with state:=.done,pending:=some c })) :: own2' ∧ Kx c H' own2'
 have hcall:=hseq yv J K ((l,.obj (.loop rec0)) :: own2) (by
  rintro pre x post hxs H' ownY hle ⟨own2',rfl,hI⟩;intro G rst w hok;have hok' : Ok G H' ((l,.obj (.loop rec0)) :: (own2' ++ rst)) w:=hok;have hl:=hok'.objAt;refine ⟨{ target:=.fn (.yield l) #[],args:=#[] ++ (enc x).toArray },.round l fn ((ps.toArray.zip (enc x).toArray).foldl (fun tmps (t,a)=>tmps.setIfInBounds t a) a.tmps) assign body,w,rfl,?_,?_⟩
  ·have:=run_yield (P:=C.P) (args:=(enc x).toArray) hl (by simp [rec0,hps]);show (Instr.yield l (#[] ++ (enc x).toArray)).run C.P w = _;rw [Array.empty_append];exact this
  refine roundIn_of_wpIn trivial ?_
  have hfold : ((ps.toArray.zip (enc x).toArray).foldl (fun tmps (t,a)=>tmps.setIfInBounds t a) a.tmps) = ((ps.zip (enc x)).foldl (fun (tmps : Array Value) (x : Tmp × Value)=>tmps.setIfInBounds x.1 x.2) a.tmps):=by
   rw [← Array.foldl_toList];simp
  rw [hfold]
  obtain ⟨hsz,hget⟩:=aG7 ps (enc x) env a.tmps (by simp [hps]) (fun p hp=>by
   have:=List.all_eq_true.1 hpN p hp
   rw [hr.size];simpa using this) hr.get
  have hX:=hbody G l ((l,.obj (.loop rec0)) :: rst) ((l,.obj (.loop { rec0 with state:=.busy })) :: rst) ⟨_,List.mem_cons_self⟩ pre x post hxs H' own2' hle hI
  have hrel : Rel ⟨C.P,G,C.N,some l,(l,.obj (.loop rec0)) :: rst⟩ ⟨wO ps (enc x) env,[],H',own2'⟩ { tmps:=((ps.zip (enc x)).foldl (fun (tmps : Array Value) (x : Tmp × Value)=>tmps.setIfInBounds x.1 x.2) a.tmps),defers:=[] } w :=
   ⟨by rw [← hr.size];exact hsz,hget,[],rfl,hok'.perm (by simpa using List.perm_middle)⟩
  refine Go.wpIn_mono (hX _ _ hrel) ?_;rintro e a₁ w₁ ⟨σ,hr₁,hle₁,hq⟩;cases e with
  | normal =>
   obtain ⟨ms₁,hd₁,hok₁⟩:=hr₁.ok
   have hok₂ : Ok G σ.H ((l,.obj (.loop rec0)) :: (σ.own ++ (ms₁.map hid ++ rst))) w₁:=hok₁.perm (by
    rw [← eM,← eM];exact List.perm_middle.symm)
   have hbeg:=run_beginRound (P:=C.P) hok₂.objAt rfl;refine ⟨_,hbeg,?_⟩;have hok₃:=hok₂.putObj (o':=.loop { rec0 with state:=.busy })
   have hrel₂ : Rel ⟨C.P,G,C.N,some l,(l,.obj (.loop { rec0 with state:=.busy })) :: rst⟩ σ a₁ (w₁.putObj l (.loop { rec0 with state:=.busy })) :=
    ⟨hr₁.size,hr₁.get,ms₁,hd₁,hok₃.perm (by rw [← eM,← eM];exact List.perm_middle)⟩
   refine Go.wpIn_mono (hq _ _ hrel₂) ?_;rintro e a₂ w₂ ⟨τ,hr₂,hle₂,hq₂⟩;obtain ⟨ms₂,hd₂,hok₄⟩:=hr₂.ok
   have hok₅ : Ok G τ.H ((l,.obj (.loop { rec0 with state:=.busy })) :: (τ.own ++ (ms₂.map hid ++ rst))) w₂:=hok₄.perm (by
    rw [← eM,← eM];exact List.perm_middle.symm)
   have hend:=fun j=>run_endRound (P:=C.P) j hok₅.objAt
   have leave : ∀ (c : Code),(∃ o,o.Sublist τ.own ∧ Kx c τ.H o) → ∃ v w',(Instr.endRound l (some c)).run C.P w₂ = .ok v w' ∧ (Ending.returned v ≠ .outgrown ∧ ∃ H'' own'',Le H' H'' ∧ Ok G H'' (own'' ++ rst) w' ∧ eQ (fun v H'' own''=>(v = .bool true ∧ J (pre ++ [x]) H'' own'') ∨ (v = .bool false ∧ K H'' own'')) (.returned v) H'' own''):=by
    rintro c ⟨o,hs,hk⟩;refine ⟨_,_,hend (some c),by simp,τ.H,(l,.obj (.loop { rec0 with state:=.done,pending:=some c })) :: o,hle₁.trans hle₂,?_,.inr ⟨rfl,o,c,rfl,hk⟩⟩;exact (hok₅.putObj (o':=.loop { rec0 with state:=.done,pending:=some c })).shrink (Le.refl _) (List.Sublist.cons_cons _ (hs.append (List.sublist_append_right _ _)))
   cases e with
   | normal =>
    obtain ⟨_,o,hs,hI'⟩:=hq₂;refine ⟨_,_,hend none,by simp,τ.H,(l,.obj (.loop rec0)) :: o,hle₁.trans hle₂,?_,.inl ⟨rfl,o,rfl,hI'⟩⟩;exact (hok₅.putObj (o':=.loop rec0)).shrink (Le.refl _) (List.Sublist.cons_cons _ (hs.append (List.sublist_append_right _ _)))
   | exit id=>exact leave _ hq₂.2
   | goto t=>exact leave _ hq₂.2
   | ret=>exact leave _ hq₂.2
   | panic ch=>exact hq₂.elim
   | outgrown=>exact hq₂.elim
  | exit id=>exact hq.elim
  | goto t=>exact hq.elim
  | ret=>exact hq.elim
  | panic ch=>exact hq.elim
  | outgrown=>exact hq.elim) ⟨own2,rfl,h0⟩
 refine ⟨l,mk,w₁,{ target:=.fn (.func f) cap.toArray,args:=#[] ++ #[yv] },w₁,f,(yv :: cap).toArray,w₁,hrun,?_,fun _ _=>trivial,?_,fun h=>(by cases h),?_⟩
 ·have hm : Array.map a.eval #[Operand.const (Value.func (Fn.yield l) #[] #[])] = #[yv]:=by simp [Act.eval,yv]
  simp only [resolve,rangeCall,hga,hm];rfl
 ·have:=hcall.1 (yv :: cap).toArray w₁;show (callFunc f ((#[] ++ #[yv]) ++ cap.toArray)).run C.P w₁ = _;have e : (#[] ++ #[yv] ++ cap.toArray : Array Value) = (yv :: cap).toArray:=by simp
  rw [e];exact this
 have hok₂ : Ok C.G H ((ownI ++ (l,.obj (.loop rec0)) :: own2) ++ (ms'.map hid ++ C.hid)) w₁:=hok₁.perm (by
  simp only [eM,fP];exact List.perm_middle)
 have hc : CallsIn Fence.wide (0 - 1) C.P f (yv :: cap).toArray w₁ _:=callsIn_wide.2 (hcall.2 C.G _ w₁ hok₂);have hc2 : CallsIn (Fr C.r) (0 - 1) C.P f (yv :: cap).toArray w₁ _:=hc;refine ⟨hc2.1,fun cs hcs=>?_⟩;obtain ⟨e,w₃,fr,⟨hne,H',own',hle,hok₃,hR⟩,hx⟩:=hc2.2 cs hcs;refine ⟨e,w₃,fr,?_,hx⟩;cases e with
 | outgrown=>exact absurd rfl hne
 | panicked ch=>exact hR.elim
 | returned v =>
  obtain ⟨_,ownI',ownY',rfl,hJK⟩:=hR
  have key : ∀ (r : Loop) (o : Own),ownY' = (l,.obj (.loop r)) :: o → r.state ≠ .busy → (Instr.endLoop l).run C.P w₃ = .ok r.pending (w₃.putObj l (.loop { r with state:=.exhausted })) ∧
    Rel C ⟨env,df,H',o⟩ { a with defers:=mk ++ a.defers } (w₃.putObj l (.loop { r with state:=.exhausted })):=by
   rintro r o rfl hb
   have hok₄ : Ok C.G H' ((l,.obj (.loop r)) :: (ownI' ++ (o ++ (ms'.map hid ++ C.hid)))) w₃:=hok₃.perm (by
    simp only [eM,fP];exact List.perm_middle.symm)
   refine ⟨run_endLoop hok₄.objAt hb,hr.size,hr.get,ms',hdf,?_⟩;exact (hok₄.putObj (o':=.loop { r with state:=.exhausted })).shrink (Le.refl _) (.cons _ (List.sublist_append_right _ _))
  rcases hJK with ⟨o,ho,hI⟩ | ⟨o,c,ho,hk⟩
  ·obtain ⟨h1,h2⟩:=key rec0 o ho (by simp [rec0]);exact ⟨none,_,h1,⟨_,h2,hle,hdone H' o hle hI⟩⟩
  obtain ⟨h1,h2⟩:=key { rec0 with state:=.done,pending:=some c } o ho zP;exact ⟨some c,_,h1,Go.wpIn_mono (hjump c H' o hle hk _ _ h2) fun _ _ _ lf=>uG lf hle fun _ _ q=>q⟩
end
end Go.XL

namespace Go.XL
def MapI (kd : IntKind) (es : Array MapEntry) (m : List (Int × Value)) : Prop:=es.toList.map (fun e=>(e.key,e.val)) = m.map fun p=>(Value.int kd p.1,p.2)
def mget : List (Int × Value) → Int → Option Value
 | [],_=>none
 | (k,v) :: m,x=>if x = k then some v else mget m x
def mset : List (Int × Value) → Int → Value → List (Int × Value)
 | [],x,u=>[(x,u)]
 | (k,v) :: m,x,u=>if x = k then (x,u) :: m else (k,v) :: mset m x u
def zeroV (P : Program) (t : TypeId) : Option Value:=(P.info? t).bind (·.zero)
section
variable {C : Ctx} {ops : Array Oper} {Q : Exit → St → Prop} {rest : List Oper} {env : gY} {df : List Deferred} {H : Hp} {own : Own}
variable {dst : Option Tmp} {ty : TypeId} {pos : String} {af : Array Edge}
end
section
variable {C : Ctx} {ops : Array Oper} {Q : Exit → St → Prop} {rest : List Oper} {env : gY} {df : List Deferred} {H : Hp} {own : Own}
variable {dst : Option Tmp} {ty : TypeId} {pos : String} {af : Array Edge}
end
end Go.XL
