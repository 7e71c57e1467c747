/- Elimination with rational numbers,in plain Lean. -/
import Derived.Test.YthpfckdllencmaaGreatB1
import Derived.Test.YthpfckdllencmaaGreatB5
import Derived.Test.YthpfckdllencmaaGreatB3
import Derived.Test.YthpfckdllencmaaGreatB2
import Derived.Test.YthpfckdllencmaaGreatB4
set_option maxRecDepth 100000
set_option autoImplicit false
set_option linter.unusedVariables false
set_option linter.unusedSimpArgs false
namespace Go.Proofs
open Go.XL
def kJ (R : List (List Rat)) (i k : Nat) : Rat:=(R.getD i []).getD k 0
def pP (R : List (List Rat)) (m w : Nat) : Prop:=R.length = m ∧ ∀ r ∈ R,r.length = w
def vB (R : List (List Rat)) (t i : Nat) : List (List Rat):=(R.set t (R.getD i [])).set i (R.getD t [])
def sN (r : List Rat) (b : Rat) : List Rat:=r.map (· / b)
def yC (o top : List Rat) (b : Rat) : List Rat:=List.zipWith (fun u v=>u - v * b) o top
def yF (R : List (List Rat)) (t i : Nat) : List Rat:=sN (R.getD i []) ((R.getD i []).getD t 0)
def qM (R : List (List Rat)) (t i : Nat) : List (List Rat):=(vB R t i).mapIdx fun j r=>if j = t then yF R t i else yC r (yF R t i) (r.getD t 0)
def aCu (R : List (List Rat)) (t : Nat) : Nat:=t + (R.drop t).findIdx fun r=>!decide (r.getD t 0 = 0)
def mB (R : List (List Rat)) : Nat → List (List Rat)
 | 0=>R
 | t + 1=>qM (mB R t) t (aCu (mB R t) t)
theorem sU {R : List (List Rat)} {i k : Nat} {r : List Rat} (h : R[i]? = some r) : kJ R i k = r.getD k 0:=by
 unfold kJ;rw [dB (l:=R),h];rfl
theorem pP.row {R : List (List Rat)} {m w i : Nat} (h : pP R m w) (hi : i < m) : ∃ r,R[i]? = some r ∧ R.getD i [] = r ∧ r.length = w:=by
 have hl : i < R.length:=by rw [h.1];exact hi
 exact ⟨R[i],aJ hl,by rw [dB,aJ hl];rfl,h.2 _ (List.getElem_mem hl)⟩
theorem pP.set {R : List (List Rat)} {m w : Nat} (h : pP R m w) (i : Nat) {r : List Rat} (hr : r.length = w) : pP (R.set i r) m w :=
 ⟨by rw [gQ];exact h.1,fun x hx=>by rcases List.mem_or_eq_of_mem_set hx with h1 | rfl;exact h.2 x h1;exact hr⟩
theorem qP {R : List (List Rat)} {m w t i : Nat} (h : pP R m w) (ht : t < m) (hi : i < m) : pP (vB R t i) m w:=by
 obtain ⟨r,_,h2,h3⟩:=h.row ht;obtain ⟨s,_,h5,h6⟩:=h.row hi;exact (h.set t (by rw [h5];exact h6)).set i (by rw [h2];exact h3)
def swp (t i j : Nat) : Nat:=if j = i then t else if j = t then i else j
theorem aLd {t i j m : Nat} (ht : t < m) (hi : i < m) (hj : j < m) : swp t i j < m:=by unfold swp;split;exact ht;split;exact hi;exact hj
theorem swapL_at {R : List (List Rat)} {m w t i : Nat} (h : pP R m w) (ht : t < m) (hi : i < m) (j : Nat) (hj : j < m) : (vB R t i)[j]? = R[swp t i j]?:=by
 have hl:=h.1;obtain ⟨r,h1,h2,_⟩:=h.row ht;obtain ⟨s,h4,h5,_⟩:=h.row hi;unfold vB swp;rw [iR,gQ];by_cases e : i = j
 ·rw [eX e,eX zO,eX e.symm,h2,h1]
 rw [dG e,dG zO,iR];by_cases e2 : t = j
 ·rw [eX e2,eX zO,eX e2.symm,h5,h4]
 rw [dG e2,dG zO]
theorem aMy {R : List (List Rat)} {m w t i : Nat} (h : pP R m w) (ht : t < m) (hi : i < m) (j c : Nat) (hj : j < m) : kJ (vB R t i) j c = kJ R (swp t i j) c:=by
 obtain ⟨r,h1,_⟩:=h.row (aLd ht hi hj);rw [sU h1,sU ((swapL_at h ht hi j hj).trans h1)]
theorem xF (r : List Rat) (b : Rat) : (sN r b).length = r.length:=by simp [sN]
theorem sclR_getD (r : List Rat) (b : Rat) (c : Nat) : (sN r b).getD c 0 = r.getD c 0 / b:=by
 unfold sN;rw [dB,dB,iI];cases r[c]? with
 | none=>show (0 : Rat) = 0 / b;grind
 | some x=>rfl
theorem aDj {o top : List Rat} {b : Rat} (h : top.length = o.length) : (yC o top b).length = o.length:=by simp [yC,h]
theorem subR_getD {o top : List Rat} {b : Rat} (h : top.length = o.length) (c : Nat) : (yC o top b).getD c 0 = o.getD c 0 - top.getD c 0 * b:=by
 unfold yC;rw [dB,dB,dB,List.getElem?_zipWith];by_cases hc : c < o.length
 ·rw [aJ hc,aJ (h ▸ hc)];rfl
 rw [dJ zO,dJ zO];show (0 : Rat) = 0 - 0 * b;grind
theorem aJr {R : List (List Rat)} {m w t i : Nat} (h : pP R m w) (hi : i < m) : (yF R t i).length = w:=by
 obtain ⟨s,_,h5,h6⟩:=h.row hi;unfold yF;rw [xF,h5];exact h6
theorem aMp (R : List (List Rat)) (t i c : Nat) : (yF R t i).getD c 0 = kJ R i c / kJ R i t:=sclR_getD _ _ _
theorem aBq {R : List (List Rat)} {m w t i : Nat} (h : pP R m w) (ht : t < m) (hi : i < m) : pP (qM R t i) m w:=by
 have hs:=qP h ht hi;refine ⟨by unfold qM;rw [List.length_mapIdx];exact hs.1,fun r hr=>?_⟩;unfold qM at hr;obtain ⟨j,hj,rfl⟩:=List.mem_mapIdx.1 hr;split
 ·exact aJr h hi
 have h1:=hs.2 _ (List.getElem_mem hj);rw [aDj (by rw [aJr h hi,h1])];exact h1
theorem aCt {R : List (List Rat)} {m w t i : Nat} (h : pP R m w) (ht : t < m) (hi : i < m) {j : Nat} {r : List Rat} (hr : (vB R t i)[j]? = some r) :
  (qM R t i)[j]? = some (if j = t then yF R t i else yC r (yF R t i) (r.getD t 0)):=by
 unfold qM;rw [List.getElem?_mapIdx,hr];rfl
theorem aEb {R : List (List Rat)} {m w t i : Nat} (h : pP R m w) (ht : t < m) (hi : i < m) (c : Nat) : kJ (qM R t i) t c = kJ R i c / kJ R i t:=by
 obtain ⟨r,h1,_⟩:=(qP h ht hi).row ht;rw [sU (aCt h ht hi h1),eX rfl];exact aMp R t i c
theorem aEj {R : List (List Rat)} {m w t i : Nat} (h : pP R m w) (ht : t < m) (hi : i < m) {j : Nat} (hj : j < m) (hjt : j ≠ t) (c : Nat) :
  kJ (qM R t i) j c = kJ R (swp t i j) c - kJ R i c / kJ R i t * kJ R (swp t i j) t:=by
 have hs:=qP h ht hi;obtain ⟨r,h1,h2,h3⟩:=hs.row hj;rw [← aMy h ht hi j c hj,← aMy h ht hi j t hj];rw [sU (aCt h ht hi h1),dG hjt,subR_getD (by rw [aJr h hi,h3]),aMp,sU h1,sU h1]
/-! systems -/
def aUg (R : List (List Rat)) (m n : Nat) (x : Nat → Rat) : Prop:=∀ j,j < m → iK (fun c=>kJ R j c * x c) n = kJ R j n
def aXf (R : List (List Rat)) (m n : Nat) (z : Nat → Rat) : Prop:=∀ j,j < m → iK (fun c=>kJ R j c * z c) n = 0
def aXr (R : List (List Rat)) (m n : Nat) : Prop:=∀ z,aXf R m n z → ∀ k,k < n → z k = 0
def LnR (R : List (List Rat)) (m w t : Nat) : Prop:=∃ y : Nat → Rat,(∃ j,j < m ∧ y j ≠ 0) ∧ (∀ j,j < t → y j = 0) ∧ ∀ c,c < w → iK (fun j=>y j * kJ R j c) m = 0
def IdR (R : List (List Rat)) (m t : Nat) : Prop:=∀ c,c < t → ∀ j,j < m → kJ R j c = if j = c then 1 else 0
theorem aS4 (t i j : Nat) : swp t i (swp t i j) = j:=by unfold swp;repeat (split <;> try omega)
theorem aP8 {R : List (List Rat)} {m w t i : Nat} (h : pP R m w) (ht : t < m) (hi : i < m) (h0 : kJ R i t ≠ 0) {j : Nat} (hj : j < m) :
  ∃ a b : Rat,∃ j',j' < m ∧ ∀ c,kJ R j c = a * kJ (qM R t i) j' c + b * kJ (qM R t i) t c:=by
 by_cases e : j = i
 ·subst e;exact ⟨0,kJ R j t,t,ht,fun c=>by rw [aEb h ht hi];grind⟩
 have hjt : swp t i j ≠ t:=by unfold swp;split <;> (try split) <;> omega
 refine ⟨1,kJ R j t,swp t i j,aLd ht hi hj,fun c=>?_⟩;rw [aEj h ht hi (aLd ht hi hj) hjt,aEb h ht hi,aS4];grind
theorem step_sol {R : List (List Rat)} {m w t i n : Nat} (h : pP R m w) (ht : t < m) (hi : i < m) (h0 : kJ R i t ≠ 0) {x : Nat → Rat} (hs : aUg (qM R t i) m n x) : aUg R m n x:=by
 intro j hj;obtain ⟨a,b,j',hj',e⟩:=aP8 h ht hi h0 hj;rw [e n,← hs j' hj',← hs t ht,← lQ,← lQ,← pQ];exact gX fun c _=>by rw [e c];grind
theorem step_ker {R : List (List Rat)} {m w t i n : Nat} (h : pP R m w) (ht : t < m) (hi : i < m) (h0 : kJ R i t ≠ 0) {x : Nat → Rat} (hs : aXf (qM R t i) m n x) : aXf R m n x:=by
 intro j hj;obtain ⟨a,b,j',hj',e⟩:=aP8 h ht hi h0 hj;have h1:=hs j' hj';have h2:=hs t ht
 have : iK (fun c=>kJ R j c * x c) n = a * iK (fun c=>kJ (qM R t i) j' c * x c) n + b * iK (fun c=>kJ (qM R t i) t c * x c) n:=by
  rw [← lQ,← lQ,← pQ];exact gX fun c _=>by rw [e c];grind
 rw [this,h1,h2];grind
theorem tJ {m t : Nat} (ht : t < m) (v : Rat) : iK (fun j=>if j = t then v else 0) m = v:=by
 induction m with
 | zero=>omega
 | succ m ih =>
  rw [iK];by_cases e : m = t
  ·subst e;rw [eX rfl,oX fun k hk=>dG zO];grind
  rw [dG e,ih zO];grind
theorem sumF_swp {m t i : Nat} (ht : t < m) (hi : i < m) (f : Nat → Rat) : iK (fun j=>f (swp t i j)) m = iK f m:=by
 by_cases e : t = i
 ·subst e;refine gX fun j _=>?_;have : swp t t j = j:=by unfold swp;repeat (split <;> try omega)
  rw [this]
 have h1:=tJ ht (f i - f t);have h2:=tJ hi (f t - f i)
 have : iK (fun j=>f (swp t i j)) m = iK (fun j=>f j + ((if j = t then f i - f t else 0) + (if j = i then f t - f i else 0))) m :=
  gX fun j _=>by
   unfold swp;by_cases e1 : j = i
   ·rw [eX e1,dG zO,eX e1,e1];grind
   by_cases e2 : j = t
   ·rw [dG e1,eX e2,eX e2,dG e1,e2];grind
   rw [dG e1,dG e2,dG e2,dG e1];grind
 rw [this,pQ,pQ,h1,h2];grind
theorem step_ln {R : List (List Rat)} {m w t i : Nat} (h : pP R m w) (ht : t < m) (hi : i < m) (hti : t ≤ i) (htw : t < w) (h0 : kJ R i t ≠ 0) (hl : LnR R m w t) : LnR (qM R t i) m w (t + 1):=by
 obtain ⟨y,⟨j0,hj0,hy0⟩,hyt,hy⟩:=hl
 have hcol : ∀ c,c < w → iK (fun j=>y (swp t i j) * kJ R (swp t i j) c) m = 0:=fun c hc=>by
  rw [sumF_swp ht hi fun j=>y j * kJ R j c];exact hy c hc
 refine ⟨fun j=>if j = t then 0 else y (swp t i j),?_,fun j hj=>?_,fun c hc=>?_⟩
 ·apply Classical.byContradiction;intro hno
  have hz : ∀ j,j < m → j ≠ i → y j = 0:=fun j hj hji=>by
   have hjt : swp t i j ≠ t:=by unfold swp;split <;> (try split) <;> omega
   apply Classical.byContradiction;intro hyj;exact hno ⟨swp t i j,aLd ht hi hj,by show (if swp t i j = t then 0 else y (swp t i (swp t i j))) ≠ 0;rw [dG hjt,aS4];exact hyj⟩
  have h1:=hy t htw
  rw [gX (g:=fun j=>if j = i then y i * kJ R i t else 0) fun j hj=>by
   by_cases e : j = i
   ·rw [eX e,e]
   rw [dG e,hz j hj e];grind,tJ hi] at h1
  have h2 : y i = 0:=by
   rcases Rat.mul_eq_zero.1 h1 with h3 | h3
   ·exact h3
   exact absurd h3 h0
  by_cases e : j0 = i
  ·exact hy0 (by rw [e];exact h2)
  exact hy0 (hz j0 hj0 e)
 ·show (if j = t then 0 else y (swp t i j)) = 0;by_cases e : j = t
  ·rw [eX e]
  rw [dG e];have : swp t i j = j:=by unfold swp;rw [dG zO,dG e]
  rw [this];exact hyt j zO
 have hA:=hcol c hc;have hT:=hcol t htw;have e1 : swp t i t = i:=by unfold swp;repeat (split <;> try omega)
 have h1:=tJ ht (y i * kJ R i c);have h2:=tJ ht (y i * kJ R i t)
 rw [gX (g:=fun j=>(y (swp t i j) * kJ R (swp t i j) c - (if j = t then y i * kJ R i c else 0)) - (kJ R i c / kJ R i t) * (y (swp t i j) * kJ R (swp t i j) t - (if j = t then y i * kJ R i t else 0))) fun j hj=>by
  dsimp only
  by_cases e : j = t
  ·rw [eX e,eX e,eX e,e,e1];grind
  rw [dG e,dG e,dG e,aEj h ht hi hj e];grind]
 rw [oZ,lQ,oZ,oZ,hA,hT,h1,h2];grind
theorem step_id {R : List (List Rat)} {m w t i : Nat} (h : pP R m w) (ht : t < m) (hi : i < m) (hti : t ≤ i) (h0 : kJ R i t ≠ 0) (hd : IdR R m t) : IdR (qM R t i) m (t + 1):=by
 intro c hc j hj;by_cases ec : c = t
 ·subst ec;by_cases ej : j = c
  ·rw [eX ej,ej,aEb h ht hi];grind
  rw [dG ej,aEj h ht hi hj ej];grind
 have hic:=hd c zO i hi;rw [dG zO] at hic;by_cases ej : j = t
 ·rw [dG zO,ej,aEb h ht hi,hic];grind
 rw [aEj h ht hi hj ej,hic,hd c zO _ (aLd ht hi hj)];have : (swp t i j = c) ↔ (j = c):=by unfold swp;repeat (split <;> try omega)
 simp only [this];grind
theorem piv_ex {R : List (List Rat)} {m n t : Nat} (hd : IdR R m t) (hr : aXr R m n) (htn : t < n) (htm : t ≤ m) : ∃ i,t ≤ i ∧ i < m ∧ kJ R i t ≠ 0:=by
 apply Classical.byContradiction;intro hno;have hz : ∀ i,t ≤ i → i < m → kJ R i t = 0:=fun i h1 h2=>Classical.byContradiction fun h=>hno ⟨i,h1,h2,h⟩
 have:=hr (fun c=>if c = t then 1 else if c < t then - kJ R c t else 0) (fun j hj=>by
  by_cases ej : j < t
  ·rw [gX (g:=fun c=>(if c = j then - kJ R j t else 0) + (if c = t then kJ R j t else 0)) fun c hc=>by
    dsimp only
    by_cases e1 : c = t
    ·rw [eX e1,dG zO,eX e1,e1];grind
    by_cases e2 : c < t
    ·rw [dG e1,eX e2,dG e1,hd c e2 j hj];by_cases e3 : j = c
     ·rw [eX e3,eX e3.symm,e3];grind
     rw [dG e3,dG (fun h=>e3 h.symm)];grind
    rw [dG e1,dG e2,dG zO,dG e1];grind]
   rw [pQ,tJ zO,tJ htn];grind
  exact oX fun c hc=>by
   dsimp only
   by_cases e1 : c = t
   ·rw [eX e1,e1,hz j zO hj];grind
   by_cases e2 : c < t
   ·rw [dG e1,eX e2,hd c e2 j hj,dG zO];grind
   rw [dG e1,dG e2];grind) t htn
 rw [eX rfl] at this;exact absurd this zD
theorem aJt {α : Type} {p : α → Bool} : ∀ {l : List α} {k : Nat} {x : α},l[k]? = some x → p x = true → (∀ j y,j < k → l[j]? = some y → p y = false) → l.findIdx p = k
 | [],k,x,h,_,_=>by simp at h
 | y :: l,0,x,h,hp,_=>by simp at h;subst h;simp [List.findIdx_cons,hp]
 | y :: l,k + 1,x,h,hp,hn=>by
  have h0:=hn 0 y zO rfl;rw [List.findIdx_cons,h0];simp only [cond_false];rw [aJt (l:=l) (k:=k) (by simpa using h) hp fun j z hj hz=>hn (j + 1) z zO (by simpa using hz)]
theorem aVl {R : List (List Rat)} {m w t i : Nat} (h : pP R m w) (hti : t ≤ i) (hi : i < m) (h0 : kJ R i t ≠ 0) (hn : ∀ j,t ≤ j → j < i → kJ R j t = 0) : aCu R t = i:=by
 obtain ⟨r,h1,h2,_⟩:=h.row hi;unfold aCu
 rw [aJt (k:=i - t) (x:=r) (by rw [List.getElem?_drop,show t + (i - t) = i by omega];exact h1) (by
  have : r.getD t 0 ≠ 0:=by rw [← h2];exact h0
  simp only [aI this];rfl) fun j y hj hy=>by
   rw [List.getElem?_drop] at hy;have h3:=hn (t + j) zO zO;rw [sU hy] at h3;have h4 : y.getD t 0 = 0:=h3
   simp only [bG h4];rfl]
 omega
theorem first_is {p : Nat → Prop} {t i : Nat} (hti : t ≤ i) (hi : p i) : ∃ k,t ≤ k ∧ k ≤ i ∧ p k ∧ ∀ j,t ≤ j → j < k → ¬ p j:=by
 induction i using Nat.strongRecOn with
 | ind i ih =>
  by_cases h : ∃ j,t ≤ j ∧ j < i ∧ p j
  ·obtain ⟨j,h1,h2,h3⟩:=h;obtain ⟨k,h4,h5,h6,h7⟩:=ih j h2 h1 h3;exact ⟨k,h4,zO,h6,h7⟩
  exact ⟨i,hti,gT _,hi,fun j h1 h2 h3=>h ⟨j,h1,h2,h3⟩⟩
structure PivR (R : List (List Rat)) (m t i : Nat) : Prop where
 is : aCu R t = i
 ge : t ≤ i
 lt : i < m
 ne : kJ R i t ≠ 0
 zero : ∀ j,t ≤ j → j < i → kJ R j t = 0
theorem piv_all {R : List (List Rat)} {m w t : Nat} (h : pP R m w) (hx : ∃ i,t ≤ i ∧ i < m ∧ kJ R i t ≠ 0) : PivR R m t (aCu R t):=by
 obtain ⟨i,h1,h2,h3⟩:=hx;obtain ⟨k,h4,h5,h6,h7⟩:=first_is (p:=fun i=>kJ R i t ≠ 0) h1 h3;have h8 : ∀ j,t ≤ j → j < k → kJ R j t = 0:=fun j a b=>Classical.byContradiction fun hh=>h7 j a b hh;have e:=aVl h h4 zO h6 h8;rw [e];exact ⟨e,h4,zO,h6,h8⟩
structure StR (R : List (List Rat)) (m n t : Nat) : Prop where
 wide : pP (mB R t) m (n + 1)
 rig : aXr (mB R t) m n
 id : IdR (mB R t) m t
 ln : LnR (mB R t) m (n + 1) t
 sol : ∀ x,aUg (mB R t) m n x → aUg R m n x
theorem StR.piv {R : List (List Rat)} {m n t : Nat} (h : StR R m n t) (ht : t < n) (hm : t ≤ m) : PivR (mB R t) m t (aCu (mB R t) t):=piv_all h.wide (piv_ex h.id h.rig ht hm)
theorem StR.next {R : List (List Rat)} {m n t : Nat} (h : StR R m n t) (ht : t < n) (hm : t < m) : StR R m n (t + 1):=by
 have hp:=h.piv ht zO;exact ⟨aBq h.wide hm hp.lt,fun z hz=>h.rig z (step_ker h.wide hm hp.lt hp.ne hz),step_id h.wide hm hp.lt hp.ge hp.ne h.id,step_ln h.wide hm hp.lt hp.ge zO hp.ne h.ln,fun x hx=>h.sol x (step_sol h.wide hm hp.lt hp.ne hx)⟩
theorem StR.all {R : List (List Rat)} {m n : Nat} (h : StR R m n 0) (hm : n ≤ m) : ∀ t,t ≤ n → StR R m n t
 | 0,_=>h
 | t + 1,ht=>(StR.all h hm t zO).next zO zO
theorem StR.last {R : List (List Rat)} {n : Nat} (h : StR R (n + 1) n n) : kJ (mB R n) n n = 0:=by
 obtain ⟨y,⟨j,hj,hy⟩,hz,hc⟩:=h.ln
 have e : j = n:=by
  rcases gJ j n with h1 | h1
  ·exact absurd (hz j h1) hy
  omega
 subst e;have h1:=hc j zO;rw [iK,oX fun k hk=>by rw [hz k hk];grind] at h1;have h2 : y j * kJ (mB R j) j j = 0:=by grind
 rcases Rat.mul_eq_zero.1 h2 with h3 | h3
 ·exact absurd h3 hy
 exact h3
theorem StR.solves {R : List (List Rat)} {n : Nat} (h : StR R (n + 1) n n) : aUg R (n + 1) n fun k=>kJ (mB R n) k n:=by
 refine h.sol _ fun j hj=>?_;by_cases e : j = n
 ·subst e;rw [oX fun c hc=>by rw [h.id c hc j hj,dG zO];grind];exact h.last.symm
 rw [gX (g:=fun c=>if c = j then kJ (mB R n) j n else 0) fun c hc=>by
  rw [h.id c hc j hj];by_cases e2 : j = c
  ·rw [eX e2,eX e2.symm,e2];grind
  rw [dG e2,dG (fun h=>e2 h.symm)];grind]
 exact tJ zO _
/-! sizes -/
def szA (R : List (List Rat)) (L : Nat) : Prop:=∀ r ∈ R,∀ q ∈ r,mZ q L
def lenS : Nat → Nat
 | 0=>2
 | t + 1=>4 * lenS t + 1
theorem szA.enT {R : List (List Rat)} {L i k : Nat} (h : szA R L) (hL : 1 ≤ L) : mZ (kJ R i k) L:=by
 have h0 : mZ 0 L:=(aB4 (z:=0) (n:=L) (by rw [show (0 : Int).natAbs = 0 from rfl,dg0];exact eS _) hL)
 unfold kJ;rw [dB,dB];cases hr : R[i]? with
 | none=>exact h0
 | some r =>
  show mZ (r[k]?.getD 0) L;cases hq : r[k]? with
  | none=>exact h0
  | some q=>exact h r (cF hr) q (cF hq)
theorem szA.scl {r : List Rat} {b : Rat} {L : Nat} (h : ∀ q ∈ r,mZ q L) (hb : mZ b L) (h0 : b ≠ 0) : ∀ q ∈ sN r b,mZ q (2 * L):=by
 intro q hq;obtain ⟨p,hp,rfl⟩:=gS.1 hq;rw [Nat.two_mul];exact szQ_div (h p hp) hb h0
theorem szA.sub {o top : List Rat} {b : Rat} {L : Nat} (h : ∀ q ∈ o,mZ q L) (ht : ∀ q ∈ top,mZ q (2 * L)) (hb : mZ b L) : ∀ q ∈ yC o top b,mZ q (4 * L + 1):=by
 intro q hq
 obtain ⟨u,v,hu,hv,rfl⟩ : ∃ u v,u ∈ o ∧ v ∈ top ∧ q = u - v * b:=by
  unfold yC at hq;rw [List.zipWith_eq_zipWith_take_min] at hq;rw [← List.map_uncurry_zip_eq_zipWith] at hq;obtain ⟨⟨u,v⟩,huv,rfl⟩:=gS.1 hq;exact ⟨u,v,List.mem_of_mem_take (List.of_mem_zip huv).1,List.mem_of_mem_take (List.of_mem_zip huv).2,rfl⟩
 exact (aOj (h u hu) (aNv (ht v hv) hb)).mono zO
theorem szA.swap {R : List (List Rat)} {m w t i L : Nat} (hw : pP R m w) (ht : t < m) (hi : i < m) (h : szA R L) : szA (vB R t i) L:=by
 intro r hr;unfold vB at hr;obtain ⟨a,h1,h2,_⟩:=hw.row ht;obtain ⟨b,h4,h5,_⟩:=hw.row hi;rcases List.mem_or_eq_of_mem_set hr with h6 | rfl
 ·rcases List.mem_or_eq_of_mem_set h6 with h7 | rfl
  ·exact h r h7
  rw [h5];exact h b (cF h4)
 rw [h2];exact h a (cF h1)
theorem szA.top {R : List (List Rat)} {m w t i L : Nat} (hw : pP R m w) (hi : i < m) (h : szA R L) (hL : 1 ≤ L) (h0 : kJ R i t ≠ 0) : ∀ q ∈ yF R t i,mZ q (2 * L):=by
 obtain ⟨b,h4,h5,_⟩:=hw.row hi;refine szA.scl ?_ (h.enT hL (i:=i) (k:=t)) h0;rw [h5];exact h b (cF h4)
theorem szA.getD {r : List Rat} {L k : Nat} (h : ∀ q ∈ r,mZ q L) (hL : 1 ≤ L) : mZ (r.getD k 0) L:=by
 have:=szA.enT (R:=[r]) (L:=L) (i:=0) (k:=k) (fun x hx=>by simp at hx;subst hx;exact h) hL;exact this
theorem szA.step {R : List (List Rat)} {m w t i L : Nat} (hw : pP R m w) (ht : t < m) (hi : i < m) (h : szA R L) (hL : 1 ≤ L) (h0 : kJ R i t ≠ 0) : szA (qM R t i) (4 * L + 1):=by
 intro r hr;unfold qM at hr;obtain ⟨j,hj,rfl⟩:=List.mem_mapIdx.1 hr;have hs:=szA.swap hw ht hi h;split
 ·exact fun q hq=>(szA.top hw hi h hL h0 q hq).mono zO
 have hrow:=hs _ (List.getElem_mem hj);exact szA.sub hrow (szA.top hw hi h hL h0) (szA.getD hrow hL)
theorem aKf : ∀ t,1 ≤ lenS t
 | 0=>zD
 | t + 1=>by have:=aKf t;simp only [lenS];omega
theorem StR.size {R : List (List Rat)} {m n : Nat} (h : StR R m n 0) (hm : n ≤ m) (hz : szA R 2) : ∀ t,t ≤ n → szA (mB R t) (lenS t)
 | 0,_=>hz
 | t + 1,ht=>by
  have hs:=StR.all h hm t zO;have hp:=hs.piv zO zO;exact szA.step hs.wide zO hp.lt (StR.size h hm hz t zO) (aKf t) hp.ne
end Go.Proofs

set_option linter.unnecessarySimpa false
namespace Go.XL
def aX2 {α : Type} (P : Program) (f : FuncId) (cap : List Value) (H : Hp) (enc : α → List Value) (xs : List α) (I : List α → Hp → Own → Prop) (own2 : Own) : Prop :=
 ∀ (yv : Value) (p : Nat × SObj) (K : Hp → Own → Prop),
  (∀ pre x post,xs = pre ++ x :: post → ∀ H' o2,Le H H' → I pre H' o2 → wH P yv (enc x) H' (p :: o2) (eQ fun v H'' own''=>(v = .bool true ∧ ∃ o3,own'' = p :: o3 ∧ I (pre ++ [x]) H'' o3) ∨ (v = .bool false ∧ K H'' own''))) →
  I [] H own2 →
  iP P f ((yv :: cap).toArray) H (p :: own2) (eQ fun v H' own'=>v = .tuple #[] ∧ ((∃ o3,own' = p :: o3 ∧ I xs H' o3) ∨ K H' own'))
section
variable {C : Ctx} {Q : Exit → St → Prop} {env : gY} {df : List Deferred} {H : Hp} {own : Own}
theorem XC.rangeFuncI {α : Type} {g : Operand} {ps : List Tmp} {assign body : Code} {f : FuncId} {cap : List Value} {enc : α → List Value} {xs : List α} (I : List α → Hp → Own → Prop)
  (hg : ev env g = some (.func (.func f) #[] cap.toArray)) (hseq : aX2 C.P f cap H enc xs I own) (hps : ∀ x,(enc x).length = ps.length) (hpN : (ps.all fun p=>Nat.blt p C.N) = true)
  (Kx : Code → Hp → Own → Prop) (h0 : I [] H own)
  (hround : C.r = none ∨ ∃ l0 r0,C.r = some l0 ∧ (l0,SObj.obj (.loop r0)) ∈ C.hid)
  (hbody : ∀ G l hd1 hd2,(∃ r0,(l,SObj.obj (.loop r0)) ∈ hd2) → ∀ pre x post,xs = pre ++ x :: post → ∀ H' own',Le H H' → I pre H' own' →
   XC ⟨C.P,G,C.N,some l,hd1⟩ assign (aIy ⟨C.P,G,C.N,some l,hd2⟩ body (aRj l I Kx (pre ++ [x]))) ⟨wO ps (enc x) env,[],H',own'⟩)
  (hdone : ∀ H' own',Le H H' → I xs H' own' → Q .normal ⟨env,df,H',own'⟩)
  (hjump : ∀ c H' own',Le H H' → Kx c H' own' → XC C c Q ⟨env,df,H',own'⟩) : XC C (.rangeFunc g ps.toArray assign body) Q ⟨env,df,H,own⟩:=by
 intro a w hr;refine wpIn_rangeFunc ?_;intro fn hfn;obtain ⟨l,mk,w₁,D,ms',hrun,hdf,hok₁⟩:=aFv (fn:=fn) (ps:=ps.toArray) («a_s»:=assign) (bd:=body) hr hround;have hga:=hr.eval hg
 let rec0 : Loop:={ state:=.ready,pending:=none,fn,tmps:=a.tmps,params:=ps.toArray,assign:=assign,body:=body,defers:=D }
 let yv : Value:=.func (.yield l) #[] #[]
 let K : Hp → Own → Prop:=fun H' ownY=>∃ own2' c,ownY = (l,.obj (.loop { rec0 with state:=.done,pending:=some c })) :: own2' ∧ Kx c H' own2'
 have hcall:=hseq yv (l,.obj (.loop rec0)) K (by
  rintro pre x post hxs H' own2' hle hI;intro G rst w hok;have hok' : Ok G H' ((l,.obj (.loop rec0)) :: (own2' ++ rst)) w:=hok;have hl:=hok'.objAt;refine ⟨{ target:=.fn (.yield l) #[],args:=#[] ++ (enc x).toArray },.round l fn ((ps.toArray.zip (enc x).toArray).foldl (fun tmps (t,a)=>tmps.setIfInBounds t a) a.tmps) assign body,w,rfl,?_,?_⟩
  ·have:=run_yield (P:=C.P) (args:=(enc x).toArray) hl (by simp [rec0,hps]);show (Instr.yield l (#[] ++ (enc x).toArray)).run C.P w = _;rw [Array.empty_append];exact this
  refine roundIn_of_wpIn trivial ?_
  have hfold : ((ps.toArray.zip (enc x).toArray).foldl (fun tmps (t,a)=>tmps.setIfInBounds t a) a.tmps) = ((ps.zip (enc x)).foldl (fun (tmps : Array Value) (x : Tmp × Value)=>tmps.setIfInBounds x.1 x.2) a.tmps):=by
   rw [← Array.foldl_toList];simp
  rw [hfold]
  obtain ⟨hsz,hget⟩:=aG7 ps (enc x) env a.tmps (by simp [hps]) (fun p hp=>by
   have:=List.all_eq_true.1 hpN p hp
   rw [hr.size];simpa using this) hr.get
  have hX:=hbody G l ((l,.obj (.loop rec0)) :: rst) ((l,.obj (.loop { rec0 with state:=.busy })) :: rst) ⟨_,List.mem_cons_self⟩ pre x post hxs H' own2' hle hI
  have hrel : Rel ⟨C.P,G,C.N,some l,(l,.obj (.loop rec0)) :: rst⟩ ⟨wO ps (enc x) env,[],H',own2'⟩ { tmps:=((ps.zip (enc x)).foldl (fun (tmps : Array Value) (x : Tmp × Value)=>tmps.setIfInBounds x.1 x.2) a.tmps),defers:=[] } w :=
   ⟨by rw [← hr.size];exact hsz,hget,[],rfl,hok'.perm (by simpa using List.perm_middle)⟩
  refine Go.wpIn_mono (hX _ _ hrel) ?_;rintro e a₁ w₁ ⟨σ,hr₁,hle₁,hq⟩;cases e with
  | normal =>
   obtain ⟨ms₁,hd₁,hok₁⟩:=hr₁.ok
   have hok₂ : Ok G σ.H ((l,.obj (.loop rec0)) :: (σ.own ++ (ms₁.map hid ++ rst))) w₁:=hok₁.perm (by
    rw [← eM,← eM];exact List.perm_middle.symm)
   have hbeg:=run_beginRound (P:=C.P) hok₂.objAt rfl;refine ⟨_,hbeg,?_⟩;have hok₃:=hok₂.putObj (o':=.loop { rec0 with state:=.busy })
   have hrel₂ : Rel ⟨C.P,G,C.N,some l,(l,.obj (.loop { rec0 with state:=.busy })) :: rst⟩ σ a₁ (w₁.putObj l (.loop { rec0 with state:=.busy })) :=
    ⟨hr₁.size,hr₁.get,ms₁,hd₁,hok₃.perm (by rw [← eM,← eM];exact List.perm_middle)⟩
   refine Go.wpIn_mono (hq _ _ hrel₂) ?_;rintro e a₂ w₂ ⟨τ,hr₂,hle₂,hq₂⟩;obtain ⟨ms₂,hd₂,hok₄⟩:=hr₂.ok
   have hok₅ : Ok G τ.H ((l,.obj (.loop { rec0 with state:=.busy })) :: (τ.own ++ (ms₂.map hid ++ rst))) w₂:=hok₄.perm (by
    rw [← eM,← eM];exact List.perm_middle.symm)
   have hend:=fun j=>run_endRound (P:=C.P) j hok₅.objAt
   have leave : ∀ (c : Code),(∃ o,o.Sublist τ.own ∧ Kx c τ.H o) → ∃ v w',(Instr.endRound l (some c)).run C.P w₂ = .ok v w' ∧ (Ending.returned v ≠ .outgrown ∧ ∃ H'' own'',Le H' H'' ∧ Ok G H'' (own'' ++ rst) w' ∧ eQ (fun v H'' own''=>(v = .bool true ∧ ∃ o3,own'' = (l,.obj (.loop rec0)) :: o3 ∧ I (pre ++ [x]) H'' o3) ∨ (v = .bool false ∧ K H'' own'')) (.returned v) H'' own''):=by
    rintro c ⟨o,hs,hk⟩;refine ⟨_,_,hend (some c),by simp,τ.H,(l,.obj (.loop { rec0 with state:=.done,pending:=some c })) :: o,hle₁.trans hle₂,?_,.inr ⟨rfl,o,c,rfl,hk⟩⟩;exact (hok₅.putObj (o':=.loop { rec0 with state:=.done,pending:=some c })).shrink (Le.refl _) (List.Sublist.cons_cons _ (hs.append (List.sublist_append_right _ _)))
   cases e with
   | normal =>
    obtain ⟨_,o,hs,hI'⟩:=hq₂;refine ⟨_,_,hend none,by simp,τ.H,(l,.obj (.loop rec0)) :: o,hle₁.trans hle₂,?_,.inl ⟨rfl,o,rfl,hI'⟩⟩;exact (hok₅.putObj (o':=.loop rec0)).shrink (Le.refl _) (List.Sublist.cons_cons _ (hs.append (List.sublist_append_right _ _)))
   | exit id=>exact leave _ hq₂.2
   | goto t=>exact leave _ hq₂.2
   | ret=>exact leave _ hq₂.2
   | panic ch=>exact hq₂.elim
   | outgrown=>exact hq₂.elim
  | exit id=>exact hq.elim
  | goto t=>exact hq.elim
  | ret=>exact hq.elim
  | panic ch=>exact hq.elim
  | outgrown=>exact hq.elim) h0
 refine ⟨l,mk,w₁,{ target:=.fn (.func f) cap.toArray,args:=#[] ++ #[yv] },w₁,f,(yv :: cap).toArray,w₁,hrun,?_,fun _ _=>trivial,?_,fun h=>(by cases h),?_⟩
 ·have hm : Array.map a.eval #[Operand.const (Value.func (Fn.yield l) #[] #[])] = #[yv]:=by simp [Act.eval,yv]
  simp only [resolve,rangeCall,hga,hm];rfl
 ·have:=hcall.1 (yv :: cap).toArray w₁;show (callFunc f ((#[] ++ #[yv]) ++ cap.toArray)).run C.P w₁ = _;have e : (#[] ++ #[yv] ++ cap.toArray : Array Value) = (yv :: cap).toArray:=by simp
  rw [e];exact this
 have hok₂ : Ok C.G H (((l,.obj (.loop rec0)) :: own) ++ (ms'.map hid ++ C.hid)) w₁:=hok₁;have hc : CallsIn Fence.wide (0 - 1) C.P f (yv :: cap).toArray w₁ _:=callsIn_wide.2 (hcall.2 C.G _ w₁ hok₂);have hc2 : CallsIn (Fr C.r) (0 - 1) C.P f (yv :: cap).toArray w₁ _:=hc;refine ⟨hc2.1,fun cs hcs=>?_⟩;obtain ⟨e,w₃,fr,⟨hne,H',own',hle,hok₃,hR⟩,hx⟩:=hc2.2 cs hcs;refine ⟨e,w₃,fr,?_,hx⟩;cases e with
 | outgrown=>exact absurd rfl hne
 | panicked ch=>exact hR.elim
 | returned v =>
  obtain ⟨_,hJK⟩:=hR
  have key : ∀ (r : Loop) (o : Own),own' = (l,.obj (.loop r)) :: o → r.state ≠ .busy → (Instr.endLoop l).run C.P w₃ = .ok r.pending (w₃.putObj l (.loop { r with state:=.exhausted })) ∧
    Rel C ⟨env,df,H',o⟩ { a with defers:=mk ++ a.defers } (w₃.putObj l (.loop { r with state:=.exhausted })):=by
   rintro r o rfl hb;have hok₄ : Ok C.G H' ((l,.obj (.loop r)) :: (o ++ (ms'.map hid ++ C.hid))) w₃:=hok₃;refine ⟨run_endLoop hok₄.objAt hb,hr.size,hr.get,ms',hdf,?_⟩;exact (hok₄.putObj (o':=.loop { r with state:=.exhausted })).shrink (Le.refl _) (.cons _ (jP _))
  rcases hJK with ⟨o,ho,hI⟩ | ⟨o,c,ho,hk⟩
  ·obtain ⟨h1,h2⟩:=key rec0 o ho (by simp [rec0]);exact ⟨none,_,h1,⟨_,h2,hle,hdone H' o hle hI⟩⟩
  obtain ⟨h1,h2⟩:=key { rec0 with state:=.done,pending:=some c } o ho zP;exact ⟨some c,_,h1,Go.wpIn_mono (hjump c H' o hle hk _ _ h2) fun _ _ _ lf=>uG lf hle fun _ _ q=>q⟩
end
end Go.XL

namespace Go.XL
def aKx (l : List Oper) (i k : Nat) : Bool:=match l[i]? with
 | some o=>sW l l.length o k
 | none=>false
def aLj (Gd : Hp → Prop) (dst : Option Tmp) (f : Value → Hp → Prop) (fo : Value → Own → Hp → Prop) (env : gY) (df : List Deferred) (own : Own) : Exit → St → Prop
 | .normal,σ=>Gd σ.H ∧ σ.df = df ∧ ∃ v e,σ.env = jI dst v env ∧ f v σ.H ∧ σ.own = e ++ own ∧ fo v e σ.H
 | _,_=>False
theorem iA {Gd : Hp → Prop} {dst : Option Tmp} {f : Value → Hp → Prop} {fo : Value → Own → Hp → Prop} {env : gY} {df : List Deferred} {own o : Own} {H : Hp} {v : Value} {e : Own} (hG : Gd H) (hf : f v H) (ho : o = e ++ own) (hfo : fo v e H) :
  aLj Gd dst f fo env df own .normal ⟨jI dst v env,df,H,o⟩:=⟨hG,rfl,v,e,rfl,hf,ho,hfo⟩
def entOJ (mods : List Nat) (L : Nat → Bool) (j : Nat) : Prop:=(∀ q,q < j → L (mods.getD q 0) = true) ∧ (∀ q,j ≤ q → q < mods.length → L (mods.getD q 0) = false)
def aWa (mods : List Nat) (FO : Nat → Value → Own → Hp → Prop) (L : Nat → Bool) (val : Nat → Value) (e : Own) (H : Hp) : Prop :=
 ∃ j,j ≤ mods.length ∧ (∀ q,q < j → L (mods.getD q 0) = true) ∧ (∀ q,j ≤ q → q < mods.length → L (mods.getD q 0) = false) ∧ FO j (aCj mods val j) e H
theorem entO_at {mods : List Nat} {FO : Nat → Value → Own → Hp → Prop} {L : Nat → Bool} {val : Nat → Value} {e : Own} {H : Hp} (h : aWa mods FO L val e H) {r : Nat} (hr : r < mods.length) (hA : ∀ q,q < r → L (mods.getD q 0) = true) (hB : ∀ q,r ≤ q → q < mods.length → L (mods.getD q 0) = false) : FO r (aCj mods val r) e H:=by
 obtain ⟨j,hj,h1,h2,h3⟩:=h
 have : j = r:=by
  rcases Nat.lt_trichotomy j r with hl | hl | hl
  ·have a:=hA j hl;rw [h2 j (gT _) zO] at a;cases a
  ·exact hl
  have a:=h1 r hl;rw [hB r (gT _) hr] at a;cases a
 subst this;exact h3
def aE5 (l : List Oper) (mods : List Nat) (FO : Nat → Value → Own → Hp → Prop) (k : Nat) (acc : gY) (e : Own) (H : Hp) : Prop :=
 match vP mods k with
 | none=>∃ j v,j ≤ mods.length ∧ (∀ q,q < mods.length → aKx l (mods.getD q 0) k = true → j ≤ q) ∧ FO j v e H
 | some 0=>FO 0 undef e H
 | some (j + 1)=>∀ t v,gU l (mods.getD j 0) = some t → gY.get acc t = some v → FO (j + 1) v e H
def foO (mods : List Nat) (k : Nat) (FO : Nat → Value → Own → Hp → Prop) (e0 : Own) : Value → Own → Hp → Prop:=fun v e H =>
 match vP mods k with
 | none=>e = e0
 | some j=>FO (j + 1) v e H
def aSt (l : List Oper) (mods : List Nat) (FO : Nat → Value → Own → Hp → Prop) (acc : gY) (e : Own) (H : Hp) : Prop :=
 match mods.length with
 | 0=>FO 0 undef e H
 | n + 1=>∀ t v,gU l (mods.getD n 0) = some t → gY.get acc t = some v → FO (n + 1) v e H
def aCb (Gd : Hp → Prop) (mods : List Nat) (FO : Nat → Value → Own → Hp → Prop) (C : Ctx) (l : List Oper) (F : List (Value → Hp → Prop)) (env : gY) (df : List Deferred) (H : Hp) (own : Own) (m : Nat) : Nat → List Oper → Prop
 | _,[]=>True
 | k,o :: rest=>bif Nat.blt k m then
   (∀ X e H',Le H H' → Gd H' → mK l F H' (kH o) [] fun acc=>aE5 l mods FO k acc e H' → XO C l.toArray (aLj Gd o.dst (jN F k) (foO mods k FO e) (acc ++ (env ++ X)) df own) [o] ⟨acc ++ (env ++ X),df,H',e ++ own⟩) ∧ aCb Gd mods FO C l F env df H own m (k + 1) rest
  else True
theorem lM {Gd : Hp → Prop} {mods : List Nat} {FO : Nat → Value → Own → Hp → Prop} {C : Ctx} {l : List Oper} {F : List (Value → Hp → Prop)} {env : gY} {df : List Deferred} {H : Hp} {own : Own} {m k : Nat} {o : Oper} {rest : List Oper} (hk : Nat.blt k m = true)
  (h : ∀ X e H',Le H H' → Gd H' → mK l F H' (kH o) [] fun acc=>aE5 l mods FO k acc e H' → XO C l.toArray (aLj Gd o.dst (jN F k) (foO mods k FO e) (acc ++ (env ++ X)) df own) [o] ⟨acc ++ (env ++ X),df,H',e ++ own⟩) (k2 : aCb Gd mods FO C l F env df H own m (k + 1) rest) : aCb Gd mods FO C l F env df H own m k (o :: rest):=by
 rw [aCb,hk];exact ⟨h,k2⟩
theorem aLi {Gd : Hp → Prop} {mods : List Nat} {FO : Nat → Value → Own → Hp → Prop} {C : Ctx} {l : List Oper} {F : List (Value → Hp → Prop)} {env : gY} {df : List Deferred} {H : Hp} {own : Own} {m k : Nat} {rest : List Oper} (hk : Nat.blt k m = false) : aCb Gd mods FO C l F env df H own m k rest:=by
 cases rest with
 | nil=>trivial
 | cons o r=>rw [aCb,hk];trivial
section
variable {C : Ctx} {Q : Exit → St → Prop} {env : gY} {df : List Deferred} {H : Hp} {own : Own}
theorem aMq {Gd : Hp → Prop} {mods : List Nat} {FO : Nat → Value → Own → Hp → Prop} {l : List Oper} {F : List (Value → Hp → Prop)} {m : Nat} : ∀ (rest : List Oper) (k : Nat),aCb Gd mods FO C l F env df H own m k rest → ∀ (i : Nat) (o : Oper),rest[i]? = some o → k + i < m →
  ∀ X e H',Le H H' → Gd H' → mK l F H' (kH o) [] fun acc=>aE5 l mods FO (k + i) acc e H' → XO C l.toArray (aLj Gd o.dst (jN F (k + i)) (foO mods (k + i) FO e) (acc ++ (env ++ X)) df own) [o] ⟨acc ++ (env ++ X),df,H',e ++ own⟩
 | [],k,_,i,o,hi,_=>by simp at hi
 | x :: rest,k,h,i,o,hi,hlt=>by
  simp only [aCb] at h;rw [show Nat.blt k m = true by simp;omega] at h;cases i with
  | zero=>simp only [mF,Option.some.injEq] at hi;subst hi;exact h.1
  | succ i =>
   have:=aMq rest (k + 1) h.2 i o (by simpa using hi) zO;rwa [show k + 1 + i = k + (i + 1) by omega] at this
theorem XC.drawO (Gd : Hp → Prop) (hG : Gd H) (mods : List Nat) (FO : Nat → Value → Own → Hp → Prop) (hFO : ∀ j v p H H',Le H H' → FO j v p H → FO j v p H') {id : Nat} {l : List Oper} (m : Nat) (F : List (Value → Hp → Prop)) (hm : C.P.follows .mixedOrders = true) (hck : sS m l (env.map Prod.fst) = true) (hmono' : aE3 F)
  (hch : aC9 l m mods = true) {q : Own} (hq0 : FO 0 undef q H) (steps : aCb Gd mods FO C l F env df H own m 0 l)
  (tail : ∀ H',Le H H' → Gd H' → mK l F H' (List.range m) [] fun acc=>∀ e,aSt l mods FO acc e H' → XO C l.toArray Q (l.drop m) ⟨acc ++ env,df,H',e ++ own⟩) : XC C (.region id l.toArray true) Q ⟨env,df,H,q ++ own⟩:=by
 have hmono:=xK hmono';intro a₀ w₀ hr₀;refine wpIn_region_any hm ?_;simp only [sS,fL,List.all_eq_true,fA] at hck;obtain ⟨⟨hml,hck1⟩,hck2⟩:=hck;have hml:=Nat.le_of_ble_eq_true hml
 have hpre : ∀ i,i < m → ∃ o,l[i]? = some o ∧ (∀ t,o.dst = some t → t ∉ env.map Prod.fst ∧ (∀ j,j < m → i ≠ j → gU l j ≠ some t)) ∧ (∀ e ∈ o.after,Region.binds .any e = true → e.on < i) ∧ (∀ j ∈ kH o,j < m ∧ ∃ e ∈ o.after,Region.binds .any e = true ∧ e.on = j):=by
  intro i hi;have h:=hck1 i hi;split at h
  ·rename_i o ho
   simp only [fL,List.all_eq_true] at h;obtain ⟨⟨⟨hnd,hd⟩,haf⟩,hp⟩:=h;refine ⟨o,ho,?_,?_,?_⟩
   ·intro t ht;rw [ht] at hd;simp only [fL,List.all_eq_true,fA,Bool.not_eq_true',List.contains_eq_mem,decide_eq_false_iff_not] at hd;refine ⟨hd.1,fun j hj hne he=>?_⟩;have:=hd.2 j hj;rw [he] at this;simp at this;exact hne this
   ·intro e he hb;have:=haf e (by simpa using he);simpa [hb] using this
   intro j hj;have:=hp j hj;simp only [List.any_eq_true,fL] at this;obtain ⟨h1,e,he,hb,hon⟩:=this;exact ⟨by simpa using h1,e,by simpa using he,hb,fV hon⟩
  cases h
 have hkey : ∀ i t,i < m → gU l i = some t → t ∉ env.map Prod.fst:=by
  intro i t hi ht;obtain ⟨o,ho,hd,_⟩:=hpre i hi;exact (hd t (by simpa [gU,ho] using ht)).1
 have hdis : ∀ i j t,i < m → j < m → gU l i = some t → gU l j = some t → i = j:=by
  intro i j t hi hj ht ht2;obtain ⟨o,ho,hd,_⟩:=hpre i hi;by_cases h : i = j
  ·exact h
  exact absurd ht2 ((hd t (by simpa [gU,ho] using ht)).2 j hj h)
 have htl : ∀ (i : Nat) (o : Oper),m ≤ i → l[i]? = some o → (∀ j,j < i → sW l l.length o j = true) ∧ (∀ e ∈ o.after,Region.binds .any e = true → e.on < i):=by
  intro i o hi ho;have hlt:=(bY.1 ho).1;have h:=hck2 i hlt;rw [ho] at h;rw [show Nat.blt i m = false from aE7 hi] at h;simp only [Bool.false_or,fL,List.all_eq_true,fA] at h;refine ⟨fun j hj=>h.1 j hj,fun e he hb=>?_⟩
  ·have:=h.2 e (by simpa using he);simpa [hb] using this
 have hdc : ∀ (i : Nat) (o : Oper),l[i]? = some o → ∀ e ∈ o.after,Region.binds .any e = true → e.on < i:=by
  intro i o ho;rcases gJ i m with h | h
  ·obtain ⟨o2,ho2,_,haf,_⟩:=hpre i h;rw [ho] at ho2;cases ho2;exact haf
  exact (htl i o h ho).2
 have main : ∀ (fuel : Nat) (L : Array Bool) (a : Act) (w : World) (val : Nat → Value) (kJ : Own) (H' : Hp),L.size = l.length → unl l.length L ≤ fuel → Le H H' → Gd H' → (∀ (i : Nat) (o : Oper),l[i]? = some o → jU L i = true → ∀ e ∈ o.after,Region.binds .any e = true → jU L e.on = true) → (∀ j,m ≤ j → jU L j = false) →
   a.tmps.size = C.N → (∀ t v,env.get t = some v → a.tmps.getD t undef = v) → (∃ ms : List Nat,a.defers = ms.map mark ++ df ∧ Ok C.G H' ((kJ ++ own) ++ (ms.map hid ++ C.hid)) w) → aWa mods FO (jU L) val kJ H' →
   (∀ i,i < m → jU L i = true → ∀ t,gU l i = some t → a.tmps.getD t undef = val i ∧ jN F i (val i) H') →
   wpAnyIn (Fr C.r) 0 C.P .any l.toArray (nW C H Q) fuel L a w:=by
  intro fuel
  have done : ∀ (fuel : Nat) (L : Array Bool) (a : Act) (w : World) (val : Nat → Value) (kJ : Own) (H' : Hp),L.size = l.length → unl l.length L ≤ fuel → Le H H' → Gd H' → (∀ j,m ≤ j → jU L j = false) →
    a.tmps.size = C.N → (∀ t v,env.get t = some v → a.tmps.getD t undef = v) → (∃ ms : List Nat,a.defers = ms.map mark ++ df ∧ Ok C.G H' ((kJ ++ own) ++ (ms.map hid ++ C.hid)) w) → aWa mods FO (jU L) val kJ H' →
    (∀ i,i < m → jU L i = true → ∀ t,gU l i = some t → a.tmps.getD t undef = val i ∧ jN F i (val i) H') → (∀ j,j < m → jU L j = true) →
    wpAnyIn (Fr C.r) 0 C.P .any l.toArray (nW C H Q) fuel L a w:=by
   intro fuel L a w val kJ H' hs hu hle hGd hT hsz henv hok hents hfacts hall;obtain ⟨acc',hk,hmem⟩:=pR (val:=val) (List.range m) [] _ (tail H' hle hGd) (fun j hj t ht=>(hfacts j (fA.1 hj) (hall j (fA.1 hj)) t ht).2);have hcount : l.length - m ≤ fuel:=by rw [uF hml hall hT];exact hu
   refine vC (m:=m) htl hdc fuel m L a w (gT _) hs hcount hml ?_ ?_
   ·intro j;rcases gJ j m with h | h
    ·rw [hall j h];simp [h]
    rw [hT j h];simp;omega
   have hk2:=hk kJ (by
    obtain ⟨j,hj,h1,h2,h3⟩:=hents
    have hjl : j = mods.length:=by
     rcases gJ j mods.length with h | h
     ·have:=h2 j (gT _) h;rw [hall _ (aD8 hch h)] at this;cases this
     omega
    subst hjl;unfold aSt;cases hm : mods.length with
    | zero=>rw [hm] at h3;simpa [aCj] using h3
    | succ n =>
     intro t v hdt hg;rw [hm] at h3;obtain ⟨j',hj',hdj,rfl⟩:=hmem t v (pM (by simpa using hg));obtain rfl:=hdis _ j' t (aD8 hch zO) (fA.1 hj') hdt hdj
     simpa [aCj] using h3)
   refine lZ hle _ _ _ (hk2 a w ⟨hsz,?_,hok⟩);intro t v hg;simp only [gH] at hg;rw [gY.get_append] at hg;cases hga : gY.get acc' t with
   | none=>rw [hga] at hg;exact henv t v (by simpa using hg)
   | some u =>
    rw [hga] at hg;simp at hg;subst hg;obtain ⟨j,hj,hd,rfl⟩:=hmem t u (kB _ _ _ hga);have hj:=fA.1 hj;exact (hfacts j hj (hall j hj) t hd).1
  induction fuel with
  | zero =>
   intro L a w val kJ H' hs hu hle hGd hdown hT hsz henv hok hents hfacts;refine done 0 L a w val kJ H' hs hu hle hGd hT hsz henv hok hents hfacts ?_;intro j hj;cases hx : jU L j with
   | true=>rfl
   | false =>
    have:=qT (L:=L) (i:=j) hs zO hx;omega
  | succ fuel ih =>
   intro L a w val kJ H' hs hu hle hGd hdown hT hsz henv hok hents hfacts;by_cases hall : ∀ j,j < m → jU L j = true
   ·exact done (fuel + 1) L a w val kJ H' hs hu hle hGd hT hsz henv hok hents hfacts hall
   constructor
   ·intro hnil;exfalso;apply hall
    -- the least one that is not listed is ready
    intro j hj
    induction j using Nat.strongRecOn with
    | _ j ihj =>
     cases hx : jU L j with
     | true=>rfl
     | false =>
      exfalso;obtain ⟨o,ho,_,haf,_⟩:=hpre j hj
      have : j ∈ Region.ready .any l.toArray L:=by
       rw [mem_ready];refine ⟨?_,o,by simpa using ho,fun e he hb=>ihj e.on (haf e he hb) (by have:=haf e he hb;omega)⟩;unfold jU at hx;rw [dY,gG zO] at hx ⊢;simpa using hx
      rw [hnil] at this;cases this
   intro i hi;rw [mem_ready] at hi;obtain ⟨h0,o,ho,hbef⟩:=hi;have hilt : i < l.length:=by simpa using (Array.getElem?_eq_some_iff.1 ho).1
   have hun : jU L i = false:=by
    unfold jU;rw [dY,gG zO] at h0 ⊢;simpa using h0
   have ho' : l[i]? = some o:=by simpa using ho
   have him : i < m:=by
    rcases gJ i m with h | h
    ·exact h
    exfalso;apply hall;intro j hj;exact nC hdown _ o j hbef ((htl i o h ho').1 j zO)
   obtain ⟨o2,ho2,hd,haf,hprd⟩:=hpre i him;rw [ho'] at ho2;cases ho2;have hdo : gU l i = o.dst:=by simp [gU,ho']
   have hst:=aMq l 0 steps i o ho' zO;simp only [Nat.zero_add] at hst
   -- all that is known of the slots,a_s one list
   let X : gY:=(List.range m).filterMap fun j=>if jU L j then (gU l j).map fun t=>(t,val j) else none
   have hpredF : ∀ j ∈ kH o,∀ tj,gU l j = some tj → jN F j (val j) H':=fun j hj tj hdj=>by
    obtain ⟨hjm,e,he,hb,hon⟩:=hprd j hj;have hlj : jU L j = true:=by have:=hbef e he hb;rw [hon] at this;exact this
    exact (hfacts j hjm hlj tj hdj).2
   have hX : ∀ t v,(t,v) ∈ X → ∃ j,j < m ∧ jU L j = true ∧ gU l j = some t ∧ v = val j:=by
    intro t v h;obtain ⟨j,hj,hjj⟩:=List.mem_filterMap.1 h;split at hjj
    ·rename_i hlj
     cases hdj : gU l j with
     | none=>rw [hdj] at hjj;cases hjj
     | some tj =>
      rw [hdj] at hjj;simp only [Option.map_some,Option.some.injEq,Prod.mk.injEq] at hjj;obtain ⟨rfl,rfl⟩:=hjj;exact ⟨j,fA.1 hj,hlj,hdj,rfl⟩
    cases hjj
   have hgets : ∀ acc' : gY,(∀ t v,(t,v) ∈ acc' → ∃ j ∈ kH o,gU l j = some t ∧ v = val j) → ∀ t v,gY.get (acc' ++ (env ++ X)) t = some v → a.tmps.getD t undef = v:=by
    intro acc' hmem t v hgv;rw [gY.get_append,gY.get_append] at hgv;cases hga : gY.get acc' t with
    | some u =>
     rw [hga] at hgv;simp at hgv;subst hgv;obtain ⟨j,hj,hdj,rfl⟩:=hmem t u (kB _ _ _ hga);obtain ⟨hjm,e,he,hb,hon⟩:=hprd j hj;have hlj : jU L j = true:=by have:=hbef e he hb;rw [hon] at this;exact this
     exact (hfacts j hjm hlj t hdj).1
    | none =>
     rw [hga] at hgv;simp only [Option.none_or] at hgv;cases hge : gY.get env t with
     | some u=>rw [hge] at hgv;simp at hgv;subst hgv;exact henv t u hge
     | none =>
      rw [hge] at hgv;simp only [Option.none_or] at hgv;obtain ⟨j,hj,hlj,hdj,rfl⟩:=hX t v (kB _ _ _ hgv);exact (hfacts j hj hlj t hdj).1
   have hnextG : ∀ (acc' : gY),(∀ t v,(t,v) ∈ acc' → ∃ j ∈ kH o,gU l j = some t ∧ v = val j) → ∀ (a' : Act) (w' : World) (σ' : St) (v : Value) (ent' : Own),Rel C σ' a' w' → Le H' σ'.H → Gd σ'.H → σ'.df = df → σ'.env = jI o.dst v (acc' ++ (env ++ X)) → jN F i v σ'.H →
     (∀ ms : List Nat,Ok C.G σ'.H (σ'.own ++ (ms.map hid ++ C.hid)) w' → Ok C.G σ'.H ((ent' ++ own) ++ (ms.map hid ++ C.hid)) w') →
     aWa mods FO (jU (L.setIfInBounds i true)) (fun j=>if j = i then v else val j) ent' σ'.H →
     wpAnyIn (Fr C.r) 0 C.P .any l.toArray (nW C H Q) fuel (L.setIfInBounds i true) a' w':=by
    intro acc' hmem a' w' σ' v ent' hr' hle' hGd' hdf' henv' hfv hown' hent';refine ih (L.setIfInBounds i true) a' w' (fun j=>if j = i then v else val j) ent' σ'.H (by simpa using hs) ?_ (hle.trans hle') hGd' ?_ ?_ hr'.size ?_ ?_ hent' ?_
    ·have:=qT hs hilt hun;omega
    ·intro i' o' hi' hl' e he hb;rw [jT zO] at hl' ⊢;split
     ·rfl
     split at hl'
     ·rename_i e1 e2;subst e2;rw [ho'] at hi';cases hi';exact hbef e he hb
     exact hdown i' o' hi' hl' e he hb
    ·intro j hj;rw [jT zO,dG zO];exact hT j hj
    ·intro t' v' hg';refine hr'.get t' v' ?_;have hin : t' ∈ env.map Prod.fst:=gS.2 ⟨(t',v'),kB _ _ _ hg',rfl⟩;rw [henv',nI (fun e=>(hd t' e).1 hin),gY.get_append,gY.get_append]
     have : gY.get acc' t' = none:=by
      cases hga : gY.get acc' t' with
      | none=>rfl
      | some u =>
       obtain ⟨j,hj,hdj,_⟩:=hmem t' u (kB _ _ _ hga);exact absurd hin (hkey j t' (hprd j hj).1 hdj)
     rw [this,hg'];rfl
    ·obtain ⟨ms,hd',hok'⟩:=hr'.ok;exact ⟨ms,by rw [hd',hdf'],hown' ms hok'⟩
    intro j hj hlj tj htj;rw [jT zO] at hlj;by_cases hji : j = i
    ·subst hji;rw [hdo] at htj;simp only [if_true];refine ⟨hr'.get tj v ?_,hfv⟩;rw [henv',htj];simp [jI,gY.get]
    rw [dG hji] at hlj;obtain ⟨h1,h2⟩:=hfacts j hj hlj tj htj;simp only [dG hji];refine ⟨hr'.get tj (val j) ?_,rR hmono hle' h2⟩;rw [henv',nI (fun e=>hji (hdis j i tj hj him htj (by rw [hdo,e]))),gY.get_append,gY.get_append]
    have hacc : gY.get acc' tj = none ∨ gY.get acc' tj = some (val j):=by
     cases hga : gY.get acc' tj with
     | none=>exact .inl rfl
     | some u =>
      obtain ⟨j',hj',hdj',rfl⟩:=hmem tj u (kB _ _ _ hga);obtain rfl:=hdis j' j tj (hprd j' hj').1 hj hdj' htj;exact .inr rfl
    rcases hacc with hacc | hacc
    ·rw [hacc]
     have henvn : gY.get env tj = none:=by
      cases hge : gY.get env tj with
      | none=>rfl
      | some u=>exact absurd (gS.2 ⟨(tj,u),kB _ _ _ hge,rfl⟩) (hkey j tj hj htj)
     rw [henvn];simp only [Option.none_or]
     -- it stands in X,once
     refine uX X (List.mem_filterMap.2 ⟨j,fA.2 hj,by simp only [hlj,if_true,htj,Option.map_some]⟩) ?_;intro u hu';obtain ⟨j',hj',_,hdj',rfl⟩:=hX tj u hu';obtain rfl:=hdis j' j tj hj' hj hdj' htj;rfl
    rw [hacc];rfl
   have hcase : ∀ (acc' : gY) (own2 : Own) (Q2 : Exit → St → Prop),(∀ e σ,e ≠ .normal → ¬ Q2 e σ) → XO C l.toArray Q2 [o] ⟨acc' ++ (env ++ X),df,H',own2⟩ → Rel C ⟨acc' ++ (env ++ X),df,H',own2⟩ a w →
     (∀ a' w',nW C H' Q2 .normal a' w' → wpAnyIn (Fr C.r) 0 C.P .any l.toArray (nW C H Q) fuel (L.setIfInBounds i true) a' w') → wpOpIn (Fr C.r) 0 C.P l.toArray (nW C H Q) i (fun a' w'=>wpAnyIn (Fr C.r) 0 C.P .any l.toArray (nW C H Q) fuel (L.setIfInBounds i true) a' w') a w:=by
    intro acc' own2 Q2 hno hk hrel hnext;have hrun:=hk a w hrel;unfold wpOpIn;rw [ho];simp only [wpListIn] at hrun ⊢;split
    ·rename_i hw
     rw [eX hw] at hrun;refine oV hnext ?_ hrun;rintro e a' w' he ⟨σ',_,_,hq⟩;exact absurd hq (hno e σ' he)
    rename_i hw
    rw [dG hw] at hrun;exact ⟨hrun.1,hnext _ _ hrun.2⟩
   obtain ⟨acc',hk0,hmem⟩:=pR (val:=val) (kH o) [] _ (hst X kJ H' hle hGd) hpredF;have hch2:=aE9 hch
   have hrank : ∀ r,mods[r]? = some i → entOJ mods (jU L) r:=by
    intro r hr;obtain ⟨j,hj,h1,h2,h3⟩:=hents;have hrl : r < mods.length:=(bY.1 hr).1;have hri : mods.getD r 0 = i:=by rw [dB,hr];rfl
    have hrj : j ≤ r:=by
     rcases gJ r j with h | h
     ·have:=h1 r h;rw [hri,hun] at this;cases this
     exact h
    refine ⟨fun q hq=>?_,fun q hq hql=>h2 q zO hql⟩
    have hall2 : ∀ d q,q + d + 1 = r → jU L (mods.getD q 0) = true:=by
     intro d
     induction d with
     | zero =>
      intro q hq;have hb:=hch2 q zO;rw [show q + 1 = r by omega,hri] at hb;unfold aJe at hb;rw [ho'] at hb;simp only [List.any_eq_true,fL] at hb;obtain ⟨ed,hed,h4,h5⟩:=hb;have:=hbef ed (by simpa using hed) h4;rwa [fV h5] at this
     | succ d ihd =>
      intro q hq;have hn:=ihd (q + 1) zO;have hb:=hch2 q zO;unfold aJe at hb;split at hb
      ·rename_i o3 ho3
       simp only [List.any_eq_true,fL] at hb;obtain ⟨ed,hed,h4,h5⟩:=hb;have:=hdown _ o3 ho3 hn ed (by simpa using hed) h4;rwa [fV h5] at this
      cases hb
    exact hall2 (r - q - 1) q zO
   have hk:=hk0 (by
    unfold aE5;cases hr : vP mods i with
    | none =>
     obtain ⟨j,hj,h1,h2,h3⟩:=hents;refine ⟨j,_,hj,fun q hq hw=>?_,h3⟩;rcases gJ q j with hlt | hge
     ·have hlq:=h1 q hlt;unfold aKx at hw;split at hw
      ·rename_i o3 ho3
       have:=nC hdown _ o3 i (hdown _ o3 ho3 hlq) hw;rw [hun] at this;cases this
      cases hw
     exact hge
    | some r =>
     obtain ⟨hr1,hr2⟩:=aFd hr;obtain ⟨hA,hB⟩:=hrank r hr1;have h3:=entO_at hents hr2 hA hB;cases r with
     | zero=>simpa [aCj] using h3
     | succ r =>
      intro t v hdt hg;obtain ⟨j',hj',hdj,rfl⟩:=hmem t v (pM (by simpa using hg));obtain rfl:=hdis _ j' t (aD8 hch zO) (hprd j' hj').1 hdt hdj
      simpa [aCj] using h3)
   simp only [gH] at hk;refine hcase acc' _ _ (fun e σ he=>by cases e <;> first | exact absurd rfl he | exact fun h=>h) hk ⟨hsz,hgets acc' hmem,hok⟩ ?_;rintro a' w' ⟨σ',hr',hle',hGd',hdf',v,e2,henv',hfv,hown',hfo⟩;refine hnextG acc' hmem a' w' σ' v e2 hr' hle' hGd' hdf' henv' hfv ?_ ?_
   ·intro ms hok';rw [hown'] at hok';exact hok'
   unfold foO at hfo;cases hr : vP mods i with
   | none =>
    rw [hr] at hfo;simp only at hfo;subst hfo;obtain ⟨j,hj,h1,h2,h3⟩:=hents;have hne : ∀ q,q < mods.length → mods.getD q 0 ≠ i:=fun q hq e=>aJo hr q hq e;refine ⟨j,hj,fun q hq=>?_,fun q hq hql=>?_,?_⟩
    ·rw [jT zO,dG (hne q zO)];exact h1 q hq
    ·rw [jT zO,dG (hne q hql)];exact h2 q hq hql
    have e : aCj mods (fun j=>if j = i then v else val j) j = aCj mods val j:=by
     unfold aCj;cases j with
     | zero=>rfl
     | succ j=>simp only;rw [dG (hne j zO)]
    rw [e];exact hFO _ _ _ _ _ hle' h3
   | some r =>
    rw [hr] at hfo;simp only at hfo;obtain ⟨hr1,hr2⟩:=aFd hr;obtain ⟨hA,hB⟩:=hrank r hr1;have hri : mods.getD r 0 = i:=by rw [dB,hr1];rfl
    refine ⟨r + 1,hr2,fun q hq=>?_,fun q hq hql=>?_,?_⟩
    ·rw [jT zO];split
     ·rfl
     rename_i hne
     have : q ≠ r:=fun e=>by rw [e,hri] at hne;exact hne rfl
     exact hA q zO
    ·have hlt:=chainB_mono hch hdc (show r < q by omega) hql;rw [jT zO,dG (by rw [← hri];omega)];exact hB q zO hql
    simp only [aCj];rw [hri,eX rfl];exact hfo
 have hlst0 : ∀ j,jU (Array.replicate l.toArray.size false) j = false:=fun j=>by simp [jU,dY,gA];split <;> rfl
 exact main l.toArray.size (Array.replicate l.toArray.size false) a₀ _ (fun _=>undef) q H zP (by
   refine eK (List.countP_le_length) zP) (Le.refl _) hG (fun i o _ hl=>by
   have : jU (Array.replicate l.toArray.size false) i = false:=by simp [jU,dY,gA];split <;> rfl
   rw [this] at hl;cases hl) (fun j _=>by simp [jU,dY,gA];split <;> rfl) hr₀.size hr₀.get
  (let ⟨ms,hd,hok⟩:=hr₀.ok;⟨ms,hd,hok.drew⟩) ⟨0,eS _,fun q hq=>absurd hq zO,fun q _ _=>hlst0 _,by simpa [aCj] using hq0⟩ (fun i _ h=>by
   have : jU (Array.replicate l.toArray.size false) i = false:=by simp [jU,dY,gA];split <;> rfl
   rw [this] at h;cases h)
end
section
variable {C : Ctx} {ops : Array Oper} {Q : Exit → St → Prop} {rest : List Oper} {env : gY} {df : List Deferred} {H : Hp} {own : Own} {dst : Option Tmp} {ty : TypeId} {pos : String} {af : Array Edge}
theorem uK (i : Nat) {T t : TypeId} {x : Operand} {p : Nat × SObj} {g c k : Nat} {l : List Raw} {a : Option Addr} {n c' : Nat} (hx : ev env x = some (.pointer (some ⟨g,0 + k * 1,none⟩))) (hp : Own.at own i = some p) (hacc : Acc rawR T H p (some ⟨g,0,none⟩) c l)
  (hu : l[k]? = some (a,n,c')) (ht : tP C.P t 1 false = true) (hd : iU C.N dst = true) (h : XO C ops Q rest ⟨jI dst (.slice a n c') env,df,H,own⟩) :
  XO C ops Q (⟨dst,.load t x,ty,pos,af,none⟩ :: rest) ⟨env,df,H,own⟩ :=
 lY i hx hp hacc hu ht hd (fun cs v hR hv=>by cases hR;cases hv;exact h) (fun cs hR=>⟨_,by cases hR;rfl⟩)
end
theorem aPy {l : List Oper} {mods : List Nat} {FO : Nat → Value → Own → Hp → Prop} {k : Nat} {acc : gY} {e : Own} {H : Hp} (q : Nat) (hr : vP mods k = none) (hq : Nat.blt q mods.length = true) (hw : aKx l (mods.getD q 0) k = true) (h : aE5 l mods FO k acc e H) : ∃ j v,j ≤ q ∧ FO j v e H:=by
 unfold aE5 at h;rw [hr] at h;obtain ⟨j,v,_,h2,h3⟩:=h;exact ⟨j,v,h2 q (by simpa using hq) hw,h3⟩
theorem uB {mods : List Nat} {k : Nat} {FO : Nat → Value → Own → Hp → Prop} {e : Own} {v : Value} {H : Hp} (hr : vP mods k = none) : foO mods k FO e v e H:=by unfold foO;rw [hr]
theorem aD5 {mods : List Nat} {k j : Nat} {FO : Nat → Value → Own → Hp → Prop} {e0 e : Own} {v : Value} {H : Hp} (hr : vP mods k = some j) (h : FO (j + 1) v e H) : foO mods k FO e0 v e H:=by unfold foO;rw [hr];exact h
theorem aS6 {l : List Oper} {mods : List Nat} {FO : Nat → Value → Own → Hp → Prop} {k : Nat} {acc : gY} {e : Own} {H : Hp} (hr : vP mods k = some 0) (h : aE5 l mods FO k acc e H) : FO 0 undef e H:=by unfold aE5 at h;rw [hr] at h;exact h
theorem aI8 {l : List Oper} {mods : List Nat} {FO : Nat → Value → Own → Hp → Prop} {k j : Nat} {acc : gY} {e : Own} {H : Hp} {t : Tmp} {v : Value} (hr : vP mods k = some (j + 1)) (h : aE5 l mods FO k acc e H) (ht : gU l (mods.getD j 0) = some t) (hv : gY.get acc t = some v) : FO (j + 1) v e H:=by unfold aE5 at h;rw [hr] at h;exact h t v ht hv
theorem aSo {l : List Oper} {mods : List Nat} {FO : Nat → Value → Own → Hp → Prop} {n : Nat} {acc : gY} {e : Own} {H : Hp} {t : Tmp} {v : Value} (hm : mods.length = n + 1) (h : aSt l mods FO acc e H) (ht : gU l (mods.getD n 0) = some t) (hv : gY.get acc t = some v) : FO (n + 1) v e H:=by unfold aSt at h;rw [hm] at h;exact h t v ht hv
end Go.XL

namespace Go.Proofs
open Go.XL
abbrev nP:=XL.RowO Rat
abbrev wX (H : Hp) (rs : List nP) : Prop:=XL.RowsO jX 56 H rs
abbrev aLo (H : Hp) (p : Nat × SObj) (a : Option Addr) (c : Nat) (rs : List nP) : Prop:=XL.Acc XL.rawR 24 H p a c (rs.map RowO.raw)
abbrev AtQ (H : Hp) (p : Nat × SObj) (a : Option Addr) (c : Nat) (l : List Int) : Prop:=XL.Acc (gV .i64) 3 H p a c l
def aUz (bs : Nat) (rs : List nP) (ats : List Int) (H : Hp) (o : XL.Own) : Prop :=
 ∃ (pt pa : Nat × SObj) (a1 a2 : Option Addr) (c1 c2 : Nat),o = (bs,.cells 187 [.slice a2 ats.length c2,.slice a1 rs.length c1]) :: pt :: pa :: rs.map RowO.p ∧ aLo H pt a1 c1 rs ∧ AtQ H pa a2 c2 ats ∧ wX H rs
theorem aUz.mono {bs : Nat} {rs : List nP} {ats : List Int} {H H' : Hp} {o : XL.Own} (hle : Le H H') (h : aUz bs rs ats H o) : aUz bs rs ats H' o:=by
 obtain ⟨pt,pa,a1,a2,c1,c2,e,h1,h2,h3⟩:=h;exact ⟨pt,pa,a1,a2,c1,c2,e,h1.mono hle,h2.mono hle,h3.mono hle⟩
theorem rows_one {rs : List nP} {i : Nat} {r : nP} (h : rs[i]? = some r) (rest : XL.Own) : ∃ oth : XL.Own,∀ r' : nP,((rs.set i r').map RowO.p ++ rest).Perm (r'.p :: (oth ++ rest)):=by
 refine ⟨(rs.eraseIdx i).map RowO.p,fun r'=>?_⟩;have hi : i < rs.length:=(bY.1 h).1
 have e : (rs.set i r').Perm (r' :: rs.eraseIdx i):=by
  clear h
  induction rs generalizing i with
  | nil=>simp at hi
  | cons x xs ih =>
   cases i with
   | zero=>exact mO _
   | succ i =>
    show (x :: xs.set i r').Perm (r' :: x :: xs.eraseIdx i);exact (List.Perm.cons x (ih (by simpa using hi))).trans (gW _ _ _)
 exact (e.map RowO.p).append_right rest
theorem aGx {α : Type} {l : List α} {i : Nat} {x : α} (h : l[i]? = some x) : l.set i x = l:=by
 apply iC;intro j;rw [iR];split
 ·rename_i e;subst e;rw [eX (bY.1 h).1,h]
 rfl
theorem aD7 {rs : List nP} {i : Nat} {r : nP} (h : rs[i]? = some r) (rest : XL.Own) : ∃ oth : XL.Own,(rs.map RowO.p ++ rest).Perm (r.p :: (oth ++ rest)) ∧ ∀ r' : nP,(r'.p :: (oth ++ rest)).Perm ((rs.set i r').map RowO.p ++ rest):=by
 obtain ⟨oth,ho⟩:=rows_one h rest;exact ⟨oth,by have:=ho r;rwa [aGx h] at this,fun r'=>(ho r').symm⟩
theorem rows_two {rs : List nP} {i j : Nat} {r s : nP} (hij : i ≠ j) (hr : rs[i]? = some r) (hs : rs[j]? = some s) (rest : XL.Own) :
  ∃ oth : XL.Own,(rs.map RowO.p ++ rest).Perm (r.p :: s.p :: (oth ++ rest)) ∧ ∀ r' : nP,(r'.p :: s.p :: (oth ++ rest)).Perm ((rs.set i r').map RowO.p ++ rest):=by
 have key : ∀ r' : nP,((rs.set i r').map RowO.p ++ rest).Perm (r'.p :: (((rs.eraseIdx i).map RowO.p) ++ rest)):=by
  intro r';have hi : i < rs.length:=(bY.1 hr).1
  have e : (rs.set i r').Perm (r' :: rs.eraseIdx i):=by
   clear hr hs hij
   induction rs generalizing i with
   | nil=>simp at hi
   | cons x xs ih =>
    cases i with
    | zero=>exact mO _
    | succ i =>
     show (x :: xs.set i r').Perm (r' :: x :: xs.eraseIdx i);exact (List.Perm.cons x (ih (by simpa using hi))).trans (gW _ _ _)
  exact (e.map RowO.p).append_right rest
 have hmem : ∃ k : Nat,(rs.eraseIdx i)[k]? = some s:=by
  rcases Nat.lt_or_gt_of_ne hij with h | h
  ·exact ⟨j - 1,by rw [List.getElem?_eraseIdx,dG zO,show j - 1 + 1 = j by omega];exact hs⟩
  exact ⟨j,by rw [List.getElem?_eraseIdx,eX zO];exact hs⟩
 obtain ⟨k,hk⟩:=hmem;obtain ⟨oth,h1,_⟩:=aD7 hk rest;refine ⟨oth,?_,fun r'=>?_⟩
 ·have:=key r;rw [aGx hr] at this;exact this.trans (List.Perm.cons _ h1)
 exact (List.Perm.cons _ h1.symm).trans (key r').symm
theorem aBa {rs : List nP} {i : Nat} {r : nP} (h : rs[i]? = some r) : (rs.map RowO.raw)[i]? = some (r.a,r.l.length,r.c):=by rw [iI,h];rfl
abbrev aFk (b : Nat) (a : Option Addr) (c : Nat) (rs : List nP) : Nat × SObj:=(b,.cells 187 [.slice none 0 0,.slice a rs.length c])
def yE (b : Nat) (a : Option Addr) (c : Nat) (rs : List nP) (pt : Nat × SObj) (x : List Rat) : Nat → Value → XL.Own → Hp → Prop
 | 0,v,o,H=>o = [aFk b a c rs,pt] ++ rs.map RowO.p ∧ aLo H pt a c rs ∧ wX H rs
 | 1,v,o,H=>∃ pf af cf,v = .slice af x.length cf ∧ o = [aFk b a c rs,pf,pt] ++ rs.map RowO.p ∧ XL.Acc jX 56 H pf af cf x ∧ aLo H pt a c rs ∧ wX H rs
 | 2,v,o,H=>∃ pf af cf bl,v = .slice (some ⟨bl,0,none⟩) 1 1 ∧ SlR XL.rawR H (some ⟨bl,0,none⟩) 1 [(af,x.length,cf)] ∧ o = [aFk b a c rs,pf,pt] ++ rs.map RowO.p ∧ XL.Acc jX 56 H pf af cf x ∧ aLo H pt a c rs ∧ wX H rs
 | _,v,o,H=>∃ (r : nP) (pt2 : Nat × SObj) (a2 : Option Addr) (c2 : Nat),v = .slice a2 (rs ++ [r]).length c2 ∧ o = [aFk b a c rs,pt2] ++ (rs ++ [r]).map RowO.p ∧ r.l = x ∧ aLo H pt2 a2 c2 (rs ++ [r]) ∧ wX H (rs ++ [r])
theorem yE.mono {b : Nat} {a : Option Addr} {c : Nat} {rs : List nP} {pt : Nat × SObj} {x : List Rat} : ∀ j v o H H',Le H H' → yE b a c rs pt x j v o H → yE b a c rs pt x j v o H'
 | 0,v,o,H,H',hle,⟨h1,h2,h3⟩=>⟨h1,h2.mono hle,h3.mono hle⟩
 | 1,v,o,H,H',hle,⟨pf,af,cf,h1,h2,h3,h4,h5⟩=>⟨pf,af,cf,h1,h2,h3.mono hle,h4.mono hle,h5.mono hle⟩
 | 2,v,o,H,H',hle,⟨pf,af,cf,bl,h0,h1,h2,h3,h4,h5⟩=>⟨pf,af,cf,bl,h0,h1.mono hle,h2,h3.mono hle,h4.mono hle,h5.mono hle⟩
 | (k + 3),v,o,H,H',hle,⟨r,pt2,a2,c2,h1,h2,h3,h4,h5⟩=>⟨r,pt2,a2,c2,h1,h2,h3,h4.mono hle,h5.mono hle⟩
theorem yE.cell {b : Nat} {a : Option Addr} {c : Nat} {rs : List nP} {pt : Nat × SObj} {x : List Rat} {v : Value} {o : XL.Own} {H : Hp} : ∀ {j : Nat},j ≤ 2 → yE b a c rs pt x j v o H → ∃ tl,o = aFk b a c rs :: tl
 | 0,_,⟨h1,_⟩=>⟨_,h1⟩
 | 1,_,⟨_,_,_,_,h1,_⟩=>⟨_,h1⟩
 | 2,_,⟨_,_,_,_,_,_,h1,_⟩=>⟨_,h1⟩
 | (k + 3),h,_=>absurd h zO
theorem yE.zero {b : Nat} {a : Option Addr} {c : Nat} {rs : List nP} {pt : Nat × SObj} {x : List Rat} {v : Value} {o : XL.Own} {H : Hp} (h : yE b a c rs pt x 0 v o H) : o = [aFk b a c rs,pt] ++ rs.map RowO.p ∧ aLo H pt a c rs ∧ wX H rs:=h
theorem yE.one {b : Nat} {a : Option Addr} {c : Nat} {rs : List nP} {pt : Nat × SObj} {x : List Rat} {v : Value} {o : XL.Own} {H : Hp} (h : yE b a c rs pt x 1 v o H) :
  ∃ pf af cf,v = .slice af x.length cf ∧ o = [aFk b a c rs,pf,pt] ++ rs.map RowO.p ∧ XL.Acc jX 56 H pf af cf x ∧ aLo H pt a c rs ∧ wX H rs:=h
theorem yE.two {b : Nat} {a : Option Addr} {c : Nat} {rs : List nP} {pt : Nat × SObj} {x : List Rat} {v : Value} {o : XL.Own} {H : Hp} (h : yE b a c rs pt x 2 v o H) :
  ∃ pf af cf bl,v = .slice (some ⟨bl,0,none⟩) 1 1 ∧ SlR XL.rawR H (some ⟨bl,0,none⟩) 1 [(af,x.length,cf)] ∧ o = [aFk b a c rs,pf,pt] ++ rs.map RowO.p ∧ XL.Acc jX 56 H pf af cf x ∧ aLo H pt a c rs ∧ wX H rs:=h
theorem yE.three {b : Nat} {a : Option Addr} {c : Nat} {rs : List nP} {pt : Nat × SObj} {x : List Rat} {v : Value} {o : XL.Own} {H : Hp} (h : yE b a c rs pt x 3 v o H) :
  ∃ (r : nP) (pt2 : Nat × SObj) (a2 : Option Addr) (c2 : Nat),v = .slice a2 (rs ++ [r]).length c2 ∧ o = [aFk b a c rs,pt2] ++ (rs ++ [r]).map RowO.p ∧ r.l = x ∧ aLo H pt2 a2 c2 (rs ++ [r]) ∧ wX H (rs ++ [r]):=h
theorem yE.new {b : Nat} {a0 : Option Addr} {c0 : Nat} {pt : Nat × SObj} {H : Hp} {rs : List nP} {x : List Rat} {pf p : Nat × SObj} {af a : Option Addr} {cf c : Nat} (hf : XL.Acc jX 56 H pf af cf x) (hr : wX H rs) (ht : XL.Acc XL.rawR 24 H p a c ((rs.map RowO.raw) ++ [(af,x.length,cf)])) :
  yE b a0 c0 rs pt x 3 (.slice a ((rs.map RowO.raw) ++ [(af,x.length,cf)]).length c) ([aFk b a0 c0 rs,p] ++ (rs ++ [(⟨pf,af,cf,x⟩ : nP)]).map RowO.p) H :=
 ⟨⟨pf,af,cf,x⟩,p,a,c,by simp,rfl,rfl,by show XL.Acc _ _ _ _ _ _ ((rs ++ [_]).map RowO.raw);rw [List.map_append];exact ht,hr.snoc hf⟩
theorem sub_beg {a b c : Nat × SObj} {l rest : XL.Own} : ((b :: c :: a :: l) ++ rest).Sublist (b :: c :: a :: (l ++ rest)):=jP _
end Go.Proofs

namespace Go.Proofs
open Go.XL
theorem bf_187 : vS Tryz.prog 187 = some [(0,1),(1,1)]:=zK
theorem bk_187 : vV Tryz.prog 187 = true:=zK
theorem aE1 : Nat.ble (Tryz.prog.bytesOf 24) 4096 = true:=zK
theorem tY : Nat.ble (Tryz.prog.bytesOf 56) 4096 = true:=zK
theorem aCs : qF Tryz.prog 185 0 = some 0:=zK
theorem qY : qF Tryz.prog 187 1 = some 1:=zK
theorem oH : tP Tryz.prog 49 1 false = true:=zK
theorem ze_187 : nB Tryz.prog 187 = some [.slice none 0 0,.slice none 0 0]:=zK
theorem tA : nB Tryz.prog 24 = some [.slice none 0 0]:=zK
theorem aQp (bs : Nat) (a1 a2 : Option Addr) (c1 c2 n1 n2 : Nat) (H : Hp) : iP Tryz.prog 122 #[.pointer (some ⟨bs,0,none⟩)] H [(bs,.cells 187 [.slice a2 n2 c2,.slice a1 n1 c1])] (eQ (fun v _ own=>v = .int .i64 (n2 : Nat) ∧ own = [(bs,.cells 187 [.slice a2 n2 c2,.slice a1 n1 c1])])):=by
 refine iP.intro (args:=[.pointer (some ⟨bs,0,none⟩)]) Tryz.func122 rfl rfl Tryz.ntmps122 rfl rfl rfl fun G rest=>?_;refine zS ?_;refine zG rfl ?_;refine zN ?_;refine zS ?_;refine zM rfl ?_;refine iB rfl rfl ?_;refine bJ rfl aCs rfl ?_;refine bT 0 rfl rfl gE rfl rfl rfl ?_;refine eD (ts:=#[]) rfl bK rfl ?_;refine zG rfl ?_;refine zN ?_;refine eP ?_;refine ⟨rfl,_,[_],rfl,zB,eQ.mk ?_⟩;exact ⟨rfl,rfl⟩
theorem many_pub (bs : Nat) (a1 a2 : Option Addr) (c1 c2 n1 n2 : Nat) (H : Hp) (hp : rC H bs 0 [.slice a2 n2 c2,.slice a1 n1 c1]) : iP Tryz.prog 122 #[.pointer (some ⟨bs,0,none⟩)] H [] (eQ (fun v _ _=>v = .int .i64 (n2 : Nat))):=by
 refine iP.intro (args:=[.pointer (some ⟨bs,0,none⟩)]) Tryz.func122 rfl rfl Tryz.ntmps122 rfl rfl rfl fun G rest=>?_;refine zS ?_;refine zG rfl ?_;refine zN ?_;refine zS ?_;refine zM rfl ?_;refine iB rfl rfl ?_;refine bJ rfl aCs rfl ?_;refine nF (off:=0) rfl hp gE rfl rfl rfl ?_;refine eD (ts:=#[]) rfl bK rfl ?_;refine zG rfl ?_;refine zN ?_;refine eP ?_;refine ⟨rfl,_,[],rfl,zA,eQ.mk ?_⟩;rfl
theorem columns_fn (bs n : Nat) (H : Hp) : iP Tryz.prog 134 #[.pointer (some ⟨bs,0,none⟩),.int .i64 (n : Nat)] H [] (eQ (fun v H2 _=>∃ b3 b2,v = .func (.func 143) #[] #[.pointer (some ⟨b3,0,none⟩),.pointer (some ⟨b2,0,none⟩)] ∧ rC H2 b3 0 [.int .i64 (n : Nat)] ∧ rC H2 b2 0 [.pointer (some ⟨bs,0,none⟩)])):=by
 refine iP.intro (args:=[.pointer (some ⟨bs,0,none⟩),.int .i64 (n : Nat)]) Tryz.func134 rfl rfl Tryz.ntmps134 rfl rfl rfl fun G rest=>?_;refine zS ?_;refine iW rfl rfl rfl (fun b2=>?_);refine iW rfl rfl rfl (fun b3=>?_);refine zG rfl ?_;refine zN ?_;refine zS ?_;refine fT 1 rfl rfl rfl (fun HK2 oK2 pE aFw aFx=>?_);have qU:=rC.of_is aFw aFx;refine fT 0 rfl rfl rfl (fun HK3 oK3 rH aDr aDs=>?_);have aCo:=rC.of_is aDr aDs;replace qU:=qU.mono rH;refine mA rfl rfl ?_;refine zG rfl ?_;refine zN ?_;refine eP ?_;refine ⟨rfl,_,[],rfl,zA,eQ.mk ?_⟩;exact ⟨_,_,rfl,aCo,qU⟩
theorem begin_fn (l : List (List Rat)) (a : Option Addr) (c : Nat) (H : Hp) (hs : SlR mxR H a c l) (hl : l.length ≤ 1000) (hrow : ∀ r ∈ l,0 < r.length ∧ r.length ≤ 1000) : iP Tryz.prog 120 #[.slice a l.length c] H [] (eQ (fun v H2 own=>∃ bs rs,v = .pointer (some ⟨(bs : Nat),0,none⟩) ∧ aUz bs rs [] H2 own ∧ rs.map RowO.l = l)):=by
 refine iP.intro (args:=[.slice a l.length c]) Tryz.func120 rfl rfl Tryz.ntmps120 rfl rfl rfl fun G rest=>?_;refine zS ?_;refine zG rfl ?_;refine zN ?_;refine zS ?_;refine mC bk_187 bf_187 ze_187 rfl rfl rfl ?_;refine iW rfl rfl rfl (fun b7=>?_);refine zG rfl ?_;refine zN ?_;refine cO ?_;refine zS ?_;refine zM rfl ?_;refine eD (ts:=#[]) rfl eI rfl ?_;refine zM rfl ?_;refine zN ?_;refine dK ?_;refine eU [10,3,8,9] rfl ?_;refine lR 0 ?_;refine oT (gW _ _ _) ?_;refine gO (base:=[(3,_),(8,_),(9,_)]) (fun ζ : Nat × (List nP) × (Nat × SObj) × (Option Addr) × (Nat)=>[(10,.int .i64 (ζ.1 : Nat))]) (fun ζ Hl own=>ζ.1 ≤ l.length ∧ (b7,.cells 187 [.slice none 0 0,.slice ζ.2.2.2.1 ζ.2.1.length ζ.2.2.2.2]) :: ζ.2.2.1 :: (ζ.2.1.map RowO.p ++ rest) = own ∧ (aLo Hl ζ.2.2.1 ζ.2.2.2.1 ζ.2.2.2.2 ζ.2.1) ∧ (wX Hl ζ.2.1) ∧ (ζ.2.1.map RowO.l = l.take ζ.1)) (fun ζ=>l.length - ζ.1) (0,[],(0,.nothing),none,0) (zC) zB ⟨eS _,rfl,Acc.nil _ _ _ _,RowsO.nil,by simp⟩ ?_;rintro ⟨k,rs,pt,a1,c1⟩ Hl0 _ gB ⟨hkk,rfl,hpt,hro,hrl⟩;replace hs:=hs.mono gB;try dsimp only at hkk hpt hro hrl ⊢
 refine zS (zL rfl (zN (cO (fC rfl (fun nY=>?_) (fun nY=>?_)))))
 ·skip
  refine eF (bO (cO (dK (zS (eV rfl hs rfl eI iG zO rfl ?_)))));rintro eb12 eo12 _ x12 hx12 ⟨ax12,cx12,rfl,hd12⟩ hp12;refine eH rfl (by assumption) iG rfl rfl rfl (zG rfl (zN ?_));have hwx:=hrow _ (cF hx12);have hlr : rs.length = k:=by have:=congrArg List.length hrl;simp at this;omega
  refine eU [3,5,8,9,10] rfl ?_;apply XC.drawO (q:=[aFk b7 a1 c1 rs,pt] ++ rs.map RowO.p) (own:=rest) (fun _=>True) trivial [7,8,9] (yE b7 a1 c1 rs pt x12) (yE.mono) 12 [gC _,gC _,gC _,gC _,gC _,slF jX [],gC _,vA,vA,vA,gC _,gC _] follows zK ⟨aH _,aH _,aH _,aH _,aH _,oQ _ _,aH _,lN,lN,lN,aH _,aH _,trivial⟩ zK (⟨rfl,hpt,hro⟩) ?steps3 ?tail3
  case steps3 =>
   refine lM rfl ?_ ?_
   ·intro X e HD bI _;refine aO rfl ?_;intro hfa
    skip
    exact zM rfl (bF (iA (e:=e) trivial rfl rfl (uB rfl)))
   refine lM rfl ?_ ?_
   ·intro X e HD bI _;refine aO rfl ?_;intro hfa;exact zM rfl (bF (iA (e:=e) trivial rfl rfl (uB rfl)))
   refine lM rfl ?_ ?_
   ·intro X e HD bI _;refine fX rfl (aO rfl ?_);intro hfa;exact iB rfl rfl (bF (iA (e:=e) trivial rfl rfl (uB rfl)))
   refine lM rfl ?_ ?_
   ·intro X e HD bI _;refine fX rfl (aO rfl ?_);intro hfa;exact bJ rfl qY rfl (bF (iA (e:=e) trivial rfl rfl (uB rfl)))
   refine lM rfl ?_ ?_
   ·intro X e HD bI _;refine fX rfl (aO rfl ?_);intro hfa;obtain ⟨jq,vq,hj2,hfo⟩:=aPy 2 rfl rfl zK hfa;obtain ⟨tl,rfl⟩:=hfo.cell hj2;exact bT 0 rfl rfl oH rfl rfl rfl (bF (iA (e:=aFk b7 a1 c1 rs :: tl) trivial rfl rfl (uB rfl)))
   refine lM rfl ?_ ?_
   ·intro X e HD bI _;refine aO rfl ?_;intro hfa;refine fS rfl cJ fG jD rfl rfl rfl (fun b19=>fT 0 rfl rfl rfl (fun HP19 oP19 hleP19 hbP19 hoP19=>?_));have hsl19:=SlR.lit (ρ:=jX) (l:=[]) hbP19 hoP19 rfl;exact bF (iA (e:=e) trivial (⟨_,rfl,hsl19⟩) rfl (uB rfl))
   refine lM rfl ?_ ?_
   ·intro X e HD bI _;refine aO rfl ?_;intro hfa;exact zM rfl (bF (iA (e:=e) trivial rfl rfl (uB rfl)))
   refine lM rfl ?_ ?_
   ·intro X e HD bI _;replace hd12:=hd12.mono bI;refine eR rfl rfl ?_;rintro _ ⟨bs19,rfl,hsl19⟩;refine fX rfl (aO rfl ?_);intro hfa;obtain ⟨rfl,hgt,hgr⟩:=yE.zero (v:=undef) (aS6 rfl hfa);exact aFb rfl hsl19 rfl rfl hd12 rfl (by rw [List.length_nil];omega) cJ fG jD rfl tY (by rw [List.length_nil];omega) rfl (fun p21 a21 c21 hacc21=>jM (gW _ _ _) (bF (iA (e:=[aFk b7 a1 c1 rs,p21,pt] ++ rs.map RowO.p) trivial (trivial) rfl (aD5 rfl (by exact ⟨p21,a21,c21,rfl,rfl,hacc21,hgt,hgr⟩)))))
   refine lM rfl ?_ ?_
   ·intro X e HD bI _;refine eR rfl rfl ?_;rintro _ _;refine aO rfl ?_;intro hfa;obtain ⟨pf,af,cf,hv1,rfl,hgf,hgt,hgr⟩:=yE.one (aI8 (j:=0) rfl hfa rfl rfl);subst hv1;refine fS rfl eI iG tA rfl rfl rfl (fun b22=>fT 0 rfl rfl rfl (fun HP22 oP22 hleP22 hbP22 hoP22=>?_));have hsl22:=SlR.lit (ρ:=XL.rawR) (l:=[(af,x12.length,cf)]) hbP22 hoP22 (iH.one1 rfl);replace hgf:=hgf.mono hleP22;replace hgt:=hgt.mono hleP22;replace hgr:=hgr.mono hleP22;exact bF (iA (e:=[aFk b7 a1 c1 rs,pf,pt] ++ rs.map RowO.p) trivial (trivial) rfl (aD5 rfl (by exact ⟨pf,af,cf,_,rfl,hsl22,rfl,hgf,hgt,hgr⟩)))
   refine lM rfl ?_ ?_
   ·intro X e HD bI _;refine fX rfl (eR rfl rfl ?_);rintro _ _;refine aO rfl ?_;intro hfa;obtain ⟨pf,af,cf,bl,hv1,hsl,rfl,hgf,hgt,hgr⟩:=yE.two (aI8 (j:=1) rfl hfa rfl rfl);subst hv1;exact iV 2 rfl rfl hgt (fB ..).symm rfl hsl rfl eI iG tA rfl aE1 (by rw [fB];simp only [jL,List.length_nil];omega) rfl (fun p23 a23 c23 hacc23=>jM (List.Perm.cons _ (aJw (r:=(⟨pf,af,cf,x12⟩ : nP)))) (bF (iA (e:=[aFk b7 a1 c1 rs,p23] ++ (rs ++ [(⟨pf,af,cf,x12⟩ : nP)]).map RowO.p) trivial (trivial) rfl (aD5 rfl (by exact yE.new hgf hgr hacc23)))))
   refine lM rfl ?_ ?_
   ·intro X e HD bI _;refine fX rfl (aO rfl ?_);intro hfa;exact iB rfl rfl (bF (iA (e:=e) trivial rfl rfl (uB rfl)))
   refine lM rfl ?_ ?_
   ·intro X e HD bI _;refine fX rfl (aO rfl ?_);intro hfa;exact bJ rfl qY rfl (bF (iA (e:=e) trivial rfl rfl (uB rfl)))
   exact aLi rfl
  case tail3 =>
   intro HD bI _;replace gB:=gB.trans bI;refine fX rfl (fX rfl (fX rfl (fX rfl (fX rfl (eR rfl rfl ?_)))));rintro _ ⟨bs19,rfl,hsl19⟩;refine fX rfl (eR rfl rfl ?_);rintro _ _;refine eR rfl rfl ?_;rintro _ _;refine eR rfl rfl ?_;rintro _ _;refine fX rfl (fX rfl (aO rfl ?_));intro e he;obtain ⟨rN,ptN,aN,cN,hvN,rfl,hrN,hTN,hRN⟩:=yE.three (aSo (n:=2) rfl he rfl rfl);subst hvN;refine eG 0 rfl rfl rfl rfl oH rfl rfl rfl rfl rfl (bF (fY (bO (dL (fR rfl rfl (dT zO zO) rfl (zM rfl (bF (eW ((k + 1,rs ++ [rN],ptN,aN,cN)) (by show l.length - (k + 1) < l.length - k;omega) (zC) (⟨by show k + 1 ≤ l.length;omega,rfl,hTN,hRN,by rw [List.map_append,hrl,jK hx12,← hrN];rfl⟩) zB (gB)))))))))
 obtain rfl : k = l.length:=zO
 rw [gF] at hrl;refine lR 0 (oT (List.Perm.trans (gW _ _ _) (List.Perm.cons _ (gW _ _ _))) (gI (fE (eY (fU rfl (bO (zS (zM rfl (zG rfl (zN (eP ?_)))))))))));refine ⟨rfl,_,(b7,.cells 187 [.slice none 0 0,.slice a1 rs.length c1]) :: pt :: (0,.nothing) :: rs.map RowO.p,rfl,sub_beg,eQ.mk ?_⟩;exact ⟨_,rs,rfl,⟨pt,(0,.nothing),_,_,_,_,rfl,hpt,Acc.nil _ _ _ _,hro⟩,hrl⟩
end Go.Proofs

namespace Go.Proofs
open Go.XL
def xZ (t : Nat) : List Int:=(List.range t).map fun i=>((i : Nat) : Int)
theorem aDd (t : Nat) : (xZ t).length = t:=by simp [xZ]
theorem atsL_succ (t : Nat) : xZ (t + 1) = xZ t ++ [((t : Nat) : Int)]:=by simp [xZ,List.range_succ]
theorem atsL_at {n k : Nat} (h : k < n) : (xZ n)[k]? = some ((k : Nat) : Int):=by simp [xZ,h]
def xD (M : List (List Rat)) (n : Nat) : List (Int × Int):=(List.range n).map fun t=>(((t : Nat) : Int),((aCu (mB M t) t : Nat) : Int))
theorem wG (M : List (List Rat)) (n : Nat) : (xD M n).length = n:=by simp [xD]
theorem aKp {M : List (List Rat)} {n k : Nat} (h : k < n) : (xD M n)[k]? = some (((k : Nat) : Int),((aCu (mB M k) k : Nat) : Int)):=by simp [xD,h]
theorem colsL_split {M : List (List Rat)} {n k : Nat} (h : k < n) : xD M n = (xD M n).take k ++ (((k : Nat) : Int),((aCu (mB M k) k : Nat) : Int)) :: (xD M n).drop (k + 1):=by
 have h1:=nO k (xD M n)
 have h2 : (xD M n).drop k = (((k : Nat) : Int),((aCu (mB M k) k : Nat) : Int)) :: (xD M n).drop (k + 1):=by
  have h3 : k < (xD M n).length:=by rw [wG];exact h
  rw [List.drop_eq_getElem_cons h3]
  congr 1
  exact eE ((aJ h3).symm.trans (aKp h))
 rw [← h2,h1]
theorem colsL_is {M : List (List Rat)} {n : Nat} {pre post : List (Int × Int)} {x : Int × Int} (h : xD M n = pre ++ x :: post) : pre.length < n ∧ x = (((pre.length : Nat) : Int),((aCu (mB M pre.length) pre.length : Nat) : Int)):=by
 have h1 : pre.length < n:=by have:=congrArg List.length h;rw [wG] at this;simp at this;omega
 have h2:=aKp (M:=M) h1;rw [h] at h2;simp at h2;exact ⟨h1,h2⟩
theorem colsL_snoc {M : List (List Rat)} {n k : Nat} (h : k < n) : (xD M n).take k ++ [(((k : Nat) : Int),((aCu (mB M k) k : Nat) : Int))] = (xD M n).take (k + 1):=(jK (aKp h)).symm
def aRp (bs : Nat) (M : List (List Rat)) (t : Nat) (H : Hp) (o : XL.Own) : Prop:=∃ rs,aUz bs rs (xZ t) H o ∧ rs.map RowO.l = mB M t
theorem aRp.mono {bs : Nat} {M : List (List Rat)} {t : Nat} {H H' : Hp} {o : XL.Own} (hle : Le H H') (h : aRp bs M t H o) : aRp bs M t H' o:=by
 obtain ⟨rs,h1,h2⟩:=h;exact ⟨rs,h1.mono hle,h2⟩
def aXw (x : Int × Int) : List Value:=[.int .i64 x.1,.int .i64 x.2]
def aXz (bs : Nat) (M : List (List Rat)) (rst : XL.Own) (pre : List (Int × Int)) (H : Hp) (o : XL.Own) : Prop:=∃ so,o = so ++ rst ∧ aRp bs M pre.length H so
theorem uJ {rs : List nP} {R : List (List Rat)} {i : Nat} (h : rs.map RowO.l = R) (hi : i < R.length) : ∃ r : nP,rs[i]? = some r ∧ R[i]? = some r.l:=by
 have hl : i < rs.length:=by have:=congrArg List.length h;rw [fB] at this;omega
 exact ⟨rs[i],aJ hl,by rw [← h,iI,aJ hl];rfl⟩
theorem aCy {rs : List nP} {R : List (List Rat)} (h : rs.map RowO.l = R) : rs.length = R.length:=by rw [← h,fB]
theorem at4 {a b c d : Nat × SObj} {l : XL.Own} {i : Nat} {r : Nat × SObj} (h : XL.Own.at l i = some r) : XL.Own.at (a :: b :: c :: d :: l) (4 + i) = some r:=by
 rw [show 4 + i = i + 1 + 1 + 1 + 1 by omega];exact h
theorem own143 {p s t u : Nat × SObj} {l r1 r2 : XL.Own} : p :: s :: t :: u :: (l ++ (r1 ++ r2)) = [] ++ ((p :: ((s :: t :: u :: l) ++ r1)) ++ r2):=by simp
theorem aQc {α : Type} {l : List α} {k : Nat} (h : k ≤ l.length) : (l.take k).length = k:=by rw [List.length_take];omega
theorem piv_more {R : List (List Rat)} {m t i p : Nat} (h : PivR R m t p) (hi : i ≤ p) (hne : i ≠ p) : i + 1 ≤ p:=zO
end Go.Proofs

namespace Go.Proofs
open Go.XL
theorem aAl : qF Tryz.prog 187 0 = some 0:=zK
theorem uH : tP Tryz.prog 181 1 false = true:=zK
theorem cols_seq (bs n : Nat) (M : List (List Rat)) (H : Hp) (b3 b2 : Nat) (h3 : rC H b3 0 [.int .i64 (n : Nat)]) (h2 : rC H b2 0 [.pointer (some ⟨bs,0,none⟩)]) (hst : StR M (n + 1) n 0) (hn : n ≤ 100) (rst own2 : XL.Own) : aX2 Tryz.prog 143 [.pointer (some ⟨b3,0,none⟩),.pointer (some ⟨b2,0,none⟩)] H aXw (xD M n) (aXz bs M rst) own2:=by
 intro yv p K hy hI0;obtain ⟨so0,rfl,hM0⟩:=hI0;refine iP.intro (args:=[yv,.pointer (some ⟨b3,0,none⟩),.pointer (some ⟨b2,0,none⟩)]) Tryz.func143 rfl rfl Tryz.ntmps143 rfl rfl rfl fun G rest=>?_;refine zS ?_;refine eH rfl h3 gK rfl rfl rfl ?_;refine zM rfl ?_;refine zN ?_;refine dK ?_;refine eU [7,0,2,6] rfl ?_;refine gO (base:=[(0,_),(2,_),(6,_)]) (fun k : Nat=>[(7,.int .i64 (k : Nat))]) (fun k Hl own=>k ≤ n ∧ Le H Hl ∧ ∃ so,p :: ((so ++ rst) ++ rest) = own ∧ aRp bs M k Hl so) (fun k=>n - k) 0 (zC) (jP _) ⟨eS _,Le.refl _,so0,rfl,hM0⟩ ?_;rintro k Hl _ hle ⟨hk,hH,so,rfl,hM⟩;replace h3:=h3.mono hH;replace h2:=h2.mono hH;refine zS ?_;refine zL rfl ?_;refine zN ?_;refine cO ?_;refine fC rfl (fun qK=>?_) (fun qK=>?_)
 ·have hkn : k < n:=zO
  have hst0:=StR.all hst zO k zO;have hpv:=hst0.piv hkn zO;obtain ⟨rs,⟨pt,pa,a1,a2,c1,c2,rfl,hT,hA,hro⟩,hrs⟩:=hM;have hta:=hT.addr (by rw [fB,aCy hrs,hst0.wide.1];omega);subst hta;change XC _ _ _ ⟨_,_,_,p :: (bs,.cells 187 [.slice a2 (xZ k).length c2,.slice (some ⟨pt.1,0,none⟩) rs.length c1]) :: pt :: pa :: ((rs.map RowO.p ++ rst) ++ rest)⟩;refine oT (List.Perm.of_eq (by rw [eM])) (eF (bO (cO (dK (zS (zM rfl (zG rfl (zN (zS (eH rfl h2 uH rfl rfl rfl (iB rfl rfl (bJ rfl aAl rfl (wL 1 rfl (aQp bs _ _ _ _ _ _ _) rfl rfl ?_)))))))))))));rintro _ HR _ mQ ⟨rfl,rfl⟩;refine ⟨_,rfl,?_⟩;have hH:=hH.trans mQ;replace h3:=h3.mono mQ;replace h2:=h2.mono mQ;replace hT:=hT.mono mQ;replace hA:=hA.mono mQ;replace hro:=hro.mono mQ;replace hle:=hle.trans mQ;refine zG rfl (zN (dK (eU [5,0,2,4,6,7] rfl (gO (base:=[(0,_),(2,_),(4,_),(6,_),(7,_)]) (fun i : Nat=>[(5,.int .i64 (i : Nat))]) (fun i Hl2 own=>(k ≤ i ∧ i ≤ aCu (mB M k) k) ∧ HR = Hl2 ∧ (∀ j,k ≤ j → j < i → kJ (mB M k) j k = 0) ∧ p :: (bs,.cells 187 [.slice a2 (xZ k).length c2,.slice (some ⟨pt.1,0,none⟩) rs.length c1]) :: pt :: pa :: (rs.map RowO.p ++ (rst ++ rest)) = own) (fun i=>aCu (mB M k) k + 1 - i) k (iL (pK rfl (by rw [aDd])) (zC)) (jP _) ⟨⟨gT _,hpv.ge⟩,rfl,fun j h1 h2=>absurd h1 zO,rfl⟩ ?_))));rintro i _ _ aEw ⟨⟨hi1,hi2⟩,rfl,hz0,rfl⟩;have hilt : i < n + 1:=by have:=hpv.lt;omega
  obtain ⟨⟨rp,ra,rc,rl⟩,hri,hRi⟩:=uJ hrs (show i < (mB M k).length by rw [hst0.wide.1];exact hilt);have hwl : rl.length = n + 1:=hst0.wide.2 _ (cF hRi);have hrA:=hro _ (cF hri);have hra:=hrA.addr (by show 0 < rl.length;omega);simp only at hra hrA hRi;subst hra;have hrlen:=aCy hrs;have hwide:=hst0.wide.1;obtain ⟨q,hq⟩ : ∃ q,rl[k]? = some q:=⟨_,aJ zO⟩
  have hqe : kJ (mB M k) i k = q:=by rw [sU hRi,dB,hq];rfl
  refine cO (zS (zM rfl (eH rfl h2 uH rfl rfl rfl (iB rfl rfl (bJ rfl qY rfl (bT 1 rfl rfl oH rfl rfl rfl (eD (ts:=#[]) rfl eI rfl (zL rfl (zN (fC rfl (fun aDq=>?_) (fun aDq=>?_)))))))))))
  ·refine eF (bO (cO (dK (zS (eH rfl h2 uH rfl rfl rfl (iB rfl rfl (bJ rfl qY rfl (bT 1 rfl rfl oH rfl rfl rfl (zM rfl (fK rfl rfl eI iG zO zO rfl (lY 2 rfl rfl hT (aBa hri) iG rfl (fun csR vR hRR hvR=>?_) (fun csR hRR=>⟨_,by cases hRR;rfl⟩))))))))))));cases hRR;cases hvR;refine zM rfl (fK rfl rfl cJ fG zO (by dsimp only;omega) rfl (lY (4 + i) rfl (at4 (aNm hri)) hrA hq fG rfl (fun csE vE hRE hvE=>?_) (fun csE hRE=>by obtain ⟨aZ,cZ,bZ,dZ,rfl,_,_⟩:=hRE;exact ⟨_,rfl⟩)));obtain ⟨aE,cE,bE,dE,rfl,hE1,hE2⟩:=hRE;cases hvE;refine fH rfl (aQ7 q _ _ _ _ _ hE1 hE2) rfl (aFf rfl rfl (zN (fC rfl (fun c2_8=>?_) (fun c2_8=>?_))))
   ·have hnz : q ≠ 0:=by assumption
    refine cO ?_;refine zS ?_;refine zM rfl ?_;refine zM rfl ?_;refine zM rfl ?_;have hpiv:=aVl hst0.wide hi1 zO (fun h=>hnz (by rw [← hqe];exact h)) hz0;refine qQ [] (nQ:=p :: (((bs,.cells 187 [.slice a2 (xZ k).length c2,.slice (some ⟨pt.1,0,none⟩) rs.length c1]) :: pt :: pa :: rs.map RowO.p) ++ rst)) (rst:=rest) rfl trivial rfl (by rw [← hpiv];exact hy _ _ _ (colsL_split hkn) HR ((((bs,.cells 187 [.slice a2 (xZ k).length c2,.slice (some ⟨pt.1,0,none⟩) rs.length c1]) :: pt :: pa :: rs.map RowO.p) ++ rst)) hH ⟨_,rfl,by rw [aQc (by rw [wG];omega)];exact ⟨rs,⟨pt,pa,_,_,_,_,rfl,hT,hA,hro⟩,hrs⟩⟩) rfl own143 ?_;rintro u HY oy2 yG hR;rcases hR with ⟨rfl,o3,rfl,so3,rfl,hS3⟩ | ⟨rfl,hK2⟩
    ·rw [colsL_snoc hkn,aQc (by rw [wG];omega)] at hS3;have hH2:=hH.trans yG;refine lB rfl rfl (zN (gD rfl rfl (eF (bO (gI (blockMiss rfl (fE (eY (fU rfl (fY (bO (dL (fR rfl rfl (dT zO zO) rfl (zM rfl (bF (eW (k + 1) zO (iL (pK rfl zO) (zC)) (⟨zO,hH2,so3,rfl,hS3⟩) zA (hle.trans yG)))))))))))))))))
    have hH2:=hH.trans yG;refine lB rfl rfl (zN (jB rfl rfl (eP (fD (iS (fD (jR (iS (iS (fD (jR (iS ?_))))))))))));exact ⟨rfl,_,_,rfl,zA,eQ.mk ⟨rfl,.inr hK2⟩⟩
   have hz1 : ¬ q ≠ 0:=by assumption
   have hz2 : q = 0:=lV.1 hz1;refine eF (fY (bO (dL (zM rfl (fR rfl rfl (dT zO zO) rfl (zG rfl (bF (eW (i + 1) zO (iL (pK rfl zO) (zC)) (⟨⟨zO,piv_more hpv hi2 (fun e=>hz1 (by rw [← hqe,e];exact hpv.ne))⟩,rfl,fun j h1 h2=>by rcases gJ j i with h | h;exact hz0 j h1 h;rw [show j = i by omega,hqe];exact hz2,rfl⟩) zA aEw))))))))
  exact absurd zO (show ¬ ((i : Nat) : Int) < (rs.length : Nat) by assumption)
 obtain rfl : k = n:=zO
 refine gI (fE (eY (fU rfl ?_)));exact ⟨rfl,_,p :: (so ++ rst),rfl,zA,eQ.mk ⟨rfl,.inl ⟨_,rfl,so,rfl,by rw [wG];exact hM⟩⟩⟩
end Go.Proofs

namespace Go.Proofs
open Go.XL
theorem lenS_le : ∀ {k : Nat},k < 4 → lenS k ≤ 149
 | 0,_=>zD
 | 1,_=>zD
 | 2,_=>zD
 | 3,_=>zD
 | (k + 4),h=>absurd h zO
theorem swap_k {α : Type} {l : List α} {k i : Nat} {x y : α} (hk : l[k]? = some x) (hi : l[i]? = some y) : ((l.set k y).set i x)[k]? = some y:=by
 have h1:=(bY.1 hk).1;rw [iR,gQ];by_cases e : i = k
 ·rw [eX e,eX zO];rw [e,hk] at hi;exact hi
 rw [dG e,iR,eX rfl,eX h1]
theorem swap_perm {α : Type} {l : List α} {k i : Nat} {x y : α} (hk : l[k]? = some x) (hi : l[i]? = some y) : l.Perm ((l.set k y).set i x):=by
 have h1:=(bY.1 hk);have h2:=(bY.1 hi)
 obtain ⟨a1,rfl⟩:=h1;obtain ⟨a2,rfl⟩:=h2;exact (List.set_set_perm a1 a2).symm
section
variable {a b c d x y z : Nat × SObj} {L L' : XL.Own}
theorem aSi (h : L.Perm (x :: L')) : (a :: b :: c :: d :: L).Perm (x :: a :: b :: c :: d :: L'):=((((h.cons d).cons c).cons b).cons a).trans (List.perm_middle (l₁:=[a,b,c,d]) (l₂:=L'))
theorem perm5r (h : (x :: L').Perm L) : (x :: a :: b :: c :: d :: L').Perm (a :: b :: c :: d :: L):=(aSi h.symm).symm
theorem aWs (h : L.Perm (x :: y :: L')) : (a :: b :: c :: d :: L).Perm (x :: y :: a :: b :: c :: d :: L'):=(aSi h).trans ((aSi (mO _)).cons x)
theorem perm6r (h : (x :: y :: L').Perm L) : (x :: y :: a :: b :: c :: d :: L').Perm (a :: b :: c :: d :: L):=(aWs h.symm).symm
theorem perm7r (h : (x :: y :: L').Perm L) : (x :: y :: z :: a :: b :: c :: d :: L').Perm (z :: a :: b :: c :: d :: L) :=
 ((gW z y _).cons x).trans ((gW z x _).trans ((perm6r h).cons z))
theorem permS (h : L.Perm L') : (x :: a :: b :: d :: L).Perm (a :: b :: x :: d :: L') :=
 ((gW a x _).trans ((gW b x _).cons a)).trans ((((h.cons d).cons x).cons b).cons a)
theorem permB (l rest : XL.Own) : (b :: c :: x :: (l ++ (a :: rest))).Perm (a :: b :: c :: x :: (l ++ rest)):=by
 simpa using List.perm_middle (l₁:=b :: c :: x :: l) (a:=a) (l₂:=rest)
theorem permE {l rest : XL.Own} : (x :: a :: b :: c :: (l ++ rest)).Perm ((b :: c :: x :: l) ++ (a :: rest)):=by
 have h1 : ((b :: c :: x :: l) ++ (a :: rest)).Perm (a :: b :: c :: x :: (l ++ rest)):=by
  simpa using List.perm_middle (l₁:=b :: c :: x :: l) (a:=a) (l₂:=rest)
 refine List.Perm.trans ?_ h1.symm;exact (gW a x _).trans (((gW b x _).trans ((gW c x _).cons b)).cons a)
end
theorem yT {α : Type} {F l : List α} {k : Nat} {y : α} (hF : F[k]? = some y) (hl : F.length = l.length) : F.take (k + 1) ++ l.drop (k + 1) = (F.take k ++ l.drop k).set k y:=by
 have hk : k < F.length:=(bY.1 hF).1;apply iC;intro j;rw [iR];by_cases e : k = j
 ·subst e;rw [eX rfl,eX zI,List.getElem?_append_left zI,List.getElem?_take_of_lt zO,hF]
 rw [dG e];by_cases h : j < k
 ·rw [List.getElem?_append_left zI,List.getElem?_append_left zI,List.getElem?_take_of_lt zO,List.getElem?_take_of_lt zO]
 rw [List.getElem?_append_right zI,List.getElem?_append_right zI,List.getElem?_drop,List.getElem?_drop];simp only [List.length_take]
 congr 1;omega
theorem aJ9 {α : Type} {F l : List α} {k : Nat} (hl : F.length = l.length) (hk : k ≤ l.length) : (F.take k ++ l.drop k)[k]? = l[k]?:=by
 rw [List.getElem?_append_right zI,List.getElem?_drop];simp only [List.length_take]
 congr 1;omega
theorem mix_at2 {α : Type} {F l : List α} {k j : Nat} (hl : F.length = l.length) (hk : k ≤ l.length) : (F.take k ++ l.drop k)[j]? = if j < k then F[j]? else l[j]?:=by
 by_cases h : j < k
 ·rw [eX h,List.getElem?_append_left zI,List.getElem?_take_of_lt h]
 rw [dG h,List.getElem?_append_right zI,List.getElem?_drop];simp only [List.length_take]
 congr 1;omega
theorem wC {α : Type} {F l : List α} {k : Nat} (hl : F.length = l.length) (hk : k ≤ l.length) : (F.take k ++ l.drop k).length = l.length:=by simp;omega
theorem aG1 {α : Type} {F l : List α} (hl : F.length = l.length) : F.take l.length ++ l.drop l.length = F:=by rw [List.drop_length,gH,← hl,gF]
theorem aDc {α : Type} {F l : List α} {k : Nat} {y : α} (hF : F[k]? = some y) (hl : F.length = l.length) (h : l[k]? = some y) : F.take (k + 1) ++ l.drop (k + 1) = F.take k ++ l.drop k:=by
 have hk : k < F.length:=(bY.1 hF).1;rw [yT hF hl];exact aGx (by rw [aJ9 hl zO];exact h)
theorem sclR_at {l : List Rat} {b x : Rat} {k : Nat} (h : l[k]? = some x) : (sN l b)[k]? = some (x / b):=by unfold sN;rw [iI,h];rfl
theorem aS2 {o t : List Rat} {b u v : Rat} {k : Nat} (h : o[k]? = some u) (h2 : t[k]? = some v) : (yC o t b)[k]? = some (u - v * b):=by unfold yC;rw [List.getElem?_zipWith,h,h2]
theorem subR_zero {o t : List Rat} (h : t.length = o.length) : yC o t 0 = o:=by
 apply iC;intro k;by_cases hk : k < o.length
 ·rw [aS2 (aJ hk) (aJ (h ▸ hk)),aJ hk];congr 1;grind
 rw [dJ (by rw [aDj h];omega),dJ zO]
theorem step_at {R : List (List Rat)} {n k i j : Nat} {r : List Rat} (h : pP R (n + 1) (n + 1)) (hk : k < n + 1) (hi : i < n + 1) (hr : ((vB R k i).set k (yF R k i))[j]? = some r) :
  (qM R k i)[j]? = some (if j = k then yF R k i else yC r (yF R k i) (r.getD k 0)):=by
 have hs:=qP h hk hi;rw [iR] at hr;split at hr
 ·rename_i e;subst e
  rw [eX (by rw [hs.1];exact hk)] at hr;obtain ⟨s,h1,_⟩:=hs.row hk;rw [aCt h hk hi h1,eX rfl,eX rfl]
 exact aCt h hk hi hr
end Go.Proofs

namespace Go.Proofs
open Go.XL
set_option maxRecDepth 100000 in
set_option maxHeartbeats 1600000 in
set_option maxRecDepth 100000 in
set_option maxHeartbeats 1600000 in
theorem reduce_fn (bs n : Nat) (M : List (List Rat)) (H : Hp) (so : XL.Own) (hM0 : aRp bs M 0 H so) (hst : StR M (n + 1) n 0) (hz : szA M 2) (hn : n ≤ 4) : iP Tryz.prog 121 #[.pointer (some ⟨bs,0,none⟩),.int .i64 (n : Nat)] H so (eQ (fun v H2 own=>v = .tuple #[] ∧ aRp bs M n H2 own)):=by
 refine iP.intro (args:=[.pointer (some ⟨bs,0,none⟩),.int .i64 (n : Nat)]) Tryz.func121 rfl rfl Tryz.ntmps121 rfl rfl rfl fun G rest=>?_;refine zS ?_;refine iW rfl rfl rfl (fun b2=>?_);refine jM (List.perm_middle (l₁:=so) (l₂:=rest)).symm ?_;refine zN ?_;refine zS ?_;refine jM List.perm_middle ?_;refine bT 0 rfl rfl uH rfl rfl rfl ?_;refine jM (List.perm_middle (l₁:=so) (l₂:=rest)).symm ?_;refine zM rfl ?_;refine eZ rfl (columns_fn bs n _) rfl ?_;rintro _ HC qA ⟨b3,b2c,rfl,hC3,hC2⟩;replace hM0:=hM0.mono qA;refine zN ?_;refine dK ?_;refine eU [2,18] rfl ?_;refine XC.rangeFuncI (enc:=aXw) (aXz bs M ((b2,.cells 181 [.pointer (some ⟨bs,0,none⟩)]) :: rest)) rfl (cols_seq bs n M _ _ _ hC3 hC2 hst zO _ _) (fun _=>rfl) rfl (fun _ _ _=>False) (⟨so,rfl,hM0⟩) (.inl rfl) ?_ ?_ ?_
 ·rintro G lp hd1 hd2 hrec pre x post hxs Hl ownL jQ ⟨so2,rfl,hM⟩;replace hC3:=hC3.mono jQ;replace hC2:=hC2.mono jQ;obtain ⟨hkn0,rfl⟩:=colsL_is hxs;have hplen : (pre ++ [(((pre.length : Nat) : Int),((aCu (mB M pre.length) pre.length : Nat) : Int))]).length = pre.length + 1:=by simp
  obtain ⟨k,hk⟩ : ∃ k,k = pre.length:=⟨_,rfl⟩
  rw [← hk] at hM hkn0 hplen ⊢;have hkn : k < n:=hkn0;have hst0:=StR.all hst zO k zO;have hpv0:=hst0.piv hkn zO;have hszR0:=StR.size hst zO hz k zO;have hlen4:=lenS_le (show k < 4 by omega);have hlenp:=aKf k;obtain ⟨rs,⟨pt,pa,a1,a2,c1,c2,rfl,hT,hA,hro⟩,hrs⟩:=hM;have hstep : mB M (k + 1) = qM (mB M k) k (aCu (mB M k) k):=rfl;obtain ⟨i,hi⟩ : ∃ i,i = aCu (mB M k) k:=⟨_,rfl⟩
  rw [← hi] at hpv0 hstep hplen ⊢;obtain ⟨R,hR⟩ : ∃ R,R = mB M k:=⟨_,rfl⟩
  rw [← hR] at hpv0 hstep hrs hszR0;have hwR : pP R (n + 1) (n + 1):=by rw [hR];exact hst0.wide
  obtain ⟨hp1,hp2,hp3,hp4,hp5⟩:=hpv0;have hrl : rs.length = n + 1:=by rw [aCy hrs];exact hwR.1
  have hRl:=hwR.1;have hta:=hT.addr (by rw [fB];omega);subst hta;rw [hrl,aDd];obtain ⟨⟨ip,ia,ic,il⟩,hri,hRi⟩:=uJ hrs (show i < R.length by omega);obtain ⟨⟨kp,ka,kc,kl⟩,hrk,hRk⟩:=uJ hrs (show k < R.length by omega);have hil : il.length = n + 1:=hwR.2 _ (cF hRi);have hkl : kl.length = n + 1:=hwR.2 _ (cF hRk);have hria:=hro _ (cF hri);have hia:=hria.addr (by show 0 < il.length;omega);simp only at hia hria hRi hRk;subst hia;obtain ⟨q0,hq0⟩ : ∃ q,il[k]? = some q:=⟨_,aJ zO⟩
  have hq0e : kJ R i k = q0:=by rw [sU hRi,dB,hq0];rfl
  have hq00 : q0 ≠ 0:=by rw [← hq0e];exact hp4
  have hilz : ∀ q ∈ il,mZ q (lenS k):=hszR0 il (cF hRi);have hq0z : mZ q0 (lenS k):=hilz q0 (cF hq0);have htop : yF R k i = sN il q0:=by unfold yF;rw [show R.getD i [] = il by rw [dB,hRi];rfl,show il.getD k 0 = q0 by rw [dB,hq0];rfl]
  have htl : (sN il q0).length = n + 1:=by rw [xF];exact hil
  have hrawI : (rs.map RowO.raw)[i]? = some (some ⟨ip.1,0,none⟩,il.length,ic):=aBa hri;have hrawK : (rs.map RowO.raw)[k]? = some (ka,kl.length,kc):=aBa hrk;change XC _ _ _ ⟨wO [19,20] [.int .i64 ((k : Nat) : Int),.int .i64 ((i : Nat) : Int)] _,_,_,(bs,.cells 187 [.slice a2 k c2,.slice (some ⟨pt.1,0,none⟩) (n + 1) c1]) :: pt :: pa :: (rs.map RowO.p ++ ((b2,.cells 181 [.pointer (some ⟨bs,0,none⟩)]) :: rest))⟩;refine oT (permB (rs.map RowO.p) rest) (zS (zG rfl (zN (dL (zG rfl (bF (tS (dK (zS (bT 0 rfl rfl uH rfl rfl rfl (iB rfl rfl (bJ rfl aAl rfl (wL 1 rfl (aQp bs _ _ _ _ _ _ _) rfl rfl ?_)))))))))))));rintro _ HR _ mQ ⟨rfl,rfl⟩;refine ⟨_,rfl,?_⟩;replace hT:=hT.mono mQ;replace hA:=hA.mono mQ;replace hro:=hro.mono mQ;replace hria:=hria.mono mQ;refine zG rfl (zN (cO (oT (aBj _ 2 _ rfl) (eU [2,4,5,6] rfl ?_))));apply aC7 (fun _=>True) trivial 25 (fun z H=>XL.Acc XL.rawR 24 H z (some ⟨pt.1,0,none⟩) c1 (rs.map RowO.raw)) (fun z H=>XL.Acc XL.rawR 24 H z (some ⟨pt.1,0,none⟩) c1 ((rs.map RowO.raw).set k (some ⟨ip.1,0,none⟩,il.length,ic))) (fun _ _ _ hle h=>h.mono hle) (fun _ _ _ hle h=>h.mono hle) 26 [gC _,gC _,gC _,gC _,gC _,gC _,gC _,gC _,gC _,gC _,gC _,gC _,gC _,gC _,gC _,gC _,gC _,gC _,gC _,gC _,gC _,gC _,gC _,gC _,gC _,vA] follows zK ⟨aH _,aH _,aH _,aH _,aH _,aH _,aH _,aH _,aH _,aH _,aH _,aH _,aH _,aH _,aH _,aH _,aH _,aH _,aH _,aH _,aH _,aH _,aH _,aH _,aH _,lN,trivial⟩ rfl hT ?steps4 ?tail4
  case steps4 =>
   refine fZ rfl ?_ ?_
   ·intro X e HD bI _ hfa;exact aO rfl (bT 1 rfl rfl uH rfl rfl rfl (bF (fF trivial rfl (by unfold rT;rw [dG zD]))))
   refine fZ rfl ?_ ?_
   ·intro X e HD bI _ hfa;exact fX rfl (aO rfl (iB rfl rfl (bF (fF trivial rfl (by unfold rT;rw [dG zD])))))
   refine fZ rfl ?_ ?_
   ·intro X e HD bI _ hfa;exact fX rfl (aO rfl (bJ rfl qY rfl (bF (fF trivial rfl (by unfold rT;rw [dG zD])))))
   refine fZ rfl ?_ ?_
   ·intro X e HD bI _ hfa;exact fX rfl (aO rfl (bT 2 rfl rfl oH rfl rfl rfl (bF (fF trivial rfl (by unfold rT;rw [dG zD])))))
   refine fZ rfl ?_ ?_
   ·intro X e HD bI _ hfa;exact aO rfl (zM rfl (bF (fF trivial rfl (by unfold rT;rw [dG zD]))))
   refine fZ rfl ?_ ?_
   ·intro X e HD bI _ hfa;exact aO rfl (bT 1 rfl rfl uH rfl rfl rfl (bF (fF trivial rfl (by unfold rT;rw [dG zD]))))
   refine fZ rfl ?_ ?_
   ·intro X e HD bI _ hfa;exact fX rfl (aO rfl (iB rfl rfl (bF (fF trivial rfl (by unfold rT;rw [dG zD])))))
   refine fZ rfl ?_ ?_
   ·intro X e HD bI _ hfa;exact fX rfl (aO rfl (bJ rfl qY rfl (bF (fF trivial rfl (by unfold rT;rw [dG zD])))))
   refine fZ rfl ?_ ?_
   ·intro X e HD bI _ hfa;exact fX rfl (aO rfl (bT 2 rfl rfl oH rfl rfl rfl (bF (fF trivial rfl (by unfold rT;rw [dG zD])))))
   refine fZ rfl ?_ ?_
   ·intro X e HD bI _ hfa;exact aO rfl (zM rfl (bF (fF trivial rfl (by unfold rT;rw [dG zD]))))
   refine fZ rfl ?_ ?_
   ·intro X e HD bI _ hfa;exact aO rfl (bT 1 rfl rfl uH rfl rfl rfl (bF (fF trivial rfl (by unfold rT;rw [dG zD]))))
   refine fZ rfl ?_ ?_
   ·intro X e HD bI _ hfa;exact fX rfl (aO rfl (iB rfl rfl (bF (fF trivial rfl (by unfold rT;rw [dG zD])))))
   refine fZ rfl ?_ ?_
   ·intro X e HD bI _ hfa;exact fX rfl (aO rfl (bJ rfl qY rfl (bF (fF trivial rfl (by unfold rT;rw [dG zD])))))
   refine fZ rfl ?_ ?_
   ·intro X e HD bI _ hfa;exact fX rfl (aO rfl (bT 2 rfl rfl oH rfl rfl rfl (bF (fF trivial rfl (by unfold rT;rw [dG zD])))))
   refine fZ rfl ?_ ?_
   ·intro X e HD bI _ hfa;exact aO rfl (zM rfl (bF (fF trivial rfl (by unfold rT;rw [dG zD]))))
   refine fZ rfl ?_ ?_
   ·intro X e HD bI _ hfa;exact fX rfl (fX rfl (aO rfl (fK rfl rfl eI iG zO zO rfl (bF (fF trivial rfl (by unfold rT;rw [dG zD]))))))
   refine fZ rfl ?_ ?_
   ·intro X e HD bI _ hfa;refine fX rfl (aO rfl ?_);replace hfa:=hfa (Or.inr rfl)
    skip
    exact uK 0 rfl rfl hfa (hrawI) iG rfl (bF (fF trivial rfl (by unfold rT;rw [dG zD])))
   refine fZ rfl ?_ ?_
   ·intro X e HD bI _ hfa;exact aO rfl (bT 1 rfl rfl uH rfl rfl rfl (bF (fF trivial rfl (by unfold rT;rw [dG zD]))))
   refine fZ rfl ?_ ?_
   ·intro X e HD bI _ hfa;exact fX rfl (aO rfl (iB rfl rfl (bF (fF trivial rfl (by unfold rT;rw [dG zD])))))
   refine fZ rfl ?_ ?_
   ·intro X e HD bI _ hfa;exact fX rfl (aO rfl (bJ rfl qY rfl (bF (fF trivial rfl (by unfold rT;rw [dG zD])))))
   refine fZ rfl ?_ ?_
   ·intro X e HD bI _ hfa;exact fX rfl (aO rfl (bT 2 rfl rfl oH rfl rfl rfl (bF (fF trivial rfl (by unfold rT;rw [dG zD])))))
   refine fZ rfl ?_ ?_
   ·intro X e HD bI _ hfa;exact aO rfl (zM rfl (bF (fF trivial rfl (by unfold rT;rw [dG zD]))))
   refine fZ rfl ?_ ?_
   ·intro X e HD bI _ hfa;exact fX rfl (fX rfl (aO rfl (fK rfl rfl eI iG zO zO rfl (bF (fF trivial rfl (by unfold rT;rw [dG zD]))))))
   refine fZ rfl ?_ ?_
   ·intro X e HD bI _ hfa;refine fX rfl (aO rfl ?_);replace hfa:=hfa (Or.inr rfl)
    skip
    exact uK 0 rfl rfl hfa (hrawK) iG rfl (bF (fF trivial rfl (by unfold rT;rw [dG zD])))
   refine fZ rfl ?_ ?_
   ·intro X e HD bI _ hfa;exact fX rfl (fX rfl (aO rfl (fK rfl rfl eI iG zO zO rfl (bF (fF trivial rfl (by unfold rT;rw [dG zD]))))))
   refine fZ rfl ?_ ?_
   ·intro X e HD bI _ hfa;refine fX rfl (fX rfl (aO rfl ?_));replace hfa:=hfa (Or.inl rfl)
    skip
    exact lH 0 rfl rfl rfl hfa (k:=k) (u:=(some ⟨ip.1,0,none⟩,il.length,ic)) (by rw [fB];omega) (by rfl) (by rfl) iG rfl (fun pS0 haccT=>bF (fF trivial (trivial) (by unfold rT;rw [eX rfl];exact haccT)))
   exact xG rfl
  case tail4 =>
   intro HD bI _;replace hT:=hT.mono bI;replace hA:=hA.mono bI;replace hro:=hro.mono bI;replace hria:=hria.mono bI;refine fX rfl (fX rfl (fX rfl (fX rfl (fX rfl (fX rfl (fX rfl (fX rfl (fX rfl (fX rfl (fX rfl (fX rfl (fX rfl (fX rfl (fX rfl (fX rfl (fX rfl (fX rfl (fX rfl (fX rfl (fX rfl (fX rfl (fX rfl (fX rfl (fX rfl (pY rfl rfl (aO rfl ?_))))))))))))))))))))))))));intro e he
   skip
   refine fK rfl rfl eI iG zO zO rfl (lH 0 rfl rfl rfl he (k:=i) (u:=(ka,kl.length,kc)) (by rw [gQ,fB];omega) (by rfl) (by rfl) iG rfl (fun pS hT2=>?_));obtain ⟨rs2,hrs2⟩ : ∃ r,r = (rs.set k (⟨ip,some ⟨ip.1,0,none⟩,ic,il⟩ : nP)).set i (⟨kp,ka,kc,kl⟩ : nP):=⟨_,rfl⟩
   have hT2e : (((rs.map RowO.raw).set k (some ⟨ip.1,0,none⟩,il.length,ic)).set i (ka,kl.length,kc)) = rs2.map RowO.raw:=by rw [hrs2,List.map_set,List.map_set];rfl
   rw [hT2e] at hT2;have hroT:=RowsO.set (RowsO.set hro k (r:=(⟨ip,some ⟨ip.1,0,none⟩,ic,il⟩ : nP)) hria) i (r:=(⟨kp,ka,kc,kl⟩ : nP)) (hro _ (cF hrk));rw [← hrs2] at hroT;replace hro:=hroT
   have hS2 : rs2.map RowO.l = vB R k i:=by
    rw [hrs2,List.map_set,List.map_set,hrs];unfold vB;rw [show R.getD i [] = il by rw [dB,hRi];rfl,show R.getD k [] = kl by rw [dB,hRk];rfl]
   have hrk2 : rs2[k]? = some (⟨ip,some ⟨ip.1,0,none⟩,ic,il⟩ : nP):=by rw [hrs2];exact swap_k hrk hri
   have hrl2 : rs2.length = n + 1:=by rw [hrs2,gQ,gQ];exact hrl
   refine jM (permS (b:=(bs,.cells 187 [.slice a2 k c2,.slice (some ⟨pt.1,0,none⟩) (n + 1) c1])) ((swap_perm hrk hri).map RowO.p |>.append_right rest)) ?_;rw [← hrs2];refine zN (zS (bT 0 rfl rfl uH rfl rfl rfl (iB rfl rfl (bJ rfl qY rfl (bT 1 rfl rfl oH rfl rfl rfl (zM rfl (fK rfl rfl eI iG zO zO rfl (uK 2 rfl rfl hT2 ((show (rs2.map RowO.raw)[k]? = some (some ⟨ip.1,0,none⟩,il.length,ic) from aBa hrk2)) iG rfl (zG rfl ?_)))))))));obtain ⟨oth,ho1,ho2⟩:=aD7 hrk2 rest;refine jM (aSi ho1) (zN (zS (zM rfl (zM rfl (fK rfl rfl cJ fG zO zO rfl (lY (0) rfl rfl hria (by rw [eN];exact hq0) fG rfl (fun cs11 v11 hR11 hv11=>?_) (fun cs11 hR11=>by obtain ⟨aZ,cZ,bZ,dZ,rfl,_,_⟩:=hR11;exact ⟨_,rfl⟩)))))));obtain ⟨axB,cxB,bxB,dxB,rfl,hdB,heB⟩:=hR11;cases hv11;refine fI jD rfl (fun b8=>eG 0 rfl rfl rfl rfl fG rfl rfl rfl rfl rfl (zN (cO (zS (zM rfl (eD (ts:=#[]) rfl cJ rfl (zM rfl (zN (dK (eU [64,2,4,6,7,8,63] rfl (oT (gW _ _ _) (gO (base:=[(2,_),(4,_),(6,_),(7,_),(8,_),(63,_)]) (fun ζ : Nat × (Nat × SObj)=>[(64,.int .i64 (ζ.1 : Nat))]) (fun ζ Hl own=>ζ.1 ≤ il.length ∧ ζ.2 :: (b8,.cells 56 [.bool (decide (q0.num < 0)),.slice axB (dg q0.num.natAbs).length cxB,.bool false,.slice bxB (dg q0.den).length dxB]) :: (b2,.cells 181 [.pointer (some ⟨bs,0,none⟩)]) :: (bs,.cells 187 [.slice a2 k c2,.slice (some ⟨pt.1,0,none⟩) (n + 1) c1]) :: pS :: pa :: (oth ++ rest) = own ∧ Acc jX 56 Hl ζ.2 (some ⟨ip.1,0,none⟩) ic ((sN il q0).take (ζ.1) ++ il.drop (ζ.1))) (fun ζ=>il.length - ζ.1) (0,ip) (zC) zB ⟨eS _,rfl,by rw [List.take_zero,List.drop_zero,gN];exact hria⟩ ?_))))))))))));rintro ⟨c,pm⟩ Hl1 _ iT ⟨hkc,rfl,haccm⟩;replace hA:=hA.mono iT;replace hro:=hro.mono iT;replace hria:=hria.mono iT;replace hT2:=hT2.mono iT;replace hdB:=hdB.mono iT;replace heB:=heB.mono iT;try dsimp only at hkc haccm ⊢
   refine zS (zL rfl (zN (cO (fC rfl (fun c0_12=>?_) (fun c0_12=>?_)))))
   ·refine eF (bO (cO (dK (zS (zM rfl (zG rfl (zN ?_)))))));obtain ⟨x,hx⟩ : ∃ x,il[c]? = some x:=⟨_,aJ zO⟩
    have hmixl:=wC (F:=(sN il q0)) (l:=il) (k:=c) (by rw [xF]) zO;have hxz:=hilz x (cF hx);refine eU [2,4,6,7,8,9,63,64] rfl ?_;apply aC7 (fun _=>True) trivial 12 (fun z H=>XL.Acc jX 56 H z (some ⟨ip.1,0,none⟩) ic ((sN il q0).take (c) ++ il.drop (c))) (fun z H=>XL.Acc jX 56 H z (some ⟨ip.1,0,none⟩) ic ((sN il q0).take (c + 1) ++ il.drop (c + 1))) (fun _ _ _ hle h=>h.mono hle) (fun _ _ _ hle h=>h.mono hle) 13 [gC _,gC _,gC _,gC _,gC _,fun v H=>lJ (x) H v,gC _,fun v H=>∃ u,v = .tuple #[u,.int .i64 0] ∧ lJ (x / q0) H u,fun v H=>∃ u,v = .tuple #[u,.int .i64 0] ∧ lJ (x / q0) H u,fun v H=>lJ (x / q0) H v,gC _,gC _,vA] follows zK ⟨aH _,aH _,aH _,aH _,aH _,kG _,aH _,fun _ _ _ hle ⟨u,h,k⟩=>⟨u,h,k.mono hle⟩,fun _ _ _ hle ⟨u,h,k⟩=>⟨u,h,k.mono hle⟩,kG _,aH _,aH _,lN,trivial⟩ rfl haccm ?steps13 ?tail13
    case steps13 =>
     refine fZ rfl ?_ ?_
     ·intro X e HD bI _ hfa;exact aO rfl (zM rfl (bF (fF trivial rfl (by unfold rT;rw [dG zD]))))
     refine fZ rfl ?_ ?_
     ·intro X e HD bI _ hfa;exact aO rfl (zM rfl (bF (fF trivial rfl (by unfold rT;rw [dG zD]))))
     refine fZ rfl ?_ ?_
     ·intro X e HD bI _ hfa;exact aO rfl (zM rfl (bF (fF trivial rfl (by unfold rT;rw [dG zD]))))
     refine fZ rfl ?_ ?_
     ·intro X e HD bI _ hfa;exact aO rfl (zM rfl (bF (fF trivial rfl (by unfold rT;rw [dG zD]))))
     refine fZ rfl ?_ ?_
     ·intro X e HD bI _ hfa;exact fX rfl (fX rfl (aO rfl (fK rfl rfl cJ fG zO zO rfl (bF (fF trivial rfl (by unfold rT;rw [dG zD]))))))
     refine fZ rfl ?_ ?_
     ·intro X e HD bI _ hfa;refine fX rfl (aO rfl ?_);replace hfa:=hfa (Or.inr rfl)
      skip
      refine lY (0) rfl rfl hfa (by rw [eN,aJ9 (by rw [xF]) zO];exact hx) fG rfl (fun cs15 v15 hR15 hv15=>?_) (fun cs15 hR15=>by obtain ⟨aZ,cZ,bZ,dZ,rfl,_,_⟩:=hR15;exact ⟨_,rfl⟩);obtain ⟨axX,cxX,bxX,dxX,rfl,hdX,heX⟩:=hR15;cases hv15;exact bF (fF trivial (⟨_,_,_,_,rfl,hdX,heX⟩) (by unfold rT;rw [dG zD]))
     refine fZ rfl ?_ ?_
     ·intro X e HD bI _ hfa;exact aO rfl (bT 1 rfl rfl fG rfl rfl rfl (bF (fF trivial rfl (by unfold rT;rw [dG zD]))))
     refine fZ rfl ?_ ?_
     ·intro X e HD bI _ hfa;replace hdB:=hdB.mono bI;replace heB:=heB.mono bI;refine eR rfl rfl ?_;rintro _ ⟨aX,cX,bX,dX,rfl,hX,kX⟩;refine fX rfl (aO rfl (eZ rfl (aRd ⟨_,_,_,_,rfl,hX,kX⟩ ⟨_,_,_,_,rfl,hdB,heB⟩ (hxz.mono zO) (hq0z.mono zO) hq00) rfl ?_));rintro _ HN kI ⟨_,rfl,⟨aR,cR,bR,dR,rfl,hR,kR⟩⟩;exact bF (fF trivial (⟨_,rfl,⟨_,_,_,_,rfl,hR,kR⟩⟩) (by unfold rT;rw [dG zD]))
     refine fZ rfl ?_ ?_
     ·intro X e HD bI _ hfa;refine eR rfl rfl ?_;rintro _ ⟨_,rfl,aR,cR,bR,dR,rfl,hR,kR⟩;exact aO rfl (zM rfl (bF (fF trivial (⟨_,rfl,⟨_,_,_,_,rfl,hR,kR⟩⟩) (by unfold rT;rw [dG zD]))))
     refine fZ rfl ?_ ?_
     ·intro X e HD bI _ hfa;refine eR rfl rfl ?_;rintro _ ⟨_,rfl,aR,cR,bR,dR,rfl,hR,kR⟩;exact aO rfl (zX rfl (bF (fF trivial (⟨_,_,_,_,rfl,hR,kR⟩) (by unfold rT;rw [dG zD]))))
     refine fZ rfl ?_ ?_
     ·intro X e HD bI _ hfa;refine eR rfl rfl ?_;rintro _ ⟨_,rfl,aR,cR,bR,dR,rfl,hR,kR⟩;exact aO rfl (zX rfl (bF (fF trivial rfl (by unfold rT;rw [dG zD]))))
     refine fZ rfl ?_ ?_
     ·intro X e HD bI _ hfa;exact fX rfl (fX rfl (aO rfl (fK rfl rfl cJ fG zO zO rfl (bF (fF trivial rfl (by unfold rT;rw [dG zD]))))))
     refine fZ rfl ?_ ?_
     ·intro X e HD bI _ hfa;refine fX rfl (eR rfl rfl ?_);rintro _ ⟨aR,cR,bR,dR,rfl,hR,kR⟩;refine aO rfl ?_;replace hfa:=hfa (Or.inl rfl)
      skip
      refine lH 0 rfl rfl rfl hfa (k:=((c : Nat) : Int).toNat) (u:=x / q0) (by rw [eN,hmixl];omega) rfl ⟨_,_,_,_,rfl,hR,kR⟩ fG rfl (fun pX hst12=>?_);rw [eN,← yT (sclR_at hx) (by rw [xF])] at hst12;exact bF (fF trivial (trivial) (by unfold rT;rw [eX rfl];exact hst12))
     exact xG rfl
    case tail13 =>
     intro HD bI _;replace iT:=iT.trans bI;refine fX rfl (fX rfl (fX rfl (fX rfl (fX rfl (eR rfl rfl ?_)))));rintro _ ⟨aX,cX,bX,dX,rfl,hX,kX⟩;refine fX rfl (eR rfl rfl ?_);rintro _ ⟨_,rfl,aR,cR,bR,dR,rfl,hR,kR⟩;refine eR rfl rfl ?_;rintro _ ⟨_,rfl,aR,cR,bR,dR,rfl,hR,kR⟩;refine eR rfl rfl ?_;rintro _ ⟨aR,cR,bR,dR,rfl,hR,kR⟩;refine fX rfl (fX rfl (pY rfl rfl (aO rfl ?_)));intro e he
     skip
     refine bF (fY (bO (dL (fR rfl rfl (dT zO zO) rfl (zM rfl (bF (eW ((c + 1,e)) (by show il.length - (c + 1) < il.length - c;omega) (zC) (⟨by show c + 1 ≤ il.length;omega,rfl,by first | (exact he) | (rw [rfl];exact he)⟩) zB (iT))))))))
   obtain rfl : c = il.length:=zO
   rw [aG1 (by rw [xF])] at haccm;refine gI (fE (eY (fU rfl (bO (cO (zS ?_))))));obtain ⟨rs3,aEx⟩ : ∃ r,r = rs2.set k (⟨pm,some ⟨ip.1,0,none⟩,ic,(sN il q0)⟩ : nP):=⟨_,rfl⟩
   have hraw3 : rs3.map RowO.raw = rs2.map RowO.raw:=by rw [aEx];exact aDu (by simp only [RowO.raw,xF]) hrk2
   have hT3:=hT2;rw [← hraw3] at hT3;have hro3:=RowsO.set hro k (r:=(⟨pm,some ⟨ip.1,0,none⟩,ic,(sN il q0)⟩ : nP)) haccm;rw [← aEx] at hro3;have hS3 : rs3.map RowO.l = (vB R k i).set k (yF R k i):=by rw [aEx,List.map_set,hS2,htop]
   have hrl3 : rs3.length = n + 1:=by rw [aEx,gQ];exact hrl2
   refine jM (((gW _ _ _)).trans (List.Perm.cons _ (perm5r (ho2 (⟨pm,some ⟨ip.1,0,none⟩,ic,(sN il q0)⟩ : nP))))) ?_;rw [← aEx];refine bT 1 rfl rfl uH rfl rfl rfl (iB rfl rfl (bJ rfl qY rfl (bT 2 rfl rfl oH rfl rfl rfl (eD (ts:=#[]) rfl eI rfl (zM rfl (zN (dK (eU [85,2,4,6,7,83,84] rfl (gO (base:=[(2,_),(4,_),(6,_),(7,_),(83,_),(84,_)]) (fun ζ : Nat × (List nP)=>[(85,.int .i64 (ζ.1 : Nat))]) (fun ζ Hl own=>ζ.1 ≤ (n + 1) ∧ (b2,.cells 181 [.pointer (some ⟨bs,0,none⟩)]) :: (bs,.cells 187 [.slice a2 k c2,.slice (some ⟨pt.1,0,none⟩) (n + 1) c1]) :: pS :: pa :: (ζ.2.map RowO.p ++ rest) = own ∧ (wX Hl ζ.2) ∧ (ζ.2.map RowO.raw = rs3.map RowO.raw) ∧ (ζ.2.map RowO.l = (qM R k i).take (ζ.1) ++ ((vB R k i).set k (yF R k i)).drop (ζ.1))) (fun ζ=>(n + 1) - ζ.1) (0,rs3) (zC) zB ⟨eS _,rfl,hro3,rfl,by rw [List.take_zero,List.drop_zero,gN];exact hS3⟩ ?_)))))))));rintro ⟨j,rj⟩ Hl2 _ jJ ⟨hkj,rfl,hroj,hrawj,hlj⟩;replace hA:=hA.mono jJ;replace hdB:=hdB.mono jJ;replace heB:=heB.mono jJ;replace hT3:=hT3.mono jJ;replace hro3:=hro3.mono jJ;try dsimp only at hkj hroj hrawj hlj ⊢
   refine zS (zL rfl (zN (cO (fC rfl (fun c1_17=>?_) (fun c1_17=>?_)))))
   ·have hS3l : ((vB R k i).set k (yF R k i)).length = n + 1:=by rw [gQ];exact (qP hwR zO hp3).1
    have hTl : (qM R k i).length = n + 1:=(aBq hwR zO hp3).1;have hjn : j < n + 1:=zO
    have hrjl : rj.length = n + 1:=by rw [aCy hlj,wC zO zO];exact hS3l
    obtain ⟨⟨jp,ja,jc,jl⟩,hrj,hRj⟩:=uJ hlj (show j < ((qM R k i).take (j) ++ ((vB R k i).set k (yF R k i)).drop (j)).length by rw [wC zO zO];omega);obtain ⟨⟨up,ua,uc,ul⟩,hru,hRu⟩:=uJ hlj (show k < ((qM R k i).take (j) ++ ((vB R k i).set k (yF R k i)).drop (j)).length by rw [wC zO zO];omega)
    have hTk : (qM R k i)[k]? = some (yF R k i):=by
     obtain ⟨r,h1,_⟩:=(qP hwR (show k < n + 1 by omega) hp3).row (show k < n + 1 by omega);rw [aCt hwR zO hp3 h1,eX rfl]
    have hSk : ((vB R k i).set k (yF R k i))[k]? = some (yF R k i):=by rw [iR,eX rfl,eX (by rw [(qP hwR zO hp3).1];omega)]
    have hul : ul = (sN il q0):=by
     rw [mix_at2 zO zO] at hRu;rw [← htop];split at hRu
     ·rw [hTk] at hRu;exact (eE hRu).symm
     rw [hSk] at hRu;exact (eE hRu).symm
    simp only at hRj hRu;subst hul;have hraw:=hrawj;rw [aJ9 zO zO] at hRj;have hTj:=step_at hwR (show k < n + 1 by omega) hp3 hRj;have hrawJ : (rs3.map RowO.raw)[j]? = some (ja,jl.length,jc):=by rw [← hrawj];exact aBa hrj
    have hrj2 : rs3[k]? = some (⟨pm,some ⟨ip.1,0,none⟩,ic,(sN il q0)⟩ : nP):=by rw [aEx,iR,eX rfl,eX zO]
    have hrawK : (rj.map RowO.raw)[k]? = some (some ⟨ip.1,0,none⟩,((sN il q0)).length,ic):=by rw [hrawj];exact aBa hrj2
    rw [aBa hru] at hrawK
    obtain ⟨rfl,rfl⟩ : ua = some ⟨ip.1,0,none⟩ ∧ uc = ic:=by
     have:=eE hrawK;exact ⟨congrArg Prod.fst this,congrArg (fun z=>z.2.2) this⟩
    have haccU:=hroj _ (cF hru);have haccJ:=hroj _ (cF hrj)
    have hjlw : jl.length = n + 1:=by
     rcases List.mem_or_eq_of_mem_set (cF hRj) with h | h
     ·exact (qP hwR zO hp3).2 _ h
     rw [h,htop];exact htl
    have hja:=haccJ.addr (by show 0 < jl.length;omega);simp only at hja haccJ haccU;subst hja;obtain ⟨q1,hq1⟩ : ∃ q,jl[k]? = some q:=⟨_,aJ zO⟩
    have hq1d : jl.getD k 0 = q1:=by rw [dB,hq1];rfl
    refine eF (bO (cO (dK (zS (zM rfl (fK rfl rfl eI iG zO zO rfl (uK 2 rfl rfl hT3 (by rw [eN];exact hrawJ) iG rfl (zG rfl (zG rfl (zN (cO (zS (zM rfl (zM rfl (zZ rfl (zM rfl (iM rfl rfl rfl rfl (fun g19=>?_) (fun g19=>?_))))))))))))))))))
    ·have g19p:=fM g19;refine zM rfl (zT rfl g19 (zM rfl (zT rfl g19 (fK rfl rfl cJ fG zO (by first | omega | (dsimp only;omega)) rfl (zT rfl g19 (lY (4 + j) rfl (at4 (aNm hrj)) haccJ (hq1) fG rfl (fun cs21 v21 hR21 hv21=>?_) (fun cs21 hR21=>by obtain ⟨aZ,cZ,bZ,dZ,rfl,_,_⟩:=hR21;exact ⟨_,rfl⟩)))))));obtain ⟨axQ,cxQ,bxQ,dxQ,rfl,hdQ,heQ⟩:=hR21;cases hv21;refine zT rfl g19 (fH rfl (aQ7 q1 _ _ _ _ _ hdQ heQ) rfl (zW g19 rfl (zN (fC rfl (fun c2_23=>?_) (fun c2_23=>?_)))))
     ·refine gI (fE (fU rfl (bO (dL (fR rfl rfl (dT zO zO) rfl (zM rfl (bF (eW ((j + 1,rj)) (by show (n + 1) - (j + 1) < (n + 1) - j;omega) (zC) (⟨by show j + 1 ≤ (n + 1);omega,rfl,hroj,hrawj,by rw [hlj,aDc (y:=jl) (by rw [hTj,hq1d,show q1 = 0 by first | assumption | (simp_all;done),htop,subR_zero zO,dG (by first | assumption | omega)]) zO hRj]⟩) zB (jJ)))))))))
     refine eF ?_;refine bO ?_;refine zS ?_;have hjk : j ≠ k:=by first | assumption | (intro h;subst h;simp_all;done) | omega
     have hjlz : ∀ q ∈ jl,mZ q (lenS k):=by
      rw [iR,dG (fun h=>hjk h.symm)] at hRj;exact szA.swap hwR zO hp3 hszR0 jl (cF hRj)
     have hq1z : mZ q1 (lenS k):=hjlz q1 (cF hq1);have htz : ∀ q ∈ (sN il q0),mZ q (2 * lenS k):=szA.scl hilz hq0z hq00;obtain ⟨oth2,hp21,hp22⟩:=rows_two hjk hrj hru rest;refine jM (aWs hp21) (zM rfl (zM rfl (fK rfl rfl cJ fG zO zO rfl (lY (0) rfl rfl haccJ (hq1) fG rfl (fun cs25 v25 hR25 hv25=>?_) (fun cs25 hR25=>by obtain ⟨aZ,cZ,bZ,dZ,rfl,_,_⟩:=hR25;exact ⟨_,rfl⟩)))));obtain ⟨axB2,cxB2,bxB2,dxB2,rfl,hdB2,heB2⟩:=hR25;cases hv25;refine fI jD rfl (fun b12=>eG 0 rfl rfl rfl rfl fG rfl rfl rfl rfl rfl (zN (zS (zM rfl (eD (ts:=#[]) rfl cJ rfl (zM rfl (zN (dK (eU [106,2,4,6,7,11,12,83,84,85,105] rfl (oT ((gW _ _ _).trans (List.Perm.cons _ (gW _ _ _))) (gO (base:=[(2,_),(4,_),(6,_),(7,_),(11,_),(12,_),(83,_),(84,_),(85,_),(105,_)]) (fun ζ : Nat × (Nat × SObj)=>[(106,.int .i64 (ζ.1 : Nat))]) (fun ζ Hl own=>ζ.1 ≤ jl.length ∧ ζ.2 :: up :: (b12,.cells 56 [.bool (decide (q1.num < 0)),.slice axB2 (dg q1.num.natAbs).length cxB2,.bool false,.slice bxB2 (dg q1.den).length dxB2]) :: (b2,.cells 181 [.pointer (some ⟨bs,0,none⟩)]) :: (bs,.cells 187 [.slice a2 k c2,.slice (some ⟨pt.1,0,none⟩) (n + 1) c1]) :: pS :: pa :: (oth2 ++ rest) = own ∧ Acc jX 56 Hl ζ.2 (some ⟨jp.1,0,none⟩) jc ((yC jl (sN il q0) q1).take (ζ.1) ++ jl.drop (ζ.1))) (fun ζ=>jl.length - ζ.1) (0,jp) (zC) zB ⟨eS _,rfl,by rw [List.take_zero,List.drop_zero,gN];exact haccJ⟩ ?_)))))))))));rintro ⟨m3,po⟩ Hl3 _ nZ ⟨hkm3,rfl,hacco⟩;replace hroj:=hroj.mono nZ;replace haccU:=haccU.mono nZ;replace hdB2:=hdB2.mono nZ;replace heB2:=heB2.mono nZ;replace jJ:=jJ.trans nZ;try dsimp only at hkm3 hacco ⊢
     refine zS (zL rfl (zN (cO (fC rfl (fun c3_26=>?_) (fun c3_26=>?_)))))
     ·refine eF (bO (cO (dK (zS (zM rfl (zG rfl (zN (cO ?_))))))));obtain ⟨v0,hv0⟩ : ∃ x,(sN il q0)[m3]? = some x:=⟨_,aJ zO⟩
      obtain ⟨u0,hu0⟩ : ∃ x,jl[m3]? = some x:=⟨_,aJ zO⟩
      have hv0z:=htz v0 (cF hv0);have hu0z:=hjlz u0 (cF hu0);have hsbl : (yC jl (sN il q0) q1).length = jl.length:=aDj zO;have hmix3:=wC (F:=(yC jl (sN il q0) q1)) (l:=jl) (k:=m3) hsbl zO;have hpz:=aNv hv0z hq1z;refine eU [2,4,6,7,11,12,13,83,84,85,105,106] rfl ?_;apply aGq (fun _=>True) trivial [9] zD [(10,9)] (fun _ v p _=>v = .pointer (some ⟨p.1,0,none⟩) ∧ p.2 = .cells 56 [.bool false,.slice none 0 0,.bool false,.slice none 0 0]) (fun _ v p H=>v = .pointer (some ⟨p.1,0,none⟩) ∧ ∃ cs,p.2 = .cells 56 cs ∧ jX.R H cs (v0 * q1)) (fun _ _ _ _ _ _ h=>h) (fun _ _ _ _ _ hle ⟨h,cs,h2,h3⟩=>⟨h,cs,h2,jX.mono hle h3⟩) 11 [gC _,gC _,gC _,fun v H=>lJ (v0) H v,gC _,fun v H=>∃ u,v = .tuple #[u,.int .i64 0] ∧ lJ (v0 * q1) H u,fun v H=>∃ u,v = .tuple #[u,.int .i64 0] ∧ lJ (v0 * q1) H u,fun v H=>lJ (v0 * q1) H v,gC _,vA,vA] follows zK ⟨aH _,aH _,aH _,kG _,aH _,fun _ _ _ hle ⟨u,h,k⟩=>⟨u,h,k.mono hle⟩,fun _ _ _ hle ⟨u,h,k⟩=>⟨u,h,k.mono hle⟩,kG _,aH _,lN,lN,trivial⟩ zD zK ?steps27 ?tail27
      case steps27 =>
       refine iN rfl rfl ?_ ?_
       ·intro X ext HD bI _;exact aO rfl (zM rfl zR)
       refine iN rfl rfl ?_ ?_
       ·intro X ext HD bI _;exact aO rfl (zM rfl zR)
       refine iN rfl rfl ?_ ?_
       ·intro X ext HD bI _;exact fX rfl (fX rfl (aO rfl (fK rfl rfl cJ fG zO zO rfl zR)))
       refine iN rfl rfl ?_ ?_
       ·intro X ext HD bI _;replace haccU:=haccU.mono bI;refine fX rfl (aO rfl (lY (1) rfl rfl haccU (by rw [eN];exact hv0) fG rfl (fun cs29 v29 hR29 hv29=>?_) (fun cs29 hR29=>by obtain ⟨aZ,cZ,bZ,dZ,rfl,_,_⟩:=hR29;exact ⟨_,rfl⟩)));obtain ⟨axV,cxV,bxV,dxV,rfl,hdV,heV⟩:=hR29;cases hv29;exact bF (mU rfl trivial (⟨_,_,_,_,rfl,hdV,heV⟩))
       refine iN rfl rfl ?_ ?_
       ·intro X ext HD bI _;exact aO rfl (bT 2 rfl rfl fG rfl rfl rfl zR)
       refine iN rfl rfl ?_ ?_
       ·intro X ext HD bI _;replace hdB2:=hdB2.mono bI;replace heB2:=heB2.mono bI;refine eR rfl rfl ?_;rintro _ ⟨aV,cV,bV,dV,rfl,hV,kV⟩;refine fX rfl (aO rfl (eZ rfl (aU8 ⟨_,_,_,_,rfl,hV,kV⟩ ⟨_,_,_,_,rfl,hdB2,heB2⟩ (hv0z.mono zO) (hq1z.mono zO)) rfl ?_));rintro _ HN kI ⟨_,rfl,⟨aP,cP,bP,dP,rfl,hP,kP⟩⟩;exact bF (mU rfl trivial (⟨_,rfl,⟨_,_,_,_,rfl,hP,kP⟩⟩))
       refine iN rfl rfl ?_ ?_
       ·intro X ext HD bI _;refine eR rfl rfl ?_;rintro _ ⟨_,rfl,aP,cP,bP,dP,rfl,hP,kP⟩;exact aO rfl (zM rfl (bF (mU rfl trivial (⟨_,rfl,⟨_,_,_,_,rfl,hP,kP⟩⟩))))
       refine iN rfl rfl ?_ ?_
       ·intro X ext HD bI _;refine eR rfl rfl ?_;rintro _ ⟨_,rfl,aP,cP,bP,dP,rfl,hP,kP⟩;exact aO rfl (zX rfl (bF (mU rfl trivial (⟨_,_,_,_,rfl,hP,kP⟩))))
       refine iN rfl rfl ?_ ?_
       ·intro X ext HD bI _;refine eR rfl rfl ?_;rintro _ ⟨_,rfl,aP,cP,bP,dP,rfl,hP,kP⟩;exact aO rfl (zX rfl zR)
       refine iN rfl rfl ?_ ?_
       ·intro X ext HD bI _;exact aO rfl (fI jD rfl (fun b14=>bF (aBr rfl trivial trivial (⟨rfl,rfl⟩))))
       refine aBi rfl rfl ?_ ?_
       ·intro X ext p HD bI _;refine eR rfl rfl ?_;rintro _ _;refine eR rfl rfl ?_;rintro _ ⟨aP,cP,bP,dP,rfl,hP,kP⟩;refine aO rfl ?_;intro hfo;obtain ⟨be9,se9⟩:=p;obtain ⟨rfl,hse9⟩:=hfo _ _ rfl rfl;simp only at hse9;subst hse9;exact eG 0 rfl rfl rfl rfl fG rfl rfl rfl rfl rfl (bF (aD9 trivial (trivial) (fun u t h1 h2=>by cases (show some _ = some t from h1);cases (show some (Value.pointer _) = some u from h2);exact ⟨rfl,_,rfl,⟨_,_,_,_,rfl,hP,kP⟩⟩)))
       exact aB8 rfl
      case tail27 =>
       intro HD bI _;replace hacco:=hacco.mono bI;replace nZ:=nZ.trans bI;refine fX rfl (fX rfl (fX rfl (eR rfl rfl ?_)));rintro _ ⟨aV,cV,bV,dV,rfl,hV,kV⟩;refine fX rfl (eR rfl rfl ?_);rintro _ ⟨_,rfl,aP,cP,bP,dP,rfl,hP,kP⟩;refine eR rfl rfl ?_;rintro _ ⟨_,rfl,aP,cP,bP,dP,rfl,hP,kP⟩;refine eR rfl rfl ?_;rintro _ ⟨aP,cP,bP,dP,rfl,hP,kP⟩;refine fX rfl (eR rfl rfl ?_);rintro _ _;refine pY rfl rfl (aO rfl (uQ ?_));intro pe hpe;obtain ⟨rfl,csP,hpe2,⟨aP2,cP2,bP2,dP2,rfl,hP2,kP2⟩⟩:=hpe _ ⟨_,rfl,rfl⟩;obtain ⟨be14,se14⟩:=pe;simp only at hpe2;subst hpe2;refine nT (zG rfl (zN (oT (gW _ _ _) (eU [2,4,6,7,11,12,13,14,83,84,85,105,106] rfl ?_))));apply aC7 (fun _=>True) trivial 12 (fun z H=>XL.Acc jX 56 H z (some ⟨jp.1,0,none⟩) jc ((yC jl (sN il q0) q1).take (m3) ++ jl.drop (m3))) (fun z H=>XL.Acc jX 56 H z (some ⟨jp.1,0,none⟩) jc ((yC jl (sN il q0) q1).take (m3 + 1) ++ jl.drop (m3 + 1))) (fun _ _ _ hle h=>h.mono hle) (fun _ _ _ hle h=>h.mono hle) 13 [gC _,gC _,gC _,gC _,gC _,fun v H=>lJ (u0) H v,gC _,fun v H=>∃ u,v = .tuple #[u,.int .i64 0] ∧ lJ (u0 - v0 * q1) H u,fun v H=>∃ u,v = .tuple #[u,.int .i64 0] ∧ lJ (u0 - v0 * q1) H u,fun v H=>lJ (u0 - v0 * q1) H v,gC _,gC _,vA] follows zK ⟨aH _,aH _,aH _,aH _,aH _,kG _,aH _,fun _ _ _ hle ⟨u,h,k⟩=>⟨u,h,k.mono hle⟩,fun _ _ _ hle ⟨u,h,k⟩=>⟨u,h,k.mono hle⟩,kG _,aH _,aH _,lN,trivial⟩ rfl hacco ?steps30 ?tail30
       case steps30 =>
        refine fZ rfl ?_ ?_
        ·intro X e HD bI _ hfa;exact aO rfl (zM rfl (bF (fF trivial rfl (by unfold rT;rw [dG zD]))))
        refine fZ rfl ?_ ?_
        ·intro X e HD bI _ hfa;exact aO rfl (zM rfl (bF (fF trivial rfl (by unfold rT;rw [dG zD]))))
        refine fZ rfl ?_ ?_
        ·intro X e HD bI _ hfa;exact aO rfl (zM rfl (bF (fF trivial rfl (by unfold rT;rw [dG zD]))))
        refine fZ rfl ?_ ?_
        ·intro X e HD bI _ hfa;exact aO rfl (zM rfl (bF (fF trivial rfl (by unfold rT;rw [dG zD]))))
        refine fZ rfl ?_ ?_
        ·intro X e HD bI _ hfa;exact fX rfl (fX rfl (aO rfl (fK rfl rfl cJ fG zO zO rfl (bF (fF trivial rfl (by unfold rT;rw [dG zD]))))))
        refine fZ rfl ?_ ?_
        ·intro X e HD bI _ hfa;refine fX rfl (aO rfl ?_);replace hfa:=hfa (Or.inr rfl)
         skip
         refine lY (0) rfl rfl hfa (by rw [eN,aJ9 hsbl zO];exact hu0) fG rfl (fun cs32 v32 hR32 hv32=>?_) (fun cs32 hR32=>by obtain ⟨aZ,cZ,bZ,dZ,rfl,_,_⟩:=hR32;exact ⟨_,rfl⟩);obtain ⟨axW,cxW,bxW,dxW,rfl,hdW,heW⟩:=hR32;cases hv32;exact bF (fF trivial (⟨_,_,_,_,rfl,hdW,heW⟩) (by unfold rT;rw [dG zD]))
        refine fZ rfl ?_ ?_
        ·intro X e HD bI _ hfa;exact aO rfl (bT 1 rfl rfl fG rfl rfl rfl (bF (fF trivial rfl (by unfold rT;rw [dG zD]))))
        refine fZ rfl ?_ ?_
        ·intro X e HD bI _ hfa;replace hP2:=hP2.mono bI;replace kP2:=kP2.mono bI;refine eR rfl rfl ?_;rintro _ ⟨aW,cW,bW,dW,rfl,hW,kW⟩;refine fX rfl (aO rfl (eZ rfl (aJy ⟨_,_,_,_,rfl,hW,kW⟩ ⟨_,_,_,_,rfl,hP2,kP2⟩ (hu0z.mono zO) (hpz.mono zO)) rfl ?_));rintro _ HN kI ⟨_,rfl,⟨aD,cD,bD,dD,rfl,hD,kD⟩⟩;exact bF (fF trivial (⟨_,rfl,⟨_,_,_,_,rfl,hD,kD⟩⟩) (by unfold rT;rw [dG zD]))
        refine fZ rfl ?_ ?_
        ·intro X e HD bI _ hfa;refine eR rfl rfl ?_;rintro _ ⟨_,rfl,aD,cD,bD,dD,rfl,hD,kD⟩;exact aO rfl (zM rfl (bF (fF trivial (⟨_,rfl,⟨_,_,_,_,rfl,hD,kD⟩⟩) (by unfold rT;rw [dG zD]))))
        refine fZ rfl ?_ ?_
        ·intro X e HD bI _ hfa;refine eR rfl rfl ?_;rintro _ ⟨_,rfl,aD,cD,bD,dD,rfl,hD,kD⟩;exact aO rfl (zX rfl (bF (fF trivial (⟨_,_,_,_,rfl,hD,kD⟩) (by unfold rT;rw [dG zD]))))
        refine fZ rfl ?_ ?_
        ·intro X e HD bI _ hfa;refine eR rfl rfl ?_;rintro _ ⟨_,rfl,aD,cD,bD,dD,rfl,hD,kD⟩;exact aO rfl (zX rfl (bF (fF trivial rfl (by unfold rT;rw [dG zD]))))
        refine fZ rfl ?_ ?_
        ·intro X e HD bI _ hfa;exact fX rfl (fX rfl (aO rfl (fK rfl rfl cJ fG zO zO rfl (bF (fF trivial rfl (by unfold rT;rw [dG zD]))))))
        refine fZ rfl ?_ ?_
        ·intro X e HD bI _ hfa;refine fX rfl (eR rfl rfl ?_);rintro _ ⟨aD,cD,bD,dD,rfl,hD,kD⟩;refine aO rfl ?_;replace hfa:=hfa (Or.inl rfl)
         skip
         refine lH 0 rfl rfl rfl hfa (k:=((m3 : Nat) : Int).toNat) (u:=u0 - v0 * q1) (by rw [eN,hmix3];omega) rfl ⟨_,_,_,_,rfl,hD,kD⟩ fG rfl (fun pX hst22=>?_);rw [eN,← yT (aS2 hu0 hv0) hsbl] at hst22;exact bF (fF trivial (trivial) (by unfold rT;rw [eX rfl];exact hst22))
        exact xG rfl
       case tail30 =>
        intro HD bI _;replace nZ:=nZ.trans bI;refine fX rfl (fX rfl (fX rfl (fX rfl (fX rfl (eR rfl rfl ?_)))));rintro _ ⟨aW,cW,bW,dW,rfl,hW,kW⟩;refine fX rfl (eR rfl rfl ?_);rintro _ ⟨_,rfl,aD,cD,bD,dD,rfl,hD,kD⟩;refine eR rfl rfl ?_;rintro _ ⟨_,rfl,aD,cD,bD,dD,rfl,hD,kD⟩;refine eR rfl rfl ?_;rintro _ ⟨aD,cD,bD,dD,rfl,hD,kD⟩;refine fX rfl (fX rfl (pY rfl rfl (aO rfl ?_)));intro e he
        skip
        refine bF (fY (bO (dL (fR rfl rfl (dT zO zO) rfl (zM rfl (bF (eW ((m3 + 1,e)) (by show jl.length - (m3 + 1) < jl.length - m3;omega) (zC) (⟨by show m3 + 1 ≤ jl.length;omega,rfl,by first | (exact he) | (rw [rfl];exact he)⟩) zB (nZ))))))))
     obtain rfl : m3 = jl.length:=zO
     have hsbl : (yC jl (sN il q0) q1).length = jl.length:=aDj zO;rw [aG1 hsbl] at hacco;refine oT (perm7r (hp22 (⟨po,some ⟨jp.1,0,none⟩,jc,(yC jl (sN il q0) q1)⟩ : nP))) (gI (fE (eY (fU rfl (fY (bO (dL (fR rfl rfl (dT zO zO) rfl (zM rfl (bF (eW ((j + 1,rj.set j (⟨po,some ⟨jp.1,0,none⟩,jc,(yC jl (sN il q0) q1)⟩ : nP))) (by show (n + 1) - (j + 1) < (n + 1) - j;omega) (zC) (⟨by show j + 1 ≤ (n + 1);omega,rfl,RowsO.set hroj j (r:=(⟨po,some ⟨jp.1,0,none⟩,jc,(yC jl (sN il q0) q1)⟩ : nP)) hacco,(aDu (by simp only [RowO.raw];rw [aDj zO]) hrj).trans hrawj,by rw [List.map_set,hlj,yT (y:=(yC jl (sN il q0) q1)) (by rw [hTj,dG hjk,htop,hq1d]) zO]⟩) zB (jJ))))))))))))
    have g19p:=eT g19;refine zU rfl g19 (zU rfl g19 (zU rfl g19 (zU rfl g19 (zV g19 rfl (zN (jB rfl rfl (gI (fE (fU rfl (bO (dL (fR rfl rfl (dT zO zO) rfl (zM rfl (bF (eW ((j + 1,rj)) (by show (n + 1) - (j + 1) < (n + 1) - j;omega) (zC) (⟨by show j + 1 ≤ (n + 1);omega,rfl,hroj,hrawj,by obtain rfl : j = k:=(by first | assumption | omega);rw [hlj,aDc (y:=yF R j i) (by rw [hTj,eX rfl]) zO hSk]⟩) zB (jJ))))))))))))))))
   obtain rfl : j = n + 1:=zO
   have hTl : (qM R k i).length = n + 1:=(aBq hwR zO hp3).1;rw [fJ zO,List.drop_of_length_le (by rw [gQ,(qP hwR zO hp3).1];omega),gH] at hlj;refine gI (fE (eY (fU rfl (bO (oT (aBj _ 3 _ rfl) (eU [2,4] rfl ?_))))));apply aGd (fun _=>True) trivial 8 (fun z H=>AtQ H z a2 c2 (xZ k)) (fun v z H=>∃ a c,v = .slice a (xZ (k + 1)).length c ∧ AtQ H z a c (xZ (k + 1))) (fun _ _ _ hle h=>h.mono hle) (fun _ _ _ _ hle ⟨a,c,h1,h2⟩=>⟨a,c,h1,h2.mono hle⟩) 9 [gC _,gC _,gC _,gC _,gC _,gC _,gC _,slF (gV .i64) [((k : Nat) : Int)],vA] follows zK ⟨aH _,aH _,aH _,aH _,aH _,aH _,aH _,oQ _ _,lN,trivial⟩ rfl rfl hA ?steps34 ?tail34
   case steps34 =>
    refine iQ rfl ?_ ?_
    ·intro X e HD bI _ hfa;exact aO rfl (bT 1 rfl rfl uH rfl rfl rfl (bF (fF trivial rfl (by unfold foV;rw [dG zD]))))
    refine iQ rfl ?_ ?_
    ·intro X e HD bI _ hfa;exact aO rfl (bT 1 rfl rfl uH rfl rfl rfl (bF (fF trivial rfl (by unfold foV;rw [dG zD]))))
    refine iQ rfl ?_ ?_
    ·intro X e HD bI _ hfa;exact fX rfl (aO rfl (iB rfl rfl (bF (fF trivial rfl (by unfold foV;rw [dG zD])))))
    refine iQ rfl ?_ ?_
    ·intro X e HD bI _ hfa;exact fX rfl (aO rfl (bJ rfl aAl rfl (bF (fF trivial rfl (by unfold foV;rw [dG zD])))))
    refine iQ rfl ?_ ?_
    ·intro X e HD bI _ hfa;exact fX rfl (aO rfl (bJ rfl aCs rfl (bF (fF trivial rfl (by unfold foV;rw [dG zD])))))
    refine iQ rfl ?_ ?_
    ·intro X e HD bI _ hfa;exact fX rfl (aO rfl (bT 2 rfl rfl gE rfl rfl rfl (bF (fF trivial rfl (by unfold foV;rw [dG zD])))))
    refine iQ rfl ?_ ?_
    ·intro X e HD bI _ hfa;exact aO rfl (zM rfl (bF (fF trivial rfl (by unfold foV;rw [dG zD]))))
    refine iQ rfl ?_ ?_
    ·intro X e HD bI _ hfa;refine fX rfl (aO rfl (fS rfl bK gK rV rfl rfl rfl (fun b139=>fT 0 rfl rfl rfl (fun HP139 oP139 hleP139 hbP139 hoP139=>?_))));have hsl139:=SlR.lit (ρ:=(gV .i64)) (l:=[((k : Nat) : Int)]) hbP139 hoP139 (iH.one1 rfl);exact bF (fF trivial (⟨_,rfl,hsl139⟩) (by unfold foV;rw [dG zD]))
    refine iQ rfl ?_ ?_
    ·intro X e HD bI _ hfa;refine fX rfl (eR rfl rfl ?_);rintro _ ⟨bs139,rfl,hsl139⟩;refine aO rfl ?_;have hfa:=hfa rfl
     skip
     refine iV 0 rfl rfl hfa (aDd k).symm rfl hsl139 rfl bK gK rV rfl aCl (by rw [aDd];simp;omega) rfl (fun p8 a8 c8 hat8=>?_);rw [← atsL_succ] at hat8 ⊢;exact bF (fF trivial (trivial) (by unfold foV;rw [eX rfl];exact ⟨_,_,rfl,hat8⟩))
    exact aBx rfl
   case tail34 =>
    intro HD bI _;replace hT3:=hT3.mono bI;replace hroj:=hroj.mono bI;refine fX rfl (fX rfl (fX rfl (fX rfl (fX rfl (fX rfl (fX rfl (eR rfl rfl ?_)))))));rintro _ ⟨bs139,rfl,hsl139⟩;refine eR rfl rfl ?_;rintro _ _;refine aO rfl ?_;intro e he;obtain ⟨aN,cN,hvN,hAN⟩:=he _ rfl;subst hvN;refine iB rfl rfl (bJ rfl aAl rfl (bJ rfl aCs rfl (eG 2 rfl rfl rfl rfl gE rfl rfl rfl rfl rfl (jM permE (bF (fY ?_))))));refine ⟨rfl,_,zA,?_⟩;exact ⟨_,rfl,by rw [hplen];exact ⟨rj,⟨pS,e,_,_,_,_,by rw [aCy hlj,(aBq hwR zO hp3).1],by show XL.Acc _ _ _ _ _ _ (rj.map RowO.raw);rw [hrawj];exact hT3,hAN,hroj⟩,by rw [hlj,hstep]⟩⟩
 ·rintro Hl ownL jQ ⟨so2,rfl,hM⟩;rw [wG] at hM;refine fY ?_;exact ⟨rfl,_,so2,rfl,List.Sublist.append_left (List.sublist_cons_self _ _) so2,eQ.mk ⟨rfl,hM⟩⟩
 rintro c Hl ownL jQ hK;exact hK.elim
end Go.Proofs

namespace Go.Proofs
open Go.XL
def aH1 (M : List (List Rat)) (n : Nat) : List Rat:=(List.range n).map fun k=>kJ (mB M n) k n
theorem aDi (M : List (List Rat)) (n : Nat) : (aH1 M n).length = n:=by simp [aH1]
theorem aR0 {M : List (List Rat)} {n k : Nat} (h : k < n) : (aH1 M n)[k]? = some (kJ (mB M n) k n):=by simp [aH1,h]
theorem last_zero {M : List (List Rat)} {n k : Nat} {r : List Rat} {q : Rat} (h : StR M (n + 1) n n) (hr : ((mB M n).drop n)[k]? = some r) (hq : r[n]? = some q) : q = 0:=by
 rw [List.getElem?_drop] at hr;have hl:=h.wide.1;have hk:=(bY.1 hr).1;have e : n + k = n:=zO
 rw [e] at hr;have h1:=h.last;rw [sU hr,dB,hq] at h1;exact h1
theorem sol_row {M : List (List Rat)} {n k : Nat} {r : List Rat} {q : Rat} (hr : (mB M n)[k]? = some r) (hq : r[n]? = some q) : kJ (mB M n) k n = q:=by
 rw [sU hr,dB,hq];rfl
def aAc (a : List (List Rat)) (b : List Rat) : List (List Rat):=List.zipWith (fun r x=>r ++ [x]) a b
theorem aJ4 {a : List (List Rat)} {b : List Rat} (h : b.length = a.length) : (aAc a b).length = a.length:=by simp [aAc,h]
theorem aI9 {a : List (List Rat)} {b : List Rat} {k : Nat} {r : List Rat} {x : Rat} (h : a[k]? = some r) (h2 : b[k]? = some x) : (aAc a b)[k]? = some (r ++ [x]):=by unfold aAc;rw [List.getElem?_zipWith,h,h2]
def aU0 {α : Type} (ρ : Rep α) (l : List α) : Value → Hp → Prop:=fun v H=>∃ a c,v = .slice a l.length c ∧ SlR ρ H a c l ∧ c ≤ l.length
theorem slCap_mono {α : Type} (ρ : Rep α) (l : List α) : ∀ v H H',Le H H' → aU0 ρ l v H → aU0 ρ l v H':=fun _ _ _ hle ⟨a,c,h1,h2,h3⟩=>⟨a,c,h1,h2.mono hle,h3⟩
end Go.Proofs

namespace Go.Proofs
open Go.XL
set_option maxRecDepth 100000 in
set_option maxHeartbeats 1600000 in
theorem msolve_fn (M : List (List Rat)) (n : Nat) (a : Option Addr) (c : Nat) (H : Hp) (hs : SlR mxR H a c M) (hst : StR M (n + 1) n 0) (hz : szA M 2) (hn : n ≤ 4) (hn0 : 0 < n) : iP Tryz.prog 103 #[.slice a M.length c,.int .i64 (n : Nat)] H [] (eQ (fun v H2 _=>∃ a2 c2,v = .tuple #[.slice a2 (aH1 M n).length c2,.bool true] ∧ SlR jX H2 a2 c2 (aH1 M n))):=by
 refine iP.intro (args:=[.slice a M.length c,.int .i64 (n : Nat)]) Tryz.func103 rfl rfl Tryz.ntmps103 rfl rfl rfl fun G rest=>?_;refine zS ?_;refine zG rfl ?_;refine zG rfl ?_;refine zN ?_;refine zS ?_;refine zM rfl ?_;refine kK [] (nQ:=[]) (rst:=rest) rfl (begin_fn M a c _ hs (by have:=hst.wide.1;show M.length ≤ _;have e : M.length = n + 1:=hst.wide.1;omega) (fun r hr=>by have e : r.length = n + 1:=hst.wide.2 r hr;omega)) rfl rfl ?_;rintro _ HB so pZ ⟨bs,rs0,rfl,hS0,hrs0⟩;replace hs:=hs.mono pZ;refine zG rfl ?_;refine zN ?_;refine zS ?_;refine zM rfl ?_;refine zM rfl ?_;refine kK [] (nQ:=so) (rst:=rest) rfl (reduce_fn bs n M _ so ⟨rs0,hS0,hrs0⟩ hst hz hn) rfl rfl ?_;rintro _ HR so2 mQ ⟨rfl,rs,⟨pt,pa,a1,a2,c1,c2,rfl,hT,hA,hro⟩,hrs⟩;replace hs:=hs.mono mQ;refine fT 0 rfl rfl rfl (fun HK oK mE hbK hoK=>?_);have hp:=rC.of_is hbK hoK;rw [aCy hrs] at hp;replace hT:=hT.mono mE;replace hA:=hA.mono mE;replace hro:=hro.mono mE;replace hs:=hs.mono mE;refine iO 1 rfl hA rfl (fun HQ wE hsA=>?_);replace hT:=hT.mono wE;replace hro:=hro.mono wE;replace hs:=hs.mono wE;replace hp:=hp.mono wE;refine aDe (rs:=rs) hT hro (fun HT tG hsT=>?_);rw [hrs] at hsT;have hlE : (mB M n).length = n + 1:=(StR.all hst zO n (gT _)).wide.1;have hlA:=aDd n;replace hs:=hs.mono tG;replace hp:=hp.mono tG;replace hsA:=hsA.mono tG;refine zN ?_;refine cO ?_;refine cO ?_;refine eU [1,4,6] rfl ?_;apply nX (fun _=>True) trivial 11 [gC _,gC _,gC _,gC _,gC _,gC _,gC _,gC _,slG mxR ((mB M n).drop n),gC _,gC _] follows zK zK ⟨aH _,aH _,aH _,aH _,aH _,aH _,aH _,aH _,aP4 _ _,aH _,aH _,trivial⟩ ?steps1 ?tail1
 case steps1 =>
  refine dH rfl ?_ ?_
  ·intro X HD bI _;exact aF rfl (zM rfl (bF (eO trivial rfl)))
  refine dH rfl ?_ ?_
  ·intro X HD bI _;exact gL rfl (aF rfl (iB rfl rfl (bF (eO trivial rfl))))
  refine dH rfl ?_ ?_
  ·intro X HD bI _;exact gL rfl (aF rfl (bJ rfl qY rfl (bF (eO trivial rfl))))
  refine dH rfl ?_ ?_
  ·intro X HD bI _;replace hp:=hp.mono bI;exact gL rfl (aF rfl (nF (off:=1) rfl hp oH rfl rfl rfl (bF (eO trivial rfl))))
  refine dH rfl ?_ ?_
  ·intro X HD bI _;exact aF rfl (zM rfl (bF (eO trivial rfl)))
  refine dH rfl ?_ ?_
  ·intro X HD bI _;exact gL rfl (aF rfl (iB rfl rfl (bF (eO trivial rfl))))
  refine dH rfl ?_ ?_
  ·intro X HD bI _;exact gL rfl (aF rfl (bJ rfl aAl rfl (bF (eO trivial rfl))))
  refine dH rfl ?_ ?_
  ·intro X HD bI _;replace hp:=hp.mono bI;exact gL rfl (aF rfl (fH rfl (many_pub bs _ _ _ _ _ _ _ hp) rfl (bF (eO trivial rfl))))
  refine dH rfl ?_ ?_
  ·intro X HD bI _;replace hsT:=hsT.mono bI;refine gL rfl (gL rfl (aF rfl (aG3 (lo':=((xZ n).length : Int)) (hi':=((mB M n).length : Int)) (m':=(c1 : Int)) rfl hsT (tQ rfl) qJ qJ zP zO zO (by have:=SlR.le hsT;omega) (by have:=SlR.le hsT;omega) zO eI iG rfl (fun as24 ls24 hls24 hss24=>?_))));obtain rfl : ls24 = ((mB M n).drop n):=by rw [hls24];simp only [eN,hlA];exact fJ (by rw [List.length_drop];omega)
   exact bF (eO trivial (⟨_,_,rfl,hss24⟩))
  refine dH rfl ?_ ?_
  ·intro X HD bI _;refine eJ rfl rfl ?_;rintro _ ⟨a24,c24,rfl,tF⟩;exact aF rfl (eD (ts:=#[]) rfl eI rfl (bF (eO trivial rfl)))
  refine dH rfl ?_ ?_
  ·intro X HD bI _;exact aF rfl (zM rfl (bF (eO trivial rfl)))
  exact jH rfl
 case tail1 =>
  intro HD bI _;replace hs:=hs.mono bI;replace hp:=hp.mono bI;replace hsA:=hsA.mono bI;replace hsT:=hsT.mono bI;refine gL rfl (gL rfl (gL rfl (gL rfl (gL rfl (gL rfl (gL rfl (gL rfl (eJ rfl rfl ?_))))))));rintro _ ⟨a24,c24,rfl,tF⟩;refine gL rfl (gL rfl (aF rfl ?_));have hlD : ((mB M n).drop n).length = 1:=by rw [List.length_drop];omega
  refine zN (dK (eU [4,26,1,6,24,25] rfl (gO (base:=[(1,_),(6,_),(24,_),(25,_)]) (fun ζ : Nat=>[(4,.slice none 0 0),(26,.int .i64 (ζ : Nat))]) (fun ζ Hl own=>ζ ≤ ((mB M n).drop n).length ∧ rest = own) (fun ζ=>((mB M n).drop n).length - ζ) 0 (zC) zB ⟨eS _,rfl⟩ ?_)));rintro k Hl0 _ gB ⟨hkk,rfl⟩;replace hs:=hs.mono gB;replace hp:=hp.mono gB;replace hsA:=hsA.mono gB;replace hsT:=hsT.mono gB;replace tF:=tF.mono gB;try dsimp only at ⊢
  refine zS (zL rfl (zN (cO (fC rfl (fun c0_5=>?_) (fun c0_5=>?_)))))
  ·refine eF (bO (cO (dK (zS (eV rfl tF rfl eI iG zO rfl ?_)))));rintro eb28 eo28 _ x28 hx28 ⟨ax28,cx28,rfl,hd28⟩ hp28;refine eH rfl (by assumption) iG rfl rfl rfl (zG rfl (zN (zS ?_)));have hwr : x28.length = n + 1:=(StR.all hst zO n (gT _)).wide.2 _ (List.mem_of_mem_drop (cF hx28));refine zM rfl (zM rfl (eV (i:=n) rfl (by assumption) rfl cJ fG zO rfl ?_));rintro eb32 eo32 _ x32 hx32 ⟨ax32,cx32,bx32,dx32,rfl,yH,he32⟩ aHa;refine eH rfl (by assumption) fG rfl rfl rfl (fH rfl (aQ7 x32 _ _ _ _ _ yH he32) rfl (aFf rfl rfl (zN (gD rfl (aI (fun h=>h (last_zero (StR.all hst zO n (gT _)) hx28 hx32))) (eF (fY (bO (dL (fR rfl rfl (dT zO zO) rfl (zM rfl (bF (eW (k + 1) (by show ((mB M n).drop n).length - (k + 1) < ((mB M n).drop n).length - k;omega) (zC) (⟨by show k + 1 ≤ ((mB M n).drop n).length;omega,rfl⟩) zB (gB)))))))))))))
  refine gI (fE (eY (fU rfl (bO (cO (zS (zM rfl (zM rfl (zN (dK (eU [4,38,1,6,37] rfl (lR 0 (gO (base:=[(1,_),(6,_),(37,_)]) (fun ζ : Nat × ((Nat × SObj) × Option Addr × Nat)=>[(4,.slice ζ.2.2.1 (List.replicate (ζ.1) (0 : Rat)).length ζ.2.2.2),(38,.int .i64 (ζ.1 : Nat))]) (fun ζ Hl own=>ζ.1 ≤ n ∧ ζ.2.1 :: rest = own ∧ Acc jX 56 Hl ζ.2.1 ζ.2.2.1 ζ.2.2.2 (List.replicate (ζ.1) (0 : Rat))) (fun ζ=>n - ζ.1) (0,((0,.nothing),none,0)) (zC) zB ⟨eS _,rfl,Acc.nil _ _ _ _⟩ ?_)))))))))))));rintro ⟨i,⟨pw,aw,cw⟩⟩ Hl1 _ iT ⟨hki,rfl,haccw⟩;replace hs:=hs.mono iT;replace hp:=hp.mono iT;replace hsA:=hsA.mono iT;replace hsT:=hsT.mono iT;replace tF:=tF.mono iT;try dsimp only at hki haccw ⊢
  refine zS (zL rfl (zN (cO (fC rfl (fun c2_9=>?_) (fun c2_9=>?_)))))
  ·refine eF (bO (cO (dK (dL (zM rfl (eZ rfl (zero_fn _) rfl ?_))))));rintro _ HNZ hleNZ ⟨aZ,cZ,bZ,dZ,rfl,hZ,kZ⟩;replace haccw:=haccw.mono hleNZ;replace iT:=iT.trans hleNZ;refine fS rfl cJ fG jD rfl rfl rfl (fun b42=>fT 0 rfl rfl rfl (fun HP42 oP42 hleP42 hbP42 hoP42=>?_));replace haccw:=haccw.mono hleP42;replace hZ:=hZ.mono hleP42;replace kZ:=kZ.mono hleP42;replace iT:=iT.trans hleP42;have hsl42:=SlR.lit (ρ:=jX) (l:=[0]) hbP42 hoP42 (iH.one1 ⟨_,_,_,_,rfl,hZ,kZ⟩);refine iV 0 rfl rfl haccw rfl rfl hsl42 rfl cJ fG jD rfl tY zI rfl (fun p43 a43 c43 hacc43=>zG rfl (bF (fY (bO (dL (fR rfl rfl (dT zO zO) rfl (zM rfl (bF (eW ((i + 1,(p43,a43,c43))) (by show n - (i + 1) < n - i;omega) (iL (by first | rfl | (rw [List.replicate_succ'];rfl)) (zC)) (⟨by show i + 1 ≤ n;omega,rfl,by first | (exact hacc43) | (rw [List.replicate_succ'];exact hacc43)⟩) zB (iT))))))))))
  obtain rfl : n = i:=zO
  refine gI (fE (eY (fU rfl (bO (cO (zS (zM rfl (iB rfl rfl (bJ rfl aAl rfl (bJ rfl aCs rfl (nF (off:=0) rfl hp gE rfl rfl rfl (eD (ts:=#[]) rfl bK rfl (zM rfl (zN (dK (eU [51,1,4,6,49,50] rfl ?_))))))))))))))));have hadx:=haccw.addr (by rw [gR];omega);subst hadx;refine gO (base:=[(1,_),(4,_),(6,_),(49,_),(50,_)]) (fun ζ : Nat × (Nat × SObj)=>[(51,.int .i64 (ζ.1 : Nat))]) (fun ζ Hl own=>ζ.1 ≤ (xZ n).length ∧ ζ.2 :: rest = own ∧ Acc jX 56 Hl ζ.2 (some ⟨pw.1,0,none⟩) cw ((aH1 M n).take (ζ.1) ++ (List.replicate n (0 : Rat)).drop (ζ.1))) (fun ζ=>(xZ n).length - ζ.1) (0,pw) (zC) zB ⟨eS _,rfl,by rw [List.take_zero,List.drop_zero,gN];exact haccw⟩ ?_;rintro ⟨j,px⟩ Hl2 _ jJ ⟨hkj,rfl,haccx⟩;replace hs:=hs.mono jJ;replace hp:=hp.mono jJ;replace hsA:=hsA.mono jJ;replace hsT:=hsT.mono jJ;replace tF:=tF.mono jJ;replace haccw:=haccw.mono jJ;try dsimp only at hkj haccx ⊢
  refine zS (zL rfl (zN (cO (fC rfl (fun c3_13=>?_) (fun c3_13=>?_)))))
  ·refine eF (bO (cO (dK (zS (zM rfl (eV rfl hsA rfl bK gK zO rfl ?_))))));rintro eb54 eo54 _ x54 hx54 rfl hp54;refine eH rfl (by assumption) gK rfl rfl rfl (zG rfl (zG rfl (zN (dL ?_))));have hjn : j < n:=zO
   obtain rfl : x54 = ((j : Nat) : Int):=eE (hx54.symm.trans (atsL_at hjn));refine zM rfl (zM rfl (zM rfl (iB rfl rfl (bJ rfl qY rfl (nF (off:=1) rfl hp oH rfl rfl rfl (zM rfl (eV (i:=j) rfl hsT rfl eI iG zO rfl ?_)))))));rintro eb63 eo63 _ x63 hx63 ⟨ax63,cx63,rfl,hd63⟩ hp63;refine eH rfl (by assumption) iG rfl rfl rfl (zM rfl ?_);have hwr2 : x63.length = n + 1:=(StR.all hst zO n (gT _)).wide.2 _ (cF hx63);have hmx : ((aH1 M n).take j ++ (List.replicate n (0 : Rat)).drop j).length = n:=by rw [wC (by rw [aDi,gR]) (by rw [gR];omega),gR]
   refine eV (i:=n) rfl (by assumption) rfl cJ fG zO rfl ?_;rintro eb66 eo66 _ x66 hx66 ⟨ax66,cx66,bx66,dx66,rfl,hd66,he66⟩ hp66;refine eH rfl (by assumption) fG rfl rfl rfl (fK rfl rfl cJ fG zO (by rw [gR];omega) rfl (lH 0 rfl rfl rfl haccx (k:=((j : Nat) : Int).toNat) (u:=x66) (by rw [eN,hmx];omega) rfl ⟨_,_,_,_,rfl,hd66,he66⟩ fG rfl (fun pX haccX=>?_)));rw [eN,← yT (by rw [aR0 hjn,sol_row hx63 hx66]) (by rw [aDi,gR])] at haccX;refine bF (fY (bO (dL (fR rfl rfl (dT zO zO) rfl (zM rfl (bF (eW ((j + 1,pX)) (by show (xZ n).length - (j + 1) < (xZ n).length - j;omega) (zC) (⟨by show j + 1 ≤ (xZ n).length;omega,rfl,by first | (exact haccX) | (rw [rfl];exact haccX)⟩) zB (jJ))))))))
  obtain rfl : j = (xZ n).length:=zO
  rw [fJ (by rw [aDi];omega),List.drop_of_length_le (by rw [gR];omega),gH] at haccx;refine gI (fE (eY (fU rfl (bO (zS (iO 0 rfl haccx rfl (fun HQ19 hleQ19 hsQ19=>?_)))))));replace hs:=hs.mono hleQ19;replace hp:=hp.mono hleQ19;replace hsA:=hsA.mono hleQ19;replace hsT:=hsT.mono hleQ19;replace tF:=tF.mono hleQ19;refine zM rfl (zG rfl (zG rfl (zN (eP ?_))));refine ⟨rfl,_,[],rfl,zA,eQ.mk ?_⟩;exact ⟨_,_,by show Value.tuple #[.slice _ (List.replicate n (0 : Rat)).length cw,.bool true] = Value.tuple #[.slice _ (aH1 M n).length cw,.bool true];rw [gR,aDi],by assumption⟩
theorem Solve_fn (a : List (List Rat)) (b : List Rat) (n : Nat) (aa ab : Option Addr) (ca cb : Nat) (H : Hp) (hs : SlR mxR H aa ca a) (ht : SlR jX H ab cb b) (hok : aOo a n) (hl : a.length = n + 1) (hb : b.length = a.length ∧ ∀ q ∈ b,smQ q) (hst : StR (aAc a b) (n + 1) n 0) (hz : szA (aAc a b) 2) (hn : n ≤ 4) (hn0 : 0 < n) : iP Tryz.prog 69 #[.slice aa a.length ca,.slice ab b.length cb] H [] (eQ (fun v H2 _=>∃ a2 c2,v = .tuple #[.slice a2 (aH1 (aAc a b) n).length c2,.bool true,.int .i64 0] ∧ SlR jX H2 a2 c2 (aH1 (aAc a b) n))):=by
 refine iP.intro (args:=[.slice aa a.length ca,.slice ab b.length cb]) Tryz.func69 rfl rfl Tryz.ntmps69 rfl rfl rfl fun G rest=>?_;refine zS ?_;refine zG rfl ?_;refine zG rfl ?_;refine zG rfl ?_;refine zN ?_;refine cO ?_;refine zS ?_;refine zM rfl ?_;refine zM rfl ?_;refine zM rfl ?_;refine eD (ts:=#[]) rfl eI rfl ?_;refine fH rfl (vector_fn a n _ _ _ hs hok _ _ b ht ⟨zO,hb.2⟩) rfl ?_;refine zG rfl ?_;refine zN ?_;refine zS ?_;refine zM rfl ?_;refine zJ rfl ?_;refine zN ?_;refine gD rfl (aI (fun h=>h rfl)) ?_;refine eF ?_;refine bO ?_;refine zS ?_;refine zG rfl ?_;refine zN ?_;refine cO ?_;refine zS ?_;refine zM rfl ?_;refine eD (ts:=#[]) rfl eI rfl ?_;refine zM rfl ?_;refine zN ?_;refine dK ?_;refine eU [7,20,0,1,18,19] rfl ?_;refine lR 0 ?_;refine gO (base:=[(0,_),(1,_),(18,_),(19,_)]) (fun ζ : Nat × ((Nat × SObj) × Option Addr × Nat)=>[(7,.slice ζ.2.2.1 ((aAc a b).take (ζ.1)).length ζ.2.2.2),(20,.int .i64 (ζ.1 : Nat))]) (fun ζ Hl own=>ζ.1 ≤ a.length ∧ ζ.2.1 :: rest = own ∧ Acc mxR 24 Hl ζ.2.1 ζ.2.2.1 ζ.2.2.2 ((aAc a b).take (ζ.1))) (fun ζ=>a.length - ζ.1) (0,((0,.nothing),none,0)) (zC) zB ⟨eS _,rfl,Acc.nil _ _ _ _⟩ ?_;rintro ⟨k,⟨pw,aw,cw⟩⟩ Hl0 _ gB ⟨hkk,rfl,haccw⟩;replace hs:=hs.mono gB;replace ht:=ht.mono gB;try dsimp only at hkk haccw ⊢
 refine zS (zL rfl (zN (cO (fC rfl (fun c1_2=>?_) (fun c1_2=>?_)))))
 ·refine eF (bO (cO (dK (zS (zM rfl (eV rfl hs rfl eI iG zO rfl ?_))))));rintro eb23 eo23 _ x23 aFy ⟨ax23,cx23,rfl,hd23⟩ rY;refine eH rfl (by assumption) iG rfl rfl rfl (zG rfl (zG rfl (zN ?_)));obtain ⟨xb,hxb⟩ : ∃ x,b[k]? = some x:=⟨_,aJ zO⟩
  have hxw:=(hok.at aFy).1;have hle23:=SlR.le hd23;refine eU [0,1,7,8,9,18,19,20] rfl ?_;obtain ⟨bEB,oEB,rfl⟩:=ht.addr zO;obtain ⟨_,xB,hxB,⟨axB,cxB,bxB,dxB,rfl,hdB,heB⟩,hpB⟩:=ht.elem (k) zO;obtain rfl:=eE (hxb.symm.trans hxB);apply nX (fun _=>True) trivial 14 [gC _,gC _,gC _,gC _,gC _,gC _,aU0 jX x23,gC _,gC _,gC _,gC _,slF jX [xb],slG jX (x23 ++ [xb]),slF mxR [x23 ++ [xb]]] follows zK zK ⟨aH _,aH _,aH _,aH _,aH _,aH _,slCap_mono _ _,aH _,aH _,aH _,aH _,oQ _ _,aP4 _ _,oQ _ _,trivial⟩ ?steps4 ?tail4
  case steps4 =>
   refine dH rfl ?_ ?_
   ·intro X HD bI _;exact aF rfl (zM rfl (bF (eO trivial rfl)))
   refine dH rfl ?_ ?_
   ·intro X HD bI _;exact aF rfl (zM rfl (bF (eO trivial rfl)))
   refine dH rfl ?_ ?_
   ·intro X HD bI _;exact aF rfl (zM rfl (bF (eO trivial rfl)))
   refine dH rfl ?_ ?_
   ·intro X HD bI _;exact gL rfl (aF rfl (eD (ts:=#[]) rfl cJ rfl (bF (eO trivial rfl))))
   refine dH rfl ?_ ?_
   ·intro X HD bI _;exact aF rfl (zM rfl (bF (eO trivial rfl)))
   refine dH rfl ?_ ?_
   ·intro X HD bI _;exact gL rfl (aF rfl (eD (ts:=#[]) rfl cJ rfl (bF (eO trivial rfl))))
   refine dH rfl ?_ ?_
   ·intro X HD bI _;replace hs:=hs.mono bI;replace ht:=ht.mono bI;replace haccw:=haccw.mono bI;replace rY:=rY.mono bI;replace hd23:=hd23.mono bI;replace hpB:=hpB.mono bI;replace hdB:=hdB.mono bI;replace heB:=heB.mono bI;refine gL rfl ?_;refine gL rfl ?_;refine gL rfl ?_;refine aF rfl ?_;refine aG3 (lo':=0) (hi':=(x23.length : Int)) (m':=(x23.length : Int)) rfl (by assumption) qJ (tQ rfl) (tQ rfl) zP zO zO zO zO zO cJ fG rfl (fun as31 ls31 hls31 hss31=>?_);obtain rfl : ls31 = x23:=by first | (rw [hls31];simp only [eN,Nat.add_sub_cancel_left];done) | (rw [hls31];simp;done) | (rw [hls31];simp;rw [fJ zP];done) | (rw [hls31];simp only [eN];exact fJ (by rw [List.length_drop];omega))
    exact bF (eO trivial (⟨_,_,rfl,hss31,by simp⟩))
   refine dH rfl ?_ ?_
   ·intro X HD bI _;exact aF rfl (zM rfl (bF (eO trivial rfl)))
   refine dH rfl ?_ ?_
   ·intro X HD bI _;exact aF rfl (zM rfl (bF (eO trivial rfl)))
   refine dH rfl ?_ ?_
   ·intro X HD bI _;exact gL rfl (gL rfl (aF rfl (fK rfl rfl cJ fG zO zO rfl (bF (eO trivial rfl)))))
   refine dH rfl ?_ ?_
   ·intro X HD bI _;replace hs:=hs.mono bI;replace ht:=ht.mono bI;replace haccw:=haccw.mono bI;replace rY:=rY.mono bI;replace hd23:=hd23.mono bI;replace hpB:=hpB.mono bI;replace hdB:=hdB.mono bI;replace heB:=heB.mono bI;exact gL rfl (aF rfl (eH rfl (by assumption) fG rfl rfl rfl (bF (eO trivial rfl))))
   refine dH rfl ?_ ?_
   ·intro X HD bI _;replace hdB:=hdB.mono bI;replace heB:=heB.mono bI;refine gL rfl (aF rfl (fS rfl cJ fG jD rfl rfl rfl (fun b36=>fT 0 rfl rfl rfl (fun HP36 oP36 hleP36 hbP36 hoP36=>?_))));replace hdB:=hdB.mono hleP36;replace heB:=heB.mono hleP36;have hsl36:=SlR.lit (ρ:=jX) (l:=[xb]) hbP36 hoP36 (iH.one1 ⟨_,_,_,_,rfl,hdB,heB⟩);exact bF (eO trivial (⟨_,rfl,hsl36⟩))
   refine dH rfl ?_ ?_
   ·intro X HD bI _;refine eJ rfl rfl ?_;rintro _ ⟨a31,c31,rfl,hsl31,hcap31⟩;refine eJ rfl rfl ?_;rintro _ ⟨bs36,rfl,hsl36⟩;exact aF rfl (XO.appendP rfl hsl31 rfl rfl hsl36 rfl (by exact hcap31) cJ fG jD rfl tY zI rfl (fun HA37 aA37 cA37 hleA37 hsA37=>bF (eO trivial (⟨_,_,rfl,hsA37⟩))))
   refine dH rfl ?_ ?_
   ·intro X HD bI _;refine eJ rfl rfl ?_;rintro _ ⟨a37,c37,rfl,hsl37⟩;refine aF rfl (fS rfl eI iG tA rfl rfl rfl (fun b38=>fT 0 rfl rfl rfl (fun HP38 oP38 hleP38 hbP38 hoP38=>?_)));replace hsl37:=hsl37.mono hleP38;have hsl38:=SlR.lit (ρ:=mxR) (l:=[x23 ++ [xb]]) hbP38 hoP38 (iH.one1 ⟨_,_,rfl,hsl37⟩);exact bF (eO trivial (⟨_,rfl,hsl38⟩))
   exact jH rfl
  case tail4 =>
   intro HD bI _;replace haccw:=haccw.mono bI;replace gB:=gB.trans bI;refine gL rfl (gL rfl (gL rfl (gL rfl (gL rfl (gL rfl (eJ rfl rfl ?_))))));rintro _ ⟨a31,c31,rfl,hsl31,hcap31⟩;refine gL rfl (gL rfl (gL rfl (gL rfl (eJ rfl rfl ?_))));rintro _ ⟨bs36,rfl,hsl36⟩;refine eJ rfl rfl ?_;rintro _ ⟨a37,c37,rfl,hsl37⟩;refine eJ rfl rfl ?_;rintro _ ⟨bs38,rfl,hsl38⟩;refine aF rfl ?_;have hal:=aJ4 hb.1;refine iV 0 rfl rfl haccw rfl rfl hsl38 rfl eI iG tA rfl aE1 (by rw [List.length_take];simp;omega) rfl (fun p39 a39 c39 hacc39=>zG rfl (bF (fY (bO (dL (fR rfl rfl (dT zO zO) rfl (zM rfl (bF (eW ((k + 1,(p39,a39,c39))) (by show a.length - (k + 1) < a.length - k;omega) (iL (by first | rfl | (rw [jK (aI9 aFy hxb)];rfl)) (zC)) (⟨by show k + 1 ≤ a.length;omega,rfl,by first | (exact hacc39) | (rw [jK (aI9 aFy hxb)];exact hacc39)⟩) zB (gB))))))))))
 obtain rfl : k = a.length:=zO
 rw [fJ (by rw [aJ4 hb.1];exact gT _)] at haccw ⊢;refine gI (fE (eY (fU rfl (bO (zS (zM rfl (zM rfl (fH rfl (width_fn a n _ _ _ hs hok zO) rfl (iO 0 rfl haccw rfl (fun HQ10 hleQ10 hsQ10=>eZ rfl (msolve_fn (aAc a b) n _ _ _ hsQ10 hst hz hn hn0) rfl ?_))))))))));rintro _ HS45 hleS45 ⟨aS,cS,rfl,hS⟩;refine zM rfl (zX rfl (zX rfl (zG rfl (zG rfl (zN (zS (zM rfl (zM rfl (zG rfl (zG rfl (zG rfl (zN (eP ?_)))))))))))));refine ⟨rfl,_,[],rfl,zA,eQ.mk ?_⟩;exact ⟨_,_,rfl,hS⟩
end Go.Proofs

namespace Go.XL
section
variable {C : Ctx} {ops : Array Oper} {Q : Exit → St → Prop} {rest : List Oper} {env : gY} {df : List Deferred} {H : Hp} {own : Own} {dst : Option Tmp} {ty : TypeId} {pos : String} {af : Array Edge}
theorem XO.growS {t e kt : TypeId} {y : Operand} {x : Operand} {kk : IntKind} {n sz : Nat} {zs : List Value} {agg : Bool} (hx : ev env x = some (.slice none 0 0)) (hy : ev env y = some (.int .i64 (n : Nat)))
  (ht : C.P.underlying t = some (.slice e)) (hk : C.P.underlying kt = some (.int kk)) (he : tP C.P e sz agg = true) (hz : nB C.P e = some zs) (hzl : Nat.beq zs.length sz = true) (hby : Nat.ble (C.P.bytesOf e) 4096 = true) (hn : n ≤ 1073741824) (hn0 : 0 < n) (hs0 : 0 < sz) (hd : iU C.N dst = true)
  (h : ∀ b c,n ≤ c → XO C ops Q rest ⟨jI dst (.slice (some ⟨b,0,none⟩) n c) env,df,H,(b,.row e (c * sz) []) :: own⟩) :
  XO C ops Q (⟨dst,.call { callee:=.builtin .append,args:=#[x,y],argTypes:=#[t,kt] },ty,pos,af,none⟩ :: rest) ⟨env,df,H,own⟩:=by
 refine vO rfl rfl hd fun ρ' w fr ha hok=>?_;obtain ⟨_,inf,hi,hsz⟩:=wB he;have hzl:=fV hzl;have hby:=Nat.le_of_ble_eq_true hby;have hby' : inf.bytes ≤ 4096:=by simpa [Program.bytesOf,hi] using hby
 have hmul : n * inf.bytes ≤ 4398046511104:=eK (Nat.mul_le_mul hn hby') zD
 obtain ⟨z,hzz,hzc⟩ : ∃ z,inf.zero = some z ∧ z.cells = zs.toArray:=by
  unfold nB at hz;rw [hi] at hz;simp only at hz;split at hz
  ·rename_i z hzz;exact ⟨z,hzz,rX hz⟩
  cases hz
 have hge:=grownCap_ge w n 0 e;have hw : IntKind.i64.wrap (n : Int) = n:=dT zO zO;have hn' : ¬ n = 0:=zO
 have h48 : ¬ (281474976710656 < Builtin.nextslicecap n 0 * inf.bytes):=by rw [nextslicecap_zero hn0];omega
 have h48' : ¬ (281474976710656 < (n : Int) * (inf.bytes : Nat)):=by
  have : ((n * inf.bytes : Nat) : Int) ≤ 4398046511104:=Int.ofNat_le.2 hmul;rw [Int.natCast_mul] at this;omega
 have h63 : ¬ (9223372036854775807 < (n : Int)):=zO
 have hrun : (Builtin.append_ #[t,kt] ty #[.slice none 0 0,.int .i64 (n : Nat)]).run C.P w = .ok (.slice (some ⟨w.heap.size,0,none⟩) n (grownCap w n 0 e)) (w.drew.alloc (.cells (Builtin.zeroCells z.cells n ++ Builtin.zeroCells z.cells (grownCap w n 0 e - n)) e)):=by
  have hneg : ¬ ((n : Int) < 0):=zO
  have hns : ¬ (n * sz = 0):=by have:=Nat.mul_pos hn0 hs0;omega
  simp [Builtin.append_,jC ht,jC hk,sizeOf,typeInfo,zeroValue,hi,hzz,asInt,asIntOf,hw,hneg,h48',hn',hns,hsz,h63,h48,Question.forced,run_firstCells_none,newRow,grownCap]
 refine ⟨.value (.slice (some ⟨w.heap.size,0,none⟩) n (grownCap w n 0 e)),_,_,H,_,?_,.inl rfl,Le.refl _,hok.drew.new (o:=.cells (Builtin.zeroCells z.cells n ++ Builtin.zeroCells z.cells (grownCap w n 0 e - n)) e (0,0)) (s:=.row e (grownCap w n 0 e * sz) []) ⟨(Builtin.zeroCells z.cells n ++ Builtin.zeroCells z.cells (grownCap w n 0 e - n)).toList,by simp,?_⟩,h _ _ (by simpa using hge)⟩
 ·simp only [execOp,resolve,Sem.run_bind];simp only [Pure.pure,Sem.run,Result.andThen,invoke,builtin,Sem.run_bind];simp only [List.map_toArray,List.map_cons,List.map_nil,ha _ _ hx,ha _ _ hy];rw [show (#[Value.slice none 0 0,Value.int .i64 (n : Nat)] : Array Value) = [Value.slice none 0 0,Value.int .i64 (n : Nat)].toArray from rfl] at hrun;rw [hrun];rfl
 rw [Array.toList_append,gN,fQ,hzc,sM,sM,hzl,← Nat.add_mul];have:=hge
 congr 1;omega
theorem XO.sliceZ {t e : TypeId} {x : Operand} {hi : Option Operand} {b o c n sz : Nat} {agg : Bool} (hx : ev env x = some (.slice (some ⟨b,o,none⟩) n c)) (hh : ev? env hi n ((0 : Nat) : Int))
  (ht : C.P.underlying t = some (.slice e)) (he : tP C.P e sz agg = true) (hd : iU C.N dst = true)
  (h : XO C ops Q rest ⟨jI dst (.slice (some ⟨b,o,none⟩) 0 c) env,df,H,own⟩) :
  XO C ops Q (⟨dst,.slice t x none hi none,ty,pos,af,none⟩ :: rest) ⟨env,df,H,own⟩:=by
 refine aHu (lo':=0) (hi':=((0 : Nat) : Int)) (m':=c) hx qJ hh qJ zP zO zO zO zO ht he hd ?_
 have e : (if (c : Int).toNat = (0 : Int).toNat then (some ⟨b,o,none⟩ : Option Addr) else (some ⟨b,o,none⟩ : Option Addr).map (·.add ((0 : Int).toNat * sz))) = some ⟨b,o,none⟩:=by
  split
  ·rfl
  rw [show (0 : Int).toNat * sz = 0 by simp,Option.map_some,tV];rfl
 rw [e];simpa using h
end
end Go.XL

namespace Go.Proofs
open Go.XL
abbrev mkR : Rep (List Int):=slR (gV .i64)
def oF (m : Mk) : Prop:=m.length ≤ 6 ∧ fO m ≤ 4 ∧ ∀ r ∈ m,r.length = fO m ∧ ∀ x ∈ r,-1 ≤ x ∧ x ≤ 1000
theorem oF.at {m : Mk} {i : Nat} {r : List Int} (h : oF m) (hr : m[i]? = some r) : r.length = fO m ∧ r.length ≤ 16 ∧ ∀ x ∈ r,-1 ≤ x ∧ x ≤ 1000:=by
 obtain ⟨h1,h2⟩:=h.2.2 r (cF hr);exact ⟨h1,by rw [h1];have:=h.2.1;omega,h2⟩
abbrev Kn:=(Nat × Nat) × Int
def qN (i : Nat) (l : List Int) : Nat → List Kn
 | 0=>[]
 | k + 1=>qN i l k ++ (if l.getD k (-1) ≠ -1 then [((i,k),l.getD k (-1))] else [])
def sA (m : Mk) : Nat → List Kn
 | 0=>[]
 | i + 1=>sA m i ++ qN i (m.getD i []) (m.getD i []).length
def jW (m : Mk) : List Kn:=sA m m.length
def aTv (p : Kn) : List Value:=[.agg ⟨[.int .i64 (p.1.1 : Nat),.int .i64 (p.1.2 : Nat)]⟩,.int .i64 p.2]
theorem aL0 {i : Nat} {l : List Int} : ∀ {k n : Nat},k ≤ n → ∃ post,qN i l n = qN i l k ++ post
 | k,0,h=>⟨[],by rw [show k = 0 by omega];rfl⟩
 | k,n + 1,h=>by
  by_cases e : k = n + 1
  ·exact ⟨[],by rw [e,gH]⟩
  obtain ⟨p,hp⟩:=aL0 (i:=i) (l:=l) (k:=k) (n:=n) zO;exact ⟨p ++ (if l.getD n (-1) ≠ -1 then [((i,n),l.getD n (-1))] else []),by rw [qN,hp,eM]⟩
theorem aMu {m : Mk} : ∀ {i n : Nat},i ≤ n → ∃ post,sA m n = sA m i ++ post
 | i,0,h=>⟨[],by rw [show i = 0 by omega];rfl⟩
 | i,n + 1,h=>by
  by_cases e : i = n + 1
  ·exact ⟨[],by rw [e,gH]⟩
  obtain ⟨p,hp⟩:=aMu (m:=m) (i:=i) (n:=n) zO;exact ⟨p ++ qN n (m.getD n []) (m.getD n []).length,by rw [sA,hp,eM]⟩
theorem aHt {i k : Nat} {l : List Int} {x : Int} (hx : l[k]? = some x) (h : x ≠ -1) : qN i l (k + 1) = qN i l k ++ [((i,k),x)]:=by
 rw [qN,dB,hx];simp [h]
theorem aGn {i k : Nat} {l : List Int} {x : Int} (hx : l[k]? = some x) (h : ¬ x ≠ -1) : qN i l (k + 1) = qN i l k:=by
 rw [qN,dB,hx];simp [lV.1 h]
theorem aFj {m : Mk} {i : Nat} {l : List Int} (h : m[i]? = some l) : sA m (i + 1) = sA m i ++ qN i l l.length:=by
 rw [sA,dB,h];rfl
theorem aJ7 {m : Mk} {i k : Nat} {l : List Int} {x : Int} (hl : m[i]? = some l) (hx : l[k]? = some x) (h : x ≠ -1) : ∃ post,jW m = (sA m i ++ qN i l k) ++ ((i,k),x) :: post:=by
 have hi:=(bY.1 hl).1;have hk:=(bY.1 hx).1;obtain ⟨p1,h1⟩:=aMu (m:=m) (i:=i + 1) (n:=m.length) zO;obtain ⟨p2,h2⟩:=aL0 (i:=i) (l:=l) (k:=k + 1) (n:=l.length) zO;refine ⟨p2 ++ p1,?_⟩;unfold jW;rw [h1,aFj hl,h2,aHt hx h];simp
theorem aNc {i : Nat} {l : List Int} {p : Kn} : ∀ {n : Nat},p ∈ qN i l n → p.1.1 = i ∧ p.1.2 < n ∧ l.getD p.1.2 (-1) = p.2 ∧ p.2 ≠ -1
 | 0,h=>by cases h
 | n + 1,h=>by
  rw [qN] at h;rcases gM.1 h with h | h
  ·obtain ⟨a,b,c⟩:=aNc h;exact ⟨a,zO,c⟩
  split at h
  ·rename_i hx;simp at h;subst h;exact ⟨rfl,by simp,rfl,hx⟩
  cases h
theorem aMr {m : Mk} {p : Kn} : ∀ {n : Nat},p ∈ sA m n → p.1.1 < n ∧ p.1.2 < (m.getD p.1.1 []).length ∧ (m.getD p.1.1 []).getD p.1.2 (-1) = p.2 ∧ p.2 ≠ -1
 | 0,h=>by cases h
 | n + 1,h=>by
  rw [sA] at h;rcases gM.1 h with h | h
  ·obtain ⟨a,b⟩:=aMr h;exact ⟨zO,b⟩
  obtain ⟨a,b,c,d⟩:=aNc h;rw [a];exact ⟨zO,b,c,d⟩
theorem aAf {m : Mk} {p : Kn} (h : p ∈ jW m) : ∃ l,m[p.1.1]? = some l ∧ l[p.1.2]? = some p.2 ∧ p.2 ≠ -1:=by
 obtain ⟨h1,h2,h3,h4⟩:=aMr h;refine ⟨m[p.1.1],aJ h1,?_,h4⟩;have e : m.getD p.1.1 [] = m[p.1.1]:=by rw [dB,aJ h1];rfl
 rw [e] at h2 h3;rw [dB,aJ h2] at h3;rw [aJ h2];exact congrArg some h3
theorem aLy {m : Mk} {i k : Nat} {l : List Int} {x : Int} (hl : m[i]? = some l) (hx : l[k]? = some x) (h : x ≠ -1) : ((i,k),x) ∈ jW m:=by
 obtain ⟨post,hp⟩:=aJ7 hl hx h;rw [hp];simp
theorem aM8 {i : Nat} {l : List Int} : ∀ n,(qN i l n).length ≤ n
 | 0=>gT _
 | n + 1=>by rw [qN,fQ];have:=aM8 (i:=i) (l:=l) n;split <;> simp <;> omega
theorem wU {m : Mk} (h : oF m) : (jW m).length ≤ m.length * 16:=by
 have : ∀ n,n ≤ m.length → (sA m n).length ≤ n * 16:=by
  intro n
  induction n with
  | zero=>intro _;exact gT _
  | succ n ih =>
   intro hn;have h1:=ih zO;have h2:=aM8 (i:=n) (l:=m.getD n []) (m.getD n []).length;have h3:=(h.at (aJ (show n < m.length by omega))).2.1;have e : m.getD n [] = m[n]:=by rw [dB,aJ zO];rfl
   rw [sA,fQ,e] ;rw [e] at h2;omega
 exact this _ (gT _)
theorem oW {α : Type} {l : List (List α)} {k : Nat} {x : List α} (h : l[k]? = some x) : (l.take (k + 1)).flatten = (l.take k).flatten ++ x:=by rw [jK h,List.flatten_append];simp
theorem yW {α : Type} {l : List (List α)} {k : Nat} {x : List α} (h : l[k]? = some x) : (l.take k).flatten.length + x.length ≤ l.flatten.length:=by
 have h1:=oW h
 have h2 : (l.take (k + 1)).flatten.length ≤ l.flatten.length:=by
  conv=>rhs;rw [← nO (k + 1) l,List.flatten_append,fQ]
  omega
 rw [h1,fQ] at h2;omega
theorem longR {e : Ending} {n : Nat} {H : Hp} {o : XL.Own} (h : eQ (fun v _ _=>v = .bool (decide ((16 : Int) < (n : Nat)))) e H o) : eQ (fun u _ _=>∃ b : Bool,u = .bool b ∧ (b = true ↔ 16 < n)) e H o:=by
 cases e with
 | returned v=>exact ⟨_,h,by rw [decide_eq_true_iff];omega⟩
 | panicked _=>exact h
 | outgrown=>exact h
theorem mkV_one {v : Value} (h : v.oneCell' = true) : mkV false [v] = some v:=rfl
end Go.Proofs

namespace Go.Proofs
open Go.XL
theorem pO : tP Tryz.prog 22 1 false = true:=zK
theorem ty_98 : tP Tryz.prog 98 1 false = true:=zK
theorem indexM_fn (a : Option Addr) (c : Nat) (m : Mk) (H : Hp) (hs : SlR mkR H a c m) (hl : m.length < 9223372036854775808) (g : Value) (q : List Int → Prop) (hg : ∀ x ∈ m,∀ ax cx,SlR (gV .i64) H ax cx x → wH Tryz.prog g [.slice ax x.length cx] H [] (eQ fun u _ _=>∃ b : Bool,u = .bool b ∧ (b = true ↔ q x))) : iP Tryz.prog 108 #[.slice a m.length c,g] H [] (eQ (fun v _ _=>∃ i : Int,v = .int .i64 i ∧ (0 ≤ i ↔ ∃ x ∈ m,q x))):=by
 refine iP.intro (args:=[.slice a m.length c,g]) Tryz.func108 rfl rfl Tryz.ntmps108 rfl rfl rfl fun G rest=>?_;refine zS ?_;refine zG rfl ?_;refine zN ?_;refine cO ?_;refine zS ?_;refine zM rfl ?_;refine eD (ts:=#[]) rfl cH rfl ?_;refine zM rfl ?_;refine zN ?_;refine dK ?_;refine eU [8,0,1,7] rfl ?_;refine gO (base:=[(0,_),(1,_),(7,_)]) (fun ζ : Nat=>[(8,.int .i64 (ζ : Nat))]) (fun ζ Hl own=>ζ ≤ m.length ∧ rest = own ∧ (∀ x ∈ m.take ζ,¬ q x) ∧ (H = Hl)) (fun ζ=>m.length - ζ) 0 (zC) zB ⟨eS _,rfl,by simp,rfl⟩ ?_;rintro k Hl0 _ gB ⟨hkk,rfl,hno,hHl⟩;replace hs:=hs.mono gB;try dsimp only at ⊢
 subst hHl;refine zS (zL rfl (zN (cO (fC rfl (fun nY=>?_) (fun nY=>?_)))))
 ·refine eF (bO (cO (dK (zS (zM rfl (zG rfl (zN (zS (zM rfl (zM rfl (zM rfl (eV rfl hs rfl cH gE zO rfl ?_))))))))))));rintro eb14 eo14 _ x14 hx14 ⟨ax14,cx14,rfl,hd14⟩ nG;refine eH rfl (by assumption) gE rfl rfl rfl (sZ rfl trivial rfl (hg x14 (cF hx14) _ _ hd14) rfl ?_);rintro _ ⟨bq,rfl,hqq⟩;refine zN (mN rfl (fun aCc=>?_) (fun aCc=>?_))
  ·refine zS (zM rfl (zG rfl (zN (eP (iS (fD (jR (iS (fD ?_)))))))));refine ⟨rfl,_,[],rfl,zA,eQ.mk ?_⟩;exact ⟨_,rfl,⟨fun _=>⟨x14,cF hx14,hqq.1 (by assumption)⟩,fun _=>zO⟩⟩
  refine eF (fY (bO (dL (fR rfl rfl (dT zO zO) rfl (zM rfl (bF (eW (k + 1) (by show m.length - (k + 1) < m.length - k;omega) (zC) (⟨by show k + 1 ≤ m.length;omega,rfl,aGo hno hx14 (fun h=>by simp_all),rfl⟩) zB (gB))))))))
 obtain rfl : k = m.length:=zO
 rw [gF] at hno;refine gI (fE (eY (fU rfl (bO (zS (zG rfl (zN (eP ?_))))))));refine ⟨rfl,_,[],rfl,zA,eQ.mk ?_⟩;exact ⟨-1,rfl,⟨fun h=>absurd h zD,fun ⟨x,hx,hq⟩=>absurd hq (hno x hx)⟩⟩
theorem containsM_fn (a : Option Addr) (c : Nat) (m : Mk) (H : Hp) (hs : SlR mkR H a c m) (hl : m.length < 9223372036854775808) (g : Value) (q : List Int → Prop) (hg : ∀ x ∈ m,∀ ax cx,SlR (gV .i64) H ax cx x → wH Tryz.prog g [.slice ax x.length cx] H [] (eQ fun u _ _=>∃ b : Bool,u = .bool b ∧ (b = true ↔ q x))) : iP Tryz.prog 80 #[.slice a m.length c,g] H [] (eQ (fun v _ _=>∃ b : Bool,v = .bool b ∧ (b = true ↔ ∃ x ∈ m,q x))):=by
 refine iP.intro (args:=[.slice a m.length c,g]) Tryz.func80 rfl rfl Tryz.ntmps80 rfl rfl rfl fun G rest=>?_;refine zS ?_;refine zG rfl ?_;refine zN ?_;refine zS ?_;refine zM rfl ?_;refine zM rfl ?_;refine kO rfl (indexM_fn _ _ _ _ hs hl _ _ hg) rfl ?_;rintro _ ⟨iX,rfl,hX⟩;refine yB rfl ?_;refine zG rfl ?_;refine zN ?_;refine eP ?_;refine ⟨rfl,_,[],rfl,zA,eQ.mk ?_⟩;exact ⟨_,rfl,by rw [decide_eq_true_iff,← hX]⟩
theorem aJj (a : Option Addr) (c : Nat) (m : Mk) (H : Hp) (hs : SlR mkR H a c m) (hok : oF m) : iP Tryz.prog 40 #[.slice a m.length c] H [] (eQ (fun v _ _=>v = .tuple #[])):=by
 refine iP.intro (args:=[.slice a m.length c]) Tryz.func40 rfl rfl Tryz.ntmps40 rfl rfl rfl fun G rest=>?_;have hl:=hok.1;have hw:=hok.2.1;refine zS ?_;refine zG rfl ?_;refine zN ?_;refine zS ?_;refine zM rfl ?_;refine eD (ts:=#[]) rfl cH rfl ?_;refine yA rfl ?_;refine zM rfl ?_;refine zT rfl (bG zO) ?_;refine zM rfl ?_;refine zT rfl (bG zO) ?_;refine zM rfl ?_;refine zT rfl (bG zO) ?_;refine kO rfl (containsM_fn _ _ m _ hs zO _ (fun x=>16 < x.length) (fun x hx ax cx hsx=>(wH.of_fn (cap:=[]) (args:=[_]) (long16_fn ax x.length cx _)).mono fun e _ _ _ hR=>longR hR)) rfl ?_;rintro _ ⟨bL,rfl,hL⟩
 obtain rfl : bL = false:=by
  cases bL with
  | false=>rfl
  | true=>obtain ⟨x,hx,h⟩:=hL.1 rfl;have:=(hok.2.2 x hx).1;omega
 refine zT rfl (bG zO) (lB rfl rfl (zV (bG zO) rfl (fH rfl (rO _ _ rfl _) rfl (zN (zS (zM rfl (eD (ts:=#[]) rfl cH rfl (zM rfl (zN (dK (eU [19,0,17,18] rfl (gO (base:=[(0,_),(17,_),(18,_)]) (fun ζ : Nat=>[(19,.int .i64 (ζ : Nat))]) (fun ζ Hl own=>ζ ≤ m.length ∧ rest = own) (fun ζ=>m.length - ζ) 0 (zC) zB ⟨eS _,rfl⟩ ?_))))))))))));rintro k Hl0 _ gB ⟨hkk,rfl⟩;replace hs:=hs.mono gB;try dsimp only at ⊢
 refine zS (zL rfl (zN (cO (fC rfl (fun c0_3=>?_) (fun c0_3=>?_)))))
 ·refine eF (bO (cO (dK (zS (eV rfl hs rfl cH gE zO rfl ?_)))));rintro eb21 eo21 _ x21 hx21 ⟨ax21,cx21,rfl,hd21⟩ hp21;refine eH rfl (by assumption) gE rfl rfl rfl (zG rfl (zN (zS (zM rfl (eD (ts:=#[]) rfl bK rfl (zM rfl (eV (i:=0) rfl hs rfl cH gE zO rfl ?_)))))));rintro eb26 eo26 _ x26 tW ⟨ax26,cx26,rfl,hd26⟩ hp26;refine eH rfl (by assumption) gE rfl rfl rfl (eD (ts:=#[]) rfl bK rfl (zZ rfl (fH rfl (rO _ _ (bG (by have h1:=(hok.at hx21).1;have h2:=(hok.at tW).1;omega)) _) rfl (zN (zS ?_)))));have hwx:=(hok.at hx21).2.1;refine zM rfl (eD (ts:=#[]) rfl bK rfl (zM rfl (zN (dK (eU [33,0,17,18,19,31,32] rfl (gO (base:=[(0,_),(17,_),(18,_),(19,_),(31,_),(32,_)]) (fun ζ : Nat=>[(33,.int .i64 (ζ : Nat))]) (fun ζ Hl own=>ζ ≤ x21.length ∧ rest = own) (fun ζ=>x21.length - ζ) 0 (zC) zB ⟨eS _,rfl⟩ ?_))))));rintro j Hl1 _ iT ⟨hkj,rfl⟩;replace hs:=hs.mono iT;replace hp21:=hp21.mono iT;replace hd21:=hd21.mono iT;replace hp26:=hp26.mono iT;replace hd26:=hd26.mono iT;replace gB:=gB.trans iT;try dsimp only at ⊢
  refine zS (zL rfl (zN (cO (fC rfl (fun c1_7=>?_) (fun c1_7=>?_)))))
  ·refine eF (bO (cO (dK (zS (eV rfl (by assumption) rfl bK gK zO rfl ?_)))));rintro eb35 eo35 _ x35 hx35 rfl hp35;refine eH rfl (by assumption) gK rfl rfl rfl (zG rfl (zN (dL (zM rfl (yB rfl (zM rfl (zT rfl (bG (by have h1:=(hok.at hx21).2.2 _ (cF hx35);omega)) (zM rfl (zT rfl (bG (by have h1:=(hok.at hx21).2.2 _ (cF hx35);omega)) (yA rfl (zV (bG (by have h1:=(hok.at hx21).2.2 _ (cF hx35);omega)) rfl (fH rfl (rO _ _ (bG (by have h1:=(hok.at hx21).2.2 _ (cF hx35);omega)) _) rfl (bF (fY (bO (dL (fR rfl rfl (dT zO zO) rfl (zM rfl (bF (eW (j + 1) (by show x21.length - (j + 1) < x21.length - j;omega) (zC) (⟨by show j + 1 ≤ x21.length;omega,rfl⟩) zB (iT)))))))))))))))))))))
  refine gI (fE (eY (fU rfl (fY (bO (dL (fR rfl rfl (dT zO zO) rfl (zM rfl (bF (eW (k + 1) (by show m.length - (k + 1) < m.length - k;omega) (zC) (⟨by show k + 1 ≤ m.length;omega,rfl⟩) zB (gB)))))))))))
 refine gI (fE (eY (fU rfl ?_)));refine ⟨rfl,_,[],rfl,zA,eQ.mk ?_⟩;rfl
theorem aGp (a : Option Addr) (n c f : Nat) (H : Hp) : iP Tryz.prog 42 #[.slice a n c,.func (.func f) #[] #[]] H [] (eQ (fun v H2 _=>∃ b2 b3,v = .func (.func 83) #[] #[.pointer (some ⟨b2,0,none⟩),.pointer (some ⟨b3,0,none⟩)] ∧ rC H2 b2 0 [.slice a n c] ∧ rC H2 b3 0 [.func (.func f) #[] #[]])):=by
 refine iP.intro (args:=[.slice a n c,.func (.func f) #[] #[]]) Tryz.func42 rfl rfl Tryz.ntmps42 rfl rfl rfl fun G rest=>?_;refine zS ?_;refine iW rfl rfl rfl (fun b2=>?_);refine iW rfl rfl rfl (fun b3=>?_);refine zG rfl ?_;refine zN ?_;refine zS ?_;refine fT 1 rfl rfl rfl (fun HK2 oK2 pE aFw aFx=>?_);have qU:=rC.of_is aFw aFx;refine fT 0 rfl rfl rfl (fun HK3 oK3 rH aDr aDs=>?_);have aCo:=rC.of_is aDr aDs;replace qU:=qU.mono rH;refine mA rfl rfl ?_;refine zG rfl ?_;refine zN ?_;refine eP ?_;refine ⟨rfl,_,[],rfl,zA,eQ.mk ?_⟩;exact ⟨_,_,rfl,qU,aCo⟩
theorem aEg (a : Option Addr) (c : Nat) (m : Mk) (H : Hp) (bm bf : Nat) (isv : Value) (hs : SlR mkR H a c m) (hl : m.length ≤ 64) (hrow : ∀ r ∈ m,r.length ≤ 16) (h1 : rC H bm 0 [.slice a m.length c]) (h2 : rC H bf 0 [isv]) (his : ∀ x H2,wH Tryz.prog isv [.int .i64 x] H2 [] (eQ fun u _ _=>u = .bool (decide (x ≠ -1)))) (hone : isv.oneCell' = true) : aV9 Tryz.prog 83 [.pointer (some ⟨bm,0,none⟩),.pointer (some ⟨bf,0,none⟩)] H [] aTv (jW m):=by
 intro yv J K ownY hy hJ0;refine iP.intro (args:=[yv,.pointer (some ⟨bm,0,none⟩),.pointer (some ⟨bf,0,none⟩)]) Tryz.func83 rfl rfl Tryz.ntmps83 rfl rfl rfl fun G rest=>?_;refine zS ?_;refine eH rfl h1 pO rfl rfl rfl ?_;refine eD (ts:=#[]) rfl cH rfl ?_;refine zM rfl ?_;refine zN ?_;refine dK ?_;refine eU [10,0,2,8,9] rfl ?_;refine gO (base:=[(0,_),(2,_),(8,_),(9,_)]) (fun i : Nat=>[(10,.int .i64 (i : Nat))]) (fun i Hl own=>i ≤ m.length ∧ Le H Hl ∧ ∃ oy,oy ++ rest = own ∧ J (sA m i) Hl oy) (fun i=>m.length - i) 0 (zC) (jP _) ⟨eS _,Le.refl _,ownY,rfl,hJ0⟩ ?_;rintro i Hl _ hle ⟨hi,hH,oy,rfl,hJ⟩;replace hs:=hs.mono hH;replace h2:=h2.mono hH;refine zS ?_;refine zL rfl ?_;refine zN ?_;refine cO ?_;refine fC rfl (fun qK=>?_) (fun qK=>?_)
 ·refine eF (bO (cO (dK (zS (zM rfl (eV rfl hs rfl cH gE zO rfl ?_))))));rintro ebm eom _ xm hxm ⟨axm,cxm,rfl,hd⟩ hpm;have hrx:=hrow xm (cF hxm);refine eH rfl hpm gE rfl rfl rfl (zG rfl (zG rfl (zN (zS (zM rfl (eD (ts:=#[]) rfl bK rfl (zM rfl (zN (dK (eU [17,0,2,4,8,9,10,15,16] rfl (gO (base:=[(0,_),(2,_),(4,_),(8,_),(9,_),(10,_),(15,_),(16,_)]) (fun k : Nat=>[(17,.int .i64 (k : Nat))]) (fun k Hl own=>k ≤ xm.length ∧ Le H Hl ∧ ∃ oy,oy ++ rest = own ∧ J (sA m i ++ qN i xm k) Hl oy) (fun k=>xm.length - k) 0 (zC) (jP _) ⟨eS _,hH,oy,rfl,by rw [qN,gH];exact hJ⟩ ?_)))))))))));clear hJ;rintro k Hl _ aEw ⟨hk,hH,oy,rfl,hJ⟩;replace hd:=hd.mono aEw;replace h2:=h2.mono aEw;replace hle:=hle.trans aEw;refine zS (zL rfl (zN (cO (fC rfl (fun aDq=>?_) (fun aDq=>?_)))))
  ·refine eF (bO (cO (dK (zS (zM rfl (eV rfl hd rfl bK gK zO rfl ?_))))));rintro ebk eok _ xk hxk rfl hpk;refine eH rfl hpk gK rfl rfl rfl (zG rfl (zG rfl (zN (zS (eH rfl h2 ty_98 rfl (mkV_one hone) rfl (zM rfl (sZ rfl (by trivial) rfl (his xk _) rfl ?_)))))));rintro _ rfl;refine zM rfl (iM rfl rfl rfl rfl (fun g10=>?_) (fun g10=>?_))
   ·have g10p:=g10;have hnd:=g10;refine zM rfl ?_;refine zT rfl g10 ?_;refine zM rfl ?_;refine zT rfl g10 ?_;refine zM rfl ?_;refine zT rfl g10 ?_;refine XO.buildArr lE gK aIa rfl rfl rfl ?_;refine zT rfl g10 ?_;refine zM rfl ?_;refine zT rfl g10 ?_;obtain ⟨post,hpost⟩:=aJ7 hxm hxk (eT hnd);refine qQ [] (nQ:=oy) (rst:=rest) rfl trivial rfl (hy _ _ _ hpost _ oy hH hJ) rfl rfl ?_;rintro u HY oy2 yG hR;rcases hR with ⟨rfl,hJ2⟩ | ⟨rfl,hK2⟩
    ·have hH2:=hH.trans yG;rw [eM,← aHt hxk (eT hnd)] at hJ2;refine zT rfl g10 (lB rfl rfl (zV g10 rfl (zN (gD rfl rfl (eF (fY (bO (dL (fR rfl rfl (dT zO zO) rfl (zM rfl (bF (eW (k + 1) zO (iL (pK rfl zO) (zC)) (by first | exact ⟨zO,hH2,oy2,rfl,hJ2⟩ | exact ⟨zO,hH,oy,rfl,by rw [aGn hxk (fM hnd)];exact hJ⟩) zA (by first | exact aEw.trans yG | exact aEw)))))))))))))
    have hH2:=hH.trans yG;refine zT rfl g10 (lB rfl rfl (zV g10 rfl (zN (jB rfl rfl (eP (iS (fD (jR (iS (iS (fD (jR (iS ?_)))))))))))));exact ⟨rfl,_,oy2,rfl,zA,eQ.mk ⟨rfl,[],oy2,rfl,.inr hK2⟩⟩
   have g10p:=g10;have hnd:=g10;refine zU rfl g10 (zU rfl g10 (zU rfl g10 (zU rfl g10 (zU rfl g10 (zU rfl g10 (zW g10 rfl (zN (gD rfl rfl (eF (fY (bO (dL (fR rfl rfl (dT zO zO) rfl (zM rfl (bF (eW (k + 1) zO (iL (pK rfl zO) (zC)) (by first | exact ⟨zO,hH2,oy2,rfl,hJ2⟩ | exact ⟨zO,hH,oy,rfl,by rw [aGn hxk (fM hnd)];exact hJ⟩) zA (by first | exact aEw.trans yG | exact aEw)))))))))))))))))
  obtain rfl : k = xm.length:=zO
  refine gI (fE (eY (fU rfl (fY (bO (dL (fR rfl rfl (dT zO zO) rfl (zM rfl (bF (eW (i + 1) zO (iL (pK rfl zO) (zC)) (⟨zO,hH,oy,rfl,by rw [aFj hxm];exact hJ⟩) zA hle))))))))))
 obtain rfl : i = m.length:=zO
 refine gI (fE (eY (fU rfl ?_)));exact ⟨rfl,_,oy,rfl,zA,eQ.mk ⟨rfl,[],oy,rfl,.inl hJ⟩⟩
theorem aAo (b : Bool) (y : Int) (hb : b = false) (H : Hp) : iP Tryz.prog 66 #[.bool b,.int .i64 y] H [] (aFq [{ v:=.iface 27 (.int .i64 y),recovered:=false }]):=by
 refine iP.intro (args:=[.bool b,.int .i64 y]) Tryz.func66 rfl rfl Tryz.ntmps66 rfl rfl rfl fun G rest=>?_;refine zS ?_;refine zM rfl ?_;refine lB rfl rfl ?_;refine zN ?_;refine jB rfl (by rw [hb];rfl) ?_;refine dL ?_;refine zM rfl ?_;refine uC rfl pU (by intro _ h;cases h) rfl ?_;refine aLc rfl ?_;refine ⟨rfl,[],zA,aFq.mk⟩
end Go.Proofs

namespace Go.Proofs
open Go.XL
theorem growQ_fn (n : Nat) (hn : n ≤ 1073741824) (h0 : 0 < n) (H : Hp) : iP Tryz.prog 109 #[.slice none 0 0,.int .i64 (n : Nat)] H [] (eQ (fun v H2 own=>∃ p a c,own = [p] ∧ v = .slice a 0 c ∧ XL.Acc lS 56 H2 p a c [])):=by
 refine iP.intro (args:=[.slice none 0 0,.int .i64 (n : Nat)]) Tryz.func109 rfl rfl Tryz.ntmps109 rfl rfl rfl fun G rest=>?_;refine zS ?_;refine zG rfl ?_;refine zN ?_;refine cO ?_;refine zS ?_;refine zM rfl ?_;refine zL rfl ?_;refine zN ?_;refine gD rfl (aI zO) ?_;refine eF ?_;refine bO ?_;refine cO ?_;refine zS ?_;refine zM rfl ?_;refine zM rfl ?_;refine aD3 rfl cJ zD rfl ?_;refine zM rfl ?_;refine eD (ts:=#[]) rfl cJ rfl ?_;refine lK rfl rfl (dT zO zO) rfl ?_;refine lK (c:=((n : Nat) : Int)) rfl rfl ((dT zO zO).trans zO) rfl ?_;refine zG rfl ?_;refine zN ?_;refine zS ?_;refine zM rfl ?_;refine zY rfl ?_;refine zN ?_;refine jB rfl (bG zO) ?_;refine dL ?_;refine zM rfl ?_;refine zM rfl ?_;refine aD3 rfl cJ zD rfl ?_;refine aHu (lo':=0) (hi':=((0 : Nat) : Int)) (m':=((0 : Nat) : Int)) rfl qJ (tQ rfl) qJ zP zD zD zD zD cJ fG rfl ?_;refine zM rfl ?_;refine XO.growS (sz:=4) rfl rfl cJ lL fG jD rfl tY zO zO zD rfl (fun b22 c22 hc22=>?_);refine zM rfl ?_;refine eD (ts:=#[]) rfl cJ rfl ?_;refine XO.sliceZ rfl (tQ rfl) cJ fG rfl ?_;refine zG rfl ?_;refine zN ?_;refine zS ?_;refine zM rfl ?_;refine zG rfl ?_;refine zN ?_;refine eP ?_;refine ⟨rfl,_,[_],rfl,zA,eQ.mk ?_⟩;exact ⟨_,_,_,rfl,rfl,.inr ⟨[],rfl,rfl,rfl,by simp⟩⟩
theorem growM_fn (n : Nat) (hn : n ≤ 1073741824) (h0 : 0 < n) (H : Hp) : iP Tryz.prog 84 #[.slice none 0 0,.int .i64 (n : Nat)] H [] (eQ (fun v H2 own=>∃ p a c,own = [p] ∧ v = .slice a 0 c ∧ XL.Acc mxR 24 H2 p a c [])):=by
 refine iP.intro (args:=[.slice none 0 0,.int .i64 (n : Nat)]) Tryz.func84 rfl rfl Tryz.ntmps84 rfl rfl rfl fun G rest=>?_;refine zS ?_;refine zG rfl ?_;refine zN ?_;refine cO ?_;refine zS ?_;refine zM rfl ?_;refine zL rfl ?_;refine zN ?_;refine gD rfl (aI zO) ?_;refine eF ?_;refine bO ?_;refine cO ?_;refine zS ?_;refine zM rfl ?_;refine zM rfl ?_;refine aD3 rfl eI zD rfl ?_;refine zM rfl ?_;refine eD (ts:=#[]) rfl eI rfl ?_;refine lK rfl rfl (dT zO zO) rfl ?_;refine lK (c:=((n : Nat) : Int)) rfl rfl ((dT zO zO).trans zO) rfl ?_;refine zG rfl ?_;refine zN ?_;refine zS ?_;refine zM rfl ?_;refine zY rfl ?_;refine zN ?_;refine jB rfl (bG zO) ?_;refine dL ?_;refine zM rfl ?_;refine zM rfl ?_;refine aD3 rfl eI zD rfl ?_;refine aHu (lo':=0) (hi':=((0 : Nat) : Int)) (m':=((0 : Nat) : Int)) rfl qJ (tQ rfl) qJ zP zD zD zD zD eI iG rfl ?_;refine zM rfl ?_;refine XO.growS (sz:=1) rfl rfl eI lL iG tA rfl aE1 zO zO zD rfl (fun b22 c22 hc22=>?_);refine zM rfl ?_;refine eD (ts:=#[]) rfl eI rfl ?_;refine XO.sliceZ rfl (tQ rfl) eI iG rfl ?_;refine zG rfl ?_;refine zN ?_;refine zS ?_;refine zM rfl ?_;refine zG rfl ?_;refine zN ?_;refine eP ?_;refine ⟨rfl,_,[_],rfl,zA,eQ.mk ?_⟩;exact ⟨_,_,_,rfl,rfl,.inr ⟨[],rfl,rfl,rfl,by simp⟩⟩
end Go.Proofs
