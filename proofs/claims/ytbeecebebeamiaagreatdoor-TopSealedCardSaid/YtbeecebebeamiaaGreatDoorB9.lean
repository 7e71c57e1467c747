/- TopSealed: judges,their cards and boxes,in kS Lean. -/
import Derived.Test.YtbeecebebeamiaaGreatDoorB8
set_option maxRecDepth 100000
set_option autoImplicit false
set_option linter.unusedVariables false
set_option linter.unusedSimpArgs false
namespace Go.Proofs
open Go.XL
structure Jdg where
 M : List Int
 K : List Int
 D : List UInt8
 P : List (List Int)
 L : Bool
 X : Bool
abbrev aGg (x : Jdg) (aM : Option Addr) (cM : Nat) (aK : Option Addr) (cK : Nat) (aP : Option Addr) (cP : Nat) : List Value :=
 .slice aM x.M.length cM :: .slice aK x.K.length cK :: (d32 x.D ++ [.slice aP x.P.length cP,.bool x.L,.bool x.X])
def aL1 : Rep Jdg where
 sz:=37
 R:=fun H cs x=>∃ aM cM aK cK aP cP,cs = aGg x aM cM aK cK aP cP ∧ SlR (eO .i64) H aM cM x.M ∧ SlR (eO .i64) H aK cK x.K ∧ SlR (slR (eO .i64)) H aP cP x.P ∧ x.D.length = 32
 len:=fun ⟨_,_,_,_,_,_,h,_⟩=>by subst h;rfl
 one:=fun ⟨_,_,_,_,_,_,h,_⟩=>by subst h;rfl
 mono:=fun hle ⟨aM,cM,aK,cK,aP,cP,h,h1,h2,h3,h4⟩=>⟨aM,cM,aK,cK,aP,cP,h,h1.mono hle,h2.mono hle,h3.mono hle,h4⟩
def aG4 (n : Int) (x : Jdg) (i : Nat) : Prop:=∃ m k p,x.M[i]? = some m ∧ x.K[i]? = some k ∧ x.P[i]? = some p ∧ (0 ≤ m ∧ m ≤ 1000) ∧ (0 ≤ k ∧ k < 1073741789) ∧ (p.length : Int) = n - 1 ∧ ∀ y ∈ p,0 ≤ y ∧ y < 1073741789
theorem crit_step {n : Int} {x : Jdg} {q : Nat} (h : ∀ i,i < q → aG4 n x i) (hq : aG4 n x q) : ∀ i,i < q + 1 → aG4 n x i:=by
 intro i hi
 rcases Nat.lt_or_ge i q with h1 | h1
 ·exact h i h1
 obtain rfl : i = q:=by omega
 exact hq
structure jOK (c n : Int) (x : Jdg) : Prop where
 m : (x.M.length : Int) = c
 k : (x.K.length : Int) = c
 p : (x.P.length : Int) = c
 a : ∀ i : Nat,(i : Int) < c → aG4 n x i
def Rgt (l : List Jdg) (c n : Int) : Prop:=∀ x ∈ l,jOK c n x
theorem jOK.M {c n : Int} {x : Jdg} (h : jOK c n x) : ∀ y ∈ x.M,0 ≤ y ∧ y ≤ 1000:=by
 intro y hy
 obtain ⟨i,hi⟩:=List.mem_iff_getElem?.1 hy
 have hl:=(List.getElem?_eq_some_iff.1 hi).1
 obtain ⟨m,k,p,h1,h2,h3,h4,h5,h6,h7⟩:=h.a i (by have:=h.m;omega)
 rw [hi] at h1;cases h1;exact h4
theorem jOK.K {c n : Int} {x : Jdg} (h : jOK c n x) : ∀ y ∈ x.K,0 ≤ y ∧ y ≤ 1073741788:=by
 intro y hy
 obtain ⟨i,hi⟩:=List.mem_iff_getElem?.1 hy
 have hl:=(List.getElem?_eq_some_iff.1 hi).1
 obtain ⟨m,k,p,h1,h2,h3,h4,h5,h6,h7⟩:=h.a i (by have:=h.k;omega)
 rw [hi] at h2;cases h2;omega
theorem jOK.P {c n : Int} {x : Jdg} (h : jOK c n x) : ∀ y ∈ x.P,(y.length : Int) = n - 1 ∧ ∀ z ∈ y,0 ≤ z ∧ z < 1073741789:=by
 intro y hy
 obtain ⟨i,hi⟩:=List.mem_iff_getElem?.1 hy
 have hl:=(List.getElem?_eq_some_iff.1 hi).1
 obtain ⟨m,k,p,h1,h2,h3,h4,h5,h6,h7⟩:=h.a i (by have:=h.p;omega)
 rw [hi] at h3;cases h3;exact ⟨h6,h7⟩
def rD (x : Jdg) (n : Nat) : List (List Ra.Pt):=List.zipWith (fun k p=>Ra.dealL (k :: p) n) x.K x.P
theorem aH5 {x : Jdg} {n i : Nat} {k : Int} {p : List Int} (hk : x.K[i]? = some k) (hp : x.P[i]? = some p) : (rD x n)[i]? = some (Ra.dealL (k :: p) n):=by
 unfold rD;rw [List.getElem?_zipWith,hk,hp]
theorem aLi (x : Jdg) (n : Nat) : (rD x n).length ≤ x.K.length:=by unfold rD;rw [List.length_zipWith];omega
def cdJ (tb : List Int × List Int) (x : Jdg) (j : Nat) : Card:=aLs tb 0 0 (j : Int) x.M x.K x.D
def jd0 : Jdg:=⟨[],[],[],[],false,false⟩
def cdN (tb : List Int × List Int) (l : List Jdg) (j : Nat) : Card:=cdJ tb (l.getD j jd0) j
theorem xJ {tb : List Int × List Int} {l : List Jdg} {j : Nat} {x : Jdg} (h : l[j]? = some x) : cdN tb l j = cdJ tb x j:=by
 unfold cdN;rw [List.getD_eq_getElem?_getD,h];rfl
theorem addQ_b (a b : Int) : 0 ≤ xD a b ∧ xD a b ≤ 1073741788:=by unfold xD;omega
theorem zipQ {m k : List Int} : ∀ y ∈ List.zipWith xD m k,0 ≤ y ∧ y ≤ 1073741788:=by
  intro y hy
  obtain ⟨i,hi⟩:=List.mem_iff_getElem?.1 hy
  rw [List.getElem?_zipWith] at hi
  cases h1 : m[i]? with
  | none=>rw [h1] at hi;cases hi
  | some a =>
    cases h2 : k[i]? with
    | none=>rw [h1,h2] at hi;cases hi
    | some b =>
      rw [h1,h2] at hi
      have hi:=Option.some.inj hi
      rw [← hi]
      exact addQ_b a b
theorem jOK.km {c n : Int} {x : Jdg} (h : jOK c n x) (hc : 1 ≤ c ∧ c ≤ 64) : nB x.M 1000:=⟨by have:=h.m;omega,h.M⟩
theorem jOK.kk {c n : Int} {x : Jdg} (h : jOK c n x) (hc : 1 ≤ c ∧ c ≤ 64) : nB x.K 1073741788:=⟨by have:=h.k;omega,h.K⟩
theorem aFj {tb : List Int × List Int} {c n : Int} {x : Jdg} (h : jOK c n x) (j : Nat) : ((cdJ tb x j).C.length : Int) = c:=by
 show ((List.zipWith xD x.M x.K).length : Int) = c
 have h1:=h.m;have h2:=h.k
 rw [List.length_zipWith];omega
theorem cd_plc {tb : List Int × List Int} {x : Jdg} {j : Nat} (hj : j ≤ 255) : aKo (cdJ tb x j):=by
 have h1 : (cdJ tb x j).R = 0:=rfl
 have h2 : (cdJ tb x j).E = 0:=rfl
 have h3 : (cdJ tb x j).J = (j : Int):=rfl
 unfold aKo
 rw [h1,h2,h3]
 omega
theorem cd_keys {tb : List Int × List Int} {c n : Int} {x : Jdg} (h : jOK c n x) (hc : 1 ≤ c ∧ c ≤ 64) (j : Nat) : nB (cdJ tb x j).C 1073741788:=by
 have h1:=aFj (tb:=tb) h j
 refine ⟨by omega,?_⟩
 show ∀ y ∈ List.zipWith xD x.M x.K,0 ≤ y ∧ y ≤ 1073741788
 exact zipQ
theorem aOd (tb : List Int × List Int) (x : Jdg) (j : Nat) : (cdJ tb x j).D.length = 32:=by
 dsimp only [cdJ,aLs]
 exact comF_len tb 0 0 (j : Int) x.M x.K x.D
theorem aMy {tb : List Int × List Int} {c n : Int} {x : Jdg} (h : jOK c n x) (hc : 1 ≤ c ∧ c ≤ 64) {j : Nat} (hj : j ≤ 255) : okP (cdJ tb x j):=And.intro (And.intro (cd_plc hj) (cd_keys h hc j)) (aOd tb x j)
/-! ### Boxes -/
theorem aFw {s : Card} (h : okP s) : IsBox (fun t=>t = s) [[s]] :=
 (aBd (R:=[]) IsBox.empty h (fun x hx=>by cases hx)).congr (fun t=>⟨fun h=>h.elim False.elim id,Or.inr⟩)
theorem aKs {l m : Box} (hl : kV l) (hm : kV m) : (pmB l m).length ≤ 2 * l.length + 2 * m.length:=by
 unfold pmB
 have h1:=aHf (mrg l.flatten m.flatten)
 rw [aA3] at h1
 have:=qO hl;have:=qO hm
 omega
theorem IsBox.good {P : Card → Prop} {r : Box} (h : IsBox P r) : kV r:=fun x hx=>⟨by have:=xU (h.ok x hx);omega,aBk (h.ok x hx)⟩
def oV (tb : List Int × List Int) (l : List Jdg) (e : Bool) : Nat → Box
 | 0=>[]
 | k + 1=>if (l.getD k jd0).L = e then pmB (oV tb l e k) [[cdN tb l k]] else oV tb l e k
theorem nP {tb : List Int × List Int} {l : List Jdg} (e : Bool) (hok : ∀ j,j < l.length → okP (cdN tb l j)) : ∀ k,k ≤ l.length → IsBox (fun s=>∃ i,i < k ∧ (l.getD i jd0).L = e ∧ s = cdN tb l i) (oV tb l e k)
  | 0,_=>IsBox.empty.congr (fun s=>⟨fun h=>h.elim,fun ⟨i,hi,_⟩=>absurd hi (by omega)⟩)
  | k + 1,hk=>by
    have ih:=nP e hok k (by omega)
    rw [oV]
    split
    · rename_i he
      refine (aM5 ih (aFw (hok k (by omega)))).congr (fun s=>⟨?_,?_⟩)
      · rintro (⟨i,h1,h2,h3⟩ | h)
        · exact ⟨i,by omega,h2,h3⟩
        exact ⟨k,by omega,he,h⟩
      rintro ⟨i,h1,h2,h3⟩
      by_cases hi : i = k
      · subst hi;exact .inr h3
      exact .inl ⟨i,by omega,h2,h3⟩
    rename_i he
    refine ih.congr (fun s=>⟨fun ⟨i,h1,h2,h3⟩=>⟨i,by omega,h2,h3⟩,fun ⟨i,h1,h2,h3⟩=>⟨i,?_,h2,h3⟩⟩)
    have : i ≠ k:=fun h=>by subst h;exact he h2
    omega
theorem aG5 {tb : List Int × List Int} {l : List Jdg} (e : Bool) (hok : ∀ j,j < l.length → okP (cdN tb l j)) : ∀ k,k ≤ l.length → (oV tb l e k).length + 2 ≤ 2 * 2 ^ k
  | 0,_=>by simp [oV]
  | k + 1,hk=>by
    have ih:=aG5 e hok k (by omega)
    have hb:=nP e hok k (by omega)
    rw [oV]
    split
    · have:=aKs hb.good (aFw (hok k (by omega))).good
      simp only [List.length_cons,List.length_nil] at this
      rw [Nat.pow_succ];omega
    rw [Nat.pow_succ];omega
theorem qN {tb : List Int × List Int} {l : List Jdg} (e : Bool) (hok : ∀ j,j < l.length → okP (cdN tb l j)) (hl : l.length ≤ 5) {k : Nat} (hk : k ≤ l.length) : (oV tb l e k).length ≤ 62:=by
 have:=aG5 e hok k hk
 have h2 : 2 ^ k ≤ 2 ^ 5:=Nat.pow_le_pow_right (by decide) (by omega)
 omega
def tL (tb : List Int × List Int) (l : List Jdg) (k : Nat) : Box:=(List.range k).map fun i=>[cdN tb l i]
theorem rowN_succ (tb : List Int × List Int) (l : List Jdg) (k : Nat) : tL tb l (k + 1) = tL tb l k ++ [[cdN tb l k]]:=by
 unfold tL;rw [List.range_succ,List.map_append];rfl
theorem aA6 (tb : List Int × List Int) (l : List Jdg) (i : Nat) : fU (cdN tb l i) = [0,0,(i : Int)]:=rfl
theorem plc_lt {i k : Nat} (h : i < k) : iD [0,0,(i : Int)] [0,0,(k : Int)] < 0:=by
 have h1 : sgn 0 0 = 0:=rfl
 have h2 : sgn (i : Int) (k : Int) = -1:=uK (by omega)
 simp [iD,h1,h2]
theorem xT {tb : List Int × List Int} {l : List Jdg} (hok : ∀ j,j < l.length → okP (cdN tb l j)) : ∀ k,k ≤ l.length → IsBox (fun s=>∃ i,i < k ∧ s = cdN tb l i) (tL tb l k)
  | 0,_=>IsBox.empty.congr (fun s=>⟨fun h=>h.elim,fun ⟨i,hi,_⟩=>absurd hi (by omega)⟩)
  | k + 1,hk=>by
    rw [rowN_succ]
    refine (aBd (xT hok k (by omega)) (hok k (by omega)) (fun x hx=>?_)).congr (fun s=>⟨?_,?_⟩)
    · obtain ⟨i,hi,rfl⟩:=List.mem_map.1 hx
      have:=List.mem_range.1 hi
      show iD (fU (cdN tb l i)) (fU (cdN tb l k)) < 0
      rw [aA6,aA6];exact plc_lt this
    · rintro (⟨i,h1,h2⟩ | h)
      · exact ⟨i,by omega,h2⟩
      exact ⟨k,by omega,h⟩
    rintro ⟨i,h1,h2⟩
    by_cases hi : i = k
    · subst hi;exact .inr h2
    exact .inl ⟨i,by omega,h2⟩
theorem lF (tb : List Int × List Int) (l : List Jdg) (k : Nat) : (tL tb l k).length = k:=by simp [tL]
theorem merge_row {tb : List Int × List Int} {l : List Jdg} (e : Bool) (hok : ∀ j,j < l.length → okP (cdN tb l j)) : pmB (oV tb l e l.length) (oV tb l (!e) l.length) = tL tb l l.length :=
 IsBox.uniq (aM5 (nP e hok _ (Nat.le_refl _)) (nP (!e) hok _ (Nat.le_refl _))) (xT hok _ (Nat.le_refl _)) (fun s=>⟨fun h=>by
  rcases h with ⟨i,h1,_,h3⟩ | ⟨i,h1,_,h3⟩ <;> exact ⟨i,h1,h3⟩,fun ⟨i,h1,h3⟩=>by
  by_cases h2 : (l.getD i jd0).L = e
  ·exact .inl ⟨i,h1,h2,h3⟩
  exact .inr ⟨i,h1,by cases e <;> cases h : (l.getD i jd0).L <;> simp_all,h3⟩⟩)
theorem aIx {tb : List Int × List Int} {l : List Jdg} (e : Bool) (hok : ∀ j,j < l.length → okP (cdN tb l j)) (hl : l.length ≤ 5) {k : Nat} (hk : k < l.length) :
  aCk (oV tb l e k) (cdN tb l k) = 0 ∧ aG3 (oV tb l e k) (cdN tb l k) = pmB (oV tb l e k) [[cdN tb l k]]:=by
 have hb:=nP e hok k (by omega)
 have hf:=qN e hok hl (k:=k) (by omega)
 have h0:=hb.chk (by omega)
 have hp:=aKs hb.good (aFw (hok k hk)).good
 simp only [List.length_cons,List.length_nil] at hp
 obtain ⟨h1,h2⟩:=aEs h0 (hok k hk).1;obtain ⟨h3,h4⟩:=p_0 (X:=pmB (oV tb l e k) [[cdN tb l k]]) (by omega)
 exact ⟨h1.trans h3,h2.trans h4⟩
theorem aKb {tb : List Int × List Int} {l : List Jdg} (e : Bool) (hok : ∀ j,j < l.length → okP (cdN tb l j)) (hl : l.length ≤ 5) :
  aC1 (oV tb l e l.length) (oV tb l (!e) l.length) = 0 ∧ aHi (oV tb l e l.length) (oV tb l (!e) l.length) = tL tb l l.length:=by
 have h0:=(nP e hok _ (Nat.le_refl _)).chk (by have:=qN e hok hl (Nat.le_refl _);omega)
 have h0':=(nP (!e) hok _ (Nat.le_refl _)).chk (by have:=qN (!e) hok hl (Nat.le_refl _);omega)
 have hm:=merge_row (tb:=tb) e hok
 obtain ⟨h1,h2⟩:=aFi h0 h0';obtain ⟨h3,h4⟩:=p_0 (X:=tL tb l l.length) (by rw [lF];omega)
 rw [hm] at h1 h2
 exact ⟨h1.trans h3,h2.trans h4⟩
theorem aA0 {tb : List Int × List Int} {l : List Jdg} (hok : ∀ j,j < l.length → okP (cdN tb l j)) (hl : l.length ≤ 5) : jM (tL tb l l.length) = 0:=(xT hok _ (Nat.le_refl _)).chk (by rw [lF];omega)
theorem aCi {tb : List Int × List Int} {l : List Jdg} (hok : ∀ j,j < l.length → okP (cdN tb l j)) (hl : l.length ≤ 5) {j : Nat} (hj : j < l.length) : aHw (tL tb l l.length) [0,0,(j : Int)] = some (cdN tb l j):=by
 refine (aFq (k:=j) (x:=[cdN tb l j]) (aA0 hok hl) (fun y hy=>?_) ?_ ⟨aA6 _ _ _,rfl⟩).1
 ·rintro ⟨h1,_⟩;obtain ⟨q,hq⟩:=List.mem_iff_getElem?.1 hy
  rw [List.getElem?_take] at hq
  split at hq
  ·rename_i hqj
   unfold tL at hq
   rw [List.getElem?_map,List.getElem?_range (by omega)] at hq
   simp only [Option.map_some,Option.some.injEq] at hq
   subst hq
   rw [show hd [cdN tb l q] = cdN tb l q from rfl,aA6] at h1
   simp at h1
   omega
  cases hq
 unfold tL
 rw [List.getElem?_map,List.getElem?_range hj];rfl
theorem Rgt.ok {tb : List Int × List Int} {l : List Jdg} {c n : Int} (h : Rgt l c n) (hc : 1 ≤ c ∧ c ≤ 64) (hl : l.length ≤ 5) : ∀ j,j < l.length → okP (cdN tb l j):=by
 intro j hj
 rw [xJ (List.getElem?_eq_getElem hj)]
 exact aMy (h _ (List.getElem_mem hj)) hc (by omega)
theorem aEx {tb : List Int × List Int} {l : List Jdg} {e : Bool} {k : Nat} (h : (l.getD k jd0).L = e) : pmB (oV tb l e k) [[cdN tb l k]] = oV tb l e (k + 1):=by rw [oV,if_pos h]
theorem aE0 {tb : List Int × List Int} {l : List Jdg} {e : Bool} {k : Nat} (h : ¬ (l.getD k jd0).L = e) : oV tb l e k = oV tb l e (k + 1):=by rw [oV,if_neg h]
theorem vQ (b : Box) (e : Int) : ∀ v H H',Le H H' → jW b e H v → jW b e H' v:=fun _ _ _ hle ⟨a,c,h,k⟩=>⟨a,c,h,k.mono hle⟩
theorem vE {l : List Jdg} {k : Nat} {x : Jdg} (h : l[k]? = some x) : l.getD k jd0 = x:=by rw [List.getD_eq_getElem?_getD,h];rfl
theorem make_cd {tb : List Int × List Int} {H : Hp} (hT : TB H tb) {l : List Jdg} {k : Nat} {x : Jdg} (hx : l[k]? = some x) {c n : Int} (h : jOK c n x) (hc : 1 ≤ c ∧ c ≤ 64) (hk : k ≤ 255) {b b' : Option Addr} {d d' : Nat} (hm : SlR (eO .i64) H b d x.M) (hkk : SlR (eO .i64) H b' d' x.K) (hD : x.D.length = 32) :
  FnC Tryz.prog 16 #[.int .i64 0,.int .i64 0,.int .i64 (k : Nat),.slice b x.M.length d,.slice b' x.K.length d',.agg ⟨d32 x.D⟩] H [] (bX fun v H2 own=>own = [] ∧ ∃ a c,v = .tuple #[.agg ⟨fA (cdN tb l k).R (cdN tb l k).E (cdN tb l k).J (cdN tb l k).C.length (cdN tb l k).D a c⟩,.int .i64 0] ∧ SlR (eO .i64) H2 a c (cdN tb l k).C):=by
 rw [xJ hx]
 dsimp only [cdJ,aLs]
 exact make_fn tb H hT 0 0 (k : Int) b b' d d' x.M x.K x.D hm hkk hD (by unfold aMl;omega) (h.km hc) (h.kk hc) (by have:=h.m;have:=h.k;omega)
theorem oS {b : Box} (h : kV b) : (∀ x ∈ b,x.length < 9223372036854775808) ∧ ∀ x ∈ b,∀ s ∈ x,s.C.length < 9223372036854775808 :=
 ⟨fun x hx=>by have:=(h x hx).1.2;omega,fun x hx s hs=>by have:=((h x hx).2 s hs).2.1;omega⟩
end Go.Proofs

namespace Go.Proofs
open Go.XL
theorem by_62 : Nat.ble (Tryz.prog.bytesOf 62) 4096 = true:=by kernel_rfl
theorem wG : fW Tryz.prog 37 0 = some 0:=by kernel_rfl
theorem tD : fW Tryz.prog 37 1 = some 1:=by kernel_rfl
theorem aBc : fW Tryz.prog 37 3 = some 34:=by kernel_rfl
theorem aJo : tyF Tryz.prog 35 1 false = true:=by kernel_rfl
theorem oU : tyF Tryz.prog 37 37 true = true:=by kernel_rfl
theorem aAt : tyF Tryz.prog 62 1 false = true:=by kernel_rfl
theorem aHa : gH Tryz.prog 37 = some [.slice none 0 0,.slice none 0 0,.int .u8 0,.int .u8 0,.int .u8 0,.int .u8 0,.int .u8 0,.int .u8 0,.int .u8 0,.int .u8 0,.int .u8 0,.int .u8 0,.int .u8 0,.int .u8 0,.int .u8 0,.int .u8 0,.int .u8 0,.int .u8 0,.int .u8 0,.int .u8 0,.int .u8 0,.int .u8 0,.int .u8 0,.int .u8 0,.int .u8 0,.int .u8 0,.int .u8 0,.int .u8 0,.int .u8 0,.int .u8 0,.int .u8 0,.int .u8 0,.int .u8 0,.int .u8 0,.slice none 0 0,.bool false,.bool false]:=by kernel_rfl
theorem aNp : gH Tryz.prog 62 = some [.slice none 0 0]:=by kernel_rfl
set_option maxRecDepth 100000 in
set_option maxHeartbeats 1600000 in
theorem right36_fn (a : Option Addr) (c : Nat) (l : List Jdg) (cr n : Int) (H : Hp) (hs : SlR aL1 H a c l) (hl : l.length ≤ 1000) (hc : 0 ≤ cr ∧ cr ≤ 64) (hn : 0 ≤ n ∧ n ≤ 100) : FnC Tryz.prog 5 #[.slice a l.length c,.int .i64 cr,.int .i64 n] H [] (bX (fun v _ _=>∃ b : Bool,v = .bool b ∧ (b = true → Rgt l cr n))):=by
 refine FnC.intro (args:=[.slice a l.length c,.int .i64 cr,.int .i64 n]) Tryz.func5 rfl rfl Tryz.ntmps5 rfl rfl rfl fun G rest=>?_
 refine aZ (aH (bA rfl rfl (aE (aR (aZ (aZ (aH (aU rfl rfl (cH (ts:=#[]) rfl Tryz.underlying22 rfl (aU rfl rfl (aE (aR (bT (cE [14,1,2,12,13] rfl (eE (base:=[(1,_),(2,_),(12,_),(13,_)]) (fun ζ : Nat=>[(14,.int .i64 (ζ : Nat))]) (fun ζ Hl own=>ζ ≤ l.length ∧ rest = own ∧ (∀ x ∈ l.take (ζ),jOK cr n x)) (fun ζ=>l.length - ζ) 0 (aQ rfl (aQ rfl (aQ rfl (aQ rfl (aQ rfl bP))))) (by repeat(first|exact sL _|apply sD|apply sC)) ⟨Nat.zero_le _,rfl,by simp⟩ ?_)))))))))))))));rintro k Hl0 _ bM ⟨hkk,rfl,hok⟩;replace hs:=hs.mono bM
 try dsimp only at ⊢
 refine aZ (aH (dN rfl rfl rfl (aE (aR (aZ (cW rfl (fun gJ=>?_) (fun gJ=>?_)))))))
 ·refine bS (aR (aZ (bT (aZ (aH (dK rfl hs rfl Tryz.underlying22 oU (by omega) rfl ?_))))));rintro eb16 eo16 _ x16 pM ⟨aM16,cM16,aK16,cK16,aP16,cP16,rfl,hM16,hK16,hP16,hD16⟩ kI;refine cQ rfl (by assumption) oU rfl rfl rfl (dC aHa rfl (fun b8=>bZ 0 rfl rfl rfl rfl oU rfl rfl rfl rfl rfl (aE (aR (aZ (aZ (aH (bD rfl wG rfl (bK 0 rfl rfl gZ rfl rfl rfl (cH (ts:=#[]) rfl Tryz.underlying26 rfl (aU rfl rfl (fZ rfl rfl rfl (aU rfl rfl (eW rfl rfl rfl rfl (fun g3=>?_) (fun g3=>?_)))))))))))))))
  ·have g3p:=of_decide_eq_false g3
   refine bD rfl tD rfl (bE rfl rfl (g3) rfl (bK 0 rfl rfl gZ rfl rfl rfl (bE rfl rfl (g3) rfl (cH (ts:=#[]) rfl Tryz.underlying26 rfl (bE rfl rfl (g3) rfl (aU rfl rfl (bE rfl rfl (g3) rfl (fZ rfl rfl rfl (dL rfl (g3) rfl rfl (aU rfl rfl (eW rfl rfl rfl rfl (fun g4=>?_) (fun g4=>?_))))))))))))
   ·have g4p:=of_decide_eq_false g4
    refine bD rfl aBc rfl (bE rfl rfl (g4) rfl (bK 0 rfl rfl aJo rfl rfl rfl (bE rfl rfl (g4) rfl (cH (ts:=#[]) rfl Tryz.underlying35 rfl (bE rfl rfl (g4) rfl (aU rfl rfl (bE rfl rfl (g4) rfl (fZ rfl rfl rfl (dL rfl (g4) rfl rfl (aE (aR (cW rfl (fun c1_5=>?_) (fun c1_5=>?_)))))))))))))
    ·refine aZ (aH (bA rfl rfl (aE (aR (bW (bY (dQ (bY (eG (dQ (bY ?_)))))))))));refine ⟨rfl,_,[],rfl,(by repeat(first|exact sL _|apply sC)),bX.mk ?_⟩
     first | exact ⟨false,rfl,fun h=>by cases h⟩ | exact ⟨true,rfl,fun _=>hok⟩
    refine bS (aR (aZ (aH (aU rfl rfl (aU rfl rfl (aE (aR (bT (cE [38,1,2,8,12,13,14,37] rfl (eE (base:=[(1,_),(2,_),(8,_),(12,_),(13,_),(14,_),(37,_)]) (fun ζ : Nat=>[(38,.int .i64 (ζ : Nat))]) (fun ζ Hl own=>ζ ≤ cr.toNat ∧ (b8,.cells 37 (aGg x16 aM16 cM16 aK16 cK16 aP16 cP16)) :: rest = own ∧ (∀ i,i < (ζ) → aG4 n x16 i)) (fun ζ=>cr.toNat - ζ) 0 (aQ rfl (aQ rfl (aQ rfl (aQ rfl (aQ rfl (aQ rfl (aQ rfl (aQ rfl bP)))))))) (by repeat(first|exact sL _|apply sD|apply sC)) ⟨Nat.zero_le _,rfl,(fun i h=>absurd h (by omega))⟩ ?_))))))))));rintro q Hl1 _ cD ⟨hkq,rfl,hcr⟩;replace hs:=hs.mono cD;replace kI:=kI.mono cD;replace hM16:=hM16.mono cD;replace hK16:=hK16.mono cD;replace hP16:=hP16.mono cD;replace bM:=bM.trans cD
    try dsimp only at ⊢
    refine aZ (aH (dN rfl rfl rfl (aE (aR (aZ (cW rfl (fun c2_6=>?_) (fun c2_6=>?_)))))))
    ·refine bS (aR (aZ (bT (aZ (aH (aU rfl rfl (bA rfl rfl (aE (aR (aZ (aZ (aH (bD rfl wG rfl (bK 0 rfl rfl gZ rfl rfl rfl (aU rfl rfl (dK rfl hM16 rfl Tryz.underlying26 dT (by omega) rfl ?_))))))))))))))));rintro eb44 eo44 _ x44 hx44 rfl hp44;refine cQ rfl (by assumption) dT rfl rfl rfl (dN rfl rfl rfl (aU rfl rfl (eW rfl rfl rfl rfl (fun g8=>?_) (fun g8=>?_))))
     ·have g8p:=of_decide_eq_false g8
      refine bD rfl wG rfl (bE rfl rfl (g8) rfl (bK 0 rfl rfl gZ rfl rfl rfl (bE rfl rfl (g8) rfl (aU rfl rfl (bE rfl rfl (g8) rfl (dK rfl hM16 rfl Tryz.underlying26 dT (by omega) rfl ?_))))));rintro eb51 eo51 _ x51 hx51 rfl hp51;obtain rfl:=Option.some.inj (hx44.symm.trans hx51);refine bE rfl rfl (g8) rfl (cQ rfl (by assumption) dT rfl rfl rfl (bE rfl rfl (g8) rfl (lT rfl rfl rfl (dL rfl (g8) rfl rfl (aU rfl rfl (eW rfl rfl rfl rfl (fun g10=>?_) (fun g10=>?_)))))))
      ·have g10p:=of_decide_eq_false g10
       refine bD rfl tD rfl (bE rfl rfl (g10) rfl (bK 0 rfl rfl gZ rfl rfl rfl (bE rfl rfl (g10) rfl (aU rfl rfl (bE rfl rfl (g10) rfl (dK rfl hK16 rfl Tryz.underlying26 dT (by omega) rfl ?_))))));rintro eb59 eo59 _ x59 hx59 rfl hp59;refine bE rfl rfl (g10) rfl (cQ rfl (by assumption) dT rfl rfl rfl (bE rfl rfl (g10) rfl (dN rfl rfl rfl (dL rfl (g10) rfl rfl (aU rfl rfl (eW rfl rfl rfl rfl (fun g12=>?_) (fun g12=>?_)))))))
       ·have g12p:=of_decide_eq_false g12
        refine bD rfl tD rfl (bE rfl rfl (g12) rfl (bK 0 rfl rfl gZ rfl rfl rfl (bE rfl rfl (g12) rfl (aU rfl rfl (bE rfl rfl (g12) rfl (dK rfl hK16 rfl Tryz.underlying26 dT (by omega) rfl ?_))))));rintro eb67 eo67 _ x67 hx67 rfl hp67;obtain rfl:=Option.some.inj (hx59.symm.trans hx67);refine bE rfl rfl (g12) rfl (cQ rfl (by assumption) dT rfl rfl rfl (bE rfl rfl (g12) rfl (jC rfl rfl rfl (dL rfl (g12) rfl rfl (aU rfl rfl (eW rfl rfl rfl rfl (fun g14=>?_) (fun g14=>?_)))))))
        ·have g14p:=of_decide_eq_false g14
         refine bD rfl aBc rfl (bE rfl rfl (g14) rfl (bK 0 rfl rfl aJo rfl rfl rfl (bE rfl rfl (g14) rfl (aU rfl rfl (bE rfl rfl (g14) rfl (dK rfl hP16 rfl Tryz.underlying35 gZ (by omega) rfl ?_))))));rintro eb75 eo75 _ x75 hx75 ⟨ax75,cx75,rfl,hd75⟩ hp75;refine bE rfl rfl (g14) rfl (cQ rfl (by assumption) gZ rfl rfl rfl (bE rfl rfl (g14) rfl (cH (ts:=#[]) rfl Tryz.underlying26 rfl (bE rfl rfl (g14) rfl (aU rfl rfl (bE rfl rfl (g14) rfl (iF rfl rfl (bU (by omega) (by omega)) rfl (bE rfl rfl (g14) rfl (fZ rfl rfl rfl (dL rfl (g14) rfl rfl (aE (aR (cW rfl (fun c3_16=>?_) (fun c3_16=>?_))))))))))))))
         ·refine aZ (aH (bA rfl rfl (aE (aR (bW (bY (dQ (bY (eG (dQ (dQ (bY (eG (dQ (bY ?_)))))))))))))));refine ⟨rfl,_,[],rfl,(by repeat(first|exact sL _|apply sC)),bX.mk ?_⟩
          first | exact ⟨false,rfl,fun h=>by cases h⟩ | exact ⟨true,rfl,fun _=>hok⟩
         refine bS (aR (aZ (aH (bD rfl aBc rfl (bK 0 rfl rfl aJo rfl rfl rfl (aU rfl rfl (dK rfl hP16 rfl Tryz.underlying35 gZ (by omega) rfl ?_)))))));rintro eb85 eo85 _ x85 hx85 ⟨ax85,cx85,rfl,hd85⟩ hp85;obtain rfl:=Option.some.inj (hx75.symm.trans hx85);refine cQ rfl (by assumption) gZ rfl rfl rfl (cH (ts:=#[]) rfl Tryz.underlying26 rfl (aU rfl rfl (aE (aR (bT (cE [88,1,2,8,12,13,14,37,38,86,87] rfl (eE (base:=[(1,_),(2,_),(8,_),(12,_),(13,_),(14,_),(37,_),(38,_),(86,_),(87,_)]) (fun ζ : Nat=>[(88,.int .i64 (ζ : Nat))]) (fun ζ Hl own=>ζ ≤ x75.length ∧ (b8,.cells 37 (aGg x16 aM16 cM16 aK16 cK16 aP16 cP16)) :: rest = own ∧ (∀ y ∈ x75.take (ζ),0 ≤ y ∧ y < 1073741789)) (fun ζ=>x75.length - ζ) 0 (aQ rfl (aQ rfl (aQ rfl (aQ rfl (aQ rfl (aQ rfl (aQ rfl (aQ rfl (aQ rfl (aQ rfl (aQ rfl bP))))))))))) (by repeat(first|exact sL _|apply sD|apply sC)) ⟨Nat.zero_le _,rfl,by simp⟩ ?_)))))));rintro r Hl2 _ eM ⟨hkr,rfl,hq⟩;replace hs:=hs.mono eM;replace kI:=kI.mono eM;replace hM16:=hM16.mono eM;replace hK16:=hK16.mono eM;replace hP16:=hP16.mono eM;replace hp44:=hp44.mono eM;replace hp51:=hp51.mono eM;replace hp59:=hp59.mono eM;replace hp67:=hp67.mono eM;replace hp75:=hp75.mono eM;replace hd75:=hd75.mono eM;replace hp85:=hp85.mono eM;replace hd85:=hd85.mono eM;replace bM:=bM.trans eM;replace cD:=cD.trans eM
         try dsimp only at ⊢
         have hb75 : x75.length ≤ 100:=by omega
         refine aZ (aH (dN rfl rfl rfl (aE (aR (aZ (cW rfl (fun c4_18=>?_) (fun c4_18=>?_)))))))
         ·refine bS (aR (aZ (bT (aZ (aH (dK rfl hd85 rfl Tryz.underlying26 dT (by omega) rfl ?_))))));rintro eb90 eo90 _ x90 hx90 rfl hp90;refine cQ rfl (by assumption) dT rfl rfl rfl (bA rfl rfl (aE (aR (aZ (aH (aU rfl rfl (dN rfl rfl rfl (aU rfl rfl (eW rfl rfl rfl rfl (fun g20=>?_) (fun g20=>?_))))))))))
          ·have g20p:=of_decide_eq_false g20
           refine aU rfl rfl (bE rfl rfl (g20) rfl (jC rfl rfl rfl (dL rfl (g20) rfl rfl (aE (aR (cW rfl (fun c5_21=>?_) (fun c5_21=>?_)))))))
           ·refine aZ (aH (bA rfl rfl (aE (aR (bW (dQ (bY (eG (dQ (dQ (bY (eG (dQ (dQ (bY (eG (dQ (bY ?_))))))))))))))))));refine ⟨rfl,_,[],rfl,(by repeat(first|exact sL _|apply sC)),bX.mk ?_⟩
            first | exact ⟨false,rfl,fun h=>by cases h⟩ | exact ⟨true,rfl,fun _=>hok⟩
           refine bS (dP (aR (aH (dJ rfl rfl (bU (by omega) (by omega)) rfl (aU rfl rfl (aE (cR (r + 1) (by show x75.length - (r + 1) < x75.length - r;omega) (aQ rfl (aQ rfl (aQ rfl (aQ rfl (aQ rfl (aQ rfl (aQ rfl (aQ rfl (aQ rfl (aQ rfl (aQ rfl bP))))))))))) (⟨by show r + 1 ≤ x75.length;omega,rfl,lP (p:=fun y : Int=>0 ≤ y ∧ y < 1073741789) hq hx90 (by omega)⟩) (by repeat(first|exact sL _|apply sD|apply sC)) (eM))))))))
          have g20p:=of_decide_eq_true g20
          refine bL rfl rfl (g20) rfl rfl (dE rfl (g20) rfl rfl (aE (aR (eY rfl rfl (aZ (aH (bA rfl rfl (aE (aR (bW (dQ (bY (eG (dQ (dQ (bY (eG (dQ (dQ (bY (eG (dQ (bY ?_)))))))))))))))))))))));refine ⟨rfl,_,[],rfl,(by repeat(first|exact sL _|apply sC)),bX.mk ?_⟩
          first | exact ⟨false,rfl,fun h=>by cases h⟩ | exact ⟨true,rfl,fun _=>hok⟩
         obtain rfl : r = x75.length:=by omega
         rw [List.take_length] at hq
         refine dX (dA (cZ (dI rfl (dP (aR (aH (dJ rfl rfl (bU (by omega) (by omega)) rfl (aU rfl rfl (aE (cR (q + 1) (by show cr.toNat - (q + 1) < cr.toNat - q;omega) (aQ rfl (aQ rfl (aQ rfl (aQ rfl (aQ rfl (aQ rfl (aQ rfl (aQ rfl bP)))))))) (⟨by show q + 1 ≤ cr.toNat;omega,rfl,crit_step hcr ⟨x44,x59,x75,hx44,hx59,hx75,by omega,by omega,by omega,hq⟩⟩) (by repeat(first|exact sL _|apply sD|apply sC)) (cD)))))))))))
        have g14p:=of_decide_eq_true g14
        refine bL rfl rfl (g14) rfl rfl (bL rfl rfl (g14) rfl rfl (bL rfl rfl (g14) rfl rfl (bL rfl rfl (g14) rfl rfl (bL rfl rfl (g14) rfl rfl (bL rfl rfl (g14) rfl rfl (bL rfl rfl (g14) rfl rfl (bL rfl rfl (g14) rfl rfl (dE rfl (g14) rfl rfl (aE (aR (eY rfl rfl (aZ (aH (bA rfl rfl (aE (aR (bW (bY (dQ (bY (eG (dQ (dQ (bY (eG (dQ (bY ?_)))))))))))))))))))))))))));refine ⟨rfl,_,[],rfl,(by repeat(first|exact sL _|apply sC)),bX.mk ?_⟩
        first | exact ⟨false,rfl,fun h=>by cases h⟩ | exact ⟨true,rfl,fun _=>hok⟩
       have g12p:=of_decide_eq_true g12
       refine bL rfl rfl (g12) rfl rfl (bL rfl rfl (g12) rfl rfl (bL rfl rfl (g12) rfl rfl (bL rfl rfl (g12) rfl rfl (bL rfl rfl (g12) rfl rfl (dE rfl (g12) rfl rfl (aU rfl rfl (bL rfl rfl rfl rfl rfl (bL rfl rfl rfl rfl rfl (bL rfl rfl rfl rfl rfl (bL rfl rfl rfl rfl rfl (bL rfl rfl rfl rfl rfl (bL rfl rfl rfl rfl rfl (bL rfl rfl rfl rfl rfl (bL rfl rfl rfl rfl rfl (bL rfl rfl rfl rfl rfl (dE rfl rfl rfl rfl (aE (aR (eY rfl rfl (aZ (aH (bA rfl rfl (aE (aR (bW (bY (dQ (bY (eG (dQ ?_))))))))))))))))))))))))))))));refine dQ (bY (eG (dQ (bY ?_))));refine ⟨rfl,_,[],rfl,(by repeat(first|exact sL _|apply sC)),bX.mk ?_⟩
       first | exact ⟨false,rfl,fun h=>by cases h⟩ | exact ⟨true,rfl,fun _=>hok⟩
      have g10p:=of_decide_eq_true g10
      refine bL rfl rfl (g10) rfl rfl (bL rfl rfl (g10) rfl rfl (bL rfl rfl (g10) rfl rfl (bL rfl rfl (g10) rfl rfl (bL rfl rfl (g10) rfl rfl (dE rfl (g10) rfl rfl (aU rfl rfl (bL rfl rfl rfl rfl rfl (bL rfl rfl rfl rfl rfl (bL rfl rfl rfl rfl rfl (bL rfl rfl rfl rfl rfl (bL rfl rfl rfl rfl rfl (bL rfl rfl rfl rfl rfl (dE rfl rfl rfl rfl (aU rfl rfl (bL rfl rfl rfl rfl rfl (bL rfl rfl rfl rfl rfl (bL rfl rfl rfl rfl rfl (bL rfl rfl rfl rfl rfl (bL rfl rfl rfl rfl rfl (bL rfl rfl rfl rfl rfl (bL rfl rfl rfl rfl rfl (bL rfl rfl rfl rfl rfl (bL rfl rfl rfl rfl rfl (dE rfl rfl rfl rfl (aE (aR (eY rfl rfl (aZ (aH (bA rfl rfl ?_))))))))))))))))))))))))))))));refine aE (aR (bW (bY (dQ (bY (eG (dQ (dQ (bY (eG (dQ (bY ?_))))))))))));refine ⟨rfl,_,[],rfl,(by repeat(first|exact sL _|apply sC)),bX.mk ?_⟩
      first | exact ⟨false,rfl,fun h=>by cases h⟩ | exact ⟨true,rfl,fun _=>hok⟩
     have g8p:=of_decide_eq_true g8
     refine bL rfl rfl (g8) rfl rfl (bL rfl rfl (g8) rfl rfl (bL rfl rfl (g8) rfl rfl (bL rfl rfl (g8) rfl rfl (bL rfl rfl (g8) rfl rfl (dE rfl (g8) rfl rfl (aU rfl rfl (bL rfl rfl rfl rfl rfl (bL rfl rfl rfl rfl rfl (bL rfl rfl rfl rfl rfl (bL rfl rfl rfl rfl rfl (bL rfl rfl rfl rfl rfl (bL rfl rfl rfl rfl rfl (dE rfl rfl rfl rfl (aU rfl rfl (bL rfl rfl rfl rfl rfl (bL rfl rfl rfl rfl rfl (bL rfl rfl rfl rfl rfl (bL rfl rfl rfl rfl rfl (bL rfl rfl rfl rfl rfl (bL rfl rfl rfl rfl rfl (dE rfl rfl rfl rfl (aU rfl rfl (bL rfl rfl rfl rfl rfl (bL rfl rfl rfl rfl rfl (bL rfl rfl rfl rfl rfl (bL rfl rfl rfl rfl rfl (bL rfl rfl rfl rfl rfl (bL rfl rfl rfl rfl rfl (bL rfl rfl rfl rfl rfl (bL rfl rfl rfl rfl rfl ?_))))))))))))))))))))))))))))));refine bL rfl rfl rfl rfl rfl (dE rfl rfl rfl rfl (aE (aR (eY rfl rfl (aZ (aH (bA rfl rfl (aE (aR (bW (bY (dQ (bY (eG (dQ (dQ (bY (eG (dQ (bY ?_))))))))))))))))))));refine ⟨rfl,_,[],rfl,(by repeat(first|exact sL _|apply sC)),bX.mk ?_⟩
     first | exact ⟨false,rfl,fun h=>by cases h⟩ | exact ⟨true,rfl,fun _=>hok⟩
    obtain rfl : q = cr.toNat:=by omega
    refine dX (dA (cZ (dI rfl (dP (aR (aH (dJ rfl rfl (bU (by omega) (by omega)) rfl (aU rfl rfl (aE (cR (k + 1) (by show l.length - (k + 1) < l.length - k;omega) (aQ rfl (aQ rfl (aQ rfl (aQ rfl (aQ rfl bP))))) (⟨by show k + 1 ≤ l.length;omega,rfl,lP (p:=fun x=>jOK cr n x) hok pM ⟨by omega,by omega,by omega,fun i hi=>hcr i (by omega)⟩⟩) (by repeat(first|exact sL _|apply sD|apply sC)) (bM)))))))))))
   have g4p:=of_decide_eq_true g4
   refine bL rfl rfl (g4) rfl rfl (bL rfl rfl (g4) rfl rfl (bL rfl rfl (g4) rfl rfl (bL rfl rfl (g4) rfl rfl (dE rfl (g4) rfl rfl (aE (aR (eY rfl rfl (aZ (aH (bA rfl rfl (aE (aR (bW (bY (dQ (bY (eG (dQ (bY ?_)))))))))))))))))));refine ⟨rfl,_,[],rfl,(by repeat(first|exact sL _|apply sC)),bX.mk ?_⟩
   first | exact ⟨false,rfl,fun h=>by cases h⟩ | exact ⟨true,rfl,fun _=>hok⟩
  have g3p:=of_decide_eq_true g3
  refine bL rfl rfl (g3) rfl rfl (bL rfl rfl (g3) rfl rfl (bL rfl rfl (g3) rfl rfl (bL rfl rfl (g3) rfl rfl (dE rfl (g3) rfl rfl (aU rfl rfl (bL rfl rfl rfl rfl rfl (bL rfl rfl rfl rfl rfl (bL rfl rfl rfl rfl rfl (bL rfl rfl rfl rfl rfl (bL rfl rfl rfl rfl rfl (dE rfl rfl rfl rfl (aE (aR (eY rfl rfl (aZ (aH (bA rfl rfl (aE (aR (bW (bY (dQ (bY (eG (dQ (bY ?_))))))))))))))))))))))))));refine ⟨rfl,_,[],rfl,(by repeat(first|exact sL _|apply sC)),bX.mk ?_⟩
  first | exact ⟨false,rfl,fun h=>by cases h⟩ | exact ⟨true,rfl,fun _=>hok⟩
 obtain rfl : k = l.length:=by omega
 rw [List.take_length] at hok
 refine dX (dA (cZ (dI rfl (aR (aZ (aH (bA rfl rfl (aE (aR (bW ?_))))))))));refine ⟨rfl,_,[],rfl,(by repeat(first|exact sL _|apply sC)),bX.mk ?_⟩
 first | exact ⟨false,rfl,fun h=>by cases h⟩ | exact ⟨true,rfl,fun _=>hok⟩
theorem dealt36_fn (x : Jdg) (aM aK aP : Option Addr) (cM cK cP : Nat) (n : Nat) (cr m : Int) (H : Hp) (hM : SlR (eO .i64) H aM cM x.M) (hK : SlR (eO .i64) H aK cK x.K) (hP : SlR (slR (eO .i64)) H aP cP x.P) (hD : x.D.length = 32) (hj : jOK cr m x) (hn : 1 ≤ n ∧ n ≤ 24) (hm : m ≤ n) (hcr : cr ≤ 64) : FnC Tryz.prog 11 #[.agg ⟨aGg x aM cM aK cK aP cP⟩,.int .i64 (n : Nat)] H [] (bX (fun v H2 _=>∃ a c,v = .tuple #[.slice a (rD x n).length c,.bool true] ∧ SlR (slR Ra.ptR) H2 a c (rD x n))):=by
 refine FnC.intro (args:=[.agg ⟨aGg x aM cM aK cK aP cP⟩,.int .i64 (n : Nat)]) Tryz.func11 rfl rfl Tryz.ntmps11 rfl rfl rfl fun G rest=>?_
 have hxk:=hj.k
 have hxp:=hj.p
 refine aZ (aH (dZ rfl rfl rfl (fun b2=>bA rfl rfl (bA rfl rfl (aE (aR (aZ (aZ (aH (bD rfl tD rfl (bK 0 rfl rfl gZ rfl rfl rfl (cH (ts:=#[]) rfl Tryz.underlying26 rfl (aU rfl rfl (aE (aR (bT (cE [4,13,1,2,11,12] rfl (iQ 0 (eE (base:=[(1,_),(2,_),(11,_),(12,_)]) (fun ζ : Nat × ((Nat × SObj) × Option Addr × Nat)=>[(4,.slice ζ.2.2.1 (((rD x n).take (ζ.1))).length ζ.2.2.2),(13,.int .i64 (ζ.1 : Nat))]) (fun ζ Hl own=>ζ.1 ≤ x.K.length ∧ ζ.2.1 :: (b2,.cells 37 (aGg x aM cM aK cK aP cP)) :: rest = own ∧ Acc (slR Ra.ptR) 62 Hl ζ.2.1 ζ.2.2.1 ζ.2.2.2 (((rD x n).take (ζ.1)))) (fun ζ=>x.K.length - ζ.1) (0,((0,.nothing),none,0)) (aQ rfl (aQ rfl (aQ rfl (aQ rfl (aQ rfl (aQ rfl bP)))))) (by repeat(first|exact sL _|apply sD|apply sC)) ⟨Nat.zero_le _,rfl,Acc.nil _ _ _ _⟩ ?_)))))))))))))))))));rintro ⟨k,⟨pw,aw,cw⟩⟩ Hl0 _ bM ⟨hkk,rfl,haccw⟩;replace hM:=hM.mono bM;replace hK:=hK.mono bM;replace hP:=hP.mono bM
 try dsimp only at hkk haccw ⊢
 refine aZ (aH (dN rfl rfl rfl (aE (aR (aZ (cW rfl (fun gJ=>?_) (fun gJ=>?_)))))))
 ·refine bS (aR (aZ (bT (aZ (aH (aU rfl rfl (dK rfl hK rfl Tryz.underlying26 dT (by omega) rfl ?_)))))));rintro eb16 eo16 _ x16 pM rfl kI;refine cQ rfl (by assumption) dT rfl rfl rfl (bA rfl rfl (bA rfl rfl (aE (aR (aZ (aH (aU rfl rfl (bD rfl aBc rfl (bK 1 rfl rfl aJo rfl rfl rfl (aU rfl rfl (dK rfl hP rfl Tryz.underlying35 gZ (by omega) rfl ?_)))))))))));rintro eb23 eo23 _ x23 hx23 ⟨ax23,cx23,rfl,hd23⟩ hp23;refine cQ rfl (by assumption) gZ rfl rfl rfl (aU rfl rfl ?_)
  have hdb : ¬ Ra.DB x16 x23 ((n : Nat) : Int):=by
   have h1:=hj.K x16 (List.mem_of_getElem? pM)
   have h2:=(hj.P x23 (List.mem_of_getElem? hx23)).1
   unfold Ra.DB
   omega
  have hcall:=Ra.deal_fn x16 _ _ x23 ((n : Nat) : Int) _ hd23
  obtain ⟨hE,hR⟩:=Ra.deal_ok (s:=x16) (more:=x23) (n:=n) hdb
  rw [hE,hR] at hcall
  refine fI rfl hcall rfl ?_;rintro _ HN26 hleN26 ⟨aN26,cN26,rfl,hN26⟩;replace hM:=hM.mono hleN26;replace hK:=hK.mono hleN26;replace hP:=hP.mono hleN26;replace haccw:=haccw.mono hleN26;replace kI:=kI.mono hleN26;replace hp23:=hp23.mono hleN26;replace hd23:=hd23.mono hleN26;replace bM:=bM.trans hleN26;refine aU rfl rfl (bV rfl rfl rfl (bV rfl rfl rfl (bA rfl rfl (bA rfl rfl (aE (aR (aZ (aZ (aH (aU rfl rfl (fZ rfl rfl rfl (aU rfl rfl (bE rfl rfl (decide_eq_false (by decide)) rfl (aU rfl rfl (bE rfl rfl (decide_eq_false (by decide)) rfl (cH (ts:=#[]) rfl Tryz.underlying62 rfl (bE rfl rfl (decide_eq_false (by decide)) rfl (aU rfl rfl (bE rfl rfl (decide_eq_false (by decide)) rfl (fZ rfl rfl rfl (dL rfl (decide_eq_false (by decide)) rfl rfl (aE (aR (dY rfl (decide_eq_false (fun h=>h (by rw [Ra.dealL_len]))) (bS (aR (aH (aU rfl rfl (aU rfl rfl (dB rfl Tryz.underlying59 aAt aNp rfl rfl rfl (fun b39=>?_)))))))))))))))))))))))))))))));refine dF 0 rfl rfl rfl (fun HP39 oP39 hleP39 hbP39 hoP39=>?_);replace hM:=hM.mono hleP39;replace hK:=hK.mono hleP39;replace hP:=hP.mono hleP39;replace haccw:=haccw.mono hleP39;replace kI:=kI.mono hleP39;replace hp23:=hp23.mono hleP39;replace hd23:=hd23.mono hleP39;replace hN26:=hN26.mono hleP39;replace bM:=bM.trans hleP39
  have hsl39:=SlR.lit (ρ:=(slR Ra.ptR)) (l:=[Ra.dealL (x16 :: x23) n]) hbP39 hoP39 (eN.one1 ⟨_,_,rfl,hN26⟩)
  refine fB 0 rfl rfl haccw rfl rfl hsl39 rfl Tryz.underlying59 aAt aNp rfl by_62 (by have:=aLi x n;simp;omega) rfl (fun p40 a40 c40 hacc40=>bA rfl rfl (aE (dP (aR (aH (dJ rfl rfl (bU (by omega) (by omega)) rfl (aU rfl rfl (aE (cR ((k + 1,(p40,a40,c40))) (by show x.K.length - (k + 1) < x.K.length - k;omega) (aQ (by first | rfl | (rw [fP (aH5 pM hx23)];rfl)) (aQ rfl (aQ rfl (aQ rfl (aQ rfl (aQ rfl bP)))))) (⟨by show k + 1 ≤ x.K.length;omega,rfl,by first | (exact hacc40) | (rw [fP (aH5 pM hx23)];exact hacc40)⟩) (by repeat(first|exact sL _|apply sD|apply sC)) (bM))))))))))
 obtain rfl : k = x.K.length:=by omega
 rw [List.take_of_length_le (by unfold rD;rw [List.length_zipWith];omega)] at haccw ⊢
 refine dX (dA (cZ (dI rfl (aR (aZ (aH (aU rfl rfl (bA rfl rfl (bA rfl rfl (aE (aR (mE 0 rfl haccw rfl (fun HQ6 kH nV=>?_)))))))))))));replace hM:=hM.mono kH;replace hK:=hK.mono kH;replace hP:=hP.mono kH;replace bM:=bM.trans kH;refine bW ?_;refine ⟨rfl,_,[],rfl,(by repeat(first|exact sL _|apply sC)),bX.mk ?_⟩
 exact ⟨_,_,rfl,by assumption⟩
end Go.Proofs

namespace Go.Proofs
open Go.XL
theorem aJy : fW Tryz.prog 37 2 = some 2:=by kernel_rfl
theorem fa_37_4 : fW Tryz.prog 37 4 = some 35:=by kernel_rfl
theorem ze_73 : gH Tryz.prog 73 = some [.slice none 0 0,.slice none 0 0]:=by kernel_rfl
set_option maxRecDepth 100000 in
set_option maxHeartbeats 1600000 in
theorem sealed36_fn (tb : List Int × List Int) (H : Hp) (hT : TB H tb) (a : Option Addr) (c : Nat) (l : List Jdg) (cr n : Int) (hs : SlR aL1 H a c l) (hl : 1 ≤ l.length ∧ l.length ≤ 5) (hc : 1 ≤ cr ∧ cr ≤ 64) (hr : Rgt l cr n) : FnC Tryz.prog 6 #[.slice a l.length c] H [] (bX (fun v H2 _=>∃ a c,v = .tuple #[.slice a (tL tb l l.length).length c,.bool true] ∧ SlR (slR eV) H2 a c (tL tb l l.length))):=by
 refine FnC.intro (args:=[.slice a l.length c]) Tryz.func6 rfl rfl Tryz.ntmps6 rfl rfl rfl fun G rest=>?_
 have hok : ∀ j,j < l.length → okP (cdN tb l j):=hr.ok hc hl.2
 have hgr:=oS (xT hok l.length (Nat.le_refl _)).good
 refine aZ (aH (bA rfl rfl (bA rfl rfl (aE (aR (aZ (aH (dC ze_73 rfl (fun b4=>aE (aR (aZ (aZ (aH (aU rfl rfl (cH (ts:=#[]) rfl Tryz.underlying22 rfl (aU rfl rfl (aE (aR (bT (cE [22,0,4,20,21] rfl (eE (base:=[(0,_),(4,_),(20,_),(21,_)]) (fun ζ : Nat × (Option Addr) × (Nat) × (Box) × (Option Addr) × (Nat) × (Box)=>[(22,.int .i64 (ζ.1 : Nat))]) (fun ζ Hl own=>ζ.1 ≤ l.length ∧ (b4,.cells 73 [.slice ζ.2.1 (ζ.2.2.2.1).length ζ.2.2.1,.slice ζ.2.2.2.2.1 (ζ.2.2.2.2.2.2).length ζ.2.2.2.2.2.1]) :: rest = own ∧ (SlR (slR eV) Hl ζ.2.1 ζ.2.2.1 ζ.2.2.2.1) ∧ (SlR (slR eV) Hl ζ.2.2.2.2.1 ζ.2.2.2.2.2.1 ζ.2.2.2.2.2.2) ∧ (ζ.2.2.2.1 = oV tb l false (ζ.1)) ∧ (ζ.2.2.2.2.2.2 = oV tb l true (ζ.1))) (fun ζ=>l.length - ζ.1) (0,none,0,[],none,0,[]) (aQ rfl (aQ rfl (aQ rfl (aQ rfl (aQ rfl bP))))) (by repeat(first|exact sL _|apply sD|apply sC)) ⟨Nat.zero_le _,rfl,SlR.nil0 _ _,SlR.nil0 _ _,rfl,rfl⟩ ?_)))))))))))))))))))));rintro ⟨k,e0,f0,q0,e1,f1,q1⟩ Hl0 _ bM ⟨hkk,rfl,h0,h1,hq0,hq1⟩;replace hT:=hT.mono bM;replace hs:=hs.mono bM
 try dsimp only at hkk h0 h1 hq0 hq1 ⊢
 refine aZ (aH (dN rfl rfl rfl (aE (aR (aZ (cW rfl (fun gJ=>?_) (fun gJ=>?_)))))))
 ·refine bS (aR (aZ (bT (aZ (aH (aU rfl rfl (dK rfl hs rfl Tryz.underlying22 oU (by omega) rfl ?_)))))));rintro eb25 eo25 _ x25 hx25 ⟨aM25,cM25,aK25,cK25,aP25,cP25,rfl,jF,jG,jH,hD25⟩ jI;refine cQ rfl (by assumption) oU rfl rfl rfl (dC aHa rfl (fun b6=>bA rfl rfl (bZ 0 rfl rfl rfl rfl oU rfl rfl rfl rfl rfl (aE (aR (aZ (aH (aU rfl rfl (bD rfl wG rfl (bK 0 rfl rfl gZ rfl rfl rfl (bD rfl tD rfl (bK 0 rfl rfl gZ rfl rfl rfl (bD rfl aJy rfl (bK 0 rfl rfl oA rfl rfl rfl ?_))))))))))))))
  have hjx:=hr x25 (List.mem_of_getElem? hx25)
  have hgd:=vE hx25
  refine lE (lH:=[]) rfl (make_cd hT hx25 hjx hc (by omega) jF jG hD25) rfl rfl ?_;rintro _ HM _ hleM ⟨rfl,aC,cC,rfl,hC⟩
  simp only [List.nil_append]
  obtain ⟨cd,hcd⟩ : ∃ cd,cdN tb l k = cd:=⟨_,rfl⟩
  rw [hcd] at hC ⊢
  replace hT:=hT.mono hleM;replace hs:=hs.mono hleM;replace h0:=h0.mono hleM;replace h1:=h1.mono hleM;replace jI:=jI.mono hleM;replace jF:=jF.mono hleM;replace jG:=jG.mono hleM;replace jH:=jH.mono hleM;replace bM:=bM.trans hleM;refine aU rfl rfl (bV rfl rfl rfl (bV rfl rfl rfl (dC lY rfl (fun b7=>bZ 0 rfl rfl rfl rfl eI rfl rfl rfl rfl rfl (bA rfl rfl (aE (aR (aZ (aZ (aH (aU rfl rfl (fZ rfl rfl rfl (aE (aR (dY rfl (decide_eq_false (by decide)) (bS (aR (aZ (aH (bA rfl rfl (aE (aR (aZ (aZ (aH (bD rfl fa_37_4 rfl (bK 1 rfl rfl mU rfl rfl rfl (aE (aR (gN rfl (fun c2_3=>?_) (fun c2_3=>?_)))))))))))))))))))))))))))))))
  ·refine aH (bA rfl rfl (aE (aR (aZ (XC.perm (vV _ 2 _ rfl) (cE [0,4,7,9,20,21,22] rfl ?_))))))
   have hp0:=aIx true hok hl.2 (show k < l.length by omega)
   rw [← hq1,hcd] at hp0
   have hg0:=oS (nP true hok k (by omega)).good
   rw [← hq1] at hg0
   have hf0:=qN true hok hl.2 (show k ≤ l.length by omega)
   rw [← hq1] at hf0
   have hcl:=(hok k (by omega)).1.2.1.2
   rw [hcd] at hcl
   have hcD:=(hok k (by omega)).2
   rw [hcd] at hcD
   apply aB4 (fun _=>True) trivial 10 (fun p _=>p = (b4,.cells 73 [.slice e0 q0.length f0,.slice e1 q1.length f1])) (fun p H=>∃ a c,p = (b4,.cells 73 [.slice e0 q0.length f0,.slice a (pmB q1 [[cd]]).length c]) ∧ SlR (slR eV) H a c (pmB q1 [[cd]])) (fun _ _ _ _ h=>h) (fun _ _ _ hle ⟨a,c,h,k⟩=>⟨a,c,h,k.mono hle⟩) 11 [eqF _,eqF _,eqF _,eqF _,eqF _,fun v H=>jW (pmB q1 [[cd]]) 0 H v,fun v H=>jW (pmB q1 [[cd]]) 0 H v,fun v H=>SlU (slR eV) (pmB q1 [[cd]]) H v,eqF _,eqF _,rC] follows (by kernel_rfl) ⟨bB _,bB _,bB _,bB _,bB _,vQ _ _,vQ _ _,qR _ _,bB _,bB _,gR,trivial⟩ rfl rfl ?steps4 ?tail4
   case steps4 =>
    refine eZ rfl ?_ ?_
    ·intro X e HD aD _ hfa
     replace hT:=hT.mono aD;replace hs:=hs.mono aD;replace h0:=h0.mono aD;replace h1:=h1.mono aD;replace jI:=jI.mono aD;replace jF:=jF.mono aD;replace jG:=jG.mono aD;replace jH:=jH.mono aD;replace hC:=hC.mono aD;replace bM:=bM.trans aD;refine bG rfl (aU rfl rfl (aE ?_))
     exact eH trivial rfl (by unfold foS;rw [if_neg (by decide)])
    refine eZ rfl ?_ ?_
    ·intro X e HD aD _ hfa
     replace hT:=hT.mono aD;replace hs:=hs.mono aD;replace h0:=h0.mono aD;replace h1:=h1.mono aD;replace jI:=jI.mono aD;replace jF:=jF.mono aD;replace jG:=jG.mono aD;replace jH:=jH.mono aD;replace hC:=hC.mono aD;replace bM:=bM.trans aD;refine bG rfl (aU rfl rfl (aE ?_))
     exact eH trivial rfl (by unfold foS;rw [if_neg (by decide)])
    refine eZ rfl ?_ ?_
    ·intro X e HD aD _ hfa
     replace hT:=hT.mono aD;replace hs:=hs.mono aD;replace h0:=h0.mono aD;replace h1:=h1.mono aD;replace jI:=jI.mono aD;replace jF:=jF.mono aD;replace jG:=jG.mono aD;replace jH:=jH.mono aD;replace hC:=hC.mono aD;replace bM:=bM.trans aD;refine wQq rfl rfl rfl (bG rfl (eF rfl rfl Tryz.underlying73 jS (by first|decide|omega) (by first|decide|omega) rfl (aE ?_)))
     exact eH trivial rfl (by unfold foS;rw [if_neg (by decide)])
    refine eZ rfl ?_ ?_
    ·intro X e HD aD _ hfa
     replace hT:=hT.mono aD;replace hs:=hs.mono aD;replace h0:=h0.mono aD;replace h1:=h1.mono aD;replace jI:=jI.mono aD;replace jF:=jF.mono aD;replace jG:=jG.mono aD;replace jH:=jH.mono aD;replace hC:=hC.mono aD;replace bM:=bM.trans aD;refine wQq rfl rfl rfl (bG rfl ?_);replace hfa:=hfa (Or.inr rfl)
     subst hfa
     refine bK 0 rfl rfl jS rfl rfl rfl (aE ?_)
     exact eH trivial rfl (by unfold foS;rw [if_neg (by decide)])
    refine eZ rfl ?_ ?_
    ·intro X e HD aD _ hfa
     replace hT:=hT.mono aD;replace hs:=hs.mono aD;replace h0:=h0.mono aD;replace h1:=h1.mono aD;replace jI:=jI.mono aD;replace jF:=jF.mono aD;replace jG:=jG.mono aD;replace jH:=jH.mono aD;replace hC:=hC.mono aD;replace bM:=bM.trans aD;refine bG rfl (bK 1 rfl rfl eI rfl rfl rfl (aE ?_))
     exact eH trivial rfl (by unfold foS;rw [if_neg (by decide)])
    refine eZ rfl ?_ ?_
    ·intro X e HD aD _ hfa
     replace hT:=hT.mono aD;replace hs:=hs.mono aD;replace h0:=h0.mono aD;replace h1:=h1.mono aD;replace jI:=jI.mono aD;replace jF:=jF.mono aD;replace jG:=jG.mono aD;replace jH:=jH.mono aD;replace hC:=hC.mono aD;replace bM:=bM.trans aD;refine wQq rfl rfl rfl (wQq rfl rfl rfl (bG rfl ?_))
     have hcall:=aLn q1 cd _ aC _ cC _ h1 hC hcD (by omega) hg0.1 hg0.2 (by omega)
     rw [hp0.1,hp0.2] at hcall
     refine fI rfl hcall rfl ?_;rintro _ HN48 kL ⟨aN48,cN48,rfl,hN48⟩;replace hT:=hT.mono kL;replace hs:=hs.mono kL;replace h0:=h0.mono kL;replace h1:=h1.mono kL;replace jI:=jI.mono kL;replace jF:=jF.mono kL;replace jG:=jG.mono kL;replace jH:=jH.mono kL;replace hC:=hC.mono kL;replace bM:=bM.trans kL;refine aE ?_
     exact eH trivial (⟨_,_,rfl,hN48⟩) (by unfold foS;rw [if_neg (by decide)])
    refine eZ rfl ?_ ?_
    ·intro X e HD aD _ hfa
     replace hT:=hT.mono aD;replace hs:=hs.mono aD;replace h0:=h0.mono aD;replace h1:=h1.mono aD;replace jI:=jI.mono aD;replace jF:=jF.mono aD;replace jG:=jG.mono aD;replace jH:=jH.mono aD;replace hC:=hC.mono aD;replace bM:=bM.trans aD;refine dD rfl rfl ?_;rintro _ ⟨a5,c5,rfl,h5⟩;refine bG rfl (aU rfl rfl (aE ?_))
     exact eH trivial (⟨_,_,rfl,h5⟩) (by unfold foS;rw [if_neg (by decide)])
    refine eZ rfl ?_ ?_
    ·intro X e HD aD _ hfa
     replace hT:=hT.mono aD;replace hs:=hs.mono aD;replace h0:=h0.mono aD;replace h1:=h1.mono aD;replace jI:=jI.mono aD;replace jF:=jF.mono aD;replace jG:=jG.mono aD;replace jH:=jH.mono aD;replace hC:=hC.mono aD;replace bM:=bM.trans aD;refine dD rfl rfl ?_;rintro _ ⟨a6,c6,rfl,h6⟩;refine bG rfl (bV rfl rfl rfl (aE ?_))
     exact eH trivial (⟨_,_,rfl,h6⟩) (by unfold foS;rw [if_neg (by decide)])
    refine eZ rfl ?_ ?_
    ·intro X e HD aD _ hfa
     replace hT:=hT.mono aD;replace hs:=hs.mono aD;replace h0:=h0.mono aD;replace h1:=h1.mono aD;replace jI:=jI.mono aD;replace jF:=jF.mono aD;replace jG:=jG.mono aD;replace jH:=jH.mono aD;replace hC:=hC.mono aD;replace bM:=bM.trans aD;refine dD rfl rfl ?_;rintro _ ⟨a6,c6,rfl,h6⟩;refine bG rfl (bV rfl rfl rfl (aE ?_))
     exact eH trivial rfl (by unfold foS;rw [if_neg (by decide)])
    refine eZ rfl ?_ ?_
    ·intro X e HD aD _ hfa
     replace hT:=hT.mono aD;replace hs:=hs.mono aD;replace h0:=h0.mono aD;replace h1:=h1.mono aD;replace jI:=jI.mono aD;replace jF:=jF.mono aD;replace jG:=jG.mono aD;replace jH:=jH.mono aD;replace hC:=hC.mono aD;replace bM:=bM.trans aD;refine wQq rfl rfl rfl (bG rfl (eF rfl rfl Tryz.underlying73 jS (by first|decide|omega) (by first|decide|omega) rfl (aE ?_)))
     exact eH trivial rfl (by unfold foS;rw [if_neg (by decide)])
    refine eZ rfl ?_ ?_
    ·intro X e HD aD _ hfa
     replace hT:=hT.mono aD;replace hs:=hs.mono aD;replace h0:=h0.mono aD;replace h1:=h1.mono aD;replace jI:=jI.mono aD;replace jF:=jF.mono aD;replace jG:=jG.mono aD;replace jH:=jH.mono aD;replace hC:=hC.mono aD;replace bM:=bM.trans aD;refine wQq rfl rfl rfl (dD rfl rfl ?_);rintro _ ⟨a7,c7,rfl,h49⟩;refine bG rfl ?_;replace hfa:=hfa (Or.inl rfl)
     subst hfa
     refine bZ 0 rfl rfl rfl rfl jS rfl rfl rfl rfl rfl (aE ?_)
     exact eH trivial (trivial) (by unfold foS;rw [if_pos rfl];exact ⟨_,_,rfl,h49⟩)
    exact xG rfl
   case tail4 =>
    intro HD aD _
    replace hT:=hT.mono aD;replace hs:=hs.mono aD;replace h0:=h0.mono aD;replace h1:=h1.mono aD;replace jI:=jI.mono aD;replace jF:=jF.mono aD;replace jG:=jG.mono aD;replace jH:=jH.mono aD;replace hC:=hC.mono aD;replace bM:=bM.trans aD;refine wQq rfl rfl rfl (wQq rfl rfl rfl (wQq rfl rfl rfl (wQq rfl rfl rfl (wQq rfl rfl rfl (dD rfl rfl ?_)))));rintro _ ⟨a5,c5,rfl,h5⟩;refine dD rfl rfl ?_;rintro _ ⟨a6,c6,rfl,h6⟩;refine dD rfl rfl ?_;rintro _ ⟨a7,c7,rfl,h49⟩;refine wQq rfl rfl rfl (wQq rfl rfl rfl (oT rfl rfl (bG rfl ?_)))
    intro e he
    obtain ⟨aN,cN,rfl,hN⟩:=he;refine bA rfl rfl (aE (aR (aZ (aH (aU rfl rfl (fZ rfl rfl rfl (aE (aR (dY rfl (decide_eq_false (by decide)) (bS (dP (aR (aH (dJ rfl rfl (bU (by omega) (by omega)) rfl (aU rfl rfl (aE (cR ((k + 1,e0,f0,q0,aN,cN,pmB q1 [[cd]])) (by show l.length - (k + 1) < l.length - k;omega) (aQ rfl (aQ rfl (aQ rfl (aQ rfl (aQ rfl bP))))) (⟨by show k + 1 ≤ l.length;omega,rfl,(by first | exact hN | exact h0),(by first | exact hN | exact h1),(by first | (rw [hq0,← hcd];exact aEx (by rw [hgd];assumption)) | (rw [hq0];exact aE0 (by rw [hgd,show x25.L = _ by assumption];decide))),(by first | (rw [hq1,← hcd];exact aEx (by rw [hgd];assumption)) | (rw [hq1];exact aE0 (by rw [hgd,show x25.L = _ by assumption];decide)))⟩) (by repeat(first|exact sL _|apply sD|apply sC)) (bM))))))))))))))))))
  refine bS (aR (aZ (XC.perm (vV _ 2 _ rfl) (cE [0,4,7,9,20,21,22] rfl ?_))))
  have hp0:=aIx false hok hl.2 (show k < l.length by omega)
  rw [← hq0,hcd] at hp0
  have hg0:=oS (nP false hok k (by omega)).good
  rw [← hq0] at hg0
  have hf0:=qN false hok hl.2 (show k ≤ l.length by omega)
  rw [← hq0] at hf0
  have hcl:=(hok k (by omega)).1.2.1.2
  rw [hcd] at hcl
  have hcD:=(hok k (by omega)).2
  rw [hcd] at hcD
  apply aB4 (fun _=>True) trivial 10 (fun p _=>p = (b4,.cells 73 [.slice e0 q0.length f0,.slice e1 q1.length f1])) (fun p H=>∃ a c,p = (b4,.cells 73 [.slice a (pmB q0 [[cd]]).length c,.slice e1 q1.length f1]) ∧ SlR (slR eV) H a c (pmB q0 [[cd]])) (fun _ _ _ _ h=>h) (fun _ _ _ hle ⟨a,c,h,k⟩=>⟨a,c,h,k.mono hle⟩) 11 [eqF _,eqF _,eqF _,eqF _,eqF _,fun v H=>jW (pmB q0 [[cd]]) 0 H v,fun v H=>jW (pmB q0 [[cd]]) 0 H v,fun v H=>SlU (slR eV) (pmB q0 [[cd]]) H v,eqF _,eqF _,rC] follows (by kernel_rfl) ⟨bB _,bB _,bB _,bB _,bB _,vQ _ _,vQ _ _,qR _ _,bB _,bB _,gR,trivial⟩ rfl rfl ?steps7 ?tail7
  case steps7 =>
   refine eZ rfl ?_ ?_
   ·intro X e HD aD _ hfa
    replace hT:=hT.mono aD;replace hs:=hs.mono aD;replace h0:=h0.mono aD;replace h1:=h1.mono aD;replace jI:=jI.mono aD;replace jF:=jF.mono aD;replace jG:=jG.mono aD;replace jH:=jH.mono aD;replace hC:=hC.mono aD;replace bM:=bM.trans aD;refine bG rfl (aU rfl rfl (aE ?_))
    exact eH trivial rfl (by unfold foS;rw [if_neg (by decide)])
   refine eZ rfl ?_ ?_
   ·intro X e HD aD _ hfa
    replace hT:=hT.mono aD;replace hs:=hs.mono aD;replace h0:=h0.mono aD;replace h1:=h1.mono aD;replace jI:=jI.mono aD;replace jF:=jF.mono aD;replace jG:=jG.mono aD;replace jH:=jH.mono aD;replace hC:=hC.mono aD;replace bM:=bM.trans aD;refine bG rfl (aU rfl rfl (aE ?_))
    exact eH trivial rfl (by unfold foS;rw [if_neg (by decide)])
   refine eZ rfl ?_ ?_
   ·intro X e HD aD _ hfa
    replace hT:=hT.mono aD;replace hs:=hs.mono aD;replace h0:=h0.mono aD;replace h1:=h1.mono aD;replace jI:=jI.mono aD;replace jF:=jF.mono aD;replace jG:=jG.mono aD;replace jH:=jH.mono aD;replace hC:=hC.mono aD;replace bM:=bM.trans aD;refine wQq rfl rfl rfl (bG rfl (eF rfl rfl Tryz.underlying73 jS (by first|decide|omega) (by first|decide|omega) rfl (aE ?_)))
    exact eH trivial rfl (by unfold foS;rw [if_neg (by decide)])
   refine eZ rfl ?_ ?_
   ·intro X e HD aD _ hfa
    replace hT:=hT.mono aD;replace hs:=hs.mono aD;replace h0:=h0.mono aD;replace h1:=h1.mono aD;replace jI:=jI.mono aD;replace jF:=jF.mono aD;replace jG:=jG.mono aD;replace jH:=jH.mono aD;replace hC:=hC.mono aD;replace bM:=bM.trans aD;refine wQq rfl rfl rfl (bG rfl ?_);replace hfa:=hfa (Or.inr rfl)
    subst hfa
    refine bK 0 rfl rfl jS rfl rfl rfl (aE ?_)
    exact eH trivial rfl (by unfold foS;rw [if_neg (by decide)])
   refine eZ rfl ?_ ?_
   ·intro X e HD aD _ hfa
    replace hT:=hT.mono aD;replace hs:=hs.mono aD;replace h0:=h0.mono aD;replace h1:=h1.mono aD;replace jI:=jI.mono aD;replace jF:=jF.mono aD;replace jG:=jG.mono aD;replace jH:=jH.mono aD;replace hC:=hC.mono aD;replace bM:=bM.trans aD;refine bG rfl (bK 1 rfl rfl eI rfl rfl rfl (aE ?_))
    exact eH trivial rfl (by unfold foS;rw [if_neg (by decide)])
   refine eZ rfl ?_ ?_
   ·intro X e HD aD _ hfa
    replace hT:=hT.mono aD;replace hs:=hs.mono aD;replace h0:=h0.mono aD;replace h1:=h1.mono aD;replace jI:=jI.mono aD;replace jF:=jF.mono aD;replace jG:=jG.mono aD;replace jH:=jH.mono aD;replace hC:=hC.mono aD;replace bM:=bM.trans aD;refine wQq rfl rfl rfl (wQq rfl rfl rfl (bG rfl ?_))
    have hcall:=aLn q0 cd _ aC _ cC _ h0 hC hcD (by omega) hg0.1 hg0.2 (by omega)
    rw [hp0.1,hp0.2] at hcall
    refine fI rfl hcall rfl ?_;rintro _ HN48 kL ⟨aN48,cN48,rfl,hN48⟩;replace hT:=hT.mono kL;replace hs:=hs.mono kL;replace h0:=h0.mono kL;replace h1:=h1.mono kL;replace jI:=jI.mono kL;replace jF:=jF.mono kL;replace jG:=jG.mono kL;replace jH:=jH.mono kL;replace hC:=hC.mono kL;replace bM:=bM.trans kL;refine aE ?_
    exact eH trivial (⟨_,_,rfl,hN48⟩) (by unfold foS;rw [if_neg (by decide)])
   refine eZ rfl ?_ ?_
   ·intro X e HD aD _ hfa
    replace hT:=hT.mono aD;replace hs:=hs.mono aD;replace h0:=h0.mono aD;replace h1:=h1.mono aD;replace jI:=jI.mono aD;replace jF:=jF.mono aD;replace jG:=jG.mono aD;replace jH:=jH.mono aD;replace hC:=hC.mono aD;replace bM:=bM.trans aD;refine dD rfl rfl ?_;rintro _ ⟨a5,c5,rfl,h5⟩;refine bG rfl (aU rfl rfl (aE ?_))
    exact eH trivial (⟨_,_,rfl,h5⟩) (by unfold foS;rw [if_neg (by decide)])
   refine eZ rfl ?_ ?_
   ·intro X e HD aD _ hfa
    replace hT:=hT.mono aD;replace hs:=hs.mono aD;replace h0:=h0.mono aD;replace h1:=h1.mono aD;replace jI:=jI.mono aD;replace jF:=jF.mono aD;replace jG:=jG.mono aD;replace jH:=jH.mono aD;replace hC:=hC.mono aD;replace bM:=bM.trans aD;refine dD rfl rfl ?_;rintro _ ⟨a6,c6,rfl,h6⟩;refine bG rfl (bV rfl rfl rfl (aE ?_))
    exact eH trivial (⟨_,_,rfl,h6⟩) (by unfold foS;rw [if_neg (by decide)])
   refine eZ rfl ?_ ?_
   ·intro X e HD aD _ hfa
    replace hT:=hT.mono aD;replace hs:=hs.mono aD;replace h0:=h0.mono aD;replace h1:=h1.mono aD;replace jI:=jI.mono aD;replace jF:=jF.mono aD;replace jG:=jG.mono aD;replace jH:=jH.mono aD;replace hC:=hC.mono aD;replace bM:=bM.trans aD;refine dD rfl rfl ?_;rintro _ ⟨a6,c6,rfl,h6⟩;refine bG rfl (bV rfl rfl rfl (aE ?_))
    exact eH trivial rfl (by unfold foS;rw [if_neg (by decide)])
   refine eZ rfl ?_ ?_
   ·intro X e HD aD _ hfa
    replace hT:=hT.mono aD;replace hs:=hs.mono aD;replace h0:=h0.mono aD;replace h1:=h1.mono aD;replace jI:=jI.mono aD;replace jF:=jF.mono aD;replace jG:=jG.mono aD;replace jH:=jH.mono aD;replace hC:=hC.mono aD;replace bM:=bM.trans aD;refine wQq rfl rfl rfl (bG rfl (eF rfl rfl Tryz.underlying73 jS (by first|decide|omega) (by first|decide|omega) rfl (aE ?_)))
    exact eH trivial rfl (by unfold foS;rw [if_neg (by decide)])
   refine eZ rfl ?_ ?_
   ·intro X e HD aD _ hfa
    replace hT:=hT.mono aD;replace hs:=hs.mono aD;replace h0:=h0.mono aD;replace h1:=h1.mono aD;replace jI:=jI.mono aD;replace jF:=jF.mono aD;replace jG:=jG.mono aD;replace jH:=jH.mono aD;replace hC:=hC.mono aD;replace bM:=bM.trans aD;refine wQq rfl rfl rfl (dD rfl rfl ?_);rintro _ ⟨a7,c7,rfl,h49⟩;refine bG rfl ?_;replace hfa:=hfa (Or.inl rfl)
    subst hfa
    refine bZ 0 rfl rfl rfl rfl jS rfl rfl rfl rfl rfl (aE ?_)
    exact eH trivial (trivial) (by unfold foS;rw [if_pos rfl];exact ⟨_,_,rfl,h49⟩)
   exact xG rfl
  case tail7 =>
   intro HD aD _
   replace hT:=hT.mono aD;replace hs:=hs.mono aD;replace h0:=h0.mono aD;replace h1:=h1.mono aD;replace jI:=jI.mono aD;replace jF:=jF.mono aD;replace jG:=jG.mono aD;replace jH:=jH.mono aD;replace hC:=hC.mono aD;replace bM:=bM.trans aD;refine wQq rfl rfl rfl (wQq rfl rfl rfl (wQq rfl rfl rfl (wQq rfl rfl rfl (wQq rfl rfl rfl (dD rfl rfl ?_)))));rintro _ ⟨a5,c5,rfl,h5⟩;refine dD rfl rfl ?_;rintro _ ⟨a6,c6,rfl,h6⟩;refine dD rfl rfl ?_;rintro _ ⟨a7,c7,rfl,h49⟩;refine wQq rfl rfl rfl (wQq rfl rfl rfl (oT rfl rfl (bG rfl ?_)))
   intro e he
   obtain ⟨aN,cN,rfl,hN⟩:=he;refine bA rfl rfl (aE (aR (aZ (aH (aU rfl rfl (fZ rfl rfl rfl (aE (aR (dY rfl (decide_eq_false (by decide)) (bS (dP (aR (aH (dJ rfl rfl (bU (by omega) (by omega)) rfl (aU rfl rfl (aE (cR ((k + 1,aN,cN,pmB q0 [[cd]],e1,f1,q1)) (by show l.length - (k + 1) < l.length - k;omega) (aQ rfl (aQ rfl (aQ rfl (aQ rfl (aQ rfl bP))))) (⟨by show k + 1 ≤ l.length;omega,rfl,(by first | exact hN | exact h0),(by first | exact hN | exact h1),(by first | (rw [hq0,← hcd];exact aEx (by rw [hgd];assumption)) | (rw [hq0];exact aE0 (by rw [hgd,show x25.L = _ by assumption];decide))),(by first | (rw [hq1,← hcd];exact aEx (by rw [hgd];assumption)) | (rw [hq1];exact aE0 (by rw [hgd,show x25.L = _ by assumption];decide)))⟩) (by repeat(first|exact sL _|apply sD|apply sC)) (bM))))))))))))))))))
 obtain rfl : k = l.length:=by omega
 have hm0:=aKb false hok hl.2
 have hm1:=aKb true hok hl.2
 rw [Bool.not_false,← hq0,← hq1] at hm0
 rw [Bool.not_true,← hq0,← hq1] at hm1
 have hg0:=oS (nP false hok l.length (Nat.le_refl _)).good
 have hg1:=oS (nP true hok l.length (Nat.le_refl _)).good
 have hf0:=qN false hok hl.2 (Nat.le_refl l.length)
 have hf1:=qN true hok hl.2 (Nat.le_refl l.length)
 rw [← hq0] at hg0 hf0
 rw [← hq1] at hg1 hf1
 refine dX (dA (cZ (dI rfl (aR (aZ (aH (eF rfl rfl Tryz.underlying73 jS (by first|decide|omega) (by first|decide|omega) rfl (bK 0 rfl rfl jS rfl rfl rfl (eF rfl rfl Tryz.underlying73 jS (by first|decide|omega) (by first|decide|omega) rfl (bK 0 rfl rfl jS rfl rfl rfl ?_))))))))))
 have hcall:=aMj q0 q1 _ _ _ _ _ h0 h1 (by omega) (by omega) hg0.1 hg0.2 hg1.1 hg1.2
 rw [hm0.1,hm0.2] at hcall
 refine fI rfl hcall rfl ?_;rintro _ HN60 hleN60 ⟨aN60,cN60,rfl,hN60⟩;replace hT:=hT.mono hleN60;replace hs:=hs.mono hleN60;replace h0:=h0.mono hleN60;replace h1:=h1.mono hleN60;replace bM:=bM.trans hleN60;refine aU rfl rfl (bV rfl rfl rfl (bV rfl rfl rfl (bA rfl rfl (bA rfl rfl (aE (aR (aZ (aH (eF rfl rfl Tryz.underlying73 jS (by first|decide|omega) (by first|decide|omega) rfl (bK 0 rfl rfl jS rfl rfl rfl (eF rfl rfl Tryz.underlying73 jS (by first|decide|omega) (by first|decide|omega) rfl (bK 0 rfl rfl jS rfl rfl rfl ?_))))))))))))
 have hcall:=aMj q1 q0 _ _ _ _ _ h1 h0 (by omega) (by omega) hg1.1 hg1.2 hg0.1 hg0.2
 rw [hm1.1,hm1.2] at hcall
 refine fI rfl hcall rfl ?_;rintro _ HN68 hleN68 ⟨aN68,cN68,rfl,hN68⟩;replace hT:=hT.mono hleN68;replace hs:=hs.mono hleN68;replace h0:=h0.mono hleN68;replace h1:=h1.mono hleN68;replace hN60:=hN60.mono hleN68;replace bM:=bM.trans hleN68;refine aU rfl rfl (bV rfl rfl rfl (bV rfl rfl rfl (bA rfl rfl (bA rfl rfl (aE (aR (aZ (aZ (aH (aU rfl rfl (fZ rfl rfl rfl (aU rfl rfl (bE rfl rfl (decide_eq_false (by decide)) rfl (aU rfl rfl (bE rfl rfl (decide_eq_false (by decide)) rfl (fZ rfl rfl rfl (dL rfl (decide_eq_false (by decide)) rfl rfl (aU rfl rfl (bE rfl rfl (decide_eq_false (by decide)) rfl (aU rfl rfl (bE rfl rfl (decide_eq_false (by decide)) rfl (cH (ts:=#[]) rfl Tryz.underlying38 rfl (bE rfl rfl (decide_eq_false (by decide)) rfl (aU rfl rfl (bE rfl rfl (decide_eq_false (by decide)) rfl (cH (ts:=#[]) rfl Tryz.underlying22 rfl (bE rfl rfl (decide_eq_false (by decide)) rfl (fZ rfl rfl rfl (dL rfl (decide_eq_false (by decide)) rfl rfl (aU rfl rfl ?_))))))))))))))))))))))))))))));refine bE rfl rfl (decide_eq_false (fun h=>h (by rw [lF]))) rfl (aU rfl rfl (bE rfl rfl (decide_eq_false (fun h=>h (by rw [lF]))) rfl (cH (ts:=#[]) rfl Tryz.underlying38 rfl (bE rfl rfl (decide_eq_false (fun h=>h (by rw [lF]))) rfl (aU rfl rfl (bE rfl rfl (decide_eq_false (fun h=>h (by rw [lF]))) rfl (cH (ts:=#[]) rfl Tryz.underlying22 rfl (bE rfl rfl (decide_eq_false (fun h=>h (by rw [lF]))) rfl (fZ rfl rfl rfl (dL rfl (decide_eq_false (fun h=>h (by rw [lF]))) rfl rfl (aE (aR (dY rfl (decide_eq_false (fun h=>h (by rw [lF]))) (bS (aR (aZ (aZ (aH (aU rfl rfl (cH (ts:=#[]) rfl Tryz.underlying22 rfl (aU rfl rfl (aE (aR (bT (cE [2,93,11,92] rfl (eE (base:=[(11,_),(92,_)]) (fun ζ : Nat=>[(2,.slice aN60 (tL tb l l.length).length cN60),(93,.int .i64 (ζ : Nat))]) (fun ζ Hl own=>ζ ≤ l.length ∧ rest = own) (fun ζ=>l.length - ζ) 0 (aQ rfl (aQ rfl (aQ rfl (aQ rfl bP)))) (by repeat(first|exact sL _|apply sD|apply sC)) ⟨Nat.zero_le _,rfl⟩ ?_))))))))))))))))))))))))));rintro j Hl1 _ cD ⟨hkj,rfl⟩;replace hT:=hT.mono cD;replace hs:=hs.mono cD;replace h0:=h0.mono cD;replace h1:=h1.mono cD;replace hN60:=hN60.mono cD;replace hN68:=hN68.mono cD;replace bM:=bM.trans cD
 try dsimp only at ⊢
 refine aZ (aH (dN rfl rfl rfl (aE (aR (aZ (cW rfl (fun c5_12=>?_) (fun c5_12=>?_)))))))
 ·refine bS (aR (aZ (bT (aZ (aH (aU rfl rfl (bA rfl rfl (aE (aR (aZ (aH (aU rfl rfl (aU rfl rfl ?_)))))))))))))
  have hcall:=aId _ _ (tL tb l l.length) _ hN60 (by rw [lF];omega) hgr.1 hgr.2 0 0 ((j : Nat) : Int)
  rw [aCi hok hl.2 (by omega),aA0 hok hl.2] at hcall
  refine fI rfl hcall rfl ?_;rintro _ HN99 hleN99 ⟨aN99,cN99,rfl,hN99,hD99⟩
  simp only [Option.getD_some,Option.isSome_some] at hN99 hD99 ⊢
  replace hT:=hT.mono hleN99;replace hs:=hs.mono hleN99;replace h0:=h0.mono hleN99;replace h1:=h1.mono hleN99;replace hN60:=hN60.mono hleN99;replace hN68:=hN68.mono hleN99;replace bM:=bM.trans hleN99;replace cD:=cD.trans hleN99;refine aU rfl rfl (bV rfl rfl rfl (bV rfl rfl rfl (bV rfl rfl rfl (dC lY rfl (fun b14=>bZ 0 rfl rfl rfl rfl eI rfl rfl rfl rfl rfl (bA rfl rfl (bA rfl rfl (aE (aR (aZ (aH (aU rfl rfl (aU rfl rfl ?_)))))))))))))
  have hcall:=aId _ _ (tL tb l l.length) _ hN68 (by rw [lF];omega) hgr.1 hgr.2 0 0 ((j : Nat) : Int)
  rw [aCi hok hl.2 (by omega),aA0 hok hl.2] at hcall
  refine fI rfl hcall rfl ?_;rintro _ HN106 hleN106 ⟨aN106,cN106,rfl,hN106,hD106⟩
  simp only [Option.getD_some,Option.isSome_some] at hN106 hD106 ⊢
  replace hT:=hT.mono hleN106;replace hs:=hs.mono hleN106;replace h0:=h0.mono hleN106;replace h1:=h1.mono hleN106;replace hN60:=hN60.mono hleN106;replace hN68:=hN68.mono hleN106;replace hN99:=hN99.mono hleN106;replace bM:=bM.trans hleN106;replace cD:=cD.trans hleN106;refine aU rfl rfl (bV rfl rfl rfl (bV rfl rfl rfl (bV rfl rfl rfl (dC lY rfl (fun b17=>bZ 0 rfl rfl rfl rfl eI rfl rfl rfl rfl rfl (bA rfl rfl (bA rfl rfl (aE (aR (aZ (aH (aU rfl rfl (fZ rfl rfl rfl (aU rfl rfl (bE rfl rfl (decide_eq_false (by decide)) rfl (aU rfl rfl (bE rfl rfl (decide_eq_false (by decide)) rfl (fZ rfl rfl rfl (dL rfl (decide_eq_false (by decide)) rfl rfl (aU rfl rfl (bE rfl rfl (decide_eq_false (by decide)) rfl (aU rfl rfl (bE rfl rfl (decide_eq_false (by decide)) rfl (fC rfl rfl (dL rfl (decide_eq_false (by decide)) rfl rfl (aU rfl rfl (bE rfl rfl rfl rfl (aU rfl rfl (bE rfl rfl rfl rfl (fC rfl rfl ?_))))))))))))))))))))))))))))));refine dL rfl rfl rfl rfl (aU rfl rfl (bE rfl rfl rfl rfl (bK 1 rfl rfl eI rfl rfl rfl (bE rfl rfl rfl rfl (bK 0 rfl rfl eI rfl rfl rfl (bE rfl rfl rfl rfl (bR rfl (sameSealed_y (cdN tb l j) _ _ _ _ _ hN99 hN106 (by have:=(hok j (by omega)).1.2.1.2;omega)) rfl (bE rfl rfl rfl rfl (fC rfl rfl (dL rfl rfl rfl rfl (aE (aR (dY rfl rfl (bS (dP (aR (aH (dJ rfl rfl (bU (by omega) (by omega)) rfl (aU rfl rfl (aE (cR (j + 1) (by show l.length - (j + 1) < l.length - j;omega) (aQ rfl (aQ rfl (aQ rfl (aQ rfl bP)))) (⟨by show j + 1 ≤ l.length;omega,rfl⟩) (by repeat(first|exact sL _|apply sD|apply sC)) (cD))))))))))))))))))))))
 refine dX (dA (cZ (dI rfl (aR (aZ (aH (aU rfl rfl (bA rfl rfl (bA rfl rfl (aE (aR (bW ?_))))))))))));refine ⟨rfl,_,[],rfl,(by repeat(first|exact sL _|apply sC)),bX.mk ?_⟩
 exact ⟨_,_,rfl,by assumption⟩
end Go.Proofs

namespace Go.Proofs
open Go.XL
/-! ### Lists that grow -/
theorem tA {α : Type} {l : List α} {x y : α} {i : Nat} (h : (l ++ [x])[i]? = some y) : l[i]? = some y ∨ (i = l.length ∧ y = x):=by
 rw [List.getElem?_append] at h
 split at h
 ·exact .inl h
 rename_i hi
 right
 cases hq : i - l.length with
 | zero=>rw [hq] at h;simp at h;exact ⟨by omega,h.symm⟩
 | succ q=>rw [hq] at h;simp at h
theorem sO.snoc {α : Type} {f : α → Int} {l : List α} {x : α} (h : sO f l) (hx : ∀ y ∈ l,f y < f x) : sO f (l ++ [x]):=by
 intro i j a b hij ha hb
 rcases tA hb with hb2 | ⟨hj,rfl⟩
 ·rcases tA ha with ha2 | ⟨hi,rfl⟩
  ·exact h i j a b hij ha2 hb2
  exfalso;have h2 : _ < l.length:=(List.getElem?_eq_some_iff.1 hb2).1;omega
 rcases tA ha with ha2 | ⟨hi,rfl⟩
 ·exact hx a (List.mem_of_getElem? ha2)
 omega
theorem aDo {α : Type} {q : α → α → Int} {l : List α} {x : α} (h : fV q l = true) (hx : ∀ y ∈ l,q y x < 0) : fV q (l ++ [x]) = true:=by
 rw [yD] at h ⊢
 intro i a b ha hb
 rcases tA hb with hb2 | ⟨hj,rfl⟩
 ·rcases tA ha with ha2 | ⟨hi,rfl⟩
  ·exact h i a b ha2 hb2
  exfalso;have h2 : _ < l.length:=(List.getElem?_eq_some_iff.1 hb2).1;omega
 rcases tA ha with ha2 | ⟨hi,rfl⟩
 ·exact hx a (List.mem_of_getElem? ha2)
 omega
theorem sO.nil {α : Type} (f : α → Int) : sO f []:=fun i j x y _ h=>by simp at h
theorem shows_more {tb : List Int × List Int} {s : Sess} {x : Card} {y : Shwn} (h : vK tb s y) : vK tb (addS s x) y :=
 let ⟨cd,h1,h2⟩:=h;⟨cd,List.mem_append_left _ h1,h2⟩
theorem GoodS.addS {tb : List Int × List Int} {s : Sess} {x : Card} (h : GoodS tb s) (h0 : s.K = [] ∧ s.X = []) (hq : zY s x) (hx : ∀ y ∈ s.S,y.J < x.J) (hl : s.S.length ≤ 1000) : GoodS tb (addS s x) where
 r:=h.r
 e:=h.e
 c:=h.c
 j:=h.j
 n:=h.n
 l:=h.l
 t:=h.t
 j1:=h.j1
 j2:=h.j2
 s1:=h.s1.snoc hx
 s2:=fun y hy=>by
  rcases List.mem_append.1 hy with hy | hy
  ·exact h.s2 y hy
  obtain rfl:=List.mem_singleton.1 hy;exact hq
 k1:=h.k1
 k2:=h.k2
 x1:=h.x1
 x2:=fun y hy=>shows_more (h.x2 y hy)
 o:=.inr (by show (s.K.length : Int) + (s.X.length : Int) = 0;rw [h0.1,h0.2];rfl)
 lS:=by show (s.S ++ [x]).length ≤ 1000000;rw [List.length_append];simp;omega
 lK:=h.lK
 lX:=h.lX
theorem GoodS.addK {tb : List Int × List Int} {s : Sess} {x : KeySh} (h : GoodS tb s) (h0 : nO s) (hq : vT s x) (hx : ∀ y ∈ s.K,qK y x < 0) (hl : s.K.length ≤ 1000) : GoodS tb (addK s x) where
 r:=h.r
 e:=h.e
 c:=h.c
 j:=h.j
 n:=h.n
 l:=h.l
 t:=h.t
 j1:=h.j1
 j2:=h.j2
 s1:=h.s1
 s2:=h.s2
 k1:=aDo h.k1 hx
 k2:=fun y hy=>by
  rcases List.mem_append.1 hy with hy | hy
  ·exact h.k2 y hy
  obtain rfl:=List.mem_singleton.1 hy;exact hq
 x1:=h.x1
 x2:=h.x2
 o:=.inl h0
 lS:=h.lS
 lK:=by show (s.K ++ [x]).length ≤ 1000000;rw [List.length_append];simp;omega
 lX:=h.lX
theorem GoodS.addX {tb : List Int × List Int} {s : Sess} {x : Shwn} (h : GoodS tb s) (h0 : nO s) (hq : vK tb s x) (hx : ∀ y ∈ s.X,y.J < x.J) (hl : s.X.length ≤ 1000) : GoodS tb (addX s x) where
 r:=h.r
 e:=h.e
 c:=h.c
 j:=h.j
 n:=h.n
 l:=h.l
 t:=h.t
 j1:=h.j1
 j2:=h.j2
 s1:=h.s1
 s2:=h.s2
 k1:=h.k1
 k2:=h.k2
 x1:=h.x1.snoc hx
 x2:=fun y hy=>by
  rcases List.mem_append.1 hy with hy | hy
  ·exact h.x2 y hy
  obtain rfl:=List.mem_singleton.1 hy;exact hq
 o:=.inl h0
 lS:=h.lS
 lK:=h.lK
 lX:=by show (s.X ++ [x]).length ≤ 1000000;rw [List.length_append];simp;omega
theorem GoodS.setT {tb : List Int × List Int} {s : Sess} {t : Int} (h : GoodS tb s) (h0 : nO s) (ht : s.T ≤ t ∧ t < 2097152) : GoodS tb (setT s t) where
 r:=h.r
 e:=h.e
 c:=h.c
 j:=h.j
 n:=h.n
 l:=h.l
 t:=by have:=h.t;show 0 ≤ t ∧ t < 2097152;omega
 j1:=h.j1
 j2:=h.j2
 s1:=h.s1
 s2:=h.s2
 k1:=h.k1
 k2:=h.k2
 x1:=h.x1
 x2:=h.x2
 o:=.inl (by
  rcases h0 with h0 | h0
  ·exact .inl (by show t ≥ s.L;omega)
  exact .inr h0)
 lS:=h.lS
 lK:=h.lK
 lX:=h.lX
/-! ### The judges -/
def rB (n : Nat) : List Int:=(List.range n).map fun i=>((i : Nat) : Int)
theorem mM (n : Nat) : (rB n).length = n:=by simp [rB]
theorem aJp {n i : Nat} (h : i < n) : (rB n)[i]? = some (i : Int):=by
 unfold rB;rw [List.getElem?_map,List.getElem?_range h];rfl
theorem aCn {n i : Nat} (h : i < n) : (i : Int) ∈ rB n:=List.mem_of_getElem? (aJp h)
theorem aJc {n : Nat} {y : Int} (h : y ∈ rB n) : ∃ i : Nat,i < n ∧ y = (i : Int):=by
 obtain ⟨i,hi,rfl⟩:=List.mem_map.1 h
 exact ⟨i,List.mem_range.1 hi,rfl⟩
theorem sI (k : Nat) : rB (k + 1) = rB k ++ [(k : Int)]:=by unfold rB;rw [List.range_succ,List.map_append];rfl
theorem judL_rise (n : Nat) : fV sgn (rB n) = true:=by
  induction n with
  | zero=>rfl
  | succ n ih =>
    rw [sI]
    refine aDo ih (fun y hy=>?_)
    obtain ⟨i,hi,rfl⟩:=aJc hy
    exact mT.2 (by omega)
abbrev lL (c m : Int) (n : Nat) (S : List Card) (K : List KeySh) (X : List Shwn) : Sess:=⟨0,0,c,rB n,m,100,0,S,K,X⟩
theorem good_init (tb : List Int × List Int) {c m : Int} {n : Nat} (hc : 1 ≤ c ∧ c ≤ 3) (hn : 2 ≤ n ∧ n ≤ 5) (hm : 1 ≤ m ∧ m ≤ n) : GoodS tb (lL c m n [] [] []) where
 r:=by show (0 : Int) ≤ 0 ∧ (0 : Int) < 8;omega
 e:=by show (0 : Int) ≤ 0 ∧ (0 : Int) < 4096;omega
 c:=by show 0 ≤ c - 1 ∧ c - 1 < 64;omega
 j:=by show 0 ≤ ((rB n).length : Int) - 1 ∧ ((rB n).length : Int) - 1 < 24;rw [mM];omega
 n:=by show 0 ≤ m - 1 ∧ m - 1 < ((rB n).length : Int);rw [mM];omega
 l:=by show (0 : Int) ≤ 100 ∧ (100 : Int) < 2097152;omega
 t:=by show (0 : Int) ≤ 0 ∧ (0 : Int) < 2097152;omega
 j1:=judL_rise n
 j2:=fun y hy=>by obtain ⟨i,hi,rfl⟩:=aJc hy;omega
 s1:=sO.nil _
 s2:=fun x hx=>by cases hx
 k1:=rfl
 k2:=fun x hx=>by cases hx
 x1:=sO.nil _
 x2:=fun x hx=>by cases hx
 o:=.inr rfl
 lS:=by show (0 : Nat) ≤ 1000000;omega
 lK:=by show (0 : Nat) ≤ 1000000;omega
 lX:=by show (0 : Nat) ≤ 1000000;omega
/-! ### aM3 sealed -/
def oM (tb : List Int × List Int) (l : List Jdg) (k : Nat) : List Card:=(List.range k).map (cdN tb l)
theorem lI (tb : List Int × List Int) (l : List Jdg) (k : Nat) : (oM tb l k).length = k:=by simp [oM]
theorem cdsN_succ (tb : List Int × List Int) (l : List Jdg) (k : Nat) : oM tb l (k + 1) = oM tb l k ++ [cdN tb l k]:=by unfold oM;rw [List.range_succ,List.map_append];rfl
theorem aA8 (tb : List Int × List Int) (l : List Jdg) {i k : Nat} (h : i < k) : (oM tb l k)[i]? = some (cdN tb l i):=by
 unfold oM;rw [List.getElem?_map,List.getElem?_range h];rfl
theorem aNk (tb : List Int × List Int) (l : List Jdg) (i : Nat) : (cdN tb l i).J = (i : Int):=rfl
theorem aIw (tb : List Int × List Int) (l : List Jdg) (k : Nat) : ∀ y ∈ oM tb l k,y.J < (cdN tb l k).J:=by
 intro y hy
 obtain ⟨i,hi,rfl⟩:=List.mem_map.1 hy
 have:=List.mem_range.1 hi
 rw [aNk,aNk];omega
theorem aGa {tb : List Int × List Int} {l : List Jdg} {c m : Int} (hr : Rgt l c m) (hc : 1 ≤ c ∧ c ≤ 3) (hl : l.length ≤ 5) {k : Nat} (hk : k < l.length) (S : List Card) (K : List KeySh) (X : List Shwn) : zY (lL c m l.length S K X) (cdN tb l k):=by
 have hx:=List.getElem?_eq_getElem hk
 have hok:=hr.ok (tb:=tb) (by omega) hl k hk
 refine ⟨hok.1,rfl,rfl,aCn hk,?_⟩
 rw [xJ hx]
 exact aFj (hr _ (List.getElem_mem hk)) k
theorem aHd {c m : Int} {n : Nat} {S : List Card} {K : List KeySh} {X : List Shwn} (h : S.length < n) : ¬ nO (lL c m n S K X):=by
 rintro (h1 | h1)
 ·exact absurd h1 (by show ¬ ((0 : Int) ≥ 100);omega)
 have h2 : S.length = (rB n).length:=h1
 rw [mM] at h2;omega
theorem rY {c m : Int} {n : Nat} {S : List Card} {K : List KeySh} {X : List Shwn} (h : S.length = n) : nO (lL c m n S K X):=.inr (by show S.length = (rB n).length;rw [mM];exact h)
/-! ### aM3 shown -/
theorem aGy : ∀ {m k : List Int},m.length = k.length → (∀ y ∈ m,0 ≤ y ∧ y ≤ 1000) → (∀ y ∈ k,0 ≤ y ∧ y ≤ 1073741788) → List.zipWith aHb (List.zipWith xD m k) k = m
  | [],_,_,_,_=>by simp
  | _ :: _,[],h,_,_=>by simp at h
  | a :: m,b :: k,h,hm,hk=>by
    simp only [List.zipWith_cons_cons,List.cons.injEq]
    have h1:=hm a (by simp);have h2:=hk b (by simp)
    exact ⟨sub_add (by omega) (by omega),aGy (by simpa using h) (fun y hy=>hm y (by simp [hy])) (fun y hy=>hk y (by simp [hy]))⟩
theorem yV {tb : List Int × List Int} {c m : Int} {x : Jdg} (h : jOK c m x) (j : Nat) : jB (cdJ tb x j) x.K = x.M:=by
 unfold jB
 dsimp only [cdJ,aLs]
 exact aGy (by have:=h.m;have:=h.k;omega) h.M h.K
theorem aK7 {tb : List Int × List Int} {c m : Int} {x : Jdg} (h : jOK c m x) (hc : 1 ≤ c ∧ c ≤ 64) {j : Nat} (hj : j ≤ 255) : aC7 (cdJ tb x j) x.K:=by
 refine ⟨⟨⟨(aMy h hc hj).1,h.kk hc⟩,?_⟩,?_⟩
 ·have:=aFj (tb:=tb) h j;have:=h.k;omega
 rw [yV h j];exact h.km hc
theorem aEm {tb : List Int × List Int} {c m : Int} {x : Jdg} (h : jOK c m x) (hc : 1 ≤ c ∧ c ≤ 64) {j : Nat} (hj : j ≤ 255) : aKp tb (cdJ tb x j) x.K x.D:=by
 refine ⟨aK7 h hc hj,?_⟩
 rw [yV h j]
 dsimp only [cdJ,aLs]
end Go.Proofs

namespace Go.Proofs
open Go.XL
open Ra (Pt atV tI dealL)
abbrev lst (l : List Jdg) (j : Nat) : Bool:=(l.getD j jd0).X
abbrev skp (l : List Jdg) (j h : Nat) : Prop:=h = j ∨ lst l h = true
def pP (l : List Jdg) (j i : Nat) : List Int:=(l.getD j jd0).K.getD i 0 :: (l.getD j jd0).P.getD i []
def aAg (l : List Jdg) (j i h : Nat) : Int:=Ra.valP ((h : Int) + 1) (pP l j i) 0 1
def ksC (l : List Jdg) (j i : Nat) : Nat → List KeySh
 | 0=>[]
 | h + 1=>if skp l j h then ksC l j i h else ksC l j i h ++ [⟨(j : Int),(i : Int),(h : Int),aAg l j i h⟩]
def gvC (l : List Jdg) (j i : Nat) : Nat → List Pt
 | 0=>[]
 | h + 1=>if skp l j h then gvC l j i h else gvC l j i h ++ [⟨(h : Int) + 1,aAg l j i h⟩]
def ksJ (l : List Jdg) (j n : Nat) : Nat → List KeySh
 | 0=>[]
 | i + 1=>ksJ l j n i ++ ksC l j i n
def KL (l : List Jdg) : Nat → List KeySh
 | 0=>[]
 | j + 1=>if lst l j = true then KL l j ++ ksJ l j l.length (l.getD j jd0).K.length else KL l j
def shJ (l : List Jdg) (j : Nat) : Shwn:=⟨(j : Int),(l.getD j jd0).K,(l.getD j jd0).D⟩
def XL (l : List Jdg) : Nat → List Shwn
 | 0=>[]
 | j + 1=>if lst l j = true then XL l j else XL l j ++ [shJ l j]
def oB (l : List Jdg) : Nat → Nat
 | 0=>0
 | k + 1=>if lst l k = true then oB l k else oB l k + 1
theorem aF7 {l : List Jdg} {j i h : Nat} (hs : skp l j h) : ksC l j i (h + 1) = ksC l j i h:=by rw [ksC,if_pos hs]
theorem aF6 {l : List Jdg} {j i h : Nat} (hs : ¬ skp l j h) : ksC l j i (h + 1) = ksC l j i h ++ [⟨(j : Int),(i : Int),(h : Int),aAg l j i h⟩]:=by rw [ksC,if_neg hs]
theorem yH {l : List Jdg} {j i h : Nat} (hs : skp l j h) : gvC l j i (h + 1) = gvC l j i h:=by rw [gvC,if_pos hs]
theorem xS {l : List Jdg} {j i h : Nat} (hs : ¬ skp l j h) : gvC l j i (h + 1) = gvC l j i h ++ [⟨(h : Int) + 1,aAg l j i h⟩]:=by rw [gvC,if_neg hs]
theorem aN2 {l : List Jdg} {j : Nat} (h : lst l j = true) : KL l (j + 1) = KL l j ++ ksJ l j l.length (l.getD j jd0).K.length:=by rw [KL,if_pos h]
theorem aNt {l : List Jdg} {j : Nat} (h : ¬ lst l j = true) : KL l (j + 1) = KL l j:=by rw [KL,if_neg h]
theorem aOa {l : List Jdg} {j : Nat} (h : lst l j = true) : XL l (j + 1) = XL l j:=by rw [XL,if_pos h]
theorem aOk {l : List Jdg} {j : Nat} (h : ¬ lst l j = true) : XL l (j + 1) = XL l j ++ [shJ l j]:=by rw [XL,if_neg h]
theorem aH3 {l : List Jdg} {k : Nat} (h : lst l k = true) : oB l (k + 1) = oB l k:=by rw [oB,if_pos h]
theorem aHu {l : List Jdg} {k : Nat} (h : ¬ lst l k = true) : oB l (k + 1) = oB l k + 1:=by rw [oB,if_neg h]
theorem aEe (l : List Jdg) : ∀ k,oB l k ≤ k
  | 0=>by simp [oB]
  | k + 1=>by
    have:=aEe l k
    rw [oB];split <;> omega
theorem rN {l : List Jdg} {j i : Nat} : ∀ {h : Nat} {y : KeySh},y ∈ ksC l j i h → ∃ w : Nat,w < h ∧ ¬ skp l j w ∧ y = ⟨(j : Int),(i : Int),(w : Int),aAg l j i w⟩
  | 0,y,hy=>by simp [ksC] at hy
  | h + 1,y,hy=>by
    by_cases hs : skp l j h
    · rw [aF7 hs] at hy
      obtain ⟨w,h1,h2⟩:=rN hy;exact ⟨w,by omega,h2⟩
    rw [aF6 hs] at hy
    rcases List.mem_append.1 hy with hy | hy
    · obtain ⟨w,h1,h2⟩:=rN hy;exact ⟨w,by omega,h2⟩
    obtain rfl:=List.mem_singleton.1 hy;exact ⟨h,by omega,hs,rfl⟩
theorem yA {l : List Jdg} {j n : Nat} : ∀ {i : Nat} {y : KeySh},y ∈ ksJ l j n i → ∃ i' : Nat,i' < i ∧ y ∈ ksC l j i' n
  | 0,y,hy=>by simp [ksJ] at hy
  | i + 1,y,hy=>by
    rw [ksJ] at hy
    rcases List.mem_append.1 hy with hy | hy
    · obtain ⟨i',h1,h2⟩:=yA hy;exact ⟨i',by omega,h2⟩
    exact ⟨i,by omega,hy⟩
theorem aEv {l : List Jdg} : ∀ {j : Nat} {y : KeySh},y ∈ KL l j → ∃ j' : Nat,j' < j ∧ y ∈ ksJ l j' l.length (l.getD j' jd0).K.length
  | 0,y,hy=>by simp [KL] at hy
  | j + 1,y,hy=>by
    rw [KL] at hy
    split at hy
    · rcases List.mem_append.1 hy with hy | hy
      · obtain ⟨j',h1,h2⟩:=aEv hy;exact ⟨j',by omega,h2⟩
      exact ⟨j,by omega,hy⟩
    obtain ⟨j',h1,h2⟩:=aEv hy;exact ⟨j',by omega,h2⟩
theorem aLu {x y : KeySh} (h : x.O < y.O ∨ (x.O = y.O ∧ (x.C < y.C ∨ (x.C = y.C ∧ x.W < y.W)))) : qK x y < 0:=by
 unfold qK orL
 rcases h with h | ⟨h1,h | ⟨h2,h⟩⟩
 ·simp [uK h]
 ·rw [wQ.2 h1];simp [uK h]
 rw [wQ.2 h1,wQ.2 h2];simp [uK h]
theorem aFp {l : List Jdg} {j i h n : Nat} {v : Int} : ∀ y ∈ KL l j ++ ksJ l j n i ++ ksC l j i h,qK y ⟨(j : Int),(i : Int),(h : Int),v⟩ < 0:=by
 intro y hy
 rcases List.mem_append.1 hy with hy | hy
 ·rcases List.mem_append.1 hy with hy | hy
  ·obtain ⟨j',h1,hy⟩:=aEv hy;obtain ⟨i',h2,hy⟩:=yA hy;obtain ⟨w,h3,_,rfl⟩:=rN hy
   exact aLu (.inl (by show (j' : Int) < (j : Int);omega))
  obtain ⟨i',h2,hy⟩:=yA hy;obtain ⟨w,h3,_,rfl⟩:=rN hy
  exact aLu (.inr ⟨rfl,.inl (by show (i' : Int) < (i : Int);omega)⟩)
 obtain ⟨w,h3,_,rfl⟩:=rN hy
 exact aLu (.inr ⟨rfl,.inr ⟨rfl,by show (w : Int) < (h : Int);omega⟩⟩)
theorem aEq {l : List Jdg} : ∀ {k : Nat} {y : Shwn},y ∈ XL l k → ∃ j : Nat,j < k ∧ lst l j = false ∧ y = shJ l j
  | 0,y,hy=>by simp [XL] at hy
  | k + 1,y,hy=>by
    rw [XL] at hy
    split at hy
    · obtain ⟨j,h1,h2⟩:=aEq hy;exact ⟨j,by omega,h2⟩
    rename_i hs
    rcases List.mem_append.1 hy with hy | hy
    · obtain ⟨j,h1,h2⟩:=aEq hy;exact ⟨j,by omega,h2⟩
    obtain rfl:=List.mem_singleton.1 hy;exact ⟨k,by omega,by cases h : lst l k <;> simp_all,rfl⟩
theorem aLr {l : List Jdg} : ∀ {k j : Nat},j < k → lst l j = false → shJ l j ∈ XL l k
  | 0,j,h,_=>by omega
  | k + 1,j,h,hj=>by
    rw [XL]
    split
    · rename_i hs
      have : j ≠ k:=fun e=>by subst e;rw [hj] at hs;cases hs
      exact aLr (by omega) hj
    by_cases e : j = k
    · subst e;exact List.mem_append_right _ (List.mem_singleton.2 rfl)
    exact List.mem_append_left _ (aLr (by omega) hj)
theorem aMc {l : List Jdg} {k : Nat} : ∀ y ∈ XL l k,y.J < (shJ l k).J:=by
 intro y hy
 obtain ⟨j,h1,_,rfl⟩:=aEq hy
 show (j : Int) < (k : Int)
 omega
theorem aH6 (l : List Jdg) : ∀ k,(XL l k).length ≤ k
  | 0=>by simp [XL]
  | k + 1=>by
    have:=aH6 l k
    rw [XL];split
    · omega
    rw [List.length_append];simp;omega
theorem aE8 (l : List Jdg) (j i : Nat) : ∀ h,(ksC l j i h).length ≤ h
  | 0=>by simp [ksC]
  | h + 1=>by
    have:=aE8 l j i h
    rw [ksC];split
    · omega
    rw [List.length_append];simp;omega
theorem aFn (l : List Jdg) (j n : Nat) : ∀ i,(ksJ l j n i).length ≤ i * n
  | 0=>by simp [ksJ]
  | i + 1=>by
    have h1:=aFn l j n i
    have h2:=aE8 l j i n
    rw [ksJ,List.length_append,Nat.succ_mul];omega
theorem aKu {l : List Jdg} (hc : ∀ x ∈ l,x.K.length ≤ 3) (hl : l.length ≤ 5) : ∀ j,j ≤ l.length → (KL l j).length ≤ j * 15
  | 0,_=>by simp [KL]
  | j + 1,hj=>by
    have h1:=aKu hc hl j (by omega)
    rw [KL];split
    · have h2:=aFn l j l.length (l.getD j jd0).K.length
      have h3 : (l.getD j jd0).K.length ≤ 3:=by rw [vE (List.getElem?_eq_getElem (show j < l.length by omega))];exact hc _ (List.getElem_mem _)
      have h4 : (l.getD j jd0).K.length * l.length ≤ 3 * 5:=Nat.mul_le_mul h3 hl
      rw [List.length_append,Nat.succ_mul];omega
    omega
theorem zW {l : List Jdg} {j : Nat} (i : Nat) (hj : lst l j = true) : ∀ h,(gvC l j i h).length = oB l h
  | 0=>rfl
  | h + 1=>by
    have ih:=zW i hj h
    by_cases hs : skp l j h
    · rw [yH hs,aH3 (by rcases hs with rfl | hs;exact hj;exact hs),ih]
    rw [xS hs,aHu (fun e=>hs (.inr e)),List.length_append,ih];rfl
theorem zX (l : List Jdg) (j i : Nat) : ∀ h,(gvC l j i h).Sublist (dealL (pP l j i) h)
  | 0=>by simp [gvC]
  | h + 1=>by
    have ih:=zX l j i h
    rw [Ra.dealL_succ]
    by_cases hs : skp l j h
    · rw [yH hs];exact ih.trans (List.sublist_append_left _ _)
    rw [xS hs];exact List.Sublist.append ih (List.Sublist.refl [(⟨(h : Int) + 1,aAg l j i h⟩ : Pt)])
theorem aKv {l : List Jdg} {j i h : Nat} {p : Pt} (hp : p ∈ gvC l j i h) : ∃ w : Nat,w < h ∧ p = ⟨(w : Int) + 1,Ra.valP ((w : Int) + 1) (pP l j i) 0 1⟩:=Ra.dealL_mem ((zX l j i h).mem hp)
/-! ### Points of a key -/
theorem aCo (j c : Int) (a b : List KeySh) : pW j c (a ++ b) = pW j c a ++ pW j c b:=by unfold pW;rw [List.filter_append,List.map_append]
theorem aDg {j c : Int} {a : List KeySh} (h : ∀ y ∈ a,¬ (y.O = j ∧ y.C = c)) : pW j c a = []:=by
 unfold pW
 rw [List.filter_eq_nil_iff.2 (fun y hy=>by simpa using h y hy)];rfl
theorem aNq (l : List Jdg) (j i : Nat) : ∀ h,pW (j : Int) (i : Int) (ksC l j i h) = gvC l j i h
  | 0=>rfl
  | h + 1=>by
    have ih:=aNq l j i h
    by_cases hs : skp l j h
    · rw [aF7 hs,yH hs,ih]
    rw [aF6 hs,xS hs,aCo,ih]
    congr 1
    simp [pW]
theorem aM0 (l : List Jdg) (j n : Nat) {i : Nat} : ∀ k,pW (j : Int) (i : Int) (ksJ l j n k) = if i < k then gvC l j i n else []
  | 0=>rfl
  | k + 1=>by
    have ih:=aM0 l j n (i:=i) k
    rw [ksJ,aCo,ih]
    by_cases h : i = k
    · subst h
      rw [if_neg (by omega),if_pos (by omega),aNq];rfl
    rw [aDg (a:=ksC l j k n) (fun y hy=>by
      obtain ⟨w,_,_,rfl⟩:=rN hy
      rintro ⟨_,h2⟩
      have h2 : (k : Int) = (i : Int):=h2
      omega),List.append_nil]
    by_cases h2 : i < k
    · rw [if_pos h2,if_pos (by omega)]
    rw [if_neg h2,if_neg (by omega)]
theorem pts_J_ne (l : List Jdg) {j j' : Nat} (hj : j' ≠ j) (n k : Nat) (c : Int) : pW (j : Int) c (ksJ l j' n k) = []:=aDg fun y hy=>by
 obtain ⟨i',_,hy⟩:=yA hy;obtain ⟨w,_,_,rfl⟩:=rN hy;rintro ⟨h1,_⟩
 have h1 : (j' : Int) = (j : Int):=h1
 omega
theorem aMv (l : List Jdg) (j i : Nat) : ∀ k,pW (j : Int) (i : Int) (KL l k) = if j < k ∧ lst l j = true ∧ i < (l.getD j jd0).K.length then gvC l j i l.length else []
  | 0=>by rw [if_neg (by omega)];rfl
  | k + 1=>by
    have ih:=aMv l j i k
    by_cases hk : lst l k = true
    · rw [aN2 hk,aCo,ih]
      by_cases h : j = k
      · subst h
        rw [if_neg (by omega),aM0,List.nil_append]
        by_cases h2 : i < (l.getD j jd0).K.length
        · rw [if_pos h2,if_pos ⟨by omega,hk,h2⟩]
        rw [if_neg h2,if_neg (fun e=>h2 e.2.2)]
      rw [pts_J_ne l (fun e=>h e.symm),List.append_nil]
      by_cases h2 : j < k ∧ lst l j = true ∧ i < (l.getD j jd0).K.length
      · rw [if_pos h2,if_pos ⟨by omega,h2.2⟩]
      rw [if_neg h2,if_neg (fun e=>h2 ⟨by omega,e.2⟩)]
    rw [aNt hk,ih]
    by_cases h2 : j < k ∧ lst l j = true ∧ i < (l.getD j jd0).K.length
    · rw [if_pos h2,if_pos ⟨by omega,h2.2⟩]
    rw [if_neg h2,if_neg (fun e=>h2 ⟨by
      have : j ≠ k:=fun e2=>by subst e2;exact hk e.2.1
      omega,e.2⟩)]
/-! ### Enough points -/
theorem gv_map (l : List Jdg) (j i h : Nat) (q : List Pt) (hq : ∀ p ∈ q,p ∈ gvC l j i h) : (q.map fun p=>(⟨p.X,Ra.valP p.X (pP l j i) 0 1⟩ : Pt)) = q:=by
 conv=>rhs;rw [← List.map_id q]
 refine List.map_congr_left fun p hp=>?_
 obtain ⟨w,_,rfl⟩:=aKv (hq p hp)
 rfl
theorem gv_nd (l : List Jdg) (j i : Nat) {h : Nat} (hh : h ≤ 24) {q : List Pt} (hq : q.Sublist (gvC l j i h)) : Ra.Nd q:=by
 have hs:=hq.trans (zX l j i h)
 have hn : (q.map Pt.X).Nodup:=(hs.map Pt.X).nodup (Ra.dealL_nodup _ _)
 show (q.map _).Nodup
 have : (q.map fun p : Pt=>p.X % 1073741789) = q.map Pt.X:=List.map_congr_left fun p hp=>by
  have:=Ra.dealL_ok hh (hs.mem hp)
  unfold Ra.okPt at this
  exact Int.emod_eq_of_lt (by omega) (by omega)
 rw [this];exact hn
theorem aNe {l : List Jdg} {j i h : Nat} (hh : h ≤ 24) {m : Nat} (hm : m ≤ (gvC l j i h).length) (hp : (pP l j i).length ≤ m) (t : Int) : (atV t ((gvC l j i h).take m)).1 = Ra.valP t (pP l j i) 0 1:=by
 have h1:=gv_map l j i h ((gvC l j i h).take m) (fun p hp=>List.mem_of_mem_take hp)
 have hl : ((gvC l j i h).take m).length = m:=by rw [List.length_take];omega
 have h2:=Ra.atV_through (l:=(gvC l j i h).take m) (by
   have:=(zX l j i h).length_le
   rw [Ra.dealL_len] at this;omega) (gv_nd l j i hh (List.take_sublist _ _)) (cs:=pP l j i) (by omega) t
 rw [h1] at h2
 rw [h2]
theorem val_0 {k : Int} (p : List Int) (h0 : 0 ≤ k) (h1 : k < 1073741789) : Ra.valP 0 (k :: p) 0 1 = k:=by rw [Ra.valP_eq];exact Ra.valR_zero p h0 h1
end Go.Proofs

namespace Go.Proofs
open Go.XL
open Ra (Pt atV tI dealL)
theorem jOK.at {c m : Int} {x : Jdg} (h : jOK c m x) {i : Nat} (hi : (i : Int) < c) : x.K[i]? = some (x.K.getD i 0) ∧ x.P[i]? = some (x.P.getD i []) ∧ (0 ≤ x.K.getD i 0 ∧ x.K.getD i 0 < 1073741789) ∧ ((x.P.getD i []).length : Int) = m - 1:=by
 have h1:=h.k;have h2:=h.p
 have e1:=uZ (l:=x.K) (d:=0) (show i < x.K.length by omega)
 have e2:=uZ (l:=x.P) (d:=[]) (show i < x.P.length by omega)
 refine ⟨e1,e2,?_,(h.P _ (List.mem_of_getElem? e2)).1⟩
 have:=h.K _ (List.mem_of_getElem? e1)
 omega
theorem Rgt.at {l : List Jdg} {c m : Int} (h : Rgt l c m) {j : Nat} (hj : j < l.length) : jOK c m (l.getD j jd0):=by
 rw [vE (List.getElem?_eq_getElem hj)];exact h _ (List.getElem_mem hj)
theorem rec_ok {l : List Jdg} {c : Int} {m : Nat} (hr : Rgt l c m) (hl : l.length ≤ 5) {j i : Nat} (hj : j < l.length) (hx : lst l j = true) (hi : (i : Int) < c) (hm : m ≤ oB l l.length) (hm1 : 1 ≤ m) : tI (gvC l j i l.length) = ((l.getD j jd0).K.getD i 0,0):=by
 obtain ⟨_,_,h3,h4⟩:=(hr.at hj).at hi;refine Ra.enough (s:=(l.getD j jd0).K.getD i 0) (more:=(l.getD j jd0).P.getD i []) (n:=l.length) (x:=gvC l j i l.length) (turned:=false) (k:=l.length) h3.1 h3.2 (by omega) ⟨gvC l j i l.length,?_,by simp⟩ ?_
 ·rw [List.take_of_length_le (by rw [Ra.dealL_len];exact Nat.le_refl _)]
  exact zX l j i l.length
 rw [zW i hx];omega
section
variable {l : List Jdg} {c : Int} {m : Nat} {S : List Card} {X : List Shwn} {t : Int}
abbrev aC6 (l : List Jdg) (c m t : Int) (S : List Card) (X : List Shwn) : Sess:=⟨0,0,c,rB l.length,m,100,t,S,KL l l.length,X⟩
theorem aEl {j i : Nat} : mI (aC6 l c m t S X) (j : Int) (i : Int) = if j < l.length ∧ lst l j = true ∧ i < (l.getD j jd0).K.length then gvC l j i l.length else []:=aMv l j i l.length
theorem key_fin (hr : Rgt l c m) (hl : l.length ≤ 5) {j i : Nat} (hj : j < l.length) (hx : lst l j = true) (hi : (i : Int) < c) (hm : m ≤ oB l l.length) (hm1 : 1 ≤ m) : kyV (aC6 l c m t S X) (j : Int) (i : Int) = ((l.getD j jd0).K.getD i 0,true):=by
 have hjo:=hr.at hj
 obtain ⟨_,_,h3,h4⟩:=hjo.at hi
 have hK:=hjo.k
 have hp : mI (aC6 l c m t S X) (j : Int) (i : Int) = gvC l j i l.length:=by rw [aEl,if_pos ⟨hj,hx,by omega⟩]
 have hN : (aC6 l c m t S X).N.toNat = m:=by show ((m : Nat) : Int).toNat = m;omega
 have rF:=zW i hx l.length
 have hpol : (pP l j i).length ≤ m:=by
  show ((l.getD j jd0).P.getD i []).length + 1 ≤ m
  omega
 rw [aNg (s:=aC6 l c m t S X) (by rw [hN,hp];omega) (fun p hpm=>by
  rw [hN,hp] at hpm ⊢
  rw [aNe (by omega) (by omega) hpol]
  obtain ⟨w,_,rfl⟩:=aKv (List.mem_of_mem_drop hpm)
  rfl),hN,hp,aNe (by omega) (by omega) hpol]
 unfold pP
 rw [val_0 _ h3.1 h3.2]
theorem key_few (hr : Rgt l c m) {j i : Nat} (hj : j < l.length) (hx : lst l j = true) (hm : ¬ m ≤ oB l l.length) : kyV (aC6 l c m t S X) (j : Int) (i : Int) = (0,false):=by
 refine aK4 ?_
 have hN : (aC6 l c m t S X).N.toNat = m:=by show ((m : Nat) : Int).toNat = m;omega
 rw [hN,aEl]
 split
 ·rw [zW i hx];exact hm
 rename_i h
 intro h2
 have : m = 0:=by simpa using h2
 omega
theorem key_own {j i : Nat} (hx : lst l j = false) (hm1 : 1 ≤ m) : kyV (aC6 l c m t S X) (j : Int) (i : Int) = (0,false):=by
 refine aK4 ?_
 have hN : (aC6 l c m t S X).N.toNat = m:=by show ((m : Nat) : Int).toNat = m;omega
 rw [hN,aEl,if_neg (fun e=>by rw [hx] at e;cases e.2.1)]
 simp;omega
end
def jP (l : List Jdg) (m : Nat) (late : Bool) (j : Nat) : Int × List Int :=
 if lst l j = true then (if m ≤ oB l l.length then (2,(l.getD j jd0).M) else if late = true then (3,[]) else (0,[])) else (1,(l.getD j jd0).M)
def aGo (l : List Jdg) (m : Nat) (late : Bool) : List (Int × List Int):=(List.range l.length).map (jP l m late)
theorem iM (l : List Jdg) (m : Nat) (late : Bool) : (aGo l m late).length = l.length:=by simp [aGo]
theorem tP {l : List Jdg} {m : Nat} {late : Bool} {j : Nat} (h : j < l.length) : (aGo l m late)[j]? = some (jP l m late j):=by
 unfold aGo;rw [List.getElem?_map,List.getElem?_range h];rfl
theorem outN_D {l : List Jdg} {m : Nat} {late : Bool} {j : Nat} (h : j < l.length) : (aGo l m late).getD j (0,[]) = jP l m late j:=by rw [List.getD_eq_getElem?_getD,tP h];rfl
theorem aEa {tb : List Int × List Int} {l : List Jdg} {c : Int} {m : Nat} (hr : Rgt l c m) (hc : 1 ≤ c ∧ c ≤ 3) (hl : 2 ≤ l.length ∧ l.length ≤ 5) (hm : 1 ≤ m ∧ m ≤ l.length) (t : Int) (late : Bool) (ht : late = true ↔ 100 + 1440 ≤ t)
  {aJ aS aK aX : Option Addr} {cJ cS cK cX : Nat} {H : Hp} (s : Sess) (hs : s = aC6 l c m t (oM tb l l.length) (XL l l.length)) (hJ : SlR (eO .i64) H aJ cJ s.J) (hS : SlR eV H aS cS s.S) (hK : SlR iY H aK cK s.K) (hX : SlR iZ H aX cX s.X) (hT : TB H tb) (hg : GoodS tb s) :
  ∀ (i : Nat) (j : Int),s.J[i]? = some j → ∀ (H2 : Hp),LeW H H2 → FnC Tryz.prog 21 #[.agg ⟨eR s aJ aS aK aX cJ cS cK cX⟩,.int .i64 j] H2 [] (bX fun v H3 _=>OpO ((aGo l m late).getD i (0,[])) H3 v):=by
 intro i j hj H2 hle
 have hjs : (rB l.length)[i]? = some j:=by rw [hs] at hj;exact hj
 have hil : i < l.length:=by have:=(List.getElem?_eq_some_iff.1 hjs).1;rw [mM] at this;exact this
 have hji : j = (i : Int):=by rw [aJp hil] at hjs;exact (Option.some.inj hjs).symm
 subst hji
 have hx:=List.getElem?_eq_getElem hil
 obtain ⟨x,hxe⟩ : ∃ x,x = l[i]:=⟨_,rfl⟩
 rw [← hxe] at hx
 have hjo : jOK c m x:=hr x (List.mem_of_getElem? hx)
 have hgd:=vE hx
 obtain ⟨cd,hcd⟩ : ∃ cd,cd = cdN tb l i:=⟨_,rfl⟩
 have hcj : cd = cdJ tb x i:=by rw [hcd];exact xJ hx
 have hcdJ : cd.J = (i : Int):=by rw [hcd];rfl
 have hcS : s.S[i]? = some cd:=by rw [hs,hcd];exact aA8 tb l hil
 have hop : nO s:=by rw [hs];exact .inr (by show (oM tb l l.length).length = (rB l.length).length;rw [lI,mM])
 have hN : s.N = (m : Int):=by rw [hs]
 have hC : s.C = c:=by rw [hs]
 have hL : s.L = 100:=by rw [hs]
 have hTt : s.T = t:=by rw [hs]
 have hcD : cd.D.length = 32:=by rw [hcj];exact aOd tb x i
 have hW : ∀ y ∈ s.K,0 ≤ y.W ∧ y.W ≤ 1000:=by
  intro y hy
  rw [hs] at hy
  obtain ⟨j',_,hy⟩:=aEv hy;obtain ⟨i',_,hy⟩:=yA hy;obtain ⟨w,h3,_,rfl⟩:=rN hy
  show 0 ≤ (w : Int) ∧ (w : Int) ≤ 1000
  omega
 have hNb : 0 ≤ s.N ∧ s.N ≤ 1000:=by rw [hN];omega
 have hJ2:=hJ.mono hle;have hS2:=hS.mono hle;have hK2:=hK.mono hle;have hX2:=hX.mono hle;have hT2:=hT.mono hle
 rw [outN_D hil]
 have h3 : ∀ (ac : Option Addr) (cc : Nat) (H4 : Hp),LeW H2 H4 → SlR (eO .i64) H4 ac cc cd.C → FnC Tryz.prog 68 #[.agg ⟨eR s aJ aS aK aX cJ cS cK cX⟩,.agg ⟨fA cd.R cd.E cd.J cd.C.length cd.D ac cc⟩] H4 [] (bX fun v H5 _=>OpV (if late = true then some (3,[]) else none) H5 v):=by
  intro ac cc H4 h4 hc4
  have:=late_fn s aJ aS aK aX cJ cS cK cX H4 (hJ2.mono h4) (hS2.mono h4) (hK2.mono h4) (hX2.mono h4) cd ac cc hc4 hcD (by rw [hL];omega)
  rw [hTt,hL] at this
  by_cases hlt : late = true
  ·rw [if_pos hlt];rw [if_pos (by have:=ht.1 hlt;omega)] at this;exact this
  rw [if_neg hlt];rw [if_neg (fun h=>hlt (ht.2 (by omega)))] at this;exact this
 by_cases hlx : lst l i = true
 ·
  have h1 : ∀ (ac : Option Addr) (cc : Nat) (H4 : Hp),LeW H2 H4 → SlR (eO .i64) H4 ac cc cd.C → FnC Tryz.prog 66 #[.agg ⟨eR s aJ aS aK aX cJ cS cK cX⟩,.agg ⟨fA cd.R cd.E cd.J cd.C.length cd.D ac cc⟩] H4 [] (bX fun v H5 _=>OpV none H5 v):=fun ac cc H4 h4 hc4 =>
   shown_n s aJ aS aK aX cJ cS cK cX H4 (hJ2.mono h4) (hS2.mono h4) (hK2.mono h4) (hX2.mono h4) cd ac cc hc4 hcD hg.x1 hg.lX (fun sh hsh e=>by
    rw [hs] at hsh
    obtain ⟨j',h5,h6,rfl⟩:=aEq hsh
    rw [hcdJ] at e
    have e : (j' : Int) = (i : Int):=e
    obtain rfl : j' = i:=by omega
    rw [h6] at hlx;cases hlx)
  by_cases hml : m ≤ oB l l.length
  ·have h2 : ∀ (ac : Option Addr) (cc : Nat) (H4 : Hp),LeW H2 H4 → SlR (eO .i64) H4 ac cc cd.C → FnC Tryz.prog 67 #[.agg ⟨eR s aJ aS aK aX cJ cS cK cX⟩,.agg ⟨fA cd.R cd.E cd.J cd.C.length cd.D ac cc⟩] H4 [] (bX fun v H5 _=>OpV (some (2,x.M)) H5 v):=by
    intro ac cc H4 h4 hc4
    have hk:=hjo.k
    have:=shared_y s aJ aS aK aX cJ cS cK cX H4 (hJ2.mono h4) (hS2.mono h4) (hK2.mono h4) (hX2.mono h4) cd ac cc hc4 hcD hg.lK hNb hW x.K (by rw [hC];exact hk) (by omega) (fun k hkl=>by
     rw [hs,hcdJ,key_fin hr hl.2 hil hlx (by omega) hml hm.1,hgd]) (by rw [hcj];exact aK7 hjo (by omega) (by omega))
    rw [show jB cd x.K = x.M by rw [hcj];exact yV hjo i] at this
    exact this
   have:=aFf s aJ aS aK aX cJ cS cK cX H2 hJ2 hS2 hK2 hX2 (i : Int) hop i cd hcS hcdJ hg.s1 hg.lS none (some (2,x.M)) _ h1 h2 h3
   unfold jP
   rw [if_pos hlx,if_pos hml,hgd]
   exact this
  have h2 : ∀ (ac : Option Addr) (cc : Nat) (H4 : Hp),LeW H2 H4 → SlR (eO .i64) H4 ac cc cd.C → FnC Tryz.prog 67 #[.agg ⟨eR s aJ aS aK aX cJ cS cK cX⟩,.agg ⟨fA cd.R cd.E cd.J cd.C.length cd.D ac cc⟩] H4 [] (bX fun v H5 _=>OpV none H5 v):=fun ac cc H4 h4 hc4 =>
   aGr s aJ aS aK aX cJ cS cK cX H4 (hJ2.mono h4) (hS2.mono h4) (hK2.mono h4) (hX2.mono h4) cd ac cc hc4 hcD hg.lK hNb hW (by rw [hC];omega) (by rw [hs,hcdJ];exact key_few (i:=0) hr hil hlx hml)
  have:=aFf s aJ aS aK aX cJ cS cK cX H2 hJ2 hS2 hK2 hX2 (i : Int) hop i cd hcS hcdJ hg.s1 hg.lS none none _ h1 h2 h3
  unfold jP
  rw [if_pos hlx,if_neg hml]
  by_cases hlt : late = true
  ·rw [if_pos hlt] at this ⊢;exact this
  rw [if_neg hlt] at this ⊢;exact this
 have hlf : lst l i = false:=by cases h : lst l i <;> simp_all
 have h1 : ∀ (ac : Option Addr) (cc : Nat) (H4 : Hp),LeW H2 H4 → SlR (eO .i64) H4 ac cc cd.C → FnC Tryz.prog 66 #[.agg ⟨eR s aJ aS aK aX cJ cS cK cX⟩,.agg ⟨fA cd.R cd.E cd.J cd.C.length cd.D ac cc⟩] H4 [] (bX fun v H5 _=>OpV (some (1,x.M)) H5 v):=by
  intro ac cc H4 h4 hc4
  have hsh : shJ l i ∈ s.X:=by rw [hs];exact aLr hil hlf
  have hopn : aKp tb cd (shJ l i).K (shJ l i).D:=by
   show aKp tb cd (l.getD i jd0).K (l.getD i jd0).D
   rw [hgd,hcj];exact aEm hjo (by omega) (by omega)
  have:=shown_y tb s aJ aS aK aX cJ cS cK cX H4 (hJ2.mono h4) (hS2.mono h4) (hK2.mono h4) (hX2.mono h4) cd ac cc hc4 hcD (hT2.mono h4) hg.x1 hg.lX (shJ l i) hsh (by rw [hcdJ];rfl) hopn
  rw [show jB cd (shJ l i).K = x.M by show jB cd (l.getD i jd0).K = x.M;rw [hgd,hcj];exact yV hjo i] at this
  exact this
 have h2 : ∀ (ac : Option Addr) (cc : Nat) (H4 : Hp),LeW H2 H4 → SlR (eO .i64) H4 ac cc cd.C → FnC Tryz.prog 67 #[.agg ⟨eR s aJ aS aK aX cJ cS cK cX⟩,.agg ⟨fA cd.R cd.E cd.J cd.C.length cd.D ac cc⟩] H4 [] (bX fun v H5 _=>OpV none H5 v):=fun ac cc H4 h4 hc4 =>
  aGr s aJ aS aK aX cJ cS cK cX H4 (hJ2.mono h4) (hS2.mono h4) (hK2.mono h4) (hX2.mono h4) cd ac cc hc4 hcD hg.lK hNb hW (by rw [hC];omega) (by rw [hs,hcdJ];exact key_own (i:=0) hlf hm.1)
 have:=aFf s aJ aS aK aX cJ cS cK cX H2 hJ2 hS2 hK2 hX2 (i : Int) hop i cd hcS hcdJ hg.s1 hg.lS (some (1,x.M)) none _ h1 h2 h3
 unfold jP
 rw [if_neg hlx,hgd]
 exact this
theorem known_before {s : Sess} {aJ aS aK aX : Option Addr} {cJ cS cK cX : Nat} {H : Hp} (hJ : SlR (eO .i64) H aJ cJ s.J) (hS : SlR eV H aS cS s.S) (hK : SlR iY H aK cK s.K) (hX : SlR iZ H aX cX s.X) (hno : ¬ nO s) (n : Nat) :
  ∀ (i : Nat) (j : Int),s.J[i]? = some j → ∀ (H2 : Hp),LeW H H2 → FnC Tryz.prog 21 #[.agg ⟨eR s aJ aS aK aX cJ cS cK cX⟩,.int .i64 j] H2 [] (bX fun v H3 _=>OpO ((List.replicate n ((0,[]) : Int × List Int)).getD i (0,[])) H3 v):=by
 intro i j hj H2 hle
 have e : (List.replicate n ((0,[]) : Int × List Int)).getD i (0,[]) = (0,[]):=by
  rw [List.getD_eq_getElem?_getD,List.getElem?_replicate];split <;> rfl
 rw [e]
 exact known_n s aJ aS aK aX cJ cS cK cX H2 (hJ.mono hle) (hS.mono hle) (hK.mono hle) (hX.mono hle) j hno
theorem deal_pol {l : List Jdg} {k i n : Nat} {x : Jdg} {c m : Int} (hx : l[k]? = some x) (h : jOK c m x) (hi : i < (rD x n).length) : (rD x n)[i]? = some (dealL (pP l k i) n):=by
 have h1:=aLi x n
 have h2:=h.k
 obtain ⟨e1,e2,_,_⟩:=h.at (i:=i) (by omega)
 unfold pP
 rw [vE hx]
 exact aH5 e1 e2
theorem no_skip {l : List Jdg} {k h : Nat} {x : Jdg} (h1 : h ≠ k) (hx : l[h]? = some x) (h2 : x.X = false) : ¬ skp l k h:=by
 rintro (e | e)
 ·exact h1 e
 have e : (l.getD h jd0).X = true:=e
 rw [vE hx,h2] at e;cases e
theorem tS {l : List Jdg} {k : Nat} {x : Jdg} {b : Bool} (hx : l[k]? = some x) (h : x.X = b) : lst l k = b:=by
 show (l.getD k jd0).X = b
 rw [vE hx];exact h
theorem aDw {b c : Bool} (h : (!b) = c) : b = !c:=by cases b <;> cases c <;> simp_all
theorem val_rng (l : List Jdg) (j i h : Nat) : 0 ≤ aAg l j i h ∧ aAg l j i h < 1073741789:=Ra.valP_rng _ _ _ _ (by decide) (by decide)
theorem zS {α : Type} {l : List α} {k : Nat} {x : α} (h : l[k]? = some x) : (l.drop k).take 1 = [x]:=by rw [iT h];rfl
theorem aE1 {c m : Int} {x : Jdg} (h : jOK c m x) (n : Nat) : (rD x n).length = x.K.length:=by
 have h1:=h.k;have h2:=h.p
 unfold rD;rw [List.length_zipWith];omega
theorem sT (l : List Jdg) (m : Nat) (late : Bool) (j : Nat) (h : (l.getD j jd0).M.length < 9223372036854775808) : (jP l m late j).2.length < 9223372036854775808:=by
 unfold jP
 split
 ·split
  ·exact h
  split <;> exact (by decide : (0 : Nat) < 9223372036854775808)
 exact h
theorem K5_len (l : List Jdg) (k i h : Nat) (hc : ∀ x ∈ l,x.K.length ≤ 3) (hl : l.length ≤ 5) (hk : k ≤ l.length) (hi : i ≤ 3) (hh : h ≤ 5) : (KL l k ++ ksJ l k l.length i ++ ksC l k i h).length ≤ 1000:=by
 have h1:=aKu hc hl k hk
 have h2:=aFn l k l.length i
 have h3:=aE8 l k i h
 have h4 : i * l.length ≤ 3 * 5:=Nat.mul_le_mul hi hl
 have h5 : k * 15 ≤ 5 * 15:=Nat.mul_le_mul_right 15 (by omega)
 rw [List.length_append,List.length_append]
 omega
theorem rep_at {α : Type} {n q : Nat} {d x : α} (h : (List.replicate n d)[q]? = some x) : d = x:=by
 rw [List.getElem?_replicate] at h
 split at h
 ·exact Option.some.inj h
 cases h
end Go.Proofs
