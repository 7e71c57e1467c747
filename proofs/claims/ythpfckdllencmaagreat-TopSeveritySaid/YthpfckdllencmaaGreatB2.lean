/- The logic's rules for slices that the call writes,and for slicing. No statement of the program stands here. -/
import Derived.Test.YthpfckdllencmaaGreatB1
import Derived.Carry
import Derived.ChangeArms
import Derived.ChangeSame
import Derived.Laws.StructEq
import Derived.ChangeKeysEq
import Derived.Laws.IdiomStrings
import Derived.RecoverIn
import Derived.Lib.SliceRun
set_option autoImplicit false
set_option linter.unusedSimpArgs false
set_option linter.unusedVariables false
set_option linter.unnecessarySimpa false
namespace Go.XL
theorem iH.set {α : Type} {ρ : Rep α} {H : Hp} {cs vs : List Value} {l : List α} {k : Nat} {u : α} (h : iH ρ H cs l) (hk : k < l.length) (hv : ρ.R H vs u) :
  iH ρ H (cs.take (k * ρ.sz) ++ vs ++ cs.drop (k * ρ.sz + ρ.sz)) (l.set k u):=by
 induction l generalizing cs k with
 | nil=>simp at hk
 | cons x l ih =>
  obtain ⟨c1,c2,rfl,h2,h3⟩:=h;have hl1:=ρ.len h2;cases k with
  | zero =>
   refine ⟨vs,c2,?_,hv,h3⟩;simp [List.drop_append,hl1]
  | succ k =>
   refine ⟨c1,_,?_,h2,ih h3 (by simpa using hk)⟩;rw [Nat.add_mul,Nat.one_mul,List.take_append,List.drop_append,hl1,show k * ρ.sz + ρ.sz - ρ.sz = k * ρ.sz by omega,show k * ρ.sz + ρ.sz + ρ.sz - ρ.sz = k * ρ.sz + ρ.sz by omega];rw [fJ zO,List.drop_eq_nil_of_le zO];simp
theorem iH.replicate {α : Type} {ρ : Rep α} {H : Hp} {zs : List Value} {x : α} (h : ρ.R H zs x) (n : Nat) : iH ρ H (vD zs n) (List.replicate n x):=by
 induction n with
 | zero=>rfl
 | succ n ih=>exact ⟨zs,vD zs n,rfl,h,ih⟩
theorem iH.one1 {α : Type} {ρ : Rep α} {H : Hp} {cs : List Value} {x : α} (h : ρ.R H cs x) : iH ρ H cs [x]:=⟨cs,[],by simp,h,rfl⟩
theorem iH.cons1 {α : Type} {ρ : Rep α} {H : Hp} {cs ds : List Value} {x : α} {l : List α} (h : ρ.R H cs x) (k : iH ρ H ds l) : iH ρ H (cs ++ ds) (x :: l):=⟨cs,ds,rfl,h,k⟩
section
variable {C : Ctx} {ops : Array Oper} {Q : Exit → St → Prop} {rest : List Oper} {env : gY} {df : List Deferred} {H : Hp} {own : Own}
variable {dst : Option Tmp} {ty : TypeId} {pos : String} {af : Array Edge}
theorem Acc.addr {α : Type} {ρ : Rep α} {T : TypeId} {p : Nat × SObj} {a : Option Addr} {c : Nat} {l : List α} (h : Acc ρ T H p a c l) (hl : 0 < l.length) : a = some ⟨p.1,0,none⟩:=by
 rcases h with ⟨_,_,h,_⟩ | ⟨xs,h,_⟩
 ·subst h;simp at hl
 exact h
theorem XO.makeSlice {α : Type} {ρ : Rep α} {t e : TypeId} {x y : Operand} {k k' : IntKind} {n : Nat} {zs : List Value} {agg : Bool} (u : α) (hx : ev env x = some (.int k n)) (hy : ev env y = some (.int k' n)) (ht : C.P.underlying t = some (.slice e)) (he : tP C.P e ρ.sz agg = true) (hz : nB C.P e = some zs)
  (hzl : (Nat.blt 0 ρ.sz && Nat.beq zs.length ρ.sz) = true) (hby : Nat.ble (C.P.bytesOf e) 4096 = true) (hn : n ≤ 1073741824) (hR : ρ.R H zs u) (hd : iU C.N dst = true)
  (h : ∀ b,Acc ρ e H (b,.row e (n * ρ.sz) (vD zs n)) (some ⟨b,0,none⟩) n (List.replicate n u) → XO C ops Q rest ⟨jI dst (.slice (some ⟨b,0,none⟩) n n) env,df,H,(b,.row e (n * ρ.sz) (vD zs n)) :: own⟩) :
  XO C ops Q (⟨dst,.makeSlice t x y,ty,pos,af,none⟩ :: rest) ⟨env,df,H,own⟩:=by
 refine vO rfl rfl hd fun ρ' w fr ha hok=>?_;simp only [fL] at hzl;have h0 : 0 < ρ.sz:=by simpa using hzl.1
 have hzl:=fV hzl.2;have hby:=Nat.le_of_ble_eq_true hby;obtain ⟨_,inf,hi,hsz⟩:=wB he;have hby' : inf.bytes ≤ 4096:=by simpa [Program.bytesOf,hi] using hby
 have hmul : inf.bytes * n ≤ 4398046511104:=eK (Nat.mul_le_mul hby' hn) zD;obtain ⟨z,hzr,hzc⟩:=aC2 (w:=w) hz
 have hcells : (Array.map (fun x=>zs.toArray[x % zs.toArray.size]!) (Array.range (n * ρ.sz))) = (vD zs n).toArray:=by
  rw [← hzl];exact aJ8 zs zO n
 have hacc : Acc ρ e H (w.heap.size,SObj.row e (n * ρ.sz) (vD zs n)) (some ⟨w.heap.size,0,none⟩) n (List.replicate n u):=.inr ⟨vD zs n,rfl,rfl,iH.replicate hR n,by simp⟩;refine ⟨.value (.slice (some ⟨w.heap.size,0,none⟩) n n),_,{ w with heap:=w.heap.push (.cells (vD zs n).toArray e (0,0)) },H,_,?_,.inl rfl,Le.refl _,hok.new (s:=.row e (n * ρ.sz) (vD zs n)) ⟨[],by simp,by simp [aCw,hzl]⟩,h _ hacc⟩
 have hb : (Instr.makeSlice t (.int k n) (.int k' n)).run C.P w = .ok (.slice (some ⟨w.heap.size,0,none⟩) n n) { w with heap:=w.heap.push (.cells (vD zs n).toArray e (0,0)) }:=by
  have hw : IntKind.i64.wrap (n : Int) = n:=dT zO zO;unfold Instr.makeSlice;rw [Sem.run_bind,jC ht];simp only [Result.andThen,asInt,asIntOf,Sem.run_bind];have hti : (typeInfo e).run C.P w = .ok inf w:=by simp [typeInfo,program,hi,Sem.run,Pure.pure,bind,Sem.bind]
  simp only [Pure.pure,Sem.run,Result.andThen,Sem.run_bind,hti,hw]
  have hcond : ((decide ((n : Int) < 0) || decide (((inf.bytes : Nat) : Int) * (n : Int) > 2 ^ 48) || decide ((n : Int) < 0)) || decide ((n : Int) > n)) = false:=by
   have hc : ((inf.bytes : Nat) : Int) * (n : Int) ≤ 4398046511104:=by rw [← Int.natCast_mul];exact Int.ofNat_le.2 hmul
   have h1 : ¬ ((n : Int) < 0):=zO
   have h2 : ¬ (((inf.bytes : Nat) : Int) * (n : Int) > 2 ^ 48):=zO
   have h3 : ¬ ((n : Int) > n):=zO
   rw [aI h1,aI h2,aI h3];rfl
  simp only [hcond,Bool.false_eq_true,if_false,eN,mJ he,Sem.run_bind]
  have hroom : ∀ w : World,(askRoom (n * inf.bytes)).run C.P w = .ok () w:=by
   intro w;unfold askRoom;split <;> rfl
  rw [hroom];simp only [Result.andThen];by_cases hn0 : n * ρ.sz = 0
  ·have hn1 : n = 0:=by rcases Nat.mul_eq_zero.1 hn0 with h | h;exact h;omega
   subst hn1;have e1 : ∀ g : Nat → Value,Array.map g (Array.range 0) = #[]:=by intro g;simp
   simp only [Nat.zero_mul,if_true,e1];simp [newRow,newObj,Sem.run,bind,Sem.bind,Pure.pure,vD,Result.andThen,Sem.run_bind]
  rw [dG hn0];simp only [Sem.run_bind,hzr,Result.andThen];simp only [Pure.pure,Sem.run,Result.andThen,hzc,hcells];simp [newRow,newObj,Sem.run,bind,Sem.bind,Pure.pure]
 simp only [execOp,ha _ _ hx,ha _ _ hy,Sem.run_bind,hb,Result.andThen];rfl
theorem lY (i : Nat) {α : Type} {ρ : Rep α} {T t : TypeId} {x : Operand} {p : Nat × SObj} {g c k : Nat} {l : List α} {u : α} {agg : Bool} (hx : ev env x = some (.pointer (some ⟨g,0 + k * ρ.sz,none⟩))) (hp : Own.at own i = some p) (hacc : Acc ρ T H p (some ⟨g,0,none⟩) c l)
  (hu : l[k]? = some u) (ht : tP C.P t ρ.sz agg = true) (hd : iU C.N dst = true) (h : ∀ cs v,ρ.R H cs u → mkV agg cs = some v → XO C ops Q rest ⟨jI dst v env,df,H,own⟩) (hv : ∀ cs,ρ.R H cs u → ∃ v,mkV agg cs = some v) :
  XO C ops Q (⟨dst,.load t x,ty,pos,af,none⟩ :: rest) ⟨env,df,H,own⟩:=by
 rcases hacc with ⟨h1,_⟩ | ⟨xs,ha1,hs,hr,hl⟩
 ·cases h1
 cases ha1;obtain ⟨b,s⟩:=p;simp only at hs;subst hs;obtain ⟨c1,hR,hc⟩:=hr.get hu;obtain ⟨v,hv⟩:=hv c1 hR;refine vO rfl rfl hd fun ρ' w fr ha hok=>⟨.value v,v,w,H,own,?_,.inl rfl,Le.refl _,hok,h c1 v hR hv⟩
 obtain ⟨ct,hbw,hbn⟩:=aNz hok (jF fr (Own.at_mem hp))
 have hrun:=yM (P:=C.P) (w:=w) ht (b:=b) (o:=0 + k * ρ.sz) (ρ.len hR) (v:=v) (fun j u hj=>by
  have:=hc j u hj;simp only [World.cell?,hbw,Option.isSome_none,Bool.false_eq_true,if_false,List.getElem?_toArray,Nat.zero_add];rw [List.getElem?_append_left (bY.1 this).1]
  exact this) hv
 simp only [execOp,ha _ _ hx,Instr.loadAt,Instr.sureAddr,Sem.run_bind];simp only [Sem.run,Pure.pure,Result.andThen,hrun]
theorem lH (i : Nat) {α : Type} {ρ : Rep α} {T t : TypeId} {x y : Operand} {p : Nat × SObj} {g c k : Nat} {l : List α} {u : α} {agg : Bool} {v : Value} {vs : List Value} (hx : ev env x = some (.pointer (some ⟨g,0 + k * ρ.sz,none⟩))) (hy : ev env y = some v) (hp : Own.at own i = some p) (hacc : Acc ρ T H p (some ⟨g,0,none⟩) c l)
  (hk : k < l.length) (hv : aFn v = some vs) (hR : ρ.R H vs u) (ht : tP C.P t ρ.sz agg = true) (hd : iU C.N dst = true)
  (h : ∀ p',Acc ρ T H p' (some ⟨g,0,none⟩) c (l.set k u) → XO C ops Q rest ⟨jI dst undef env,df,H,Own.set2 own i p'⟩) :
  XO C ops Q (⟨dst,.store t x y,ty,pos,af,none⟩ :: rest) ⟨env,df,H,own⟩:=by
 rcases hacc with ⟨h1,_⟩ | ⟨xs,ha1,hs,hr,hl⟩
 ·cases h1
 cases ha1;obtain ⟨b,s⟩:=p;simp only at hs;subst hs;have hvl:=ρ.len hR;have hxl:=hr.length
 have hkm : k * ρ.sz + ρ.sz ≤ xs.length:=by
  rw [hxl];have:=Nat.mul_le_mul_right ρ.sz (show k + 1 ≤ l.length from hk);rwa [Nat.add_mul,Nat.one_mul] at this
 refine vO rfl rfl hd fun ρ' w fr ha hok=>?_;obtain ⟨ct,hbw,hbn⟩:=aNz hok (jF fr (Own.at_mem hp));have hrun:=run_storeCells_at (P:=C.P) b (0 + k * ρ.sz) T vs 0 (xs ++ ct).toArray w hbw zI (aFu (ρ.one hR));simp only [Nat.add_zero,Nat.zero_add] at hrun;refine ⟨.skip,undef,w.setRow b ((xs ++ ct).toArray.toList.take (k * ρ.sz) ++ vs ++ (xs ++ ct).toArray.toList.drop (k * ρ.sz + vs.length)).toArray,H,_,?_,.inr ⟨rfl,rfl⟩,Le.refl _,?_,h (b,.row T (c * ρ.sz) (xs.take (k * ρ.sz) ++ vs ++ xs.drop (k * ρ.sz + ρ.sz))) (.inr ⟨_,rfl,rfl,hr.set hk hR,by simpa using hl⟩)⟩
 ·simp only [execOp,ha _ _ hx,ha _ _ hy,Instr.storeAt,Instr.sureAddr,Sem.run_bind,storeVar,mJ ht,rX hv];simp only [Sem.run,Pure.pure,Result.andThen,Sem.run_bind,mJ ht,hvl,List.size_toArray,ne_eq,not_true_eq_false,if_false,Nat.zero_add];rw [hrun];simp only [hvl,eM]
 refine hok.write2 hp rfl hbw ⟨ct,?_,?_⟩
 ·simp only [eM,hvl];rw [List.take_append_of_le_length zO,List.drop_append_of_le_length zO]
 simp only [fQ,List.length_take,List.length_drop] at hbn ⊢;omega
/-! ### Slicing a published slice -/
theorem SlR.cut {α : Type} {ρ : Rep α} {a : Option Addr} {c : Nat} {l : List α} (h : SlR ρ H a c l) (lo hi m : Nat) (h1 : lo ≤ hi) (h2 : hi ≤ l.length) (h3 : hi ≤ m) (h4 : m ≤ c) :
  SlR ρ H (if m = lo then a else a.map (·.add (lo * ρ.sz))) (m - lo) ((l.drop lo).take (hi - lo)):=by
 refine ⟨by simp;omega,?_,?_⟩
 ·intro e;split at e
  ·omega
  cases a with
  | none=>have:=h.nil rfl;omega
  | some a=>simp at e
 intro i x hx;rw [List.getElem?_take] at hx;split at hx
 ·rename_i hi'
  rw [List.getElem?_drop] at hx;obtain ⟨b,o,cs,h5,h6,h7⟩:=h.el (lo + i) x hx;rw [dG zO,h5];refine ⟨b,o + lo * ρ.sz,cs,by simp [tV],?_,h7⟩;rwa [Nat.add_mul,← Nat.add_assoc] at h6
 cases hx
theorem aHm {P : Program} {w : World} {k : IntKind} {x : Int} {y : Nat} {code : BoundsCode} (h0 : 0 ≤ x) (h1 : x ≤ y) : (Instr.sliceBound (.int k x) y code).run P w = .ok x.toNat w:=by
 unfold Instr.sliceBound;simp only [asIntOf,Sem.run_bind];simp only [Pure.pure,Sem.run,Result.andThen,h0,h1,and_self,if_true]
def ev? (env : gY) (x : Option Operand) (d : Int) (n : Int) : Prop:=match x with | none=>n = d | some x=>∃ k,ev env x = some (.int k n)
theorem qJ {env : gY} {d : Int} : ev? env none d d:=rfl
theorem tQ {env : gY} {x : Operand} {d n : Int} {k : IntKind} (h : ev env x = some (.int k n)) : ev? env (some x) d n:=⟨k,h⟩
theorem aG3 {α : Type} {ρ : Rep α} {t e : TypeId} {x : Operand} {lo hi mx : Option Operand} {a : Option Addr} {c : Nat} {l : List α} {agg : Bool} {lo' hi' m' : Int} (hx : ev env x = some (.slice a l.length c)) (hs : SlR ρ H a c l)
  (hl : ev? env lo 0 lo') (hh : ev? env hi l.length hi') (hm : ev? env mx c m') (hnm : mx.isSome = true → hi.isSome = true) (h0 : 0 ≤ lo') (h1 : lo' ≤ hi') (h2 : hi' ≤ l.length) (h3 : hi' ≤ m') (h4 : m' ≤ c)
  (ht : C.P.underlying t = some (.slice e)) (he : tP C.P e ρ.sz agg = true) (hd : iU C.N dst = true)
  (h : ∀ a' l',l' = (l.drop lo'.toNat).take (hi'.toNat - lo'.toNat) → SlR ρ H a' (m'.toNat - lo'.toNat) l' → XO C ops Q rest ⟨jI dst (.slice a' l'.length (m'.toNat - lo'.toNat)) env,df,H,own⟩) :
  XO C ops Q (⟨dst,.slice t x lo hi mx,ty,pos,af,none⟩ :: rest) ⟨env,df,H,own⟩:=by
 have hcut:=hs.cut lo'.toNat hi'.toNat m'.toNat zO zO zO zO;refine kF rfl rfl hd (fun ρ' ha w=>?_) (h _ _ rfl hcut)
 have hb : (Instr.sliceBounds true l.length c (lo.map ρ') (hi.map ρ') (mx.map ρ')).run C.P w = .ok (lo'.toNat,hi'.toNat,m'.toNat) w:=by
  have bd : ∀ (x : Operand) (n : Int) (y : Nat) (code : BoundsCode) (w : World),(∃ k,ev env x = some (.int k n)) → 0 ≤ n → n ≤ y → (Instr.sliceBound (ρ' x) y code).run C.P w = .ok n.toNat w:=by
   rintro x n y code w ⟨k,hk⟩ g0 g1;rw [ha _ _ hk];exact aHm g0 g1
  have em : ∃ mm : Sem Nat,(∀ w,mm.run C.P w = .ok m'.toNat w) ∧ (match mx.map ρ' with | some v=>Instr.sliceBound v c .slice3Acap | none=>Pure.pure c) = mm:=by
   refine ⟨_,fun w=>?_,rfl⟩;cases mx with
   | none=>have e : m' = c:=hm;subst e;simp [Sem.run,Pure.pure]
   | some y=>exact bd y m' c _ w hm zO h4
  unfold Instr.sliceBounds;cases mx with
  | none =>
   have e : m' = c:=hm;subst e;cases hi with
   | none =>
    have e : hi' = l.length:=hh;subst e;cases lo with
    | none=>have e : lo' = 0:=hl;subst e;simp [Sem.run,Pure.pure,Sem.run_bind,Result.andThen,bind,Sem.bind]
    | some z=>simp only [Option.map_none,Option.map_some,Sem.run_bind];simp only [Pure.pure,Sem.run,Result.andThen,Sem.run_bind,bd z lo' _ _ _ hl h0 h1,eN]
   | some y =>
    have b1:=fun code w=>bd y hi' c code w hh zO zO;cases lo with
    | none =>
     have e : lo' = 0:=hl;subst e;simp only [Option.map_none,Option.map_some,Sem.run_bind];simp only [Pure.pure,Sem.run,Result.andThen,Sem.run_bind,if_true,b1,eN,Int.toNat_zero]
    | some z =>
     have b2:=fun code w=>bd z lo' hi'.toNat code w hl h0 zO;simp only [Option.map_none,Option.map_some,Sem.run_bind];simp only [Pure.pure,Sem.run,Result.andThen,Sem.run_bind,if_true,b1,b2,eN]
  | some q =>
   have b0:=fun code w=>bd q m' c code w hm zO h4;cases hi with
   | none=>exact absurd (hnm rfl) zP
   | some y =>
    have b1:=fun code w=>bd y hi' m'.toNat code w hh zO zO;cases lo with
    | none =>
     have e : lo' = 0:=hl;subst e;simp only [Option.map_none,Option.map_some,Sem.run_bind];simp only [Pure.pure,Sem.run,Result.andThen,Sem.run_bind,if_true,b0,b1,Int.toNat_zero]
    | some z =>
     have b2:=fun code w=>bd z lo' hi'.toNat code w hl h0 zO;simp only [Option.map_none,Option.map_some,Sem.run_bind];simp only [Pure.pure,Sem.run,Result.andThen,Sem.run_bind,if_true,b0,b1,b2]
 have hr : (Instr.sliceAt t (.slice a l.length c) (lo.map ρ') (hi.map ρ') (mx.map ρ')).run C.P w = .ok (.slice (if m'.toNat = lo'.toNat then a else a.map (·.add (lo'.toNat * ρ.sz))) (hi'.toNat - lo'.toNat) (m'.toNat - lo'.toNat)) w:=by
  unfold Instr.sliceAt;rw [Sem.run_bind,jC ht];simp only [Result.andThen,Instr.slice];rw [Sem.run_bind,jC ht];simp only [Result.andThen,Sem.run_bind,hb,mJ he];rfl
 have wD : ((l.drop lo'.toNat).take (hi'.toNat - lo'.toNat)).length = hi'.toNat - lo'.toNat:=by simp;omega
 simp only [execOp,ha _ _ hx,Sem.run_bind,hr,Result.andThen,wD];rfl
end
end Go.XL

namespace Go.XL
open Go.RowKit Go.ChangeShapes
def aTt (w : World) : Hp:=fun b=>w.heap[b]?
theorem iP.below {P : Program} {f : FuncId} {args : Array Value} {W : World} {V : Value} (h : iP P f args (aTt W) [] (eQ fun v _ _=>v = V)) :
  Calls P f args W fun e w'=>e = .returned V ∧ Below W.heap.size W w':=by
 refine (h.2 W [] W ⟨rfl,rfl,rfl,fun _ _ e=>e,fun p hp=>by simp [aBp] at hp,by simp [aBp]⟩).mono ?_;rintro e w' ⟨h0,H',own',hle,hok,hR⟩
 have hb : ∀ k,k < W.heap.size → w'.heap[k]? = W.heap[k]?:=fun k hk=>by
  have e1 : W.heap[k]? = some W.heap[k]:=gG hk;rw [e1];exact hok.pub _ _ (hle _ _ e1)
 refine ⟨?_,hok.os,hok.tape,hok.out,?_,hb⟩
 ·cases e with
  | returned v=>obtain rfl : v = V:=hR;rfl
  | panicked _=>exact hR.elim
  | outgrown=>exact hR.elim
 rcases Nat.eq_zero_or_pos W.heap.size with h1 | h1
 ·omega
 have:=hb (W.heap.size - 1) zO;rw [gG (by omega : W.heap.size - 1 < W.heap.size)] at this;have:=yN this;omega
def rP (P : Program) (t : TypeId) {α : Type} (ρ : Rep α) (wf : α → Prop) : Prop:=∀ {H : Type} (enc : TypeId × Value → H) (w : World) (base : Nat) (spare : Nat → Bool) (held : Bool) (fuel : Nat) (cs : List Value) (x : DataW H × List MemPlace),
 DataW.trod enc P w base spare held fuel t cs = some x → ∃ u,ρ.R (aTt w) cs u ∧ wf u
theorem rP.int {P : Program} {t : TypeId} {k : IntKind} (ht : P.underlying t = some (.int k)) : rP P t (gV k) (fun n=>(Lit.int k n).wf = true):=by
 intro H enc w base spare held fuel cs x h;obtain ⟨n,h1,_,h3⟩:=DataW.trod_int ht h;exact ⟨n,h1,h3⟩
theorem rP.bool {P : Program} {t : TypeId} (ht : P.underlying t = some .bool) : rP P t aE2 (fun _=>True):=by
 intro H enc w base spare held fuel cs x h;cases fuel with
 | zero=>simp [DataW.trod] at h
 | succ n =>
  unfold DataW.trod at h;rw [ht] at h;split at h <;> simp_all
  rename_i b
  cases b
  ·exact .inl rfl
  exact .inr rfl
theorem aH8 {α : Type} {Q : Nat → α → Prop} : ∀ (n : Nat),(∀ i,i < n → ∃ u,Q i u) → ∃ l : List α,l.length = n ∧ ∀ (i : Nat) (u : α),l[i]? = some u → Q i u
 | 0,_=>⟨[],rfl,fun i u h=>by simp at h⟩
 | n + 1,h=>by
  obtain ⟨l,h1,h2⟩:=aH8 n (fun i hi=>h i zO);obtain ⟨u,hu⟩:=h n zO;refine ⟨l ++ [u],by simp [h1],fun i v hv=>?_⟩;rw [List.getElem?_append] at hv;split at hv
  ·exact h2 i v hv
  rename_i hi
  rcases gJ n i with h3 | h3
  ·rw [dJ zI] at hv;cases hv
  obtain rfl : i = n:=zO
  simp [h1] at hv;subst hv;exact hu
theorem aJp {w : World} {base : Nat} {a : Addr} {n : Nat} {cs : List Value} (h : w.cells? base a n = some cs) : cs.length = n ∧ ∀ j u,cs[j]? = some u → w.cell? (a.add j) = some u:=by
 unfold World.cells? at h;split at h
 ·have h1:=mapM_some_length h;have h2:=mapM_some_get h;simp at h1;refine ⟨h1,fun j u hj=>?_⟩;have hj' : j < n:=by rw [← h1];exact (bY.1 hj).1
  rw [h2 j j (by simp [hj']),hj]
 cases h
theorem rP.slice {P : Program} {t e : TypeId} {α : Type} {ρ : Rep α} {wf : α → Prop} (ht : P.underlying t = some (.slice e)) (hsz : P.cellsOf e = ρ.sz) (hpos : 0 < ρ.sz) (ho : rP P e ρ wf) :
  rP P t (slR ρ) (fun l=>l.length ≤ maxLen ∧ ∀ u ∈ l,wf u):=by
 intro H enc w base spare held fuel cs x h;rcases DataW.trod_slice ht h with ⟨rfl,_⟩ | ⟨a,len,cap,elems,rest,n,_,rfl,_,_,hl,hm,wD,hel,_,_⟩
 ·exact ⟨[],⟨none,0,rfl,SlR.nil0 _ _⟩,eS _,by simp⟩
 obtain ⟨l,h1,h2⟩:=aH8 (Q:=fun i (u : α)=>∃ cs,w.cells? base (a.add (i * ρ.sz)) ρ.sz = some cs ∧ ρ.R (aTt w) cs u ∧ wf u) len (fun i hi=>by
  have h3:=hel i hi;rw [aJ zO,hsz,Option.bind_eq_some_iff] at h3;obtain ⟨cs,h4,h5⟩:=h3;obtain ⟨u,h6,h7⟩:=ho enc w base spare held n cs _ h5
  exact ⟨u,cs,h4,h6,h7⟩)
 refine ⟨l,⟨some a,cap,by rw [h1],zO,by simp,fun i u hu=>?_⟩,zO,fun u hu=>?_⟩
 ·obtain ⟨cs,h3,h4,h5⟩:=h2 i u hu;have hi : i < l.length:=(bY.1 hu).1;obtain ⟨cs0,h30,h40,_⟩:=h2 0 l[0] (by rw [aJ]);obtain ⟨hk1,hk2⟩:=aJp h30
  have hsp : a.spot = none:=by
   have:=hk2 0 cs0[0] (aJ zO);simp [Addr.add] at this;exact World.cell?_spot this
  obtain ⟨b,o,sp⟩:=a;simp only at hsp;subst hsp;refine ⟨b,o,cs,rfl,?_,h4⟩;obtain ⟨hc1,hc2⟩:=aJp h3
  have hadd : ∀ j k : Nat,((⟨b,o,none⟩ : Addr).add j).add k = ⟨b,o + j + k,none⟩:=fun j k=>by
   unfold Addr.add;(repeat' split) <;> simp_all
  have hblk : ∃ c T fz,w.heap[b]? = some (.cells c T fz):=by
   have:=hc2 0 cs[0] (aJ zO);rw [hadd] at this;unfold World.cell? at this;split at this
   ·rename_i c T fz hh;exact ⟨c,T,fz,hh⟩
   cases this
  obtain ⟨c,T,fz,hh⟩:=hblk;refine ⟨c,T,fz,hh,fun j v hj=>?_⟩;have:=hc2 j v hj;rw [hadd] at this;unfold World.cell? at this;simpa [hh] using this
 obtain ⟨i,hi,rfl⟩:=List.getElem_of_mem hu;obtain ⟨_,_,_,h5⟩:=h2 i _ (aJ hi);exact h5
end Go.XL

namespace Go.XL
theorem aUi {n : Int} (h : (Lit.int .i64 n).wf = true) : -9223372036854775808 ≤ n ∧ n ≤ 9223372036854775807:=by
 simpa [Lit.wf,IntKind.min,IntKind.max,IntKind.signed,IntKind.bits] using h
theorem aLf {P : Program} {t : TypeId} {a b : Bool} {w : World} (ht : P.underlying t = some .bool) : (Op.equal t (.bool a) (.bool b)).run P w = .ok (a == b) w:=by
 unfold Op.equal Op.maxDepth;rw [show (10000 : Nat) = 9999 + 1 from rfl,Op.equalIn];simp only [Sem.run_bind,jC ht,Result.andThen];rfl
section
variable {C : Ctx} {ops : Array Oper} {Q : Exit → St → Prop} {rest : List Oper} {env : gY} {df : List Deferred} {H : Hp} {own : Own}
variable {dst : Option Tmp} {ty : TypeId} {pos : String} {af : Array Edge}
theorem XO.eqlB {xt yt : TypeId} {x y : Operand} {a b : Bool} (hx : ev env x = some (.bool a)) (hy : ev env y = some (.bool b)) (ht : C.P.underlying xt = some .bool) (hd : iU C.N dst = true)
  (h : XO C ops Q rest ⟨jI dst (.bool (a == b)) env,df,H,own⟩) : XO C ops Q (⟨dst,.binOp .eql xt x y yt,ty,pos,af,none⟩ :: rest) ⟨env,df,H,own⟩ :=
 kF rfl rfl hd (fun ρ ha w=>by
  have hgd : ∀ w,(eqGuard .eql xt x y (.bool a) (.bool b)).run C.P w = .ok () w:=fun w=>rfl;simp only [execOp,ha _ _ hx,ha _ _ hy,Sem.run_bind,hgd];simp only [Result.andThen,binOp,Sem.run_bind,aLf ht]
  rfl) h
theorem aI4 {xt yt : TypeId} {x y : Operand} {a b : Bool} (hx : ev env x = some (.bool a)) (hy : ev env y = some (.bool b)) (ht : C.P.underlying xt = some .bool) (hd : iU C.N dst = true)
  (h : XO C ops Q rest ⟨jI dst (.bool (!(a == b))) env,df,H,own⟩) : XO C ops Q (⟨dst,.binOp .neq xt x y yt,ty,pos,af,none⟩ :: rest) ⟨env,df,H,own⟩ :=
 kF rfl rfl hd (fun ρ ha w=>by
  have hgd : ∀ w,(eqGuard .neq xt x y (.bool a) (.bool b)).run C.P w = .ok () w:=fun w=>rfl;simp only [execOp,ha _ _ hx,ha _ _ hy,Sem.run_bind,hgd];simp only [Result.andThen,binOp,Sem.run_bind,aLf ht]
  rfl) h
theorem XO.maxI {s t : TypeId} {x y : Operand} {k : IntKind} {a b c : Int} (hx : ev env x = some (.int k a)) (hy : ev env y = some (.int k b)) (hc : (if b > a then b else a) = c) (hd : iU C.N dst = true)
  (h : XO C ops Q rest ⟨jI dst (.int k c) env,df,H,own⟩) :
  XO C ops Q (⟨dst,.call { callee:=.builtin .max,args:=#[x,y],argTypes:=#[s,t] },ty,pos,af,none⟩ :: rest) ⟨env,df,H,own⟩ :=
 kF rfl rfl hd (fun ρ ha w=>by
  subst hc;simp only [execOp,resolve,Sem.run_bind];simp only [Pure.pure,Sem.run,Result.andThen,invoke,builtin,Sem.run_bind,Builtin.max_]
  simp [ha _ _ hx,ha _ _ hy,Sem.run_bind,Result.andThen,Pure.pure,Sem.run,Builtin.max2,List.foldlM]) h
end
end Go.XL

namespace Go.XL
def pJ (cre : List Nat) (L : Array Bool) (kJ : Nat → Nat × SObj) : Own:=(cre.filter (jU L)).map kJ
theorem aPg {cre : List Nat} {L : Array Bool} {kJ : Nat → Nat × SObj} (h : ∀ j,jU L j = false) : pJ cre L kJ = []:=by
 rw [pJ,List.filter_eq_nil_iff.2 (fun j _=>by rw [h j];simp)];rfl
theorem aN4 {cre : List Nat} {L L' : Array Bool} {kJ : Nat → Nat × SObj} {i : Nat} {p : Nat × SObj} (hi : i ∉ cre) (hL : ∀ j,jU L' j = if j = i then true else jU L j) :
  pJ cre L' (fun j=>if j = i then p else kJ j) = pJ cre L kJ:=by
 unfold pJ
 induction cre with
 | nil=>rfl
 | cons c cre ih =>
  have h1 : c ≠ i:=fun e=>hi (by simp [e]);have h2:=ih (fun h=>hi (by simp [h]));rw [List.filter_cons,List.filter_cons,hL,dG h1];split
  ·rw [List.map_cons,List.map_cons,h2,dG h1]
  exact h2
theorem aSw {cre : List Nat} {L L' : Array Bool} {kJ : Nat → Nat × SObj} {i : Nat} {p : Nat × SObj} (hnd : cre.Nodup) (hi : i ∈ cre) (hun : jU L i = false) (hL : ∀ j,jU L' j = if j = i then true else jU L j) :
  (pJ cre L' (fun j=>if j = i then p else kJ j)).Perm (p :: pJ cre L kJ):=by
 induction cre with
 | nil=>cases hi
 | cons c cre ih =>
  rw [List.nodup_cons] at hnd;by_cases hc : c = i
  ·subst hc;have h1:=aN4 (kJ:=kJ) (p:=p) hnd.1 hL;unfold pJ at h1 ⊢;rw [List.filter_cons,List.filter_cons,hL,eX rfl,hun,eX rfl,dG zP,List.map_cons,h1,eX rfl]
  have hi' : i ∈ cre:=by
   rcases List.mem_cons.1 hi with h | h
   ·exact absurd h.symm hc
   exact h
  have h2:=ih hnd.2 hi';unfold pJ at h2 ⊢;rw [List.filter_cons,List.filter_cons,hL,dG hc];split
  ·rw [List.map_cons,List.map_cons,dG hc];exact (h2.cons _).trans (gW ..)
  exact h2
def wV (l : List Oper) (FO : Nat → Value → Nat × SObj → Hp → Prop) (H : Hp) (acc : gY) : List Nat → (Own → Prop) → Prop
 | [],K=>K []
 | i :: is,K=>∀ p,(∀ v,(∃ t,gU l i = some t ∧ gY.get acc t = some v) → FO i v p H) → wV l FO H acc is fun es=>K (p :: es)
theorem aDn {l : List Oper} {FO : Nat → Value → Nat × SObj → Hp → Prop} {H : Hp} {acc : gY} {kJ : Nat → Nat × SObj} : ∀ (cre : List Nat) (K : Own → Prop),wV l FO H acc cre K → (∀ i ∈ cre,∀ v,(∃ t,gU l i = some t ∧ gY.get acc t = some v) → FO i v (kJ i) H) → K (cre.map kJ)
 | [],K,h,_=>h
 | i :: is,K,h,hf=>aDn is _ (h (kJ i) (hf i zP)) (fun j hj=>hf j (by simp [hj]))
theorem pM : ∀ {e : gY} {t : Nat} {u : Value},gY.get e t = some u → (t,u) ∈ e
 | (k,u') :: r,t,u,h=>by
  simp only [gY.get] at h;cases hb : Nat.beq k t with
  | true=>rw [hb] at h;simp at h;subst h;rw [← fV hb];simp
  | false=>rw [hb] at h;exact mX _ (pM h)
theorem uQ {l : List Oper} {FO : Nat → Value → Nat × SObj → Hp → Prop} {H : Hp} {acc : gY} {i : Nat} {is : List Nat} {K : Own → Prop} (h : ∀ p,(∀ v,(∃ t,gU l i = some t ∧ gY.get acc t = some v) → FO i v p H) → wV l FO H acc is fun es=>K (p :: es)) : wV l FO H acc (i :: is) K:=h
theorem nT {l : List Oper} {FO : Nat → Value → Nat × SObj → Hp → Prop} {H : Hp} {acc : gY} {K : Own → Prop} (h : K []) : wV l FO H acc [] K:=h
def slG {α : Type} (ρ : Rep α) (l : List α) : Value → Hp → Prop:=fun v H=>∃ a c,v = .slice a l.length c ∧ SlR ρ H a c l
theorem aP4 {α : Type} (ρ : Rep α) (l : List α) : ∀ v H H',Le H H' → slG ρ l v H → slG ρ l v H':=fun _ _ _ hle ⟨a,c,h1,h2⟩=>⟨a,c,h1,h2.mono hle⟩
def nQ {α : Type} (ρ : Rep α) (T : TypeId) (l : List α) : Nat → Value → Nat × SObj → Hp → Prop:=fun _ v p H=>∃ a c,v = .slice a l.length c ∧ Acc ρ T H p a c l
def vA : Value → Hp → Prop:=fun _ _=>True
theorem lN : ∀ v H H',Le H H' → vA v H → vA v H':=fun _ _ _ _ _=>trivial
def wY (Gd : Hp → Prop) (cre : List Nat) (k : Nat) (dst : Option Tmp) (f : Value → Hp → Prop) (fo : Value → Nat × SObj → Hp → Prop) (env : gY) (df : List Deferred) (own : Own) : Exit → St → Prop
 | .normal,σ=>Gd σ.H ∧ σ.df = df ∧ ∃ v p,σ.env = jI dst v env ∧ f v σ.H ∧ (bif cre.contains k then σ.own = p :: own ∧ fo v p σ.H else σ.own = own)
 | _,_=>False
theorem mU {Gd : Hp → Prop} {cre : List Nat} {k : Nat} {dst : Option Tmp} {f : Value → Hp → Prop} {fo : Value → Nat × SObj → Hp → Prop} {env : gY} {df : List Deferred} {own : Own} {H : Hp} {v : Value} (hk : cre.contains k = false) (hG : Gd H) (hf : f v H) : wY Gd cre k dst f fo env df own .normal ⟨jI dst v env,df,H,own⟩:=⟨hG,rfl,v,(0,.nothing),rfl,hf,by rw [hk];rfl⟩
theorem aBr {Gd : Hp → Prop} {cre : List Nat} {k : Nat} {dst : Option Tmp} {f : Value → Hp → Prop} {fo : Value → Nat × SObj → Hp → Prop} {env : gY} {df : List Deferred} {own : Own} {H : Hp} {v : Value} {p : Nat × SObj} (hk : cre.contains k = true) (hG : Gd H) (hf : f v H) (hfo : fo v p H) : wY Gd cre k dst f fo env df own .normal ⟨jI dst v env,df,H,p :: own⟩:=⟨hG,rfl,v,p,rfl,hf,by rw [hk];exact ⟨rfl,hfo⟩⟩
def stepsN (Gd : Hp → Prop) (cre : List Nat) (FO : Nat → Value → Nat × SObj → Hp → Prop) (C : Ctx) (l : List Oper) (F : List (Value → Hp → Prop)) (env : gY) (df : List Deferred) (H : Hp) (own : Own) (m : Nat) : Nat → List Oper → Prop
 | _,[]=>True
 | k,o :: rest=>bif Nat.blt k m then
   (∀ X ext H',Le H H' → Gd H' → nE l F H' (yP o) [] fun acc=>XO C l.toArray (wY Gd cre k o.dst (jN F k) (FO k) (acc ++ (env ++ X)) df (own ++ ext)) [o] ⟨acc ++ (env ++ X),df,H',own ++ ext⟩) ∧ stepsN Gd cre FO C l F env df H own m (k + 1) rest
  else True
section
variable {C : Ctx} {Q : Exit → St → Prop} {env : gY} {df : List Deferred} {H : Hp} {own : Own}
variable {ops : Array Oper} {rest : List Oper}
variable {dst : Option Tmp} {ty : TypeId} {pos : String} {af : Array Edge}
theorem aFb {α : Type} {ρ : Rep α} {t e : TypeId} {x y : Operand} {a a' : Option Addr} {c c' n n' : Nat} {l l' : List α} {zs : List Value} {agg : Bool}
  (hx : ev env x = some (.slice a n c)) (hs : SlR ρ H a c l) (hln : n = l.length) (hy : ev env y = some (.slice a' n' c')) (hsrc : SlR ρ H a' c' l') (hln' : n' = l'.length) (hroom : c < l.length + l'.length)
  (ht : C.P.underlying t = some (.slice e)) (he : tP C.P e ρ.sz agg = true) (hz : nB C.P e = some zs) (hzl : Nat.beq zs.length ρ.sz = true) (hby : Nat.ble (C.P.bytesOf e) 4096 = true) (hn : l.length + l'.length ≤ 1073741824) (hd : iU C.N dst = true)
  (h : ∀ p' a'' c'',Acc ρ e H p' a'' c'' (l ++ l') → XO C ops Q rest ⟨jI dst (.slice a'' (l ++ l').length c'') env,df,H,p' :: own⟩) :
  XO C ops Q (⟨dst,.call { callee:=.builtin .append,args:=#[x,y],argTypes:=#[t,t] },ty,pos,af,none⟩ :: rest) ⟨env,df,H,own⟩:=by
 cases a with
 | none =>
  obtain rfl:=hs.nil rfl;have hl0 : l = []:=List.length_eq_zero_iff.1 (by have:=hs.le;omega);subst hl0;refine aF9 (σ:=[]) fun b=>?_;refine iV 0 hx rfl (Acc.nil ρ e H b) hln hy hsrc hln' ht he hz hzl hby hn hd fun p' a'' c'' hacc=>?_;exact h p' a'' c'' hacc
 | some ad =>
  refine aF9 (σ:=[]) fun b=>?_;subst hln;subst hln';refine vO rfl rfl hd fun ρ' w fr ha hok=>?_;have hcs:=hs.cells;obtain ⟨cs,hrows0,hcells0⟩:=hcs;obtain ⟨_,inf,hi,hsz⟩:=wB he;have hzl':=fV hzl;have hby0:=Nat.le_of_ble_eq_true hby;have hby' : inf.bytes ≤ 4096:=by simpa [Program.bytesOf,hi] using hby0
  have hmul : (l.length + l'.length) * inf.bytes ≤ 140737488355328:=eK (Nat.mul_le_mul hn hby') zD
  obtain ⟨z,hzz,hzc⟩ : ∃ z,inf.zero = some z ∧ z.cells = zs.toArray:=by
   unfold nB at hz;rw [hi] at hz;simp only at hz;split at hz
   ·rename_i z hzz;exact ⟨z,hzz,rX hz⟩
   cases hz
  have hpos : 0 < l'.length:=by have:=hs.le;omega
  obtain ⟨x0,lt,hl'⟩ : ∃ x0 lt,l' = x0 :: lt:=by cases l' with | nil=>simp at hpos | cons x0 lt=>exact ⟨x0,lt,rfl⟩
  obtain ⟨cs',hrows,hcells⟩:=hsrc.cells;obtain ⟨b',o',c0,ha',_,_⟩:=hsrc.el 0 x0 (by rw [hl'];rfl)
  have hnews : ∀ j v,cs'[j]? = some v → w.cell? ((⟨b',o',none⟩ : Addr).add j) = some v:=by
   intro j v hj;obtain ⟨cc,T,fz,hH,hc⟩:=hcells b' o' ha' j v hj;rw [tV];simp [World.cell?,hok.pub _ _ hH,hc]
  have holds : ∀ j v,cs[j]? = some v → w.cell? (ad.add j) = some v:=by
   intro j v hj;cases hl : l with
   | nil =>
    rw [hl] at hrows0;obtain rfl : cs = []:=hrows0;simp at hj
   | cons y0 ly =>
    obtain ⟨b1,o1,_,had,_,_⟩:=hs.el 0 y0 (by rw [hl];rfl);obtain ⟨cc,T,fz,hH,hc⟩:=hcells0 b1 o1 had j v hj;cases had;rw [tV];simp [World.cell?,hok.pub _ _ hH,hc]
  have wD : cs'.length = l'.length * inf.size:=by rw [hsz];exact hrows.length
  have hrun:=run_append_grow (P:=C.P) (w:=w) t ty e inf z ht hi hzz ad l.length c cs (by rw [hsz];exact hrows0.length) holds
   ⟨b',o',none⟩ l'.length c' cs' wD hnews zO zO (growslice_fits zO hmul)
  have hge:=grownCap_ge w (l.length + l'.length) c e
  have hok' : Ok C.G H (Own.set2 ((b,SObj.nothing) :: own) 0 (w.heap.size,.row e (grownCap w (l.length + l'.length) c e * ρ.sz) (cs ++ cs')) ++ fr) (w.drew.alloc (.cells (cs.toArray ++ cs'.toArray ++ Builtin.zeroCells z.cells (grownCap w (l.length + l'.length) c e - (l.length + l'.length))) e)):=by
   refine hok.swap (i:=0) rfl ⟨(Builtin.zeroCells z.cells (grownCap w (l.length + l'.length) c e - (l.length + l'.length))).toList,by simp,?_⟩;rw [hzc,fQ,sM,hzl',fQ,hrows0.length,hrows.length,← Nat.add_mul,← Nat.add_mul]
   congr 1;omega
  refine ⟨.value (.slice (some ⟨w.heap.size,0,none⟩) (l ++ l').length (grownCap w (l.length + l'.length) c e)),_,_,H,_,?_,.inl rfl,Le.refl _,hok',h _ _ _ (.inr ⟨cs ++ cs',rfl,rfl,hrows0.append hrows,by simpa using hge⟩)⟩;subst ha';simp only [execOp,resolve,Sem.run_bind];simp only [Pure.pure,Sem.run,Result.andThen,invoke,builtin,Sem.run_bind];simp [ha _ _ hx,ha _ _ hy,hrun,Result.andThen,Sem.run]
end
theorem zR {C : Ctx} {ops : Array Oper} {Gd : Hp → Prop} {cre : List Nat} {k : Nat} {dst : Option Tmp} {f : Value → Hp → Prop} {fo : Value → Nat × SObj → Hp → Prop} {env : gY} {df : List Deferred} {own : Own} {H : Hp} {v : Value} (hk : cre.contains k = false:=by exact rfl) (hG : Gd H:=by exact trivial) (hf : f v H:=by exact rfl) : XO C ops (wY Gd cre k dst f fo env df own) [] ⟨jI dst v env,df,H,own⟩:=bF (mU hk hG hf)
end Go.XL

namespace Go.XL
section
variable {C : Ctx} {ops : Array Oper} {Q : Exit → St → Prop} {rest : List Oper} {env : gY} {df : List Deferred} {H : Hp} {own : Own}
variable {dst : Option Tmp} {ty : TypeId} {pos : String} {af : Array Edge}
end
end Go.XL

namespace Go.XL
theorem jK {α : Type} {l : List α} {k : Nat} {x : α} (h : l[k]? = some x) : l.take (k + 1) = l.take k ++ [x]:=by
 rw [List.take_add_one,h];rfl
theorem aGo {α : Type} {q : α → Prop} {l : List α} {k : Nat} {x : α} (h : ∀ y ∈ l.take k,¬ q y) (hx : l[k]? = some x) (hn : ¬ q x) : ∀ y ∈ l.take (k + 1),¬ q y:=by
 intro y hy;rw [jK hx] at hy;rcases gM.1 hy with h1 | h1
 ·exact h y h1
 simp at h1;subst h1;exact hn
section
variable {C : Ctx} {ops : Array Oper} {Q : Exit → St → Prop} {rest : List Oper} {env : gY} {df : List Deferred} {H : Hp} {own : Own}
variable {dst : Option Tmp} {ty : TypeId} {pos : String} {af : Array Edge}
theorem yO {α : Type} {ρ : Rep α} {t e : TypeId} {n : Nat} {agg : Bool} {ps : List (Nat × Operand)} {vs : List (Nat × Value)} {zs r : List Value} {l : List α} (hv : evP env ps = some vs) (ht : C.P.underlying t = some (.slice e)) (he : tP C.P e ρ.sz agg = true) (hz : nB C.P e = some zs)
  (hzl : (Nat.blt 0 ρ.sz && Nat.beq zs.length ρ.sz && Nat.ble (n * ρ.sz) 16777216) = true) (hr : aKn (fun i=>some (i * ρ.sz,ρ.sz)) (vD zs n) vs = some r) (hl : l.length = n) (hR : iH ρ H r l) (hd : iU C.N dst = true)
  (h : ∀ p a c,Acc ρ e H p a c l → XO C ops Q rest ⟨jI dst (.slice a l.length c) env,df,H,p :: own⟩) :
  XO C ops Q (⟨dst,.buildSlice t n ps.toArray,ty,pos,af,none⟩ :: rest) ⟨env,df,H,own⟩:=by
 refine fS hv ht he hz hzl hr hd fun b=>XO.toRow 0 rfl ?_;subst hl;have:=h (b,.row e r.length r) (some ⟨b,0,none⟩) l.length (by rw [hR.length];exact Acc.lit hR);exact this
theorem sT {α : Type} {ρ : Rep α} {t e : TypeId} {x y : Operand} {k k' : IntKind} {n : Nat} {zs : List Value} {agg : Bool} (u : α) (hx : ev env x = some (.int k n)) (hy : ev env y = some (.int k' n)) (ht : C.P.underlying t = some (.slice e)) (he : tP C.P e ρ.sz agg = true) (hz : nB C.P e = some zs)
  (hzl : (Nat.blt 0 ρ.sz && Nat.beq zs.length ρ.sz) = true) (hby : Nat.ble (C.P.bytesOf e) 4096 = true) (hn : n ≤ 1073741824) (hR : ρ.R H zs u) (hd : iU C.N dst = true)
  (h : ∀ p c,Acc ρ e H p (some ⟨p.1,0,none⟩) c (List.replicate n u) → XO C ops Q rest ⟨jI dst (.slice (some ⟨p.1,0,none⟩) n c) env,df,H,p :: own⟩) :
  XO C ops Q (⟨dst,.makeSlice t x y,ty,pos,af,none⟩ :: rest) ⟨env,df,H,own⟩ :=
 XO.makeSlice u hx hy ht he hz hzl hby hn hR hd fun b hacc=>h (b,_) n hacc
theorem aB6 {xt yt : TypeId} {x y : Operand} {k yk : IntKind} {a b : Int} (hx : ev env x = some (.int k a)) (hy : ev env y = some (.int yk b)) (h0 : 0 ≤ b) (hd : iU C.N dst = true)
  (h : XO C ops Q rest ⟨jI dst (.int k (a.fdiv (2 ^ min b.toNat k.bits))) env,df,H,own⟩) : XO C ops Q (⟨dst,.binOp .shr xt x y yt,ty,pos,af,none⟩ :: rest) ⟨env,df,H,own⟩ :=
 kF rfl rfl hd (fun ρ ha w=>by
  rw [rB (ha _ _ hx) (ha _ _ hy)];have h1 : ¬ b < 0:=zO
  simp [binOp,Op.shift,h1,Sem.run,Pure.pure,Result.andThen]) h
theorem aHf {xt yt : TypeId} {x y : Operand} {k yk : IntKind} {a b : Int} (hx : ev env x = some (.int k a)) (hy : ev env y = some (.int yk b)) (h0 : 0 ≤ b) (hd : iU C.N dst = true)
  (h : XO C ops Q rest ⟨jI dst (.int k (k.wrap (a * 2 ^ min b.toNat k.bits))) env,df,H,own⟩) : XO C ops Q (⟨dst,.binOp .shl xt x y yt,ty,pos,af,none⟩ :: rest) ⟨env,df,H,own⟩ :=
 kF rfl rfl hd (fun ρ ha w=>by
  rw [rB (ha _ _ hx) (ha _ _ hy)];have h1 : ¬ b < 0:=zO
  simp [binOp,Op.shift,h1,Sem.run,Pure.pure,Result.andThen]) h
theorem aDw {xt yt : TypeId} {x y : Operand} {k : IntKind} {a b : Int} (hx : ev env x = some (.int k a)) (hy : ev env y = some (.int k b)) (hd : iU C.N dst = true)
  (h : XO C ops Q rest ⟨jI dst (.int k (k.wrap (BitVec.ofInt k.bits a &&& BitVec.ofInt k.bits b).toNat)) env,df,H,own⟩) : XO C ops Q (⟨dst,.binOp .and xt x y yt,ty,pos,af,none⟩ :: rest) ⟨env,df,H,own⟩ :=
 kF rfl rfl hd (fun ρ ha w=>by rw [rB (ha _ _ hx) (ha _ _ hy)];simp [binOp,Op.intBits,Sem.run,Pure.pure,Result.andThen]) h
theorem aN7 {xt yt : TypeId} {x y : Operand} {k : IntKind} {a b : Int} (hx : ev env x = some (.int k a)) (hy : ev env y = some (.int k b)) (hd : iU C.N dst = true)
  (h : XO C ops Q rest ⟨jI dst (.int k (k.wrap (BitVec.ofInt k.bits a ||| BitVec.ofInt k.bits b).toNat)) env,df,H,own⟩) : XO C ops Q (⟨dst,.binOp .or xt x y yt,ty,pos,af,none⟩ :: rest) ⟨env,df,H,own⟩ :=
 kF rfl rfl hd (fun ρ ha w=>by rw [rB (ha _ _ hx) (ha _ _ hy)];simp [binOp,Op.intBits,Sem.run,Pure.pure,Result.andThen]) h
end
end Go.XL

namespace Go.XL
def kH (o : Oper) : List Nat:=o.after.toList.filterMap fun e=>match e.ground with | .data=>some e.on | .guard=>some e.on | _=>none
def mK (l : List Oper) (F : List (Value → Hp → Prop)) (H' : Hp) : List Nat → gY → (gY → Prop) → Prop
 | [],acc,K=>K acc
 | j :: js,acc,K=>match gU l j with
  | some t=>∀ v,jN F j v H' → mK l F H' js ((t,v) :: acc) K
  | none=>mK l F H' js acc K
theorem eR {l : List Oper} {F : List (Value → Hp → Prop)} {H' : Hp} {js js' : List Nat} {j t : Nat} {acc : gY} {K : gY → Prop} (hj : js = j :: js') (ht : gU l j = some t) (h : ∀ v,jN F j v H' → mK l F H' js' ((t,v) :: acc) K) : mK l F H' js acc K:=by
 subst hj;simp only [mK,ht];exact h
theorem pY {l : List Oper} {F : List (Value → Hp → Prop)} {H' : Hp} {js js' : List Nat} {j : Nat} {acc : gY} {K : gY → Prop} (hj : js = j :: js') (ht : gU l j = none) (h : mK l F H' js' acc K) : mK l F H' js acc K:=by
 subst hj;simp only [mK,ht];exact h
theorem aO {l : List Oper} {F : List (Value → Hp → Prop)} {H' : Hp} {js : List Nat} {acc : gY} {K : gY → Prop} (hj : js = []) (h : K acc) : mK l F H' js acc K:=by subst hj;exact h
theorem pR {l : List Oper} {F : List (Value → Hp → Prop)} {H' : Hp} {val : Nat → Value} : ∀ (js : List Nat) (acc : gY) (K : gY → Prop),mK l F H' js acc K → (∀ j ∈ js,∀ t,gU l j = some t → jN F j (val j) H') →
  ∃ acc',K (acc' ++ acc) ∧ ∀ t v,(t,v) ∈ acc' → ∃ j ∈ js,gU l j = some t ∧ v = val j
 | [],acc,K,h,_=>⟨[],h,fun _ _ h=>by cases h⟩
 | j :: js,acc,K,h,hf=>by
  cases ht : gU l j with
  | none =>
   simp only [mK,ht] at h;obtain ⟨acc',hk,hm⟩:=pR js _ K h (fun j' hj'=>hf j' (by simp [hj']));exact ⟨acc',hk,fun t v hv=>let ⟨j',hj',h3⟩:=hm t v hv;⟨j',by simp [hj'],h3⟩⟩
  | some t =>
   simp only [mK,ht] at h;obtain ⟨acc',hk,hm⟩:=pR js _ K (h (val j) (hf j zP t ht)) (fun j' hj'=>hf j' (by simp [hj']));refine ⟨acc' ++ [(t,val j)],by simpa using hk,fun t' v' hm'=>?_⟩;rcases gM.1 hm' with hm' | hm'
   ·obtain ⟨j',hj',h3⟩:=hm t' v' hm';exact ⟨j',by simp [hj'],h3⟩
   simp only [lW,Prod.mk.injEq] at hm';obtain ⟨rfl,rfl⟩:=hm';exact ⟨j,by simp,ht,rfl⟩
def sS (m : Nat) (l : List Oper) (keys : List Nat) : Bool :=
 Nat.ble m l.length && (List.range m).all (fun i=>match l[i]? with
  | some o=>wM o.op && (match o.dst with
   | some t=>!keys.contains t && (List.range m).all (fun j=>Nat.beq i j || !(gU l j == some t))
   | none=>true) && (o.after.toList.all fun e=>!Region.binds .any e || Nat.blt e.on i) && (kH o).all (fun j=>Nat.blt j m && o.after.toList.any fun e=>Region.binds .any e && Nat.beq e.on j)
  | none=>false) &&
 (List.range l.length).all (fun i=>Nat.blt i m || match l[i]? with
  | some o=>(List.range i).all (fun j=>sW l l.length o j) && (o.after.toList.all fun e=>!Region.binds .any e || Nat.blt e.on i)
  | none=>false)
def aBy (Gd : Hp → Prop) (cre : List Nat) (FO : Nat → Value → Nat × SObj → Hp → Prop) (C : Ctx) (l : List Oper) (F : List (Value → Hp → Prop)) (env : gY) (df : List Deferred) (H : Hp) (own : Own) (m : Nat) : Nat → List Oper → Prop
 | _,[]=>True
 | k,o :: rest=>bif Nat.blt k m then
   (∀ X ext H',Le H H' → Gd H' → mK l F H' (kH o) [] fun acc=>XO C l.toArray (wY Gd cre k o.dst (jN F k) (FO k) (acc ++ (env ++ X)) df (own ++ ext)) [o] ⟨acc ++ (env ++ X),df,H',own ++ ext⟩) ∧ aBy Gd cre FO C l F env df H own m (k + 1) rest
  else True
theorem dO {Gd : Hp → Prop} {cre : List Nat} {FO : Nat → Value → Nat × SObj → Hp → Prop} {C : Ctx} {l : List Oper} {F : List (Value → Hp → Prop)} {env : gY} {df : List Deferred} {H : Hp} {own : Own} {m k : Nat} {o : Oper} {rest : List Oper} (hk : Nat.blt k m = true)
  (h : ∀ X ext H',Le H H' → Gd H' → mK l F H' (kH o) [] fun acc=>XO C l.toArray (wY Gd cre k o.dst (jN F k) (FO k) (acc ++ (env ++ X)) df (own ++ ext)) [o] ⟨acc ++ (env ++ X),df,H',own ++ ext⟩) (k2 : aBy Gd cre FO C l F env df H own m (k + 1) rest) : aBy Gd cre FO C l F env df H own m k (o :: rest):=by
 rw [aBy,hk];exact ⟨h,k2⟩
theorem uE {Gd : Hp → Prop} {cre : List Nat} {FO : Nat → Value → Nat × SObj → Hp → Prop} {C : Ctx} {l : List Oper} {F : List (Value → Hp → Prop)} {env : gY} {df : List Deferred} {H : Hp} {own : Own} {m k : Nat} {rest : List Oper} (hk : Nat.blt k m = false) : aBy Gd cre FO C l F env df H own m k rest:=by
 cases rest with
 | nil=>trivial
 | cons o r=>rw [aBy,hk];trivial
theorem nI {d : Option Tmp} {v : Value} {e : gY} {t : Nat} (h : d ≠ some t) : gY.get (jI d v e) t = gY.get e t:=by
 cases d with
 | none=>rfl
 | some s=>simp only [jI,gY.get];rw [show Nat.beq s t = false from aRo fun e=>h (by rw [e])];rfl
theorem kB : ∀ (e : gY) (t : Nat) (u : Value),gY.get e t = some u → (t,u) ∈ e:=fun _ _ _ h=>pM h
theorem uX {tj : Nat} {u0 : Value} : ∀ (e : gY),(tj,u0) ∈ e → (∀ u,(tj,u) ∈ e → u = u0) → gY.get e tj = some u0
 | [],h,_=>by cases h
 | (k,u') :: r,h,hu2=>by
  simp only [gY.get];cases hb : Nat.beq k tj with
  | true =>
   have:=fV hb;subst this;rw [hu2 u' zP];rfl
  | false =>
   simp only [cond_false];refine uX r ?_ (fun u hu3=>hu2 u (mX _ hu3));rcases List.mem_cons.1 h with h | h
   ·cases h;simp at hb
   exact h
theorem uF {l : List Oper} {L : Array Bool} {m : Nat} (hml : m ≤ l.length) (hall : ∀ j,j < m → jU L j = true) (hT : ∀ j,m ≤ j → jU L j = false) : l.length - m = unl l.length L:=by
 have : unl l.length L = (List.range l.length).countP fun i=>decide (m ≤ i):=by
  refine List.countP_congr fun i hi=>?_;rcases gJ i m with h | h
  ·rw [hall i h];simp;omega
  rw [hT i h];simp [h]
 rw [this]
 have key : ∀ n,m ≤ n → (List.range n).countP (fun i=>decide (m ≤ i)) = n - m:=by
  intro n
  induction n with
  | zero=>intro h;simp
  | succ n ihn =>
   intro h;rw [List.range_succ,List.countP_append];rcases gJ n m with h' | h'
   ·have : n + 1 = m:=zO
    subst this
    have h0 : (List.range n).countP (fun i=>decide (n + 1 ≤ i)) = 0:=by
     rw [List.countP_eq_zero];intro i hi;simp at hi ⊢;omega
    rw [h0];simp
   rw [ihn h'];simp [h'];omega
 exact (key _ hml).symm
section
variable {C : Ctx} {Q : Exit → St → Prop} {env : gY} {df : List Deferred} {H : Hp} {own : Own}
theorem aL9 {Gd : Hp → Prop} {cre : List Nat} {FO : Nat → Value → Nat × SObj → Hp → Prop} {l : List Oper} {F : List (Value → Hp → Prop)} {m : Nat} : ∀ (rest : List Oper) (k : Nat),aBy Gd cre FO C l F env df H own m k rest → ∀ (i : Nat) (o : Oper),rest[i]? = some o → k + i < m →
  ∀ X ext H',Le H H' → Gd H' → mK l F H' (kH o) [] fun acc=>XO C l.toArray (wY Gd cre (k + i) o.dst (jN F (k + i)) (FO (k + i)) (acc ++ (env ++ X)) df (own ++ ext)) [o] ⟨acc ++ (env ++ X),df,H',own ++ ext⟩
 | [],k,_,i,o,hi,_=>by simp at hi
 | x :: rest,k,h,i,o,hi,hlt=>by
  simp only [aBy] at h;rw [show Nat.blt k m = true by simp;omega] at h;cases i with
  | zero=>simp only [mF,Option.some.injEq] at hi;subst hi;exact h.1
  | succ i =>
   have:=aL9 rest (k + 1) h.2 i o (by simpa using hi) zO;rwa [show k + 1 + i = k + (i + 1) by omega] at this
theorem aAv (Gd : Hp → Prop) (hG : Gd H) (cre : List Nat) (hnd0 : cre.Nodup) (FO : Nat → Value → Nat × SObj → Hp → Prop) (hFO : ∀ i v p H H',Le H H' → FO i v p H → FO i v p H') {id : Nat} {l : List Oper} (m : Nat) (F : List (Value → Hp → Prop)) (hm : C.P.follows .mixedOrders = true) (hck : sS m l (env.map Prod.fst) = true) (hmono' : aE3 F)
  (hcm : (cre.all fun i=>Nat.blt i m) = true) (steps : aBy Gd cre FO C l F env df H own m 0 l)
  (tail : ∀ H',Le H H' → Gd H' → mK l F H' (List.range m) [] fun acc=>wV l FO H' acc cre fun es=>XO C l.toArray Q (l.drop m) ⟨acc ++ env,df,H',es ++ own⟩) : XC C (.region id l.toArray true) Q ⟨env,df,H,own⟩:=by
 have hmono:=xK hmono';intro a₀ w₀ hr₀;refine wpIn_region_any hm ?_;simp only [sS,fL,List.all_eq_true,fA] at hck;obtain ⟨⟨hml,hck1⟩,hck2⟩:=hck;have hml:=Nat.le_of_ble_eq_true hml
 have hpre : ∀ i,i < m → ∃ o,l[i]? = some o ∧ (∀ t,o.dst = some t → t ∉ env.map Prod.fst ∧ (∀ j,j < m → i ≠ j → gU l j ≠ some t)) ∧ (∀ e ∈ o.after,Region.binds .any e = true → e.on < i) ∧ (∀ j ∈ kH o,j < m ∧ ∃ e ∈ o.after,Region.binds .any e = true ∧ e.on = j):=by
  intro i hi;have h:=hck1 i hi;split at h
  ·rename_i o ho
   simp only [fL,List.all_eq_true] at h;obtain ⟨⟨⟨hnd,hd⟩,haf⟩,hp⟩:=h;refine ⟨o,ho,?_,?_,?_⟩
   ·intro t ht;rw [ht] at hd;simp only [fL,List.all_eq_true,fA,Bool.not_eq_true',List.contains_eq_mem,decide_eq_false_iff_not] at hd;refine ⟨hd.1,fun j hj hne he=>?_⟩;have:=hd.2 j hj;rw [he] at this;simp at this;exact hne this
   ·intro e he hb;have:=haf e (by simpa using he);simpa [hb] using this
   intro j hj;have:=hp j hj;simp only [List.any_eq_true,fL] at this;obtain ⟨h1,e,he,hb,hon⟩:=this;exact ⟨by simpa using h1,e,by simpa using he,hb,fV hon⟩
  cases h
 have hkey : ∀ i t,i < m → gU l i = some t → t ∉ env.map Prod.fst:=by
  intro i t hi ht;obtain ⟨o,ho,hd,_⟩:=hpre i hi;exact (hd t (by simpa [gU,ho] using ht)).1
 have hdis : ∀ i j t,i < m → j < m → gU l i = some t → gU l j = some t → i = j:=by
  intro i j t hi hj ht ht2;obtain ⟨o,ho,hd,_⟩:=hpre i hi;by_cases h : i = j
  ·exact h
  exact absurd ht2 ((hd t (by simpa [gU,ho] using ht)).2 j hj h)
 have htl : ∀ (i : Nat) (o : Oper),m ≤ i → l[i]? = some o → (∀ j,j < i → sW l l.length o j = true) ∧ (∀ e ∈ o.after,Region.binds .any e = true → e.on < i):=by
  intro i o hi ho;have hlt:=(bY.1 ho).1;have h:=hck2 i hlt;rw [ho] at h;rw [show Nat.blt i m = false from aE7 hi] at h;simp only [Bool.false_or,fL,List.all_eq_true,fA] at h;refine ⟨fun j hj=>h.1 j hj,fun e he hb=>?_⟩
  ·have:=h.2 e (by simpa using he);simpa [hb] using this
 have hdc : ∀ (i : Nat) (o : Oper),l[i]? = some o → ∀ e ∈ o.after,Region.binds .any e = true → e.on < i:=by
  intro i o ho;rcases gJ i m with h | h
  ·obtain ⟨o2,ho2,_,haf,_⟩:=hpre i h;rw [ho] at ho2;cases ho2;exact haf
  exact (htl i o h ho).2
 have main : ∀ (fuel : Nat) (L : Array Bool) (a : Act) (w : World) (val : Nat → Value) (kJ : Nat → Nat × SObj) (H' : Hp),L.size = l.length → unl l.length L ≤ fuel → Le H H' → Gd H' → (∀ (i : Nat) (o : Oper),l[i]? = some o → jU L i = true → ∀ e ∈ o.after,Region.binds .any e = true → jU L e.on = true) → (∀ j,m ≤ j → jU L j = false) →
   a.tmps.size = C.N → (∀ t v,env.get t = some v → a.tmps.getD t undef = v) → (∃ ms : List Nat,a.defers = ms.map mark ++ df ∧ Ok C.G H' ((own ++ pJ cre L kJ) ++ (ms.map hid ++ C.hid)) w) → (∀ i ∈ cre,jU L i = true → FO i (val i) (kJ i) H') →
   (∀ i,i < m → jU L i = true → ∀ t,gU l i = some t → a.tmps.getD t undef = val i ∧ jN F i (val i) H') →
   wpAnyIn (Fr C.r) 0 C.P .any l.toArray (nW C H Q) fuel L a w:=by
  intro fuel
  have done : ∀ (fuel : Nat) (L : Array Bool) (a : Act) (w : World) (val : Nat → Value) (kJ : Nat → Nat × SObj) (H' : Hp),L.size = l.length → unl l.length L ≤ fuel → Le H H' → Gd H' → (∀ j,m ≤ j → jU L j = false) →
    a.tmps.size = C.N → (∀ t v,env.get t = some v → a.tmps.getD t undef = v) → (∃ ms : List Nat,a.defers = ms.map mark ++ df ∧ Ok C.G H' ((own ++ pJ cre L kJ) ++ (ms.map hid ++ C.hid)) w) → (∀ i ∈ cre,jU L i = true → FO i (val i) (kJ i) H') →
    (∀ i,i < m → jU L i = true → ∀ t,gU l i = some t → a.tmps.getD t undef = val i ∧ jN F i (val i) H') → (∀ j,j < m → jU L j = true) →
    wpAnyIn (Fr C.r) 0 C.P .any l.toArray (nW C H Q) fuel L a w:=by
   intro fuel L a w val kJ H' hs hu hle hGd hT hsz henv hok hents hfacts hall;obtain ⟨acc',hk,hmem⟩:=pR (val:=val) (List.range m) [] _ (tail H' hle hGd) (fun j hj t ht=>(hfacts j (fA.1 hj) (hall j (fA.1 hj)) t ht).2);have hcount : l.length - m ≤ fuel:=by rw [uF hml hall hT];exact hu
   refine vC (m:=m) htl hdc fuel m L a w (gT _) hs hcount hml ?_ ?_
   ·intro j;rcases gJ j m with h | h
    ·rw [hall j h];simp [h]
    rw [hT j h];simp;omega
   have hcall : ∀ i ∈ cre,i < m:=fun i hi=>by simpa using List.all_eq_true.1 hcm i hi
   have hk2:=aDn (kJ:=kJ) cre _ hk (fun i hi v hg=>by
    obtain ⟨t,hd,hg⟩:=hg;have him:=hcall i hi;obtain ⟨j,hj,hdj,rfl⟩:=hmem t v (pM (by simpa using hg));obtain rfl:=hdis i j t him (fA.1 hj) hd hdj
    exact hents i hi (hall i him))
   have hext : pJ cre L kJ = cre.map kJ:=by
    rw [pJ,List.filter_eq_self.2 (fun i hi=>hall i (hcall i hi))]
   have vN : ∃ ms : List Nat,a.defers = ms.map mark ++ df ∧ Ok C.G H' ((cre.map kJ ++ own) ++ (ms.map hid ++ C.hid)) w:=by
    obtain ⟨ms,h1,h2⟩:=hok;rw [hext] at h2;exact ⟨ms,h1,h2.perm (List.perm_append_comm.append_right _)⟩
   refine lZ hle _ _ _ (hk2 a w ⟨hsz,?_,vN⟩);intro t v hg;simp only [gH] at hg;rw [gY.get_append] at hg;cases hga : gY.get acc' t with
   | none=>rw [hga] at hg;exact henv t v (by simpa using hg)
   | some u =>
    rw [hga] at hg;simp at hg;subst hg;obtain ⟨j,hj,hd,rfl⟩:=hmem t u (kB _ _ _ hga);have hj:=fA.1 hj;exact (hfacts j hj (hall j hj) t hd).1
  induction fuel with
  | zero =>
   intro L a w val kJ H' hs hu hle hGd hdown hT hsz henv hok hents hfacts;refine done 0 L a w val kJ H' hs hu hle hGd hT hsz henv hok hents hfacts ?_;intro j hj;cases hx : jU L j with
   | true=>rfl
   | false =>
    have:=qT (L:=L) (i:=j) hs zO hx;omega
  | succ fuel ih =>
   intro L a w val kJ H' hs hu hle hGd hdown hT hsz henv hok hents hfacts;by_cases hall : ∀ j,j < m → jU L j = true
   ·exact done (fuel + 1) L a w val kJ H' hs hu hle hGd hT hsz henv hok hents hfacts hall
   constructor
   ·intro hnil;exfalso;apply hall
    -- the least one that is not listed is ready
    intro j hj
    induction j using Nat.strongRecOn with
    | _ j ihj =>
     cases hx : jU L j with
     | true=>rfl
     | false =>
      exfalso;obtain ⟨o,ho,_,haf,_⟩:=hpre j hj
      have : j ∈ Region.ready .any l.toArray L:=by
       rw [mem_ready];refine ⟨?_,o,by simpa using ho,fun e he hb=>ihj e.on (haf e he hb) (by have:=haf e he hb;omega)⟩;unfold jU at hx;rw [dY,gG zO] at hx ⊢;simpa using hx
      rw [hnil] at this;cases this
   intro i hi;rw [mem_ready] at hi;obtain ⟨h0,o,ho,hbef⟩:=hi;have hilt : i < l.length:=by simpa using (Array.getElem?_eq_some_iff.1 ho).1
   have hun : jU L i = false:=by
    unfold jU;rw [dY,gG zO] at h0 ⊢;simpa using h0
   have ho' : l[i]? = some o:=by simpa using ho
   have him : i < m:=by
    rcases gJ i m with h | h
    ·exact h
    exfalso;apply hall;intro j hj;exact nC hdown _ o j hbef ((htl i o h ho').1 j zO)
   obtain ⟨o2,ho2,hd,haf,hprd⟩:=hpre i him;rw [ho'] at ho2;cases ho2;have hdo : gU l i = o.dst:=by simp [gU,ho']
   have hst:=aL9 l 0 steps i o ho' zO;simp only [Nat.zero_add] at hst
   -- all that is known of the slots,a_s one list
   let X : gY:=(List.range m).filterMap fun j=>if jU L j then (gU l j).map fun t=>(t,val j) else none
   obtain ⟨acc',hk,hmem⟩:=pR (val:=val) (kH o) [] _ (hst X (pJ cre L kJ) H' hle hGd) (fun j hj tj hdj=>by
    obtain ⟨hjm,e,he,hb,hon⟩:=hprd j hj;have hlj : jU L j = true:=by have:=hbef e he hb;rw [hon] at this;exact this
    exact (hfacts j hjm hlj tj hdj).2)
   simp only [gH] at hk
   have hX : ∀ t v,(t,v) ∈ X → ∃ j,j < m ∧ jU L j = true ∧ gU l j = some t ∧ v = val j:=by
    intro t v h;obtain ⟨j,hj,hjj⟩:=List.mem_filterMap.1 h;split at hjj
    ·rename_i hlj
     cases hdj : gU l j with
     | none=>rw [hdj] at hjj;cases hjj
     | some tj =>
      rw [hdj] at hjj;simp only [Option.map_some,Option.some.injEq,Prod.mk.injEq] at hjj;obtain ⟨rfl,rfl⟩:=hjj;exact ⟨j,fA.1 hj,hlj,hdj,rfl⟩
    cases hjj
   have hrel : Rel C ⟨acc' ++ (env ++ X),df,H',own ++ pJ cre L kJ⟩ a w:=by
    refine ⟨hsz,?_,hok⟩;intro t v hgv;rw [gY.get_append,gY.get_append] at hgv;cases hga : gY.get acc' t with
    | some u =>
     rw [hga] at hgv;simp at hgv;subst hgv;obtain ⟨j,hj,hdj,rfl⟩:=hmem t u (kB _ _ _ hga);obtain ⟨hjm,e,he,hb,hon⟩:=hprd j hj;have hlj : jU L j = true:=by have:=hbef e he hb;rw [hon] at this;exact this
     exact (hfacts j hjm hlj t hdj).1
    | none =>
     rw [hga] at hgv;simp only [Option.none_or] at hgv;cases hge : gY.get env t with
     | some u=>rw [hge] at hgv;simp at hgv;subst hgv;exact henv t u hge
     | none =>
      rw [hge] at hgv;simp only [Option.none_or] at hgv;obtain ⟨j,hj,hlj,hdj,rfl⟩:=hX t v (kB _ _ _ hgv);exact (hfacts j hj hlj t hdj).1
   have hrun:=hk a w hrel
   have hnext : ∀ a' w',nW C H' (wY Gd cre i o.dst (jN F i) (FO i) (acc' ++ (env ++ X)) df (own ++ pJ cre L kJ)) .normal a' w' → wpAnyIn (Fr C.r) 0 C.P .any l.toArray (nW C H Q) fuel (L.setIfInBounds i true) a' w':=by
    rintro a' w' ⟨σ',hr',hle',hGd',hdf',v,pe,henv',hfv,hown'⟩;refine ih (L.setIfInBounds i true) a' w' (fun j=>if j = i then v else val j) (fun j=>if j = i then pe else kJ j) σ'.H (by simpa using hs) ?_ (hle.trans hle') hGd' ?_ ?_ hr'.size ?_ ?_ ?_ ?_
    ·have:=qT hs hilt hun;omega
    ·intro i' o' hi' hl' e he hb;rw [jT zO] at hl' ⊢;split
     ·rfl
     split at hl'
     ·rename_i e1 e2;subst e2;rw [ho'] at hi';cases hi';exact hbef e he hb
     exact hdown i' o' hi' hl' e he hb
    ·intro j hj;rw [jT zO,dG zO];exact hT j hj
    ·intro t' v' hg';refine hr'.get t' v' ?_;have hin : t' ∈ env.map Prod.fst:=gS.2 ⟨(t',v'),kB _ _ _ hg',rfl⟩;rw [henv',nI (fun e=>(hd t' e).1 hin),gY.get_append,gY.get_append]
     have : gY.get acc' t' = none:=by
      cases hga : gY.get acc' t' with
      | none=>rfl
      | some u =>
       obtain ⟨j,hj,hdj,_⟩:=hmem t' u (kB _ _ _ hga);exact absurd hin (hkey j t' (hprd j hj).1 hdj)
     rw [this,hg'];rfl
    ·obtain ⟨ms,hd',hok'⟩:=hr'.ok;refine ⟨ms,by rw [hd',hdf'],?_⟩;cases hc : cre.contains i with
     | true =>
      rw [hc] at hown';rw [hown'.1] at hok';refine hok'.perm (List.Perm.append_right _ ?_);exact ((aSw hnd0 (List.contains_iff_mem.1 hc) hun (fun j=>jT zO j)).append_left own).trans List.perm_middle
     | false =>
      rw [hc] at hown';rw [show σ'.own = own ++ pJ cre L kJ from hown'] at hok';rw [aN4 (fun h=>by rw [List.contains_iff_mem.2 h] at hc;cases hc) (fun j=>jT zO j)];exact hok'
    ·intro j hj hlj;rw [jT zO] at hlj;by_cases hji : j = i
     ·subst hji;rw [List.contains_iff_mem.2 hj] at hown';simpa using hown'.2
     rw [dG hji] at hlj;simp only [dG hji];exact hFO _ _ _ _ _ hle' (hents j hj hlj)
    intro j hj hlj tj htj;rw [jT zO] at hlj;by_cases hji : j = i
    ·subst hji;rw [hdo] at htj;simp only [if_true];refine ⟨hr'.get tj v ?_,hfv⟩;rw [henv',htj];simp [jI,gY.get]
    rw [dG hji] at hlj;obtain ⟨h1,h2⟩:=hfacts j hj hlj tj htj;simp only [dG hji];refine ⟨hr'.get tj (val j) ?_,rR hmono hle' h2⟩;rw [henv',nI (fun e=>hji (hdis j i tj hj him htj (by rw [hdo,e]))),gY.get_append,gY.get_append]
    have hacc : gY.get acc' tj = none ∨ gY.get acc' tj = some (val j):=by
     cases hga : gY.get acc' tj with
     | none=>exact .inl rfl
     | some u =>
      obtain ⟨j',hj',hdj',rfl⟩:=hmem tj u (kB _ _ _ hga);obtain rfl:=hdis j' j tj (hprd j' hj').1 hj hdj' htj;exact .inr rfl
    rcases hacc with hacc | hacc
    ·rw [hacc]
     have henvn : gY.get env tj = none:=by
      cases hge : gY.get env tj with
      | none=>rfl
      | some u=>exact absurd (gS.2 ⟨(tj,u),kB _ _ _ hge,rfl⟩) (hkey j tj hj htj)
     rw [henvn];simp only [Option.none_or]
     -- it stands in X,once
     refine uX X (List.mem_filterMap.2 ⟨j,fA.2 hj,by simp only [hlj,if_true,htj,Option.map_some]⟩) ?_;intro u hu';obtain ⟨j',hj',_,hdj',rfl⟩:=hX tj u hu';obtain rfl:=hdis j' j tj hj' hj hdj' htj;rfl
    rw [hacc];rfl
   unfold wpOpIn;rw [ho];simp only [wpListIn] at hrun ⊢;split
   ·rename_i hw
    rw [eX hw] at hrun;refine oV hnext ?_ hrun;rintro e a' w' he ⟨σ',_,_,hq⟩;cases e <;> first | exact absurd rfl he | exact hq.elim
   rename_i hw
   rw [dG hw] at hrun;exact ⟨hrun.1,hnext _ _ hrun.2⟩
 have hlst0 : ∀ j,jU (Array.replicate l.toArray.size false) j = false:=fun j=>by simp [jU,dY,gA];split <;> rfl
 exact main l.toArray.size (Array.replicate l.toArray.size false) a₀ _ (fun _=>undef) (fun _=>(0,.nothing)) H zP (by
   refine eK (List.countP_le_length) zP) (Le.refl _) hG (fun i o _ hl=>by
   have : jU (Array.replicate l.toArray.size false) i = false:=by simp [jU,dY,gA];split <;> rfl
   rw [this] at hl;cases hl) (fun j _=>by simp [jU,dY,gA];split <;> rfl) hr₀.size hr₀.get
  (let ⟨ms,hd,hok⟩:=hr₀.ok;⟨ms,hd,by rw [aPg hlst0,gH];exact hok.drew⟩) (fun i _ h=>by rw [hlst0] at h;cases h) (fun i _ h=>by
   have : jU (Array.replicate l.toArray.size false) i = false:=by simp [jU,dY,gA];split <;> rfl
   rw [this] at h;cases h)
end
theorem fX {l : List Oper} {F : List (Value → Hp → Prop)} {H' : Hp} {js js' : List Nat} {j t : Nat} {acc : gY} {K : gY → Prop} {x : Value} (hj : (js,gU l j,jN F j) = (j :: js',some t,gC x)) (h : mK l F H' js' ((t,x) :: acc) K) : mK l F H' js acc K :=
  eR (p1 hj) (p1 (p2 hj)) fun v hv=>by rw [show jN F j = gC x from p2 (p2 hj)] at hv;obtain rfl : v = x:=hv;exact h
end Go.XL

namespace Go.XL
/-! ### Results in variables -/
def aE8 (P : Program) (e : gY) (own : Own) : List ResultVar → List Value → Prop
 | [],vs=>vs = []
 | .tmp t :: r,vs=>∃ v us,vs = v :: us ∧ e.get t = some v ∧ aE8 P e own r us
 | .cell a ty :: r,vs=>∃ v us b T cs i sz agg ws,vs = v :: us ∧ e.get a = some (.pointer (some ⟨b,0,none⟩)) ∧ Own.at own i = some (b,.cells T cs) ∧ tP P ty sz agg = true ∧ aIo cs 0 sz = some ws ∧ mkV agg ws = some v ∧ aE8 P e own r us
theorem iD {P : Program} {e : gY} {own : Own} : aE8 P e own [] []:=rfl
theorem mM {P : Program} {e : gY} {own : Own} {t : Nat} {v : Value} {us : List Value} {r : List ResultVar} (h : e.get t = some v) (k : aE8 P e own r us) : aE8 P e own (.tmp t :: r) (v :: us):=⟨v,us,rfl,h,k⟩
theorem fN {P : Program} {e : gY} {own : Own} (i : Nat) {a : Nat} {ty T : TypeId} {b sz : Nat} {agg : Bool} {cs ws : List Value} {v : Value} {us : List Value} {r : List ResultVar} (h : e.get a = some (.pointer (some ⟨b,0,none⟩))) (ho : Own.at own i = some (b,.cells T cs)) (ht : tP P ty sz agg = true)
  (hl : aIo cs 0 sz = some ws) (hv : mkV agg ws = some v) (k : aE8 P e own r us) : aE8 P e own (.cell a ty :: r) (v :: us):=⟨v,us,b,T,cs,i,sz,agg,ws,rfl,h,ho,ht,hl,hv,k⟩
theorem aBn {C : Ctx} {σ : St} {a : Act} {w w' : World} {fr : Own} (hr : Rel C σ a w) (hok : Ok C.G σ.H (σ.own ++ fr) w') {fn : Func} {rs : List ResultVar} (hf : fn.results = rs.toArray) {vs : List Value} (h : aE8 C.P σ.env σ.own rs vs) :
  (results fn a.tmps).run C.P w' = .ok (aJd vs) w':=by
 have key : ∀ (g : ResultVar → Sem Value),(∀ t,g (.tmp t) = pure (a.tmps.getD t undef)) → (∀ t ty,g (.cell t ty) = do loadVar ty (← asAddr (a.tmps.getD t undef))) → ∀ (rs : List ResultVar) (vs : List Value),aE8 C.P σ.env σ.own rs vs →
   (rs.mapM g).run C.P w' = .ok vs w':=by
  intro g hg hg2 rs
  induction rs with
  | nil=>intro vs h;cases h;rfl
  | cons r rs ih =>
   intro vs h;cases r with
   | cell b t =>
    obtain ⟨v,us,b',T,cs,i,sz,agg,ws,rfl,h1,ho,ht,hl,hv,hus⟩:=h;have h1':=hr.get _ _ h1;have h2:=ih us hus;have hb:=aGg hok (jF fr (Own.at_mem ho));obtain ⟨e1,e2,e3⟩:=aIt hl
    have hrun:=yM (P:=C.P) (w:=w') ht (b:=b') (o:=0) e3 (v:=v) (fun j u hj=>by
     rw [e1,List.getElem?_take] at hj;split at hj
     ·rw [List.getElem?_drop] at hj;simp only [Nat.zero_add] at hj;simp [World.cell?,hb,hj]
     cases hj) hv
    rw [List.mapM_cons];simp only [Sem.run_bind,hg2,h1',asAddr];simp only [Pure.pure,Sem.run,Result.andThen,hrun];show (Sem.run C.P (List.mapM g rs) w').andThen _ = _;rw [h2];rfl
   | tmp t =>
    obtain ⟨v,us,rfl,hv,hus⟩:=h;have h1:=hr.get t v hv;have h2:=ih us hus;rw [List.mapM_cons];simp only [Sem.run_bind,hg,h1];show (Result.ok v w').andThen _ = _;show (Sem.run C.P (List.mapM g rs) w').andThen _ = _;rw [h2];rfl
 unfold results;rw [hf,List.mapM_toArray];simp only [Sem.run_bind,Sem.run_map];rw [key _ (fun _=>rfl) (fun _ _=>rfl) rs vs h];cases vs with
 | nil=>rfl
 | cons v vs=>cases vs <;> rfl
def bodyQC (P : Program) (rs : List ResultVar) (R : Ending → Hp → Own → Prop) (rest : Own) : Exit → St → Prop
 | .normal,σ | .ret,σ=>σ.df = [] ∧ ∃ vs own',aE8 P σ.env σ.own rs vs ∧ (own' ++ rest).Sublist σ.own ∧ R (.returned (aJd vs)) σ.H own'
 | .panic chain,σ=>σ.df = [] ∧ ∃ own',(own' ++ rest).Sublist σ.own ∧ R (.panicked chain) σ.H own'
 | _,_=>False
theorem iP.introC {P : Program} {f : FuncId} {fn : Func} {c : Code} {args : List Value} {H : Hp} {own : Own} {R : Ending → Hp → Own → Prop} {N : Nat} {env : gY} {rs : List ResultVar}
  (hf : P.funcs[f]? = some fn) (hb : fn.body = some c) (hn : (fn.name == "runtime.NumGoroutine") = false) (hN : fn.ntmps = N) (hrs : fn.results = rs.toArray) (hlt : Nat.ble args.length N = true)
  (hi : gY.init 0 args = some env)
  (h : ∀ G rest,XC ⟨P,G,N,none,[]⟩ c (bodyQC P rs R rest) ⟨env,[],H,own ++ rest⟩) : iP P f args.toArray H own R:=by
 refine ⟨fun a_s w=>?_,fun G rest w ok=>?_⟩
 ·have hn' : fn.name ≠ "runtime.NumGoroutine":=by simpa using hn
  simp [callFunc,program,Sem.run_bind,Sem.run,Result.andThen,hf,hn',hb,bind,Sem.bind,pure]
 refine callsIn_wide.1 (callsIn_of_wp_marks (n:=0) hf hb trivial ?_)
 have hrel : Rel ⟨P,G,N,none,[]⟩ ⟨env,[],H,own ++ rest⟩ { tmps:=args.toArray ++ Array.replicate (fn.ntmps - args.toArray.size) undef,defers:=[] } w:=by
  have hle : args.length ≤ N:=Nat.le_of_ble_eq_true hlt;refine ⟨by simp [hN];omega,?_,[],rfl,by simpa using ok⟩;intro t v hg;obtain ⟨_,h2⟩:=gY.init_get hi hg;simp only [Nat.sub_zero] at h2
  have hlt : t < args.length:=by
   rcases gJ t args.length with h | h
   ·exact h
   rw [dJ h] at h2;cases h2
  rw [dY,Array.getElem?_append_left (by simpa using hlt)];simp [h2]
 refine Go.wpIn_mono (h G rest _ w hrel) ?_;intro e a w' hl;obtain ⟨τ,hr,hle,hq⟩:=hl
 have hR : ∀ e own',e ≠ .outgrown → (own' ++ rest).Sublist τ.own → R e τ.H own' → ∀ w'',Ok G τ.H τ.own w'' → (e ≠ .outgrown ∧ ∃ H' own',Le H H' ∧ Ok G H' (own' ++ rest) w'' ∧ R e H' own') :=
  fun e own' he hs hr w'' ok=>⟨he,τ.H,own',hle,ok.shrink (Le.refl _) hs,hr⟩
 have fin : ∀ vs own',τ.df = [] → aE8 P τ.env τ.own rs vs → (own' ++ rest).Sublist τ.own → R (.returned (aJd vs)) τ.H own' → LeavesInM Fence.wide 0 P fn a.tmps (fun e w'=>e ≠ .outgrown ∧ ∃ H' own',Le H H' ∧ Ok G H' (own' ++ rest) w' ∧ R e H' own') a.defers .returning w':=by
  intro vs own' hd hres hs hRR;obtain ⟨ms,hdf,hok⟩:=hr.ok;rw [hdf,hd,gH];refine aBo zP ms τ.own w' (by simpa using hok) ?_;intro w'' ok'';exact ⟨_,aBn (fr:=[]) hr (by simpa using ok'') hrs hres,hR _ own' zP hs hRR w'' ok''⟩
 cases e with
 | normal=>obtain ⟨hd,vs,own',hres,hs,hRR⟩:=hq;exact fin vs own' hd hres hs hRR
 | ret=>obtain ⟨hd,vs,own',hres,hs,hRR⟩:=hq;exact fin vs own' hd hres hs hRR
 | panic chain =>
  obtain ⟨hd,own',hs,hRR⟩:=hq;obtain ⟨ms,hdf,hok⟩:=hr.ok;show LeavesInM Fence.wide 0 P fn a.tmps _ a.defers (.panicking chain) w';rw [hdf,hd,gH];refine aBo zP ms τ.own w' (by simpa using hok) ?_;intro w'' ok'';exact hR _ own' zP hs hRR w'' ok''
 | exit _=>exact hq.elim
 | goto _=>exact hq.elim
 | outgrown=>exact hq.elim
/-! ### Bytes -/
def u8R : Rep UInt8 where
 sz:=1
 R:=fun _ cs a=>cs = [.int .u8 (a.toNat : Nat)]
 len:=fun h=>by subst h;rfl
 one:=fun h=>by subst h;rfl
 mono:=fun _ h=>h
abbrev bsOf (l : List UInt8) : ByteArray:=⟨l.toArray⟩
def aEz : Rep (Int × Int) where
 sz:=2
 R:=fun _ cs p=>cs = [.int .i64 p.1,.int .i64 p.2]
 len:=fun h=>by subst h;rfl
 one:=fun h=>by subst h;rfl
 mono:=fun _ h=>h
section
variable {C : Ctx} {ops : Array Oper} {Q : Exit → St → Prop} {rest : List Oper} {env : gY} {df : List Deferred} {H : Hp} {own : Own}
variable {dst : Option Tmp} {ty : TypeId} {pos : String} {af : Array Edge}
theorem jY {op : Op} {j t : Nat} {want : Bool} (hj : (ops[j]?).bind (·.dst) = some t) (hv : env.get t = some undef) (hN : Nat.blt t C.N = true) (hd : iU C.N dst = true)
  (h : XO C ops Q rest ⟨jI dst undef env,df,H,own⟩) : XO C ops Q (⟨dst,op,ty,pos,af,some (j,want)⟩ :: rest) ⟨env,df,H,own⟩:=by
 intro a w hr;have hlt : t < a.tmps.size:=by rw [hr.size];simpa using hN
 have hy : yielded ops a.tmps j = none:=by
  have:=hr.get t _ hv;rw [dY] at this;simp only [yielded,hj,Option.bind_some];rw [gG hlt] at this ⊢;simp only [Option.getD_some] at this;rw [this];rfl
 have hw : Region.wanted (⟨dst,op,ty,pos,af,some (j,want)⟩ : Oper) (yielded ops a.tmps) = false:=by
  simp only [Region.wanted,hy];cases want <;> rfl
 simp only [wpListIn,hw];exact ⟨fun _ _=>trivial,h _ _ (hr.put (aAm hd) undef hr.ok)⟩
theorem XO.minI {s t : TypeId} {x y : Operand} {k : IntKind} {a b c : Int} (hx : ev env x = some (.int k a)) (hy : ev env y = some (.int k b)) (hc : (if b < a then b else a) = c) (hd : iU C.N dst = true)
  (h : XO C ops Q rest ⟨jI dst (.int k c) env,df,H,own⟩) :
  XO C ops Q (⟨dst,.call { callee:=.builtin .min,args:=#[x,y],argTypes:=#[s,t] },ty,pos,af,none⟩ :: rest) ⟨env,df,H,own⟩ :=
 kF rfl rfl hd (fun ρ ha w=>by
  subst hc;simp only [execOp,resolve,Sem.run_bind];simp only [Pure.pure,Sem.run,Result.andThen,invoke,builtin,Sem.run_bind,Builtin.min_]
  simp [ha _ _ hx,ha _ _ hy,Sem.run_bind,Result.andThen,Pure.pure,Sem.run,Builtin.min2,List.foldlM]) h
theorem aF3 {s t : TypeId} {x y : Operand} {k : IntKind} {a b : Int} (hx : ev env x = some (.int k a)) (hy : ev env y = some (.int k b)) (hd : iU C.N dst = true)
  (h : XO C ops Q rest ⟨jI dst (.int k (min a b)) env,df,H,own⟩) :
  XO C ops Q (⟨dst,.call { callee:=.builtin .min,args:=#[x,y],argTypes:=#[s,t] },ty,pos,af,none⟩ :: rest) ⟨env,df,H,own⟩ :=
 XO.minI hx hy (by split <;> omega) hd h
theorem aKs {s t : TypeId} {x y : Operand} {k : IntKind} {a b : Int} (hx : ev env x = some (.int k a)) (hy : ev env y = some (.int k b)) (hd : iU C.N dst = true)
  (h : XO C ops Q rest ⟨jI dst (.int k (max a b)) env,df,H,own⟩) :
  XO C ops Q (⟨dst,.call { callee:=.builtin .max,args:=#[x,y],argTypes:=#[s,t] },ty,pos,af,none⟩ :: rest) ⟨env,df,H,own⟩ :=
 XO.maxI hx hy (by split <;> omega) hd h
theorem lO {t e : TypeId} {x y : Operand} {k : IntKind} {i : Int} {b o n sz : Nat} {agg : Bool} (hx : ev env x = some (.pointer (some ⟨b,o,none⟩))) (hy : ev env y = some (.int k i))
  (ht : C.P.underlying t = some (.array n e)) (he : tP C.P e sz agg = true) (h0 : 0 ≤ i) (h1 : i < n) (hd : iU C.N dst = true)
  (h : XO C ops Q rest ⟨jI dst (.pointer (some ⟨b,o + i.toNat * sz,none⟩)) env,df,H,own⟩) :
  XO C ops Q (⟨dst,.indexAddr t x y,ty,pos,af,none⟩ :: rest) ⟨env,df,H,own⟩:=by
 refine kF rfl rfl hd (fun ρ' ha w=>?_) h;simp only [execOp,ha _ _ hx,ha _ _ hy,Instr.indexAt,asIntOf,Sem.run_bind];simp only [Pure.pure,Sem.run,Result.andThen,jC ht,Sem.run_bind,Instr.sureAddr];simp only [h0,h1,and_self,if_true,Sem.run_bind,mJ he,Result.andThen,tV];rfl
def arrE (P : Program) (t : TypeId) : Option TypeId:=match P.underlying t with | some (.array _ e)=>some e | _=>none
theorem XO.buildArr {t e : TypeId} {n sz : Nat} {agg : Bool} {ps : List (Nat × Operand)} {vs : List (Nat × Value)} {zs r : List Value} (ht : C.P.underlying t = some (.array n e)) (he : tP C.P e sz agg = true) (hz : nB C.P t = some zs) (hv : evP env ps = some vs) (hr : aKn (fun i=>some (i * sz,sz)) zs vs = some r) (hd : iU C.N dst = true)
  (h : XO C ops Q rest ⟨jI dst (.agg ⟨r⟩) env,df,H,own⟩) :
  XO C ops Q (⟨dst,.build t ps.toArray,ty,pos,af,none⟩ :: rest) ⟨env,df,H,own⟩:=by
 refine kF rfl rfl hd (fun ρ' ha w=>?_) h;obtain ⟨z,hz1,hz2⟩:=aC2 (P:=C.P) (w:=w) hz;have hps : (ps.toArray.map fun p=>(p.1,ρ' p.2)).toList = vs:=by simpa using aNr ha hv
 simp only [execOp,Instr.build,Sem.run_bind,hz1,Result.andThen,jC ht,mJ he,hps,hz2,aNi hr];rfl
theorem run_append_none {P : Program} {w : World} {t e t' : TypeId} {a a' : Option Addr} {n c c' sz : Nat} {agg : Bool} (ht : P.underlying t = some (.slice e)) (he : tP P e sz agg = true) (hc : n ≤ c) :
  (Builtin.append_ #[t,t] t' #[.slice a n c,.slice a' 0 c']).run P w = .ok (.slice a n c) w:=by
 obtain ⟨_,inf,hi,hsz⟩:=wB he
 have hf : ∀ w : World,(Builtin.firstCells inf.size 0 (.slice a' 0 c')).run P w = .ok #[] w:=by
  intro w;cases a' <;> simp [Builtin.firstCells,loadCells,loadCellsFrom,Sem.run,Pure.pure]
 simp [Builtin.append_,jC ht,sizeOf,typeInfo,hi,Builtin.lenOf,hc,hf];cases a <;> simp [storeCells,Sem.run,Pure.pure]
theorem XO.appendP {α : Type} {ρ : Rep α} {t e : TypeId} {x y : Operand} {a a' : Option Addr} {c c' n n' : Nat} {l l' : List α} {zs : List Value} {agg : Bool}
  (hx : ev env x = some (.slice a n c)) (hs : SlR ρ H a c l) (hln : n = l.length) (hy : ev env y = some (.slice a' n' c')) (hsrc : SlR ρ H a' c' l') (hln' : n' = l'.length) (hfull : c ≤ l.length)
  (ht : C.P.underlying t = some (.slice e)) (he : tP C.P e ρ.sz agg = true) (hz : nB C.P e = some zs) (hzl : Nat.beq zs.length ρ.sz = true) (hby : Nat.ble (C.P.bytesOf e) 4096 = true) (hn : l.length + l'.length ≤ 1073741824) (hd : iU C.N dst = true)
  (h : ∀ H' a'' c'',Le H H' → SlR ρ H' a'' c'' (l ++ l') → XO C ops Q rest ⟨jI dst (.slice a'' (l ++ l').length c'') env,df,H',own⟩) :
  XO C ops Q (⟨dst,.call { callee:=.builtin .append,args:=#[x,y],argTypes:=#[t,t] },ty,pos,af,none⟩ :: rest) ⟨env,df,H,own⟩:=by
 cases l' with
 | nil =>
  have h':=h H a c (Le.refl _) (by simpa using hs);simp only [gH] at h';subst hln;refine vO rfl rfl hd fun ρ' w fr ha hok=>⟨.value (.slice a l.length c),.slice a l.length c,w,H,own,?_,.inl rfl,Le.refl _,hok,h'⟩
  have h0:=run_append_none (P:=C.P) (w:=w) (t':=ty) (a:=a) (c':=c') (a':=a') ht he hs.le;have hn0 : n' = 0:=by simpa using hln'
  subst hn0;simp only [execOp,resolve,Sem.run_bind];simp only [Pure.pure,Sem.run,Result.andThen,invoke,builtin,Sem.run_bind];simp only [List.map_toArray,List.map_cons,List.map_nil,ha _ _ hx,ha _ _ hy];rw [show (#[Value.slice a l.length c,Value.slice a' 0 c'] : Array Value) = [Value.slice a l.length c,Value.slice a' 0 c'].toArray from rfl] at h0;rw [h0]
 | cons u l' =>
  refine aFb hx hs hln hy hsrc hln' zI ht he hz hzl hby hn hd fun p' a'' c'' hacc=>?_;exact iO 0 rfl hacc rfl fun H' hle hsl=>h H' a'' c'' hle hsl
end
end Go.XL

namespace Go.XL
def aRf (md : List (Nat × Nat)) (k : Nat) : Option Nat:=(md.find? fun q=>Nat.beq q.1 k).map (·.2)
abbrev aKo:=Nat → Value → Nat × SObj → Hp → Prop
def aHy (md : List (Nat × Nat)) (FO FO2 : aKo) (L : Nat → Bool) (j : Nat) (v : Value) (p : Nat × SObj) (H : Hp) : Prop :=
 match md.find? fun q=>Nat.beq q.2 j with
 | some q=>if L q.1 = true then FO2 q.1 v p H else FO j v p H
 | none=>FO j v p H
def endP (md : List (Nat × Nat)) (FO FO2 : aKo) : aKo:=fun j v p H=>aHy md FO FO2 (fun _=>true) j v p H
theorem aM0 {md : List (Nat × Nat)} {FO FO2 : aKo} (h1 : ∀ i v p H H',Le H H' → FO i v p H → FO i v p H') (h2 : ∀ i v p H H',Le H H' → FO2 i v p H → FO2 i v p H') {L : Nat → Bool} {j : Nat} {v : Value} {p : Nat × SObj} {H H' : Hp} (hle : Le H H')
  (h : aHy md FO FO2 L j v p H) : aHy md FO FO2 L j v p H':=by
 unfold aHy at *;split
 ·rename_i q hq
  rw [hq] at h;simp only at h;split
  ·rename_i hl;rw [eX hl] at h;exact h2 _ _ _ _ _ hle h
  rename_i hl;rw [dG hl] at h;exact h1 _ _ _ _ _ hle h
 rename_i hq
 rw [hq] at h;exact h1 _ _ _ _ _ hle h
theorem aFm {md : List (Nat × Nat)} {FO FO2 : aKo} {L L' : Nat → Bool} {j : Nat} {v : Value} {p : Nat × SObj} {H : Hp} (h : ∀ q ∈ md,q.2 = j → L q.1 = L' q.1) (k : aHy md FO FO2 L j v p H) : aHy md FO FO2 L' j v p H:=by
 unfold aHy at *;split
 ·rename_i q hq
  rw [hq] at k;simp only at k;have h3:=h q (List.mem_of_find?_eq_some hq) (by have:=List.find?_some hq;simpa using this);rw [h3] at k;exact k
 rename_i hq
 rw [hq] at k;exact k
def aO9 (Gd : Hp → Prop) (fo : Value → Nat × SObj → Hp → Prop) (tj : Option Nat) (acc : gY) (dst : Option Tmp) (f : Value → Hp → Prop) (env : gY) (df : List Deferred) (own : Own) : Exit → St → Prop
 | .normal,σ=>Gd σ.H ∧ σ.df = df ∧ ∃ v p',σ.env = jI dst v env ∧ f v σ.H ∧ σ.own = p' :: own ∧ ∀ u t,tj = some t → gY.get acc t = some u → fo u p' σ.H
 | _,_=>False
theorem aD9 {Gd : Hp → Prop} {fo : Value → Nat × SObj → Hp → Prop} {tj : Option Nat} {acc : gY} {dst : Option Tmp} {f : Value → Hp → Prop} {env : gY} {df : List Deferred} {own : Own} {H : Hp} {v : Value} {p' : Nat × SObj} (hG : Gd H) (hf : f v H)
  (h : ∀ u t,tj = some t → gY.get acc t = some u → fo u p' H) : aO9 Gd fo tj acc dst f env df own .normal ⟨jI dst v env,df,H,p' :: own⟩:=⟨hG,rfl,v,p',rfl,hf,rfl,h⟩
def vH (Gd : Hp → Prop) (cre : List Nat) (md : List (Nat × Nat)) (FO FO2 : aKo) (C : Ctx) (l : List Oper) (F : List (Value → Hp → Prop)) (env : gY) (df : List Deferred) (H : Hp) (own : Own) (m : Nat) : Nat → List Oper → Prop
 | _,[]=>True
 | k,o :: rest=>bif Nat.blt k m then
   (match aRf md k with
    | none=>∀ X ext H',Le H H' → Gd H' → mK l F H' (kH o) [] fun acc=>XO C l.toArray (wY Gd cre k o.dst (jN F k) (FO k) (acc ++ (env ++ X)) df (own ++ ext)) [o] ⟨acc ++ (env ++ X),df,H',own ++ ext⟩
    | some j=>∀ X ext p H',Le H H' → Gd H' → mK l F H' (kH o) [] fun acc=>(∀ u t,gU l j = some t → gY.get acc t = some u → FO j u p H') →
      XO C l.toArray (aO9 Gd (FO2 k) (gU l j) acc o.dst (jN F k) (acc ++ (env ++ X)) df (own ++ ext)) [o] ⟨acc ++ (env ++ X),df,H',p :: (own ++ ext)⟩) ∧ vH Gd cre md FO FO2 C l F env df H own m (k + 1) rest
  else True
theorem iN {Gd : Hp → Prop} {cre : List Nat} {md : List (Nat × Nat)} {FO FO2 : aKo} {C : Ctx} {l : List Oper} {F : List (Value → Hp → Prop)} {env : gY} {df : List Deferred} {H : Hp} {own : Own} {m k : Nat} {o : Oper} {rest : List Oper} (hk : Nat.blt k m = true) (hmd : aRf md k = none)
  (h : ∀ X ext H',Le H H' → Gd H' → mK l F H' (kH o) [] fun acc=>XO C l.toArray (wY Gd cre k o.dst (jN F k) (FO k) (acc ++ (env ++ X)) df (own ++ ext)) [o] ⟨acc ++ (env ++ X),df,H',own ++ ext⟩) (k2 : vH Gd cre md FO FO2 C l F env df H own m (k + 1) rest) : vH Gd cre md FO FO2 C l F env df H own m k (o :: rest):=by
 rw [vH,hk,hmd];exact ⟨h,k2⟩
theorem aBi {Gd : Hp → Prop} {cre : List Nat} {md : List (Nat × Nat)} {FO FO2 : aKo} {C : Ctx} {l : List Oper} {F : List (Value → Hp → Prop)} {env : gY} {df : List Deferred} {H : Hp} {own : Own} {m k j : Nat} {o : Oper} {rest : List Oper} (hk : Nat.blt k m = true) (hmd : aRf md k = some j)
  (h : ∀ X ext p H',Le H H' → Gd H' → mK l F H' (kH o) [] fun acc=>(∀ u t,gU l j = some t → gY.get acc t = some u → FO j u p H') →
      XO C l.toArray (aO9 Gd (FO2 k) (gU l j) acc o.dst (jN F k) (acc ++ (env ++ X)) df (own ++ ext)) [o] ⟨acc ++ (env ++ X),df,H',p :: (own ++ ext)⟩) (k2 : vH Gd cre md FO FO2 C l F env df H own m (k + 1) rest) : vH Gd cre md FO FO2 C l F env df H own m k (o :: rest):=by
 rw [vH,hk,hmd];exact ⟨h,k2⟩
theorem aB8 {Gd : Hp → Prop} {cre : List Nat} {md : List (Nat × Nat)} {FO FO2 : aKo} {C : Ctx} {l : List Oper} {F : List (Value → Hp → Prop)} {env : gY} {df : List Deferred} {H : Hp} {own : Own} {m k : Nat} {rest : List Oper} (hk : Nat.blt k m = false) : vH Gd cre md FO FO2 C l F env df H own m k rest:=by
 cases rest with
 | nil=>trivial
 | cons o r=>rw [vH,hk];trivial
def mdOk (m : Nat) (l : List Oper) (cre : List Nat) (md : List (Nat × Nat)) : Bool :=
 md.all fun q=>Nat.blt q.1 m && cre.contains q.2 && !cre.contains q.1 && (md.all fun q2=>Nat.beq q.1 q2.1 == Nat.beq q.2 q2.2) && (match l[q.1]? with | some o=>(kH o).contains q.2 | none=>false) && (gU l q.2).isSome
theorem aH5 {l : List Oper} {F : List (Value → Hp → Prop)} {H' : Hp} {val : Nat → Value} : ∀ (js : List Nat) (acc : gY) (K : gY → Prop),mK l F H' js acc K → (∀ j ∈ js,∀ t,gU l j = some t → jN F j (val j) H') →
  ∃ acc',K (acc' ++ acc) ∧ (∀ t v,(t,v) ∈ acc' → ∃ j ∈ js,gU l j = some t ∧ v = val j) ∧ ∀ j ∈ js,∀ t,gU l j = some t → (t,val j) ∈ acc'
 | [],acc,K,h,_=>⟨[],h,fun _ _ h=>(by cases h),fun _ h=>(by cases h)⟩
 | j :: js,acc,K,h,hf=>by
  cases ht : gU l j with
  | none =>
   simp only [mK,ht] at h;obtain ⟨acc',hk,hm,hm2⟩:=aH5 js _ K h (fun j' hj'=>hf j' (by simp [hj']));refine ⟨acc',hk,fun t v hv=>let ⟨j',hj',h3⟩:=hm t v hv;⟨j',by simp [hj'],h3⟩,fun j' hj' t hd=>?_⟩;rcases List.mem_cons.1 hj' with rfl | hj'
   ·rw [ht] at hd;cases hd
   exact hm2 j' hj' t hd
  | some t =>
   simp only [mK,ht] at h;obtain ⟨acc',hk,hm,hm2⟩:=aH5 js _ K (h (val j) (hf j zP t ht)) (fun j' hj'=>hf j' (by simp [hj']));refine ⟨acc' ++ [(t,val j)],by simpa using hk,fun t' v' hm'=>?_,fun j' hj' t' hd=>?_⟩
   ·rcases gM.1 hm' with hm' | hm'
    ·obtain ⟨j',hj',h3⟩:=hm t' v' hm';exact ⟨j',by simp [hj'],h3⟩
    simp only [List.mem_cons,Prod.mk.injEq,List.not_mem_nil,or_false] at hm';exact ⟨j,by simp,hm'.1 ▸ ht,hm'.2⟩
   rcases List.mem_cons.1 hj' with rfl | hj'
   ·rw [ht] at hd;cases hd;simp
   exact jF _ (hm2 j' hj' t' hd)
section
variable {C : Ctx} {Q : Exit → St → Prop} {env : gY} {df : List Deferred} {H : Hp} {own : Own}
theorem aNa {Gd : Hp → Prop} {cre : List Nat} {md : List (Nat × Nat)} {FO FO2 : aKo} {l : List Oper} {F : List (Value → Hp → Prop)} {m : Nat} : ∀ (rest : List Oper) (k : Nat),vH Gd cre md FO FO2 C l F env df H own m k rest → ∀ (i : Nat) (o : Oper),rest[i]? = some o → k + i < m →
  (match aRf md (k + i) with
    | none=>∀ X ext H',Le H H' → Gd H' → mK l F H' (kH o) [] fun acc=>XO C l.toArray (wY Gd cre (k + i) o.dst (jN F (k + i)) (FO (k + i)) (acc ++ (env ++ X)) df (own ++ ext)) [o] ⟨acc ++ (env ++ X),df,H',own ++ ext⟩
    | some j=>∀ X ext p H',Le H H' → Gd H' → mK l F H' (kH o) [] fun acc=>(∀ u t,gU l j = some t → gY.get acc t = some u → FO j u p H') →
      XO C l.toArray (aO9 Gd (FO2 (k + i)) (gU l j) acc o.dst (jN F (k + i)) (acc ++ (env ++ X)) df (own ++ ext)) [o] ⟨acc ++ (env ++ X),df,H',p :: (own ++ ext)⟩)
 | [],k,_,i,o,hi,_=>by simp at hi
 | x :: rest,k,h,i,o,hi,hlt=>by
  simp only [vH] at h;rw [show Nat.blt k m = true by simp;omega] at h;cases i with
  | zero=>simp only [mF,Option.some.injEq] at hi;subst hi;exact h.1
  | succ i =>
   have:=aNa rest (k + 1) h.2 i o (by simpa using hi) zO;rwa [show k + 1 + i = k + (i + 1) by omega] at this
theorem ext_mod {cre : List Nat} {L : Array Bool} {kJ : Nat → Nat × SObj} {j : Nat} (hnd : cre.Nodup) (hj : j ∈ cre) (hl : jU L j = true) :
  ∃ ext,(pJ cre L kJ).Perm (kJ j :: ext) ∧ ∀ p,(pJ cre L fun x=>if x = j then p else kJ x).Perm (p :: ext):=by
 have hm : j ∈ cre.filter (jU L):=lD.2 ⟨hj,hl⟩;have hp:=List.perm_cons_erase hm;have hnd2 : (cre.filter (jU L)).Nodup:=List.filter_sublist.nodup hnd
 have hne : ∀ x ∈ (cre.filter (jU L)).erase j,x ≠ j:=fun x hx e=>by
  subst e;exact (List.Nodup.not_mem_erase hnd2) hx
 refine ⟨((cre.filter (jU L)).erase j).map kJ,(hp.map kJ),fun p=>?_⟩;refine (hp.map _).trans ?_;simp only [List.map_cons,if_true];refine List.Perm.cons _ ?_;rw [List.map_congr_left (g:=kJ) (fun x hx=>dG (hne x hx))]
theorem aGq (Gd : Hp → Prop) (hG : Gd H) (cre : List Nat) (hnd0 : cre.Nodup) (md : List (Nat × Nat)) (FO FO2 : aKo) (hFO : ∀ i v p H H',Le H H' → FO i v p H → FO i v p H') (hFO2 : ∀ i v p H H',Le H H' → FO2 i v p H → FO2 i v p H') {id : Nat} {l : List Oper} (m : Nat) (F : List (Value → Hp → Prop)) (hm : C.P.follows .mixedOrders = true) (hck : sS m l (env.map Prod.fst) = true) (hmono' : aE3 F)
  (hcm : (cre.all fun i=>Nat.blt i m) = true) (hmd : mdOk m l cre md = true) (steps : vH Gd cre md FO FO2 C l F env df H own m 0 l)
  (tail : ∀ H',Le H H' → Gd H' → mK l F H' (List.range m) [] fun acc=>wV l (endP md FO FO2) H' acc cre fun es=>XO C l.toArray Q (l.drop m) ⟨acc ++ env,df,H',es ++ own⟩) : XC C (.region id l.toArray true) Q ⟨env,df,H,own⟩:=by
 have hmono:=xK hmono';intro a₀ w₀ hr₀;refine wpIn_region_any hm ?_;simp only [sS,fL,List.all_eq_true,fA] at hck;obtain ⟨⟨hml,hck1⟩,hck2⟩:=hck;have hml:=Nat.le_of_ble_eq_true hml
 have hpre : ∀ i,i < m → ∃ o,l[i]? = some o ∧ (∀ t,o.dst = some t → t ∉ env.map Prod.fst ∧ (∀ j,j < m → i ≠ j → gU l j ≠ some t)) ∧ (∀ e ∈ o.after,Region.binds .any e = true → e.on < i) ∧ (∀ j ∈ kH o,j < m ∧ ∃ e ∈ o.after,Region.binds .any e = true ∧ e.on = j):=by
  intro i hi;have h:=hck1 i hi;split at h
  ·rename_i o ho
   simp only [fL,List.all_eq_true] at h;obtain ⟨⟨⟨hnd,hd⟩,haf⟩,hp⟩:=h;refine ⟨o,ho,?_,?_,?_⟩
   ·intro t ht;rw [ht] at hd;simp only [fL,List.all_eq_true,fA,Bool.not_eq_true',List.contains_eq_mem,decide_eq_false_iff_not] at hd;refine ⟨hd.1,fun j hj hne he=>?_⟩;have:=hd.2 j hj;rw [he] at this;simp at this;exact hne this
   ·intro e he hb;have:=haf e (by simpa using he);simpa [hb] using this
   intro j hj;have:=hp j hj;simp only [List.any_eq_true,fL] at this;obtain ⟨h1,e,he,hb,hon⟩:=this;exact ⟨by simpa using h1,e,by simpa using he,hb,fV hon⟩
  cases h
 have hkey : ∀ i t,i < m → gU l i = some t → t ∉ env.map Prod.fst:=by
  intro i t hi ht;obtain ⟨o,ho,hd,_⟩:=hpre i hi;exact (hd t (by simpa [gU,ho] using ht)).1
 have hdis : ∀ i j t,i < m → j < m → gU l i = some t → gU l j = some t → i = j:=by
  intro i j t hi hj ht ht2;obtain ⟨o,ho,hd,_⟩:=hpre i hi;by_cases h : i = j
  ·exact h
  exact absurd ht2 ((hd t (by simpa [gU,ho] using ht)).2 j hj h)
 have hmds : ∀ q ∈ md,q.1 < m ∧ q.2 ∈ cre ∧ q.1 ∉ cre ∧ (∀ q2 ∈ md,q.1 = q2.1 ↔ q.2 = q2.2) ∧ (∃ o,l[q.1]? = some o ∧ q.2 ∈ kH o) ∧ ∃ t,gU l q.2 = some t:=by
  intro q hq;have h:=List.all_eq_true.1 hmd q hq;simp only [fL,List.all_eq_true] at h;obtain ⟨⟨⟨⟨⟨h1,h2⟩,h3⟩,h4⟩,h5⟩,h6⟩:=h;refine ⟨by simpa using h1,by simpa using h2,by simpa using h3,fun q2 hq2=>?_,?_,Option.isSome_iff_exists.1 h6⟩
  ·have:=h4 q2 hq2;rw [beq_iff_eq,Bool.eq_iff_iff] at this;simpa using this
  split at h5
  ·rename_i o ho;exact ⟨o,ho,by simpa using h5⟩
  cases h5
 have htl : ∀ (i : Nat) (o : Oper),m ≤ i → l[i]? = some o → (∀ j,j < i → sW l l.length o j = true) ∧ (∀ e ∈ o.after,Region.binds .any e = true → e.on < i):=by
  intro i o hi ho;have hlt:=(bY.1 ho).1;have h:=hck2 i hlt;rw [ho] at h;rw [show Nat.blt i m = false from aE7 hi] at h;simp only [Bool.false_or,fL,List.all_eq_true,fA] at h;refine ⟨fun j hj=>h.1 j hj,fun e he hb=>?_⟩
  ·have:=h.2 e (by simpa using he);simpa [hb] using this
 have hdc : ∀ (i : Nat) (o : Oper),l[i]? = some o → ∀ e ∈ o.after,Region.binds .any e = true → e.on < i:=by
  intro i o ho;rcases gJ i m with h | h
  ·obtain ⟨o2,ho2,_,haf,_⟩:=hpre i h;rw [ho] at ho2;cases ho2;exact haf
  exact (htl i o h ho).2
 have main : ∀ (fuel : Nat) (L : Array Bool) (a : Act) (w : World) (val : Nat → Value) (kJ : Nat → Nat × SObj) (H' : Hp),L.size = l.length → unl l.length L ≤ fuel → Le H H' → Gd H' → (∀ (i : Nat) (o : Oper),l[i]? = some o → jU L i = true → ∀ e ∈ o.after,Region.binds .any e = true → jU L e.on = true) → (∀ j,m ≤ j → jU L j = false) →
   a.tmps.size = C.N → (∀ t v,env.get t = some v → a.tmps.getD t undef = v) → (∃ ms : List Nat,a.defers = ms.map mark ++ df ∧ Ok C.G H' ((own ++ pJ cre L kJ) ++ (ms.map hid ++ C.hid)) w) → (∀ i ∈ cre,jU L i = true → aHy md FO FO2 (jU L) i (val i) (kJ i) H') →
   (∀ i,i < m → jU L i = true → ∀ t,gU l i = some t → a.tmps.getD t undef = val i ∧ jN F i (val i) H') →
   wpAnyIn (Fr C.r) 0 C.P .any l.toArray (nW C H Q) fuel L a w:=by
  intro fuel
  have done : ∀ (fuel : Nat) (L : Array Bool) (a : Act) (w : World) (val : Nat → Value) (kJ : Nat → Nat × SObj) (H' : Hp),L.size = l.length → unl l.length L ≤ fuel → Le H H' → Gd H' → (∀ j,m ≤ j → jU L j = false) →
    a.tmps.size = C.N → (∀ t v,env.get t = some v → a.tmps.getD t undef = v) → (∃ ms : List Nat,a.defers = ms.map mark ++ df ∧ Ok C.G H' ((own ++ pJ cre L kJ) ++ (ms.map hid ++ C.hid)) w) → (∀ i ∈ cre,jU L i = true → aHy md FO FO2 (jU L) i (val i) (kJ i) H') →
    (∀ i,i < m → jU L i = true → ∀ t,gU l i = some t → a.tmps.getD t undef = val i ∧ jN F i (val i) H') → (∀ j,j < m → jU L j = true) →
    wpAnyIn (Fr C.r) 0 C.P .any l.toArray (nW C H Q) fuel L a w:=by
   intro fuel L a w val kJ H' hs hu hle hGd hT hsz henv hok hents hfacts hall;obtain ⟨acc',hk,hmem⟩:=pR (val:=val) (List.range m) [] _ (tail H' hle hGd) (fun j hj t ht=>(hfacts j (fA.1 hj) (hall j (fA.1 hj)) t ht).2);have hcount : l.length - m ≤ fuel:=by rw [uF hml hall hT];exact hu
   refine vC (m:=m) htl hdc fuel m L a w (gT _) hs hcount hml ?_ ?_
   ·intro j;rcases gJ j m with h | h
    ·rw [hall j h];simp [h]
    rw [hT j h];simp;omega
   have hcall : ∀ i ∈ cre,i < m:=fun i hi=>by simpa using List.all_eq_true.1 hcm i hi
   have hk2:=aDn (kJ:=kJ) cre _ hk (fun i hi v hg=>by
    obtain ⟨t,hd,hg⟩:=hg;have him:=hcall i hi;obtain ⟨j,hj,hdj,rfl⟩:=hmem t v (pM (by simpa using hg));obtain rfl:=hdis i j t him (fA.1 hj) hd hdj;refine aFm ?_ (hents i hi (hall i him));intro q hq _
    exact hall _ (hmds q hq).1)
   have hext : pJ cre L kJ = cre.map kJ:=by
    rw [pJ,List.filter_eq_self.2 (fun i hi=>hall i (hcall i hi))]
   have vN : ∃ ms : List Nat,a.defers = ms.map mark ++ df ∧ Ok C.G H' ((cre.map kJ ++ own) ++ (ms.map hid ++ C.hid)) w:=by
    obtain ⟨ms,h1,h2⟩:=hok;rw [hext] at h2;exact ⟨ms,h1,h2.perm (List.perm_append_comm.append_right _)⟩
   refine lZ hle _ _ _ (hk2 a w ⟨hsz,?_,vN⟩);intro t v hg;simp only [gH] at hg;rw [gY.get_append] at hg;cases hga : gY.get acc' t with
   | none=>rw [hga] at hg;exact henv t v (by simpa using hg)
   | some u =>
    rw [hga] at hg;simp at hg;subst hg;obtain ⟨j,hj,hd,rfl⟩:=hmem t u (kB _ _ _ hga);have hj:=fA.1 hj;exact (hfacts j hj (hall j hj) t hd).1
  induction fuel with
  | zero =>
   intro L a w val kJ H' hs hu hle hGd hdown hT hsz henv hok hents hfacts;refine done 0 L a w val kJ H' hs hu hle hGd hT hsz henv hok hents hfacts ?_;intro j hj;cases hx : jU L j with
   | true=>rfl
   | false =>
    have:=qT (L:=L) (i:=j) hs zO hx;omega
  | succ fuel ih =>
   intro L a w val kJ H' hs hu hle hGd hdown hT hsz henv hok hents hfacts;by_cases hall : ∀ j,j < m → jU L j = true
   ·exact done (fuel + 1) L a w val kJ H' hs hu hle hGd hT hsz henv hok hents hfacts hall
   constructor
   ·intro hnil;exfalso;apply hall
    -- the least one that is not listed is ready
    intro j hj
    induction j using Nat.strongRecOn with
    | _ j ihj =>
     cases hx : jU L j with
     | true=>rfl
     | false =>
      exfalso;obtain ⟨o,ho,_,haf,_⟩:=hpre j hj
      have : j ∈ Region.ready .any l.toArray L:=by
       rw [mem_ready];refine ⟨?_,o,by simpa using ho,fun e he hb=>ihj e.on (haf e he hb) (by have:=haf e he hb;omega)⟩;unfold jU at hx;rw [dY,gG zO] at hx ⊢;simpa using hx
      rw [hnil] at this;cases this
   intro i hi;rw [mem_ready] at hi;obtain ⟨h0,o,ho,hbef⟩:=hi;have hilt : i < l.length:=by simpa using (Array.getElem?_eq_some_iff.1 ho).1
   have hun : jU L i = false:=by
    unfold jU;rw [dY,gG zO] at h0 ⊢;simpa using h0
   have ho' : l[i]? = some o:=by simpa using ho
   have him : i < m:=by
    rcases gJ i m with h | h
    ·exact h
    exfalso;apply hall;intro j hj;exact nC hdown _ o j hbef ((htl i o h ho').1 j zO)
   obtain ⟨o2,ho2,hd,haf,hprd⟩:=hpre i him;rw [ho'] at ho2;cases ho2;have hdo : gU l i = o.dst:=by simp [gU,ho']
   have hst:=aNa l 0 steps i o ho' zO;simp only [Nat.zero_add] at hst
   -- all that is known of the slots,a_s one list
   let X : gY:=(List.range m).filterMap fun j=>if jU L j then (gU l j).map fun t=>(t,val j) else none
   have hpredF : ∀ j ∈ kH o,∀ tj,gU l j = some tj → jN F j (val j) H':=fun j hj tj hdj=>by
    obtain ⟨hjm,e,he,hb,hon⟩:=hprd j hj;have hlj : jU L j = true:=by have:=hbef e he hb;rw [hon] at this;exact this
    exact (hfacts j hjm hlj tj hdj).2
   have hX : ∀ t v,(t,v) ∈ X → ∃ j,j < m ∧ jU L j = true ∧ gU l j = some t ∧ v = val j:=by
    intro t v h;obtain ⟨j,hj,hjj⟩:=List.mem_filterMap.1 h;split at hjj
    ·rename_i hlj
     cases hdj : gU l j with
     | none=>rw [hdj] at hjj;cases hjj
     | some tj =>
      rw [hdj] at hjj;simp only [Option.map_some,Option.some.injEq,Prod.mk.injEq] at hjj;obtain ⟨rfl,rfl⟩:=hjj;exact ⟨j,fA.1 hj,hlj,hdj,rfl⟩
    cases hjj
   have hgets : ∀ acc' : gY,(∀ t v,(t,v) ∈ acc' → ∃ j ∈ kH o,gU l j = some t ∧ v = val j) → ∀ t v,gY.get (acc' ++ (env ++ X)) t = some v → a.tmps.getD t undef = v:=by
    intro acc' hmem t v hgv;rw [gY.get_append,gY.get_append] at hgv;cases hga : gY.get acc' t with
    | some u =>
     rw [hga] at hgv;simp at hgv;subst hgv;obtain ⟨j,hj,hdj,rfl⟩:=hmem t u (kB _ _ _ hga);obtain ⟨hjm,e,he,hb,hon⟩:=hprd j hj;have hlj : jU L j = true:=by have:=hbef e he hb;rw [hon] at this;exact this
     exact (hfacts j hjm hlj t hdj).1
    | none =>
     rw [hga] at hgv;simp only [Option.none_or] at hgv;cases hge : gY.get env t with
     | some u=>rw [hge] at hgv;simp at hgv;subst hgv;exact henv t u hge
     | none =>
      rw [hge] at hgv;simp only [Option.none_or] at hgv;obtain ⟨j,hj,hlj,hdj,rfl⟩:=hX t v (kB _ _ _ hgv);exact (hfacts j hj hlj t hdj).1
   have hnextG : ∀ (acc' : gY),(∀ t v,(t,v) ∈ acc' → ∃ j ∈ kH o,gU l j = some t ∧ v = val j) → ∀ (a' : Act) (w' : World) (σ' : St) (v : Value) (ent' : Nat → Nat × SObj),Rel C σ' a' w' → Le H' σ'.H → Gd σ'.H → σ'.df = df → σ'.env = jI o.dst v (acc' ++ (env ++ X)) → jN F i v σ'.H →
     (∀ ms : List Nat,Ok C.G σ'.H (σ'.own ++ (ms.map hid ++ C.hid)) w' → Ok C.G σ'.H ((own ++ pJ cre (L.setIfInBounds i true) ent') ++ (ms.map hid ++ C.hid)) w') →
     (∀ j ∈ cre,jU (L.setIfInBounds i true) j = true → aHy md FO FO2 (jU (L.setIfInBounds i true)) j (if j = i then v else val j) (ent' j) σ'.H) →
     wpAnyIn (Fr C.r) 0 C.P .any l.toArray (nW C H Q) fuel (L.setIfInBounds i true) a' w':=by
    intro acc' hmem a' w' σ' v ent' hr' hle' hGd' hdf' henv' hfv hown' hent';refine ih (L.setIfInBounds i true) a' w' (fun j=>if j = i then v else val j) ent' σ'.H (by simpa using hs) ?_ (hle.trans hle') hGd' ?_ ?_ hr'.size ?_ ?_ hent' ?_
    ·have:=qT hs hilt hun;omega
    ·intro i' o' hi' hl' e he hb;rw [jT zO] at hl' ⊢;split
     ·rfl
     split at hl'
     ·rename_i e1 e2;subst e2;rw [ho'] at hi';cases hi';exact hbef e he hb
     exact hdown i' o' hi' hl' e he hb
    ·intro j hj;rw [jT zO,dG zO];exact hT j hj
    ·intro t' v' hg';refine hr'.get t' v' ?_;have hin : t' ∈ env.map Prod.fst:=gS.2 ⟨(t',v'),kB _ _ _ hg',rfl⟩;rw [henv',nI (fun e=>(hd t' e).1 hin),gY.get_append,gY.get_append]
     have : gY.get acc' t' = none:=by
      cases hga : gY.get acc' t' with
      | none=>rfl
      | some u =>
       obtain ⟨j,hj,hdj,_⟩:=hmem t' u (kB _ _ _ hga);exact absurd hin (hkey j t' (hprd j hj).1 hdj)
     rw [this,hg'];rfl
    ·obtain ⟨ms,hd',hok'⟩:=hr'.ok;exact ⟨ms,by rw [hd',hdf'],hown' ms hok'⟩
    intro j hj hlj tj htj;rw [jT zO] at hlj;by_cases hji : j = i
    ·subst hji;rw [hdo] at htj;simp only [if_true];refine ⟨hr'.get tj v ?_,hfv⟩;rw [henv',htj];simp [jI,gY.get]
    rw [dG hji] at hlj;obtain ⟨h1,h2⟩:=hfacts j hj hlj tj htj;simp only [dG hji];refine ⟨hr'.get tj (val j) ?_,rR hmono hle' h2⟩;rw [henv',nI (fun e=>hji (hdis j i tj hj him htj (by rw [hdo,e]))),gY.get_append,gY.get_append]
    have hacc : gY.get acc' tj = none ∨ gY.get acc' tj = some (val j):=by
     cases hga : gY.get acc' tj with
     | none=>exact .inl rfl
     | some u =>
      obtain ⟨j',hj',hdj',rfl⟩:=hmem tj u (kB _ _ _ hga);obtain rfl:=hdis j' j tj (hprd j' hj').1 hj hdj' htj;exact .inr rfl
    rcases hacc with hacc | hacc
    ·rw [hacc]
     have henvn : gY.get env tj = none:=by
      cases hge : gY.get env tj with
      | none=>rfl
      | some u=>exact absurd (gS.2 ⟨(tj,u),kB _ _ _ hge,rfl⟩) (hkey j tj hj htj)
     rw [henvn];simp only [Option.none_or]
     -- it stands in X,once
     refine uX X (List.mem_filterMap.2 ⟨j,fA.2 hj,by simp only [hlj,if_true,htj,Option.map_some]⟩) ?_;intro u hu';obtain ⟨j',hj',_,hdj',rfl⟩:=hX tj u hu';obtain rfl:=hdis j' j tj hj' hj hdj' htj;rfl
    rw [hacc];rfl
   have hcase : ∀ (acc' : gY) (own2 : Own) (Q2 : Exit → St → Prop),(∀ e σ,e ≠ .normal → ¬ Q2 e σ) → XO C l.toArray Q2 [o] ⟨acc' ++ (env ++ X),df,H',own2⟩ → Rel C ⟨acc' ++ (env ++ X),df,H',own2⟩ a w →
     (∀ a' w',nW C H' Q2 .normal a' w' → wpAnyIn (Fr C.r) 0 C.P .any l.toArray (nW C H Q) fuel (L.setIfInBounds i true) a' w') → wpOpIn (Fr C.r) 0 C.P l.toArray (nW C H Q) i (fun a' w'=>wpAnyIn (Fr C.r) 0 C.P .any l.toArray (nW C H Q) fuel (L.setIfInBounds i true) a' w') a w:=by
    intro acc' own2 Q2 hno hk hrel hnext;have hrun:=hk a w hrel;unfold wpOpIn;rw [ho];simp only [wpListIn] at hrun ⊢;split
    ·rename_i hw
     rw [eX hw] at hrun;refine oV hnext ?_ hrun;rintro e a' w' he ⟨σ',_,_,hq⟩;exact absurd hq (hno e σ' he)
    rename_i hw
    rw [dG hw] at hrun;exact ⟨hrun.1,hnext _ _ hrun.2⟩
   cases hmk : aRf md i with
   | none =>
    rw [hmk] at hst;obtain ⟨acc',hk,hmem⟩:=pR (val:=val) (kH o) [] _ (hst X (pJ cre L kJ) H' hle hGd) hpredF;simp only [gH] at hk
    have hnm : ∀ q ∈ md,q.1 ≠ i:=fun q hq e=>by
     have h1 : (md.find? fun q=>Nat.beq q.1 i) = none:=by
      unfold aRf at hmk;simpa using hmk
     have:=List.find?_eq_none.1 h1 q hq;simp [e] at this
    refine hcase acc' _ _ (fun e σ he=>by cases e <;> first | exact absurd rfl he | exact fun h=>h) hk ⟨hsz,hgets acc' hmem,hok⟩ ?_;rintro a' w' ⟨σ',hr',hle',hGd',hdf',v,pe,henv',hfv,hown'⟩;refine hnextG acc' hmem a' w' σ' v (fun j=>if j = i then pe else kJ j) hr' hle' hGd' hdf' henv' hfv ?_ ?_
    ·intro ms hok';cases hc : cre.contains i with
     | true =>
      rw [hc] at hown';rw [hown'.1] at hok';refine hok'.perm (List.Perm.append_right _ ?_);exact ((aSw hnd0 (List.contains_iff_mem.1 hc) hun (fun j=>jT zO j)).append_left own).trans List.perm_middle
     | false =>
      rw [hc] at hown';rw [show σ'.own = own ++ pJ cre L kJ from hown'] at hok';rw [aN4 (fun h=>by rw [List.contains_iff_mem.2 h] at hc;cases hc) (fun j=>jT zO j)];exact hok'
    intro j hj hlj;have hcg : ∀ q ∈ md,q.2 = j → jU L q.1 = jU (L.setIfInBounds i true) q.1:=fun q hq _=>by rw [jT zO,dG (hnm q hq)]
    by_cases hji : j = i
    ·subst hji;rw [List.contains_iff_mem.2 hj] at hown';simp only [if_true];have hF : FO j v pe σ'.H:=by simpa using hown'.2
     unfold aHy;split
     ·rename_i q hq
      have hqm:=List.mem_of_find?_eq_some hq;have hq2 : q.2 = j:=by have:=List.find?_some hq;simpa using this
      -- the writer waits for the maker,which was not listed
      have hlq : jU L q.1 = false:=by
       cases hlq : jU L q.1 with
       | false=>rfl
       | true =>
        obtain ⟨_,_,_,_,⟨oq,hoq,hpq⟩,_⟩:=hmds q hqm;rw [hq2] at hpq;obtain ⟨oq2,hoq2,_,_,hprq⟩:=hpre q.1 (hmds q hqm).1;rw [hoq] at hoq2;cases hoq2;obtain ⟨_,e,he,hb,hon⟩:=hprq j hpq;have:=hdown q.1 oq hoq hlq e he hb;rw [hon,hun] at this;cases this
      rw [← hcg q hqm hq2,hlq];simpa using hF
     exact hF
    rw [jT zO,dG hji] at hlj;simp only [dG hji];exact aFm hcg (aM0 hFO hFO2 hle' (hents j hj hlj))
   | some jm =>
    rw [hmk] at hst
    obtain ⟨q0,hq0,hq01,hq02⟩ : ∃ q0 ∈ md,q0.1 = i ∧ q0.2 = jm:=by
     unfold aRf at hmk;rw [Option.map_eq_some_iff] at hmk;obtain ⟨q,hq,rfl⟩:=hmk;exact ⟨q,List.mem_of_find?_eq_some hq,by have:=List.find?_some hq;simpa using this,rfl⟩
    obtain ⟨_,hjc,hicre,huq,⟨oq,hoq,hpq⟩,tj,htj⟩:=hmds q0 hq0;rw [hq01,ho'] at hoq;cases hoq;rw [hq02] at hjc hpq htj;rw [hq01] at hicre
    have hljm : jU L jm = true:=by
     obtain ⟨_,e,he,hb,hon⟩:=hprd jm hpq;have:=hbef e he hb;rw [hon] at this;exact this
    have hjmi : jm ≠ i:=fun e=>hicre (e ▸ hjc);obtain ⟨ext,hperm,hperm2⟩:=ext_mod (kJ:=kJ) hnd0 hjc hljm;obtain ⟨acc',hk,hmem,hmem2⟩:=aH5 (val:=val) (kH o) [] _ (hst X ext (kJ jm) H' hle hGd) hpredF;simp only [gH] at hk;have hjmm : jm < m:=(hprd jm hpq).1
    have hget : ∀ u t,gU l jm = some t → gY.get acc' t = some u → u = val jm:=fun u t ht hg=>by
     obtain ⟨j2,hj2,hd2,rfl⟩:=hmem t u (kB _ _ _ hg);rw [hdis j2 jm t (hprd j2 hj2).1 hjmm hd2 ht]
    have hFOj : FO jm (val jm) (kJ jm) H':=by
     have h1:=hents jm hjc hljm;unfold aHy at h1;split at h1
     ·rename_i q hq
      have hqm:=List.mem_of_find?_eq_some hq;have hq2 : q.2 = jm:=by have:=List.find?_some hq;simpa using this
      have hq1 : q.1 = i:=by rw [← hq01];exact (((hmds q hqm).2.2.2.1 q0 hq0).2 (by rw [hq2,hq02]))
      rw [hq1,hun] at h1;simpa using h1
     exact h1
    have hpo : (own ++ pJ cre L kJ).Perm (kJ jm :: (own ++ ext)):=(hperm.append_left own).trans List.perm_middle;refine hcase acc' _ _ (fun e σ he=>by cases e <;> first | exact absurd rfl he | exact fun h=>h) (hk (fun u t ht hg=>by rw [hget u t ht hg];exact hFOj)) ⟨hsz,hgets acc' hmem,?_⟩ ?_
    ·obtain ⟨ms,h1,h2⟩:=hok;exact ⟨ms,h1,h2.perm (hpo.symm.append_right _)⟩
    rintro a' w' ⟨σ',hr',hle',hGd',hdf',v,p',henv',hfv,hown',hfo⟩;refine hnextG acc' hmem a' w' σ' v (fun x=>if x = jm then p' else kJ x) hr' hle' hGd' hdf' henv' hfv ?_ ?_
    ·intro ms hok';rw [hown'] at hok';refine hok'.perm (List.Perm.append_right _ ?_)
     have hold : pJ cre (L.setIfInBounds i true) (fun x=>if x = jm then p' else kJ x) = pJ cre L (fun x=>if x = jm then p' else kJ x):=by
      unfold pJ
      congr 1
      refine List.filter_congr fun x hx=>?_;rw [jT zO,dG (fun e=>hicre (by rw [← e];exact hx))]
     rw [hold];exact ((hperm2 p').append_left own).trans List.perm_middle
    intro j hj hlj;have hji : j ≠ i:=fun e=>hicre (e ▸ hj);rw [jT zO,dG hji] at hlj;simp only [dG hji];by_cases hjj : j = jm
    ·subst hjj;simp only [if_true]
     have hF2 : FO2 i (val j) p' σ'.H:=by
      exact hfo (val j) tj htj (uX acc' (hmem2 j hpq tj htj) (fun u hu'=>by obtain ⟨j2,hj2,hd2,rfl⟩:=hmem tj u hu';rw [hdis j2 j tj (hprd j2 hj2).1 hjmm hd2 htj]))
     unfold aHy;split
     ·rename_i q hq
      have hqm:=List.mem_of_find?_eq_some hq;have hq2 : q.2 = j:=by have:=List.find?_some hq;simpa using this
      have hq1 : q.1 = i:=by rw [← hq01];exact (((hmds q hqm).2.2.2.1 q0 hq0).2 (by rw [hq2,hq02]))
      rw [hq1,jT zO,eX rfl,eX rfl];exact hF2
     rename_i hq
     have:=List.find?_eq_none.1 hq q0 hq0;simp [hq02] at this
    simp only [dG hjj];refine aFm ?_ (aM0 hFO hFO2 hle' (hents j hj hlj));intro q hq hq2;rw [jT zO,dG ?_];intro e;refine hjj ?_;rw [← hq2,← hq02];exact ((hmds q hq).2.2.2.1 q0 hq0).1 (by rw [e,hq01])
 have hlst0 : ∀ j,jU (Array.replicate l.toArray.size false) j = false:=fun j=>by simp [jU,dY,gA];split <;> rfl
 exact main l.toArray.size (Array.replicate l.toArray.size false) a₀ _ (fun _=>undef) (fun _=>(0,.nothing)) H zP (by
   refine eK (List.countP_le_length) zP) (Le.refl _) hG (fun i o _ hl=>by
   have : jU (Array.replicate l.toArray.size false) i = false:=by simp [jU,dY,gA];split <;> rfl
   rw [this] at hl;cases hl) (fun j _=>by simp [jU,dY,gA];split <;> rfl) hr₀.size hr₀.get
  (let ⟨ms,hd,hok⟩:=hr₀.ok;⟨ms,hd,by rw [aPg hlst0,gH];exact hok.drew⟩) (fun i _ h=>by rw [hlst0] at h;cases h) (fun i _ h=>by
   have : jU (Array.replicate l.toArray.size false) i = false:=by simp [jU,dY,gA];split <;> rfl
   rw [this] at h;cases h)
end
end Go.XL

namespace Go.XL
def FnD (P : Program) (f : FuncId) (args : Array Value) (u : FrameMode) (H : Hp) (own : Own) (R : FrameMode → Hp → Own → Prop) : Prop :=
 aKa P f ∧ ∀ G rest w,Ok G H (own ++ rest) w → CallsDIn Fence.wide 0 P f args u w fun e u' w'=>(∃ v,e = .returned v) ∧ ∃ H' own',Le H H' ∧ Ok G H' (own' ++ rest) w' ∧ R u' H' own'
theorem FnD.mono {P : Program} {f : FuncId} {args : Array Value} {u : FrameMode} {H : Hp} {own : Own} {R R' : FrameMode → Hp → Own → Prop} (h : FnD P f args u H own R) (hr : ∀ u' H' own',Le H H' → R u' H' own' → R' u' H' own') : FnD P f args u H own R' :=
 ⟨h.1,fun G rest w ok=>(h.2 G rest w ok).mono fun _ _ _ ⟨h0,H',own',h1,h2,h3⟩=>⟨h0,H',own',h1,h2,hr _ _ _ h1 h3⟩⟩
/-! ### The walk of a deferred function -/
def aU7 (C : Ctx) (H : Hp) (c0 : Frame) (cs : List Frame) (Q : Exit → FrameMode → St → Prop) (e : Exit) (a : Act) (cs' : List Frame) (w : World) : Prop :=
 ∃ u σ,cs' = { c0 with mode:=u } :: cs ∧ Rel C σ a w ∧ Le H σ.H ∧ Q e u σ
def XS (C : Ctx) (c : Code) (Q : Exit → FrameMode → St → Prop) (u : FrameMode) (σ : St) : Prop :=
 ∀ a w c0 cs,Rel C σ a w → c.wpSIn (Fr none) 0 C.P (aU7 C σ.H c0 cs Q) a ({ c0 with mode:=u } :: cs) w
theorem aPl {F : Fence} {n : Nat} {P : Program} {c : Code} {Q Q' : Exit → Act → List Frame → World → Prop} {a : Act} {cs : List Frame} {w : World} (h : c.wpSIn F n P Q a cs w) (hq : ∀ e a cs w,Q e a cs w → Q' e a cs w) : c.wpSIn F n P Q' a cs w :=
 fun b k hb hr hF hroom=>let ⟨e,a',cs',w',l,q,r⟩:=h b k hb hr hF hroom;⟨e,a',cs',w',l,hq _ _ _ _ q,r⟩
section
variable {C : Ctx} {Q : Exit → FrameMode → St → Prop} {u : FrameMode} {σ : St}
theorem XS.of {c : Code} (hr : C.r = none) (h : XC C c (fun e τ=>Q e u τ) σ) : XS C c Q u σ:=by
 intro a w c0 cs hrel;refine wpSIn_of_wpIn rfl ?_;have h2:=h a w hrel;rw [hr] at h2;exact Go.wpIn_mono h2 fun e a' w' ⟨τ,h3,h4,h5⟩=>⟨u,τ,rfl,h3,h4,h5⟩
def seqS (C : Ctx) (y : Code) (Q : Exit → FrameMode → St → Prop) : Exit → FrameMode → St → Prop
 | .normal,u,σ=>XS C y Q u σ
 | e,u,σ=>Q e u σ
theorem liftS_le {C : Ctx} {H H' : Hp} {c0 : Frame} {cs cs' : List Frame} {Q : Exit → FrameMode → St → Prop} {e : Exit} {a : Act} {w : World} (hle : Le H H') (h : aU7 C H' c0 cs Q e a cs' w) : aU7 C H c0 cs Q e a cs' w :=
 let ⟨u,τ,h1,h2,h3,h4⟩:=h;⟨u,τ,h1,h2,hle.trans h3,h4⟩
theorem XS.seq {x y : Code} (h : XS C x (seqS C y Q) u σ) : XS C (.seq x y) Q u σ:=by
 intro a w c0 cs hrel;refine wpSIn_seq (aPl (h a w c0 cs hrel) ?_);rintro e a' cs' w' ⟨u',τ,rfl,h2,h3,h4⟩;cases e with
 | normal=>exact aPl (h4 a' w' c0 cs h2) fun _ _ _ _ hl=>liftS_le h3 hl
 | _=>exact ⟨u',τ,rfl,h2,h3,h4⟩
def aN9 : FrameMode → Value × FrameMode
 | .panicking ({ v,recovered:=false,goexit:=false } :: older)=>(v,.panicking ({ v,recovered:=true } :: older))
 | u=>(.nilIface,u)
theorem recV_spec (c0 : Frame) (u : FrameMode) (cs : List Frame) :
  recoverD ({ c0 with mode:=u } :: cs) = some ((aN9 u).1,{ c0 with mode:=(aN9 u).2 } :: cs) ∨ (recoverD ({ c0 with mode:=u } :: cs) = none ∧ aN9 u = (.nilIface,u)):=by
 unfold recoverD aN9;cases u with
 | panicking l =>
  cases l with
  | nil=>exact Or.inr ⟨rfl,rfl⟩
  | cons p older =>
   obtain ⟨v,r,g⟩:=p;cases r <;> cases g <;> first | exact Or.inl rfl | exact Or.inr ⟨rfl,rfl⟩
 | _=>exact Or.inr ⟨rfl,rfl⟩
theorem XS.recover {id : Nat} {t : Option Tmp} {ts : Array TypeId} {ty : TypeId} {pos : String} {af : Array Edge} {l : List Oper} (hr : C.r = none) (hd : iU C.N t = true)
  (h : XO C (⟨t,.call { callee:=.builtin .recover,args:=#[],argTypes:=ts },ty,pos,af,none⟩ :: l : List Oper).toArray (fun e τ=>Q e (aN9 u).2 τ) l { σ with env:=jI t (aN9 u).1 σ.env }) :
  XS C (.region id (⟨t,.call { callee:=.builtin .recover,args:=#[],argTypes:=ts },ty,pos,af,none⟩ :: l : List Oper).toArray false) Q u σ:=by
 intro a w c0 cs hrel b k hb hro hF hroom;generalize hops : (⟨t,.call { callee:=.builtin .recover,args:=#[],argTypes:=ts },ty,pos,af,none⟩ :: l : List Oper).toArray = ops at h ⊢
 have hsz : List.range ops.size = 0 :: List.range' 1 l.length:=by
  rw [← hops];simp [List.range_eq_range',List.range'_succ]
 have ho : ops[0]? = some ⟨t,.call { callee:=.builtin .recover,args:=#[],argTypes:=ts },ty,pos,af,none⟩:=by rw [← hops];rfl
 have hput:=hrel.put (aAm hd) (aN9 u).1 (H':=σ.H) (own':=σ.own) (w':=w) hrel.ok;have hw2:=h _ _ hput;rw [hr] at hw2;rw [← wpOpsIn_eq_wpListIn l 1 (by intro j;rw [← hops];simp [Nat.add_comm])] at hw2
 have hsr : (execOp a.eval ⟨t,.call { callee:=.builtin .recover,args:=#[],argTypes:=ts },ty,pos,af,none⟩).run C.P w = .ok .recover w:=by
  simp [execOp,resolve,invoke,builtin,Sem.run_bind,Sem.run,Result.andThen,Pure.pure]
 have habout : ∀ f,Oper.about C.P w a.eval ⟨t,.call { callee:=.builtin .recover,args:=#[],argTypes:=ts },ty,pos,af,none⟩ = some f → (Fr none).fn f:=fun _ _=>trivial;have h0 : (lone (b.atR a (.inRegion ops (0 :: List.range' 1 l.length) :: k)) ({ c0 with mode:=u } :: cs) w).fenced C.P (Fr none):=fenced_oper hF hroom ho habout;obtain ⟨e,a',w',⟨τ,hq1,hq2,hq3⟩,harr⟩:=wp_opsIn (List.range' 1 l.length) _ w hw2 b k ({ c0 with mode:=(aN9 u).2 } :: cs) hro hF hroom;refine ⟨e,a',{ c0 with mode:=(aN9 u).2 } :: cs,w',rfl,⟨_,τ,rfl,hq1,hq2,hq3⟩,.of_steps (.one (fenced_calm hF hroom rfl) stepR_region) ?_⟩;rw [hsz];refine .of_steps (.one h0 (step_lone_go ?_)) harr;have hg:=stepGR_op (P:=C.P) (b:=b) (k:=k) (cs:={ c0 with mode:=u } :: cs) (w:=w) (rest:=List.range' 1 l.length) (a:=a) ho (by simp [Region.wanted]);rw [hro,Oper.semAt_none] at hg
 have hfin : ∀ v,(b.atR a (.inRegion ops (0 :: List.range' 1 l.length) :: k)).finish v = b.atR (a.put t v) (.inRegion ops (List.range' 1 l.length) :: k):=by
  intro v;rw [Frame.finish_atR,ho];rfl
 have hk : (b.atR a (.inRegion ops (0 :: List.range' 1 l.length) :: k)).kind = .deferred:=hb;have htr:=tryRecover_deferred hk ({ c0 with mode:=u } :: cs);rw [hg,← hfin];simp only [Frame.atR,hro] at htr ⊢;rcases recV_spec c0 u cs with hrec | ⟨hrec,hv⟩
 ·simp [stepG.apply,hsr,htr,hrec]
 simp [stepG.apply,hsr,htr,hrec,hv]
end
/-! ### Contracts of deferred functions -/
theorem aP6 {P : Program} {G : World} {H : Hp} {own : Own} {r : Nat} {ms : List Nat} {w : World} (ok : Ok G H (own ++ (r :: ms).map hid) w) :
  ∃ w',(Instr.takeDeferred r).run P w = .ok [] w' ∧ Ok G H (own ++ ms.map hid) w':=by
 have hm : (hid r) ∈ own ++ (r :: ms).map hid:=by simp
 obtain ⟨⟨o,ho,hw⟩,_⟩:=ok.at hm rfl;simp only [hid,SObj.Is] at ho;subst ho;have hw' : w.heap[r]? = some (.deferred (some [])):=hw;refine ⟨{ w with heap:=w.heap.setIfInBounds r (.deferred none) },?_,?_⟩
 ·have hw2:=hw';simp [Instr.takeDeferred,getObj,setObj,Sem.run_bind,Sem.run,Result.andThen,hw2,bind,Sem.bind,pure]
 have ok' : Ok G H (own ++ ((r,SObj.obj (.deferred (some []))) :: ms.map hid)) w:=ok
 have:=ok'.write (b:=r) (s':=.obj (.deferred none)) (o':=.deferred none) (w':={ w with heap:=w.heap.setIfInBounds r (.deferred none) }) rfl rfl rfl rfl rfl
  (by have:=yN hw';simp [this]) (fun k hk=>by simp [Array.getElem?_setIfInBounds,Ne.symm hk])
 exact this.shrink (Le.refl _) (List.Sublist.append_left (List.sublist_cons_self _ _) _)
theorem aIm {P : Program} {G : World} {H : Hp} {own : Own} : ∀ (ms : List Nat) (w : World) (fr : Frame) (cs : List Frame),fr.mode = .returning → fr.defers = ms.map mark → Ok G H (own ++ ms.map hid) w →
  ∃ w',StepsIn (Machine.fenced P Fence.wide) P (lone fr cs w) (lone { fr with defers:=[] } cs w') ∧ Ok G H own w'
 | [],w,fr,cs,hm,hd,ok=>by
  have h : { fr with defers:=[] } = fr:=by cases fr;simp at hd;simp [hd]
  exact ⟨w,by rw [h];exact StepsIn.refl _,by simpa using ok⟩
 | r :: ms,w,fr,cs,hm,hd,ok=>by
  obtain ⟨w1,h1,ok1⟩:=aP6 (P:=P) ok;have hs:=step_collected (P:=P) (cs:=cs) (d:=mark r) (ds:=ms.map mark) (by rw [hm];simp) (by simpa using hd) rfl h1;have i1 : (lone fr cs w).fenced P Fence.wide:=fenced_out (n:=0) trivial (fun d hd=>by cases hd) (by rw [hm];simp) (d:=mark r) (ds:=ms.map mark) (by simpa using hd) (fun g _=>trivial);obtain ⟨w2,h2,ok2⟩:=aIm ms w1 { fr with defers:=ms.map mark } cs hm rfl ok1;exact ⟨w2,.head i1 hs h2,ok2⟩
def bodyQS (rs : List ResultVar) (R : FrameMode → Hp → Own → Prop) (rest : Own) : Exit → FrameMode → St → Prop
 | .normal,u,σ | .ret,u,σ=>σ.df = [] ∧ ∃ vs own',aPz σ.env rs = some vs ∧ (own' ++ rest).Sublist σ.own ∧ R u σ.H own'
 | _,_,_=>False
theorem aKq {P : Program} {G : World} {fn : Func} {args : List Value} {N : Nat} {env : gY} {H : Hp} {own : Own} {w : World} (hN : fn.ntmps = N) (hlt : Nat.ble args.length N = true) (hi : gY.init 0 args = some env) (ok : Ok G H own w) :
  Rel ⟨P,G,N,none,[]⟩ ⟨env,[],H,own⟩ { tmps:=args.toArray ++ Array.replicate (fn.ntmps - args.toArray.size) undef,defers:=[] } w:=by
 have hle : args.length ≤ N:=Nat.le_of_ble_eq_true hlt;refine ⟨by simp [hN];omega,?_,[],rfl,by simpa using ok⟩;intro t v hg;obtain ⟨_,h2⟩:=gY.init_get hi hg;simp only [Nat.sub_zero] at h2
 have hlt : t < args.length:=by
  rcases gJ t args.length with h | h
  ·exact h
  rw [dJ h] at h2;cases h2
 rw [dY,Array.getElem?_append_left (by simpa using hlt)];simp [h2]
theorem aC0 {P : Program} {f : FuncId} {fn : Func} {c : Code} (hf : P.funcs[f]? = some fn) (hb : fn.body = some c) (hn : (fn.name == "runtime.NumGoroutine") = false) : aKa P f:=by
 intro a_s w;have hn' : fn.name ≠ "runtime.NumGoroutine":=by simpa using hn
 simp [callFunc,program,Sem.run_bind,Sem.run,Result.andThen,hf,hn',hb,bind,Sem.bind,pure]
theorem FnD.intro {P : Program} {f : FuncId} {fn : Func} {c : Code} {args : List Value} {u : FrameMode} {H : Hp} {own : Own} {R : FrameMode → Hp → Own → Prop} {N : Nat} {env : gY} {rs : List ResultVar}
  (hf : P.funcs[f]? = some fn) (hb : fn.body = some c) (hn : (fn.name == "runtime.NumGoroutine") = false) (hN : fn.ntmps = N) (hrs : fn.results = rs.toArray) (hlt : Nat.ble args.length N = true)
  (hi : gY.init 0 args = some env)
  (h : ∀ G rest,XS ⟨P,G,N,none,[]⟩ c (bodyQS rs R rest) u ⟨env,[],H,own ++ rest⟩) : FnD P f args.toArray u H own R:=by
 refine ⟨aC0 hf hb hn,fun G rest w ok=>⟨trivial,fun c₀ cs hu hroom=>?_⟩⟩
 let b : Frame:={ (default : Frame) with fn:=f,kind:=.deferred,roundOf:=none }
 have henter : Frame.enter P f args.toArray .deferred =
   b.atR { tmps:=args.toArray ++ Array.replicate (fn.ntmps - args.toArray.size) undef,defers:=[] } [.code c]:=by
  simp [Frame.enter,Frame.atR,hf,hb,b]
 have hc : ({ c₀ with mode:=u } : Frame) = c₀:=by subst hu;rfl
 have hw:=h G rest _ w c₀ cs (aKq hN hlt hi ok);rw [hc] at hw;obtain ⟨e,a',cs',w',hl,⟨u',τ,rfl,hr,hle,hq⟩,harr⟩:=hw b [] rfl rfl trivial hroom;rw [← henter] at harr
 have fin : ∀ todo,(∃ vs own',aPz τ.env rs = some vs ∧ (own' ++ rest).Sublist τ.own ∧ R u' τ.H own') → τ.df = [] →
   StepsIn (Machine.fenced P Fence.wide) P (lone (Frame.enter P f args.toArray .deferred) (c₀ :: cs) w) (lone { b.atR a' todo with mode:=.returning } ({ c₀ with mode:=u' } :: cs) w') →
   ∃ e u' w' fr,((∃ v,e = .returned v) ∧ ∃ H' own',Le H H' ∧ Ok G H' (own' ++ rest) w' ∧ R u' H' own') ∧
    ComesIn (Machine.fenced P Fence.wide) P (lone (Frame.enter P f args.toArray .deferred) (c₀ :: cs) w) (lone fr ({ c₀ with mode:=u' } :: cs) w') e ∧ fr.kind = .deferred ∧ fr.fn = f ∧ fr.going P w' e:=by
  intro todo ⟨vs,own',hres,hs,hR⟩ hd hsteps;obtain ⟨ms,hdf,hok⟩:=hr.ok;obtain ⟨w2,h2,ok2⟩:=aIm (P:=P) ms w' { b.atR a' todo with mode:=.returning } ({ c₀ with mode:=u' } :: cs) rfl (by show a'.defers = _;rw [hdf,hd,gH]) (by simpa using hok);exact ⟨.returned (aJd vs),u',w2,_,⟨⟨_,rfl⟩,τ.H,own',hle,ok2.shrink (Le.refl _) hs,hR⟩,StepsIn.trans hsteps h2,rfl,rfl,rfl,rfl,fn,hf,aH7 hr hrs hres⟩
 cases e with
 | normal =>
  obtain ⟨hd,hq⟩:=hq;exact fin [] hq hd (StepsIn.trans harr (.one (fenced_calm (fr:=b.atR a' []) (n:=0) trivial hroom rfl) (stepR_end rfl)))
 | ret =>
  obtain ⟨hd,hq⟩:=hq;obtain ⟨todo,hs⟩:=harr.1 rfl;exact fin todo hq hd hs
 | panic chain=>exact hq.elim
 | exit id=>exact hq.elim
 | goto l=>exact hq.elim
 | outgrown=>exact hq.elim
end Go.XL

namespace Go.XL
def aO1 (P : Program) (rs : List ResultVar) (R : Ending → Hp → Own → Prop) (rest : Own) (u : FrameMode) (σ : St) : Prop :=
 ∃ (f : FuncId) (cap dargs : Array Value) (ms0 : List Nat) (own1 own2 : Own),σ.df = ⟨.fn (.func f) cap,dargs⟩ :: ms0.map mark ∧ σ.own.Perm (own1 ++ (own2 ++ ms0.map hid)) ∧
  FnD P f (dargs ++ cap) u σ.H own1 fun u' H' own1'=>settle u' = .returning ∧ ∃ vs own'',aE8 P σ.env (own1' ++ own2) rs vs ∧ (own'' ++ rest).Sublist (own1' ++ own2) ∧ R (.returned (aJd vs)) H' own''
def bodyQD (P : Program) (rs : List ResultVar) (R : Ending → Hp → Own → Prop) (rest : Own) : Exit → St → Prop
 | .normal,σ | .ret,σ=>aO1 P rs R rest .returning σ
 | .panic ch,σ=>aO1 P rs R rest (.panicking ch) σ
 | _,_=>False
theorem aGc {P : Program} {fn : Func} {tmps : Array Value} {G : World} {H : Hp} {u : FrameMode} (hu : u ≠ .run) {R : Ending → World → Prop} {ds : List Deferred} : ∀ (ms : List Nat) (own : Own) (w : World),
  Ok G H (own ++ ms.map hid) w → (∀ w',Ok G H own w' → LeavesInM Fence.wide 0 P fn tmps R ds u w') → LeavesInM Fence.wide 0 P fn tmps R (ms.map mark ++ ds) u w
 | [],own,w,ok,h=>by simpa using h w (by simpa using ok)
 | r :: ms,own,w,ok,h=>by
  obtain ⟨w1,h1,ok1⟩:=aP6 (P:=P) ok;exact ⟨hu,.inl ⟨r,w1,rfl,h1,aGc hu ms own w1 ok1 h⟩⟩
theorem iP.introD {P : Program} {f : FuncId} {fn : Func} {c : Code} {args : List Value} {H : Hp} {own : Own} {R : Ending → Hp → Own → Prop} {N : Nat} {env : gY} {rs : List ResultVar}
  (hf : P.funcs[f]? = some fn) (hb : fn.body = some c) (hn : (fn.name == "runtime.NumGoroutine") = false) (hN : fn.ntmps = N) (hrs : fn.results = rs.toArray) (hlt : Nat.ble args.length N = true)
  (hi : gY.init 0 args = some env)
  (h : ∀ G rest,XC ⟨P,G,N,none,[]⟩ c (bodyQD P rs R rest) ⟨env,[],H,own ++ rest⟩) : iP P f args.toArray H own R:=by
 refine ⟨aC0 hf hb hn,fun G rest w ok=>?_⟩;refine callsIn_wide.1 (callsIn_of_wp_marks (n:=0) hf hb trivial ?_);refine Go.wpIn_mono (h G rest _ w (aKq hN hlt hi ok)) ?_;intro e a w' ⟨τ,hr,hle,hq⟩
 have key : ∀ u,u ≠ .run → aO1 P rs R rest u τ → LeavesInM Fence.wide 0 P fn a.tmps (fun e w'=>e ≠ .outgrown ∧ ∃ H' own',Le H H' ∧ Ok G H' (own' ++ rest) w' ∧ R e H' own') a.defers u w':=by
  intro u hu ⟨g,cap,dargs,ms0,own1,own2,hdf,hperm,hD⟩;obtain ⟨ms,hd,hok⟩:=hr.ok;rw [hd,hdf];refine aGc hu ms τ.own w' (by simpa using hok) fun w1 ok1=>?_;refine ⟨hu,.inr ⟨fun hx=>(by cases hx),.func g,cap,g,dargs ++ cap,rfl,hD.1 _ _,fun _ _=>trivial,?_⟩⟩;have ok2 : Ok G τ.H (own1 ++ (own2 ++ ms0.map hid)) w1:=ok1.perm hperm.symm;refine (hD.2 G (own2 ++ ms0.map hid) w1 ok2).mono ?_;rintro e u' w2 ⟨⟨v,rfl⟩,H',own1',hle',ok3,hset,vs,own'',hres,hsub,hR⟩;show LeavesInM Fence.wide 0 P fn a.tmps _ (ms0.map mark) (settle u') w2;rw [hset];refine aBo zP ms0 (own1' ++ own2) w2 (by rw [eM];exact ok3) ?_;intro w3 ok4;have hrel : Rel ⟨P,G,N,none,[]⟩ ⟨τ.env,a.defers,H',own1' ++ own2⟩ a w3:=⟨hr.size,hr.get,[],rfl,by simpa using ok4⟩
  refine ⟨_,aBn (fr:=[]) hrel (by simpa using ok4) hrs hres,by simp,H',own'',hle.trans hle',ok4.shrink (Le.refl _) hsub,hR⟩
 cases e with
 | normal=>exact key .returning zP hq
 | ret=>exact key .returning zP hq
 | panic chain=>exact key (.panicking chain) zP hq
 | exit _=>exact hq.elim
 | goto _=>exact hq.elim
 | outgrown=>exact hq.elim
theorem aBj : ∀ (own : Own) (i : Nat) (p : Nat × SObj),Own.at own i = some p → own.Perm (p :: own.eraseIdx i)
 | [],_,_,h=>by cases h
 | q :: r,0,p,h=>by simp only [Own.at,Option.some.injEq] at h;subst h;exact mO _
 | q :: r,i + 1,p,h=>by
  have:=aBj r i p h;rw [List.eraseIdx_cons_succ];exact (this.cons q).trans (gW _ _ _)
theorem jO {P : Program} {rs : List ResultVar} {R : Ending → Hp → Own → Prop} {rest rest' : Own} {u : FrameMode} {env : gY} {H : Hp} {L own : Own} {ms : List Nat} {f : FuncId} {dargs : Array Value} (i : Nat) {p : Nat × SObj} (hL : own = L ++ rest') (hrest : rest' = rest ++ ms.map hid) (hp : Own.at L i = some p)
  (hD : FnD P f dargs u H [p] fun u' H' own1'=>settle u' = .returning ∧ ∃ p' vs,own1' = [p'] ∧ aE8 P env (p' :: (L.eraseIdx i ++ rest)) rs vs ∧ R (.returned (aJd vs)) H' []) :
  aO1 P rs R rest u ⟨env,⟨.fn (.func f) #[],dargs⟩ :: ms.map mark,H,own⟩:=by
 subst hL;subst hrest;refine ⟨f,#[],dargs,ms,[p],L.eraseIdx i ++ rest,rfl,?_,?_⟩
 ·have:=(aBj L i p hp).append_right (rest ++ ms.map hid);simpa using this
 rw [Array.append_empty];refine hD.mono ?_;rintro u' H' own' _ ⟨h1,p',vs,rfl,h2,h3⟩;exact ⟨h1,vs,[],h2,(List.sublist_append_right _ _).cons _,h3⟩
def aFq (ch : List PanicEntry) : Ending → Hp → Own → Prop
 | .panicked c,_,own=>c = ch ∧ own = []
 | _,_,_=>False
theorem aFq.mk {ch : List PanicEntry} {H : Hp} : aFq ch (.panicked ch) H []:=⟨rfl,rfl⟩
section
variable {C : Ctx} {ops : Array Oper} {Q : Exit → St → Prop} {rest : List Oper} {env : gY} {df : List Deferred} {H : Hp} {own : Own} {dst : Option Tmp} {ty : TypeId} {pos : String} {af : Array Edge}
theorem mL {f : FuncId} {xs : List Operand} {ts : Array TypeId} {vs : List Value} {L rst : Own} (hr : C.r = none) (hh : C.hid = []) (hxs : evs env xs = some vs) (ho : own = L ++ rst) (hd : dst = none)
  (h : ∀ ms rst',rst' = rst ++ List.map hid ms → XO C ops Q rest ⟨env,⟨.fn (.func f) #[],vs.toArray⟩ :: ms.map mark,H,L ++ rst'⟩) :
  XO C ops Q (⟨dst,.defer { callee:=.value (.func f),args:=xs.toArray,argTypes:=ts },ty,pos,af,none⟩ :: rest) ⟨env,[],H,own⟩:=by
 intro a w hrel;refine wpListIn_plain rfl fun K hK=>⟨fun _ _=>trivial,?_⟩
 obtain ⟨ms,hdf,hok⟩:=hrel.ok;subst ho;subst hd
 have hrun : (Oper.semAt (Fr C.r).round a.eval ⟨none,.defer { callee:=.value (.func f),args:=xs.toArray,argTypes:=ts },ty,pos,af,none⟩).run C.P w = .ok (.defer ⟨.fn (.func f) #[],vs.toArray⟩) w:=by
  rw [show (Fr C.r).round = none from hr,Oper.semAt_none];simp only [execOp,resolve,Sem.run_bind];have : xs.toArray.map a.eval = vs.toArray:=by simp [hrel.evals hxs]
  simp [this,Act.eval,Deferred.ofValue,Sem.run,Pure.pure,Result.andThen]
 rw [hrun]
 have hrel2 : Rel C ⟨env,⟨.fn (.func f) #[],vs.toArray⟩ :: ms.map mark,H,L ++ (rst ++ ms.map hid)⟩ ({ a with defers:=⟨.fn (.func f) #[],vs.toArray⟩ :: a.defers }.put none undef) w:=by
  refine ⟨hrel.size,hrel.get,[],?_,?_⟩
  ·show ⟨.fn (.func f) #[],vs.toArray⟩ :: a.defers = _;rw [hdf];simp
  rw [hh] at hok ⊢;simpa using hok
 exact hK _ _ (h ms _ rfl _ w hrel2)
theorem aLc {x : Operand} {t : TypeId} {v : Value} (hx : ev env x = some (.iface t v)) (h : Q (.panic [{ v:=.iface t v,recovered:=false }]) ⟨env,df,H,own⟩) :
  XO C ops Q (⟨dst,.panic x,ty,pos,af,none⟩ :: rest) ⟨env,df,H,own⟩:=by
 intro a w hrel;refine wpListIn_plain rfl fun K hK=>⟨fun _ _=>trivial,?_⟩
 rw [yS _ _ _ rfl]
 have hrun : (execOp a.eval ⟨dst,.panic x,ty,pos,af,none⟩).run C.P w = .halt (.panic (.iface t v)) w:=by
  simp [execOp,hrel.eval hx,Instr.panic,goPanic,Sem.run_bind,Sem.run,Result.andThen]
 rw [hrun];exact ⟨_,hrel,Le.refl _,h⟩
theorem uC {x : Operand} {t : TypeId} {v : Value} {ut : TypeDesc} (hx : ev env x = some v) (ht : C.P.underlying t = some ut) (hi : ∀ ms,ut ≠ .interface ms) (hd : iU C.N dst = true) (h : XO C ops Q rest ⟨jI dst (.iface t v) env,df,H,own⟩) :
  XO C ops Q (⟨dst,.makeInterface t x,ty,pos,af,none⟩ :: rest) ⟨env,df,H,own⟩:=by
 refine kF rfl rfl hd (fun ρ ha w=>?_) h;simp only [execOp,ha _ _ hx,Instr.makeInterface,underlying,program,Sem.run_bind];simp only [Sem.run,Pure.pure,Result.andThen,ht]
theorem aJx {P : Program} {t : TypeId} {v : Value} {ms : Array (String × TypeId)} {b : Bool} (hv : (v = .nilIface ∧ b = false) ∨ (∃ t2 u,v = .iface t2 u ∧ b = true)) (ht : P.underlying t = some (.interface ms)) (w : World) : (Op.equal t v .nilIface).run P w = .ok (!b) w:=by
 have h0 : (underlying t).run P w = .ok (.interface ms) w:=by
  simp only [underlying,program,Sem.run_bind,Sem.run,Result.andThen,ht];rfl
 rw [Op.equal,show Op.maxDepth = 9999 + 1 from rfl,Op.equalIn,Sem.run_bind,h0];rcases hv with ⟨rfl,rfl⟩ | ⟨t2,u,rfl,rfl⟩ <;> rfl
theorem aBu {x : Operand} {t : TypeId} {v : Value} {ms : Array (String × TypeId)} {b : Bool} (hx : ev env x = some v) (hv : (v = .nilIface ∧ b = false) ∨ (∃ t2 u,v = .iface t2 u ∧ b = true)) (ht : C.P.underlying t = some (.interface ms)) (hd : iU C.N dst = true) (h : XO C ops Q rest ⟨jI dst (.bool b) env,df,H,own⟩) {yt : TypeId} :
  XO C ops Q (⟨dst,.binOp .neq t x (.const .nilIface) yt,ty,pos,af,none⟩ :: rest) ⟨env,df,H,own⟩:=by
 refine kF rfl rfl hd (fun ρ ha w=>?_) h;have hy : ρ (.const .nilIface) = .nilIface:=ha (.const .nilIface) _ rfl
 have hgd : ∀ w,(eqGuard .neq t x (.const .nilIface) v .nilIface).run C.P w = .ok () w:=by
  intro w;rcases hv with ⟨rfl,rfl⟩ | ⟨t2,u,rfl,rfl⟩
  ·cases x <;> rfl
  rfl
 have hbin : (binOp .neq t v .nilIface).run C.P w = .ok (.bool b) w:=by
  have e1 : binOp .neq t v .nilIface = (do Pure.pure (Value.bool (!(← Op.equal t v .nilIface))) : Sem Value):=by
   rcases hv with ⟨rfl,rfl⟩ | ⟨t2,u,rfl,rfl⟩ <;> rfl
  rw [e1,Sem.run_bind,aJx hv ht];cases b <;> rfl
 simp only [execOp,ha _ _ hx,hy,Sem.run_bind,hgd];simp only [Result.andThen,hbin];rfl
theorem aC4 {x : Operand} {st t : TypeId} {v : Value} {k : IntKind} (hx : ev env x = some (.iface t v)) (ht : C.P.underlying t = some (.int k)) (hd : iU C.N dst = true) (h : XO C ops Q rest ⟨jI dst (.tuple #[v,.bool true]) env,df,H,own⟩) :
  XO C ops Q (⟨dst,.typeAssert x st t true,ty,pos,af,none⟩ :: rest) ⟨env,df,H,own⟩:=by
 refine kF rfl rfl hd (fun ρ ha w=>?_) h;simp [execOp,ha _ _ hx,Instr.typeAssert,underlying,program,Sem.run_bind,Sem.run,Pure.pure,Result.andThen,ht]
theorem iB {x : Operand} {a : Addr} (hx : ev env x = some (.pointer (some a))) (hd : iU C.N dst = true) (h : XO C ops Q rest ⟨jI dst (.pointer (some a)) env,df,H,own⟩) :
  XO C ops Q (⟨dst,.nilCheck x,ty,pos,af,none⟩ :: rest) ⟨env,df,H,own⟩:=by
 refine kF rfl rfl hd (fun ρ ha w=>?_) h;simp [execOp,ha _ _ hx,Sem.run,Pure.pure]
theorem sO {f : FuncId} {xs : List Operand} {ts : Array TypeId} {vs : List Value} {ch : List PanicEntry} (hxs : evs env xs = some vs) (hf : iP C.P f vs.toArray H [] (aFq ch)) (hd : iU C.N dst = true)
  (h : ∀ H',Le H H' → Q (.panic ch) ⟨env,df,H',own⟩) : XO C ops Q (⟨dst,.call { callee:=.value (.func f),args:=xs.toArray,argTypes:=ts },ty,pos,af,none⟩ :: rest) ⟨env,df,H,own⟩ :=
 xH hxs hf hd (rst:=own) rfl (fun _ _ _ _ hR=>hR.elim) (fun c H' own' hle hR=>by obtain ⟨rfl,rfl⟩:=hR;exact h H' hle)
end
end Go.XL

namespace Go.XL
theorem aMd : ∀ (own : Own) (i : Nat) (p p' : Nat × SObj),Own.at own i = some p → (Own.set2 own i p').Perm (p' :: own.eraseIdx i)
 | [],_,_,_,h=>by cases h
 | q :: r,0,p,p',h=>mO _
 | q :: r,i + 1,p,p',h=>by
  have:=aMd r i p p' h;rw [List.eraseIdx_cons_succ];exact (this.cons q).trans (gW _ _ _)
section
variable {C : Ctx} {ops : Array Oper} {Q : Exit → St → Prop} {rest : List Oper} {env : gY} {df : List Deferred} {H : Hp} {own : Own} {dst : Option Tmp} {ty : TypeId} {pos : String} {af : Array Edge}
theorem jM {own' : Own} (hp : own.Perm own') (h : XO C ops Q rest ⟨env,df,H,own'⟩) : XO C ops Q rest ⟨env,df,H,own⟩:=by
 intro a w hr;obtain ⟨ms,hdf,hok⟩:=hr.ok;exact h a w ⟨hr.size,hr.get,ms,hdf,hok.perm (hp.symm.append_right _)⟩
theorem wL (i : Nat) {f : FuncId} {xs : List Operand} {ts : Array TypeId} {vs : List Value} {p : Nat × SObj} {K : Value → Hp → Own → Prop} (hxs : evs env xs = some vs) (hf : iP C.P f vs.toArray H [p] (eQ K)) (hd : iU C.N dst = true) (ho : Own.at own i = some p)
  (h : ∀ v H' own',Le H H' → K v H' own' → ∃ p',own' = [p'] ∧ XO C ops Q rest ⟨jI dst v env,df,H',Own.set2 own i p'⟩) :
  XO C ops Q (⟨dst,.call { callee:=.value (.func f),args:=xs.toArray,argTypes:=ts },ty,pos,af,none⟩ :: rest) ⟨env,df,H,own⟩:=by
 refine jM (aBj own i p ho) (xH hxs hf hd (rst:=own.eraseIdx i) rfl (fun v H' own' hle hR=>?_) (fun _ _ _ _ hR=>hR.elim));obtain ⟨p',rfl,hk⟩:=h v H' own' hle hR;exact ⟨H',[p'] ++ own.eraseIdx i,hle,Le.refl _,jP _,jM (aMd own i p p' ho).symm hk⟩
end
end Go.XL

namespace Go.XL
def aCx (Gd : Hp → Prop) (dst : Option Tmp) (f : Value → Hp → Prop) (fo : Value → Nat × SObj → Hp → Prop) (env : gY) (df : List Deferred) (own : Own) : Exit → St → Prop
 | .normal,σ=>Gd σ.H ∧ σ.df = df ∧ ∃ v e,σ.env = jI dst v env ∧ f v σ.H ∧ σ.own = e :: own ∧ fo v e σ.H
 | _,_=>False
theorem fF {Gd : Hp → Prop} {dst : Option Tmp} {f : Value → Hp → Prop} {fo : Value → Nat × SObj → Hp → Prop} {env : gY} {df : List Deferred} {own : Own} {H : Hp} {v : Value} {e : Nat × SObj} (hG : Gd H) (hf : f v H) (hfo : fo v e H) :
  aCx Gd dst f fo env df own .normal ⟨jI dst v env,df,H,e :: own⟩:=⟨hG,rfl,v,e,rfl,hf,rfl,hfo⟩
def foV (i0 k : Nat) (FOa : Nat × SObj → Hp → Prop) (FO2 : Value → Nat × SObj → Hp → Prop) (e0 : Nat × SObj) : Value → Nat × SObj → Hp → Prop:=fun v e H=>if k = i0 then FO2 v e H else e = e0
def aBm (Gd : Hp → Prop) (i0 : Nat) (FOa : Nat × SObj → Hp → Prop) (FO2 : Value → Nat × SObj → Hp → Prop) (C : Ctx) (l : List Oper) (F : List (Value → Hp → Prop)) (env : gY) (df : List Deferred) (H : Hp) (own : Own) (m : Nat) : Nat → List Oper → Prop
 | _,[]=>True
 | k,o :: rest=>bif Nat.blt k m then
   (∀ X e H',Le H H' → Gd H' → (k = i0 → FOa e H') → mK l F H' (kH o) [] fun acc=>XO C l.toArray (aCx Gd o.dst (jN F k) (foV i0 k FOa FO2 e) (acc ++ (env ++ X)) df own) [o] ⟨acc ++ (env ++ X),df,H',e :: own⟩) ∧ aBm Gd i0 FOa FO2 C l F env df H own m (k + 1) rest
  else True
theorem iQ {Gd : Hp → Prop} {i0 : Nat} {FOa : Nat × SObj → Hp → Prop} {FO2 : Value → Nat × SObj → Hp → Prop} {C : Ctx} {l : List Oper} {F : List (Value → Hp → Prop)} {env : gY} {df : List Deferred} {H : Hp} {own : Own} {m k : Nat} {o : Oper} {rest : List Oper} (hk : Nat.blt k m = true)
  (h : ∀ X e H',Le H H' → Gd H' → (k = i0 → FOa e H') → mK l F H' (kH o) [] fun acc=>XO C l.toArray (aCx Gd o.dst (jN F k) (foV i0 k FOa FO2 e) (acc ++ (env ++ X)) df own) [o] ⟨acc ++ (env ++ X),df,H',e :: own⟩) (k2 : aBm Gd i0 FOa FO2 C l F env df H own m (k + 1) rest) : aBm Gd i0 FOa FO2 C l F env df H own m k (o :: rest):=by
 rw [aBm,hk];exact ⟨h,k2⟩
theorem aBx {Gd : Hp → Prop} {i0 : Nat} {FOa : Nat × SObj → Hp → Prop} {FO2 : Value → Nat × SObj → Hp → Prop} {C : Ctx} {l : List Oper} {F : List (Value → Hp → Prop)} {env : gY} {df : List Deferred} {H : Hp} {own : Own} {m k : Nat} {rest : List Oper} (hk : Nat.blt k m = false) : aBm Gd i0 FOa FO2 C l F env df H own m k rest:=by
 cases rest with
 | nil=>trivial
 | cons o r=>rw [aBm,hk];trivial
section
variable {C : Ctx} {Q : Exit → St → Prop} {env : gY} {df : List Deferred} {H : Hp} {own : Own}
theorem aMc {Gd : Hp → Prop} {i0 : Nat} {FOa : Nat × SObj → Hp → Prop} {FO2 : Value → Nat × SObj → Hp → Prop} {l : List Oper} {F : List (Value → Hp → Prop)} {m : Nat} : ∀ (rest : List Oper) (k : Nat),aBm Gd i0 FOa FO2 C l F env df H own m k rest → ∀ (i : Nat) (o : Oper),rest[i]? = some o → k + i < m →
  ∀ X e H',Le H H' → Gd H' → (k + i = i0 → FOa e H') → mK l F H' (kH o) [] fun acc=>XO C l.toArray (aCx Gd o.dst (jN F (k + i)) (foV i0 (k + i) FOa FO2 e) (acc ++ (env ++ X)) df own) [o] ⟨acc ++ (env ++ X),df,H',e :: own⟩
 | [],k,_,i,o,hi,_=>by simp at hi
 | x :: rest,k,h,i,o,hi,hlt=>by
  simp only [aBm] at h;rw [show Nat.blt k m = true by simp;omega] at h;cases i with
  | zero=>simp only [mF,Option.some.injEq] at hi;subst hi;exact h.1
  | succ i =>
   have:=aMc rest (k + 1) h.2 i o (by simpa using hi) zO;rwa [show k + 1 + i = k + (i + 1) by omega] at this
theorem aGd (Gd : Hp → Prop) (hG : Gd H) (i0 : Nat) (FOa : Nat × SObj → Hp → Prop) (FO2 : Value → Nat × SObj → Hp → Prop) (hFOa : ∀ p H H',Le H H' → FOa p H → FOa p H') (hFO2 : ∀ v p H H',Le H H' → FO2 v p H → FO2 v p H') {id : Nat} {l : List Oper} (m : Nat) (F : List (Value → Hp → Prop)) (hm : C.P.follows .mixedOrders = true) (hck : sS m l (env.map Prod.fst) = true) (hmono' : aE3 F)
  (hi0 : Nat.blt i0 m = true) {t0 : Tmp} (ht0 : gU l i0 = some t0) {q : Nat × SObj} (hq0 : FOa q H) (steps : aBm Gd i0 FOa FO2 C l F env df H own m 0 l)
  (tail : ∀ H',Le H H' → Gd H' → mK l F H' (List.range m) [] fun acc=>∀ e,(∀ v,gY.get acc t0 = some v → FO2 v e H') → XO C l.toArray Q (l.drop m) ⟨acc ++ env,df,H',e :: own⟩) : XC C (.region id l.toArray true) Q ⟨env,df,H,q :: own⟩:=by
 have hmono:=xK hmono';intro a₀ w₀ hr₀;refine wpIn_region_any hm ?_;simp only [sS,fL,List.all_eq_true,fA] at hck;obtain ⟨⟨hml,hck1⟩,hck2⟩:=hck;have hml:=Nat.le_of_ble_eq_true hml
 have hpre : ∀ i,i < m → ∃ o,l[i]? = some o ∧ (∀ t,o.dst = some t → t ∉ env.map Prod.fst ∧ (∀ j,j < m → i ≠ j → gU l j ≠ some t)) ∧ (∀ e ∈ o.after,Region.binds .any e = true → e.on < i) ∧ (∀ j ∈ kH o,j < m ∧ ∃ e ∈ o.after,Region.binds .any e = true ∧ e.on = j):=by
  intro i hi;have h:=hck1 i hi;split at h
  ·rename_i o ho
   simp only [fL,List.all_eq_true] at h;obtain ⟨⟨⟨hnd,hd⟩,haf⟩,hp⟩:=h;refine ⟨o,ho,?_,?_,?_⟩
   ·intro t ht;rw [ht] at hd;simp only [fL,List.all_eq_true,fA,Bool.not_eq_true',List.contains_eq_mem,decide_eq_false_iff_not] at hd;refine ⟨hd.1,fun j hj hne he=>?_⟩;have:=hd.2 j hj;rw [he] at this;simp at this;exact hne this
   ·intro e he hb;have:=haf e (by simpa using he);simpa [hb] using this
   intro j hj;have:=hp j hj;simp only [List.any_eq_true,fL] at this;obtain ⟨h1,e,he,hb,hon⟩:=this;exact ⟨by simpa using h1,e,by simpa using he,hb,fV hon⟩
  cases h
 have hkey : ∀ i t,i < m → gU l i = some t → t ∉ env.map Prod.fst:=by
  intro i t hi ht;obtain ⟨o,ho,hd,_⟩:=hpre i hi;exact (hd t (by simpa [gU,ho] using ht)).1
 have hdis : ∀ i j t,i < m → j < m → gU l i = some t → gU l j = some t → i = j:=by
  intro i j t hi hj ht ht2;obtain ⟨o,ho,hd,_⟩:=hpre i hi;by_cases h : i = j
  ·exact h
  exact absurd ht2 ((hd t (by simpa [gU,ho] using ht)).2 j hj h)
 have htl : ∀ (i : Nat) (o : Oper),m ≤ i → l[i]? = some o → (∀ j,j < i → sW l l.length o j = true) ∧ (∀ e ∈ o.after,Region.binds .any e = true → e.on < i):=by
  intro i o hi ho;have hlt:=(bY.1 ho).1;have h:=hck2 i hlt;rw [ho] at h;rw [show Nat.blt i m = false from aE7 hi] at h;simp only [Bool.false_or,fL,List.all_eq_true,fA] at h;refine ⟨fun j hj=>h.1 j hj,fun e he hb=>?_⟩
  ·have:=h.2 e (by simpa using he);simpa [hb] using this
 have hdc : ∀ (i : Nat) (o : Oper),l[i]? = some o → ∀ e ∈ o.after,Region.binds .any e = true → e.on < i:=by
  intro i o ho;rcases gJ i m with h | h
  ·obtain ⟨o2,ho2,_,haf,_⟩:=hpre i h;rw [ho] at ho2;cases ho2;exact haf
  exact (htl i o h ho).2
 have main : ∀ (fuel : Nat) (L : Array Bool) (a : Act) (w : World) (val : Nat → Value) (kJ : Nat × SObj) (H' : Hp),L.size = l.length → unl l.length L ≤ fuel → Le H H' → Gd H' → (∀ (i : Nat) (o : Oper),l[i]? = some o → jU L i = true → ∀ e ∈ o.after,Region.binds .any e = true → jU L e.on = true) → (∀ j,m ≤ j → jU L j = false) →
   a.tmps.size = C.N → (∀ t v,env.get t = some v → a.tmps.getD t undef = v) → (∃ ms : List Nat,a.defers = ms.map mark ++ df ∧ Ok C.G H' ((kJ :: own) ++ (ms.map hid ++ C.hid)) w) → (if jU L i0 = true then FO2 (val i0) kJ H' else FOa kJ H') →
   (∀ i,i < m → jU L i = true → ∀ t,gU l i = some t → a.tmps.getD t undef = val i ∧ jN F i (val i) H') →
   wpAnyIn (Fr C.r) 0 C.P .any l.toArray (nW C H Q) fuel L a w:=by
  intro fuel
  have done : ∀ (fuel : Nat) (L : Array Bool) (a : Act) (w : World) (val : Nat → Value) (kJ : Nat × SObj) (H' : Hp),L.size = l.length → unl l.length L ≤ fuel → Le H H' → Gd H' → (∀ j,m ≤ j → jU L j = false) →
    a.tmps.size = C.N → (∀ t v,env.get t = some v → a.tmps.getD t undef = v) → (∃ ms : List Nat,a.defers = ms.map mark ++ df ∧ Ok C.G H' ((kJ :: own) ++ (ms.map hid ++ C.hid)) w) → (if jU L i0 = true then FO2 (val i0) kJ H' else FOa kJ H') →
    (∀ i,i < m → jU L i = true → ∀ t,gU l i = some t → a.tmps.getD t undef = val i ∧ jN F i (val i) H') → (∀ j,j < m → jU L j = true) →
    wpAnyIn (Fr C.r) 0 C.P .any l.toArray (nW C H Q) fuel L a w:=by
   intro fuel L a w val kJ H' hs hu hle hGd hT hsz henv hok hents hfacts hall;obtain ⟨acc',hk,hmem⟩:=pR (val:=val) (List.range m) [] _ (tail H' hle hGd) (fun j hj t ht=>(hfacts j (fA.1 hj) (hall j (fA.1 hj)) t ht).2);have hcount : l.length - m ≤ fuel:=by rw [uF hml hall hT];exact hu
   refine vC (m:=m) htl hdc fuel m L a w (gT _) hs hcount hml ?_ ?_
   ·intro j;rcases gJ j m with h | h
    ·rw [hall j h];simp [h]
    rw [hT j h];simp;omega
   have him0 : i0 < m:=by simpa using hi0
   have hk2:=hk kJ (fun v hg=>by
    obtain ⟨j,hj,hdj,rfl⟩:=hmem t0 v (pM (by simpa using hg));obtain rfl:=hdis i0 j t0 him0 (fA.1 hj) ht0 hdj;rw [eX (hall i0 him0)] at hents
    exact hents)
   refine lZ hle _ _ _ (hk2 a w ⟨hsz,?_,hok⟩);intro t v hg;simp only [gH] at hg;rw [gY.get_append] at hg;cases hga : gY.get acc' t with
   | none=>rw [hga] at hg;exact henv t v (by simpa using hg)
   | some u =>
    rw [hga] at hg;simp at hg;subst hg;obtain ⟨j,hj,hd,rfl⟩:=hmem t u (kB _ _ _ hga);have hj:=fA.1 hj;exact (hfacts j hj (hall j hj) t hd).1
  induction fuel with
  | zero =>
   intro L a w val kJ H' hs hu hle hGd hdown hT hsz henv hok hents hfacts;refine done 0 L a w val kJ H' hs hu hle hGd hT hsz henv hok hents hfacts ?_;intro j hj;cases hx : jU L j with
   | true=>rfl
   | false =>
    have:=qT (L:=L) (i:=j) hs zO hx;omega
  | succ fuel ih =>
   intro L a w val kJ H' hs hu hle hGd hdown hT hsz henv hok hents hfacts;by_cases hall : ∀ j,j < m → jU L j = true
   ·exact done (fuel + 1) L a w val kJ H' hs hu hle hGd hT hsz henv hok hents hfacts hall
   constructor
   ·intro hnil;exfalso;apply hall
    -- the least one that is not listed is ready
    intro j hj
    induction j using Nat.strongRecOn with
    | _ j ihj =>
     cases hx : jU L j with
     | true=>rfl
     | false =>
      exfalso;obtain ⟨o,ho,_,haf,_⟩:=hpre j hj
      have : j ∈ Region.ready .any l.toArray L:=by
       rw [mem_ready];refine ⟨?_,o,by simpa using ho,fun e he hb=>ihj e.on (haf e he hb) (by have:=haf e he hb;omega)⟩;unfold jU at hx;rw [dY,gG zO] at hx ⊢;simpa using hx
      rw [hnil] at this;cases this
   intro i hi;rw [mem_ready] at hi;obtain ⟨h0,o,ho,hbef⟩:=hi;have hilt : i < l.length:=by simpa using (Array.getElem?_eq_some_iff.1 ho).1
   have hun : jU L i = false:=by
    unfold jU;rw [dY,gG zO] at h0 ⊢;simpa using h0
   have ho' : l[i]? = some o:=by simpa using ho
   have him : i < m:=by
    rcases gJ i m with h | h
    ·exact h
    exfalso;apply hall;intro j hj;exact nC hdown _ o j hbef ((htl i o h ho').1 j zO)
   obtain ⟨o2,ho2,hd,haf,hprd⟩:=hpre i him;rw [ho'] at ho2;cases ho2;have hdo : gU l i = o.dst:=by simp [gU,ho']
   have hst:=aMc l 0 steps i o ho' zO;simp only [Nat.zero_add] at hst
   -- all that is known of the slots,a_s one list
   let X : gY:=(List.range m).filterMap fun j=>if jU L j then (gU l j).map fun t=>(t,val j) else none
   have hpredF : ∀ j ∈ kH o,∀ tj,gU l j = some tj → jN F j (val j) H':=fun j hj tj hdj=>by
    obtain ⟨hjm,e,he,hb,hon⟩:=hprd j hj;have hlj : jU L j = true:=by have:=hbef e he hb;rw [hon] at this;exact this
    exact (hfacts j hjm hlj tj hdj).2
   have hX : ∀ t v,(t,v) ∈ X → ∃ j,j < m ∧ jU L j = true ∧ gU l j = some t ∧ v = val j:=by
    intro t v h;obtain ⟨j,hj,hjj⟩:=List.mem_filterMap.1 h;split at hjj
    ·rename_i hlj
     cases hdj : gU l j with
     | none=>rw [hdj] at hjj;cases hjj
     | some tj =>
      rw [hdj] at hjj;simp only [Option.map_some,Option.some.injEq,Prod.mk.injEq] at hjj;obtain ⟨rfl,rfl⟩:=hjj;exact ⟨j,fA.1 hj,hlj,hdj,rfl⟩
    cases hjj
   have hgets : ∀ acc' : gY,(∀ t v,(t,v) ∈ acc' → ∃ j ∈ kH o,gU l j = some t ∧ v = val j) → ∀ t v,gY.get (acc' ++ (env ++ X)) t = some v → a.tmps.getD t undef = v:=by
    intro acc' hmem t v hgv;rw [gY.get_append,gY.get_append] at hgv;cases hga : gY.get acc' t with
    | some u =>
     rw [hga] at hgv;simp at hgv;subst hgv;obtain ⟨j,hj,hdj,rfl⟩:=hmem t u (kB _ _ _ hga);obtain ⟨hjm,e,he,hb,hon⟩:=hprd j hj;have hlj : jU L j = true:=by have:=hbef e he hb;rw [hon] at this;exact this
     exact (hfacts j hjm hlj t hdj).1
    | none =>
     rw [hga] at hgv;simp only [Option.none_or] at hgv;cases hge : gY.get env t with
     | some u=>rw [hge] at hgv;simp at hgv;subst hgv;exact henv t u hge
     | none =>
      rw [hge] at hgv;simp only [Option.none_or] at hgv;obtain ⟨j,hj,hlj,hdj,rfl⟩:=hX t v (kB _ _ _ hgv);exact (hfacts j hj hlj t hdj).1
   have hnextG : ∀ (acc' : gY),(∀ t v,(t,v) ∈ acc' → ∃ j ∈ kH o,gU l j = some t ∧ v = val j) → ∀ (a' : Act) (w' : World) (σ' : St) (v : Value) (ent' : Nat × SObj),Rel C σ' a' w' → Le H' σ'.H → Gd σ'.H → σ'.df = df → σ'.env = jI o.dst v (acc' ++ (env ++ X)) → jN F i v σ'.H →
     (∀ ms : List Nat,Ok C.G σ'.H (σ'.own ++ (ms.map hid ++ C.hid)) w' → Ok C.G σ'.H ((ent' :: own) ++ (ms.map hid ++ C.hid)) w') →
     (if jU (L.setIfInBounds i true) i0 = true then FO2 (if i0 = i then v else val i0) ent' σ'.H else FOa ent' σ'.H) →
     wpAnyIn (Fr C.r) 0 C.P .any l.toArray (nW C H Q) fuel (L.setIfInBounds i true) a' w':=by
    intro acc' hmem a' w' σ' v ent' hr' hle' hGd' hdf' henv' hfv hown' hent';refine ih (L.setIfInBounds i true) a' w' (fun j=>if j = i then v else val j) ent' σ'.H (by simpa using hs) ?_ (hle.trans hle') hGd' ?_ ?_ hr'.size ?_ ?_ hent' ?_
    ·have:=qT hs hilt hun;omega
    ·intro i' o' hi' hl' e he hb;rw [jT zO] at hl' ⊢;split
     ·rfl
     split at hl'
     ·rename_i e1 e2;subst e2;rw [ho'] at hi';cases hi';exact hbef e he hb
     exact hdown i' o' hi' hl' e he hb
    ·intro j hj;rw [jT zO,dG zO];exact hT j hj
    ·intro t' v' hg';refine hr'.get t' v' ?_;have hin : t' ∈ env.map Prod.fst:=gS.2 ⟨(t',v'),kB _ _ _ hg',rfl⟩;rw [henv',nI (fun e=>(hd t' e).1 hin),gY.get_append,gY.get_append]
     have : gY.get acc' t' = none:=by
      cases hga : gY.get acc' t' with
      | none=>rfl
      | some u =>
       obtain ⟨j,hj,hdj,_⟩:=hmem t' u (kB _ _ _ hga);exact absurd hin (hkey j t' (hprd j hj).1 hdj)
     rw [this,hg'];rfl
    ·obtain ⟨ms,hd',hok'⟩:=hr'.ok;exact ⟨ms,by rw [hd',hdf'],hown' ms hok'⟩
    intro j hj hlj tj htj;rw [jT zO] at hlj;by_cases hji : j = i
    ·subst hji;rw [hdo] at htj;simp only [if_true];refine ⟨hr'.get tj v ?_,hfv⟩;rw [henv',htj];simp [jI,gY.get]
    rw [dG hji] at hlj;obtain ⟨h1,h2⟩:=hfacts j hj hlj tj htj;simp only [dG hji];refine ⟨hr'.get tj (val j) ?_,rR hmono hle' h2⟩;rw [henv',nI (fun e=>hji (hdis j i tj hj him htj (by rw [hdo,e]))),gY.get_append,gY.get_append]
    have hacc : gY.get acc' tj = none ∨ gY.get acc' tj = some (val j):=by
     cases hga : gY.get acc' tj with
     | none=>exact .inl rfl
     | some u =>
      obtain ⟨j',hj',hdj',rfl⟩:=hmem tj u (kB _ _ _ hga);obtain rfl:=hdis j' j tj (hprd j' hj').1 hj hdj' htj;exact .inr rfl
    rcases hacc with hacc | hacc
    ·rw [hacc]
     have henvn : gY.get env tj = none:=by
      cases hge : gY.get env tj with
      | none=>rfl
      | some u=>exact absurd (gS.2 ⟨(tj,u),kB _ _ _ hge,rfl⟩) (hkey j tj hj htj)
     rw [henvn];simp only [Option.none_or]
     -- it stands in X,once
     refine uX X (List.mem_filterMap.2 ⟨j,fA.2 hj,by simp only [hlj,if_true,htj,Option.map_some]⟩) ?_;intro u hu';obtain ⟨j',hj',_,hdj',rfl⟩:=hX tj u hu';obtain rfl:=hdis j' j tj hj' hj hdj' htj;rfl
    rw [hacc];rfl
   have hcase : ∀ (acc' : gY) (own2 : Own) (Q2 : Exit → St → Prop),(∀ e σ,e ≠ .normal → ¬ Q2 e σ) → XO C l.toArray Q2 [o] ⟨acc' ++ (env ++ X),df,H',own2⟩ → Rel C ⟨acc' ++ (env ++ X),df,H',own2⟩ a w →
     (∀ a' w',nW C H' Q2 .normal a' w' → wpAnyIn (Fr C.r) 0 C.P .any l.toArray (nW C H Q) fuel (L.setIfInBounds i true) a' w') → wpOpIn (Fr C.r) 0 C.P l.toArray (nW C H Q) i (fun a' w'=>wpAnyIn (Fr C.r) 0 C.P .any l.toArray (nW C H Q) fuel (L.setIfInBounds i true) a' w') a w:=by
    intro acc' own2 Q2 hno hk hrel hnext;have hrun:=hk a w hrel;unfold wpOpIn;rw [ho];simp only [wpListIn] at hrun ⊢;split
    ·rename_i hw
     rw [eX hw] at hrun;refine oV hnext ?_ hrun;rintro e a' w' he ⟨σ',_,_,hq⟩;exact absurd hq (hno e σ' he)
    rename_i hw
    rw [dG hw] at hrun;exact ⟨hrun.1,hnext _ _ hrun.2⟩
   obtain ⟨acc',hk,hmem⟩:=pR (val:=val) (kH o) [] _ (hst X kJ H' hle hGd (fun e=>by
    rw [e] at hun;rw [hun,dG zP] at hents
    exact hents)) hpredF
   simp only [gH] at hk;refine hcase acc' _ _ (fun e σ he=>by cases e <;> first | exact absurd rfl he | exact fun h=>h) hk ⟨hsz,hgets acc' hmem,hok⟩ ?_;rintro a' w' ⟨σ',hr',hle',hGd',hdf',v,e2,henv',hfv,hown',hfo⟩;refine hnextG acc' hmem a' w' σ' v e2 hr' hle' hGd' hdf' henv' hfv ?_ ?_
   ·intro ms hok';rw [hown'] at hok';exact hok'
   unfold foV at hfo;by_cases hii : i = i0
   ·rw [eX hii] at hfo;rw [jT zO,eX hii.symm,eX rfl,eX hii.symm];exact hfo
   rw [dG hii] at hfo;subst hfo;have hne : ¬ i0 = i:=fun e=>hii e.symm;have hls : jU (L.setIfInBounds i true) i0 = jU L i0:=by rw [jT zO,dG hne]
   rw [hls];simp only [dG hne];split
   ·rename_i h5;rw [eX h5] at hents;exact hFO2 _ _ _ _ hle' hents
   rename_i h5;rw [dG h5] at hents;exact hFOa _ _ _ hle' hents
 have hlst0 : ∀ j,jU (Array.replicate l.toArray.size false) j = false:=fun j=>by simp [jU,dY,gA];split <;> rfl
 exact main l.toArray.size (Array.replicate l.toArray.size false) a₀ _ (fun _=>undef) q H zP (by
   refine eK (List.countP_le_length) zP) (Le.refl _) hG (fun i o _ hl=>by
   have : jU (Array.replicate l.toArray.size false) i = false:=by simp [jU,dY,gA];split <;> rfl
   rw [this] at hl;cases hl) (fun j _=>by simp [jU,dY,gA];split <;> rfl) hr₀.size hr₀.get
  (let ⟨ms,hd,hok⟩:=hr₀.ok;⟨ms,hd,hok.drew⟩) (by rw [hlst0,dG zP];exact hq0) (fun i _ h=>by
   have : jU (Array.replicate l.toArray.size false) i = false:=by simp [jU,dY,gA];split <;> rfl
   rw [this] at h;cases h)
end
end Go.XL

namespace Go.XL
theorem wH.of_first {P : Program} {f : FuncId} {fst args cap : List Value} {H : Hp} {own : Own} {R : Ending → Hp → Own → Prop} (h : iP P f (fst ++ args ++ cap).toArray H own R) : wH P (.func (.func f) fst.toArray cap.toArray) args H own R:=by
 intro G rest w ok;refine ⟨_,.enter f (fst ++ args ++ cap).toArray,w,rfl,?_,h.2 G rest w ok⟩;have:=h.1 (fst ++ args ++ cap).toArray w;simpa [invoke] using this
theorem XO.makeFunc1 {C : Ctx} {ops : Array Oper} {Q : Exit → St → Prop} {rest : List Oper} {env : gY} {df : List Deferred} {H : Hp} {own : Own} {dst : Option Tmp} {ty : TypeId} {pos : String} {af : Array Edge} {fn : Fn} {fs cs : List Operand} {us vs : List Value} (hf : evs env fs = some us) (hc : evs env cs = some vs) (hd : iU C.N dst = true)
  (h : XO C ops Q rest ⟨jI dst (.func fn us.toArray vs.toArray) env,df,H,own⟩) : XO C ops Q (⟨dst,.makeFunc fn fs.toArray cs.toArray,ty,pos,af,none⟩ :: rest) ⟨env,df,H,own⟩ :=
 kF rfl rfl hd (fun ρ ha w=>by
  have h1:=aNn ha hc;have h2:=aNn ha hf
  simp [execOp,Instr.makeFunc,h1,h2,Sem.run,Pure.pure,bind,Sem.bind]) h
end Go.XL

namespace Go.XL
structure JS (α : Type) where
 St : List α → Hp → Own → Prop
 mono : ∀ l H H' o,Le H H' → St l H o → St l H' o
def JS.Holds {α : Type} (J : JS α) (l : List α) (H : Hp) (o : Own) : Prop:=J.St l H o
theorem JS.Holds.mono {α : Type} {J : JS α} {l : List α} {H H' : Hp} {o : Own} (h : J.Holds l H o) (hle : Le H H') : J.Holds l H' o:=J.mono _ _ _ _ hle h
def YOk {α β : Type} (P : Program) (yv : Value) (H : Hp) (enc : α → β → List Value) (lend : α → β → Hp → Own → Prop) (xs : List α) (J : JS α) (K : Hp → Own → Prop) : Prop :=
 ∀ pre x post,xs = pre ++ x :: post → ∀ bx H' ol own',Le H H' → J.Holds pre H' own' → lend x bx H' ol →
   wH P yv (enc x bx) H' (ol ++ own') (eQ fun v H'' own''=>(v = .bool true ∧ ∃ own3,own'' = ol ++ own3 ∧ J.Holds (pre ++ [x]) H'' own3) ∨ (v = .bool false ∧ K H'' own''))
def aWb {α β : Type} (P : Program) (f : FuncId) (cap : List Value) (H : Hp) (ownI : Own) (enc : α → β → List Value) (lend : α → β → Hp → Own → Prop) (xs : List α) : Prop :=
 ∀ (yv : Value) (J : JS α) (K : Hp → Own → Prop) (ownY : Own),YOk P yv H enc lend xs J K → J.Holds [] H ownY →
  iP P f ((yv :: cap).toArray) H (ownI ++ ownY) (eQ fun v H' own'=>v = .tuple #[] ∧ ∃ ownI' ownY',own' = ownI' ++ ownY' ∧ (J.Holds xs H' ownY' ∨ K H' ownY'))
section
variable {C : Ctx} {Q : Exit → St → Prop} {env : gY} {df : List Deferred} {H : Hp} {own : Own}
theorem aAa {α β : Type} {g : Operand} {ps : List Tmp} {assign body : Code} {f : FuncId} {cap : List Value} {enc : α → β → List Value} {lend : α → β → Hp → Own → Prop} {xs : List α} {ownI own2 : Own}
  (hg : ev env g = some (.func (.func f) #[] cap.toArray)) (hseq : aWb C.P f cap H ownI enc lend xs) (hps : ∀ x b,(enc x b).length = ps.length) (hpN : (ps.all fun p=>Nat.blt p C.N) = true)
  (ho : own = ownI ++ own2) (I : List α → Hp → Own → Prop) (Kx : Code → Hp → Own → Prop) (hI : ∀ p H H' o,Le H H' → I p H o → I p H' o) (h0 : I [] H own2)
  (hround : C.r = none ∨ ∃ l0 r0,C.r = some l0 ∧ (l0,SObj.obj (.loop r0)) ∈ C.hid)
  (hbody : ∀ G l hd1 hd2,(∃ r0,(l,SObj.obj (.loop r0)) ∈ hd2) → ∀ pre x post,xs = pre ++ x :: post → ∀ bx H' ol own',Le H H' → I pre H' own' → lend x bx H' ol →
   XC ⟨C.P,G,C.N,some l,hd1⟩ assign (aIy ⟨C.P,G,C.N,some l,hd2⟩ body (aRj l (fun p H2 o=>∃ o3,o = ol ++ o3 ∧ I p H2 o3) Kx (pre ++ [x]))) ⟨wO ps (enc x bx) env,[],H',ol ++ own'⟩)
  (hdone : ∀ H' own',Le H H' → I xs H' own' → Q .normal ⟨env,df,H',own'⟩)
  (hjump : ∀ c H' own',Le H H' → Kx c H' own' → XC C c Q ⟨env,df,H',own'⟩) : XC C (.rangeFunc g ps.toArray assign body) Q ⟨env,df,H,own⟩:=by
 intro a w hr;refine wpIn_rangeFunc ?_;intro fn hfn;subst ho;obtain ⟨l,mk,w₁,D,ms',hrun,hdf,hok₁⟩:=aFv (fn:=fn) (ps:=ps.toArray) («a_s»:=assign) (bd:=body) hr hround;have hga:=hr.eval hg
 let rec0 : Loop:={ state:=.ready,pending:=none,fn,tmps:=a.tmps,params:=ps.toArray,assign:=assign,body:=body,defers:=D }
 let yv : Value:=.func (.yield l) #[] #[]
 let J : JS α:=⟨fun pre H' ownY=>∃ own2',ownY = (l,.obj (.loop rec0)) :: own2' ∧ I pre H' own2',fun p H1 H2 o hle ⟨o2,e,h⟩=>⟨o2,e,hI p H1 H2 o2 hle h⟩⟩
 let K : Hp → Own → Prop:=fun H' ownY=>∃ own2' c,ownY = (l,.obj (.loop { rec0 with state:=.done,pending:=some c })) :: own2' ∧ Kx c H' own2'
 have hcall:=hseq yv J K ((l,.obj (.loop rec0)) :: own2) (by
  rintro pre x post hxs bx H' ol ownY hle ⟨own2',rfl,hI⟩ hlend;intro G rst w hok
  have hok' : Ok G H' ((l,.obj (.loop rec0)) :: ((ol ++ own2') ++ rst)) w:=hok.perm (by
   simp only [eM,fP];exact List.perm_middle.symm)
  have hl:=hok'.objAt;refine ⟨{ target:=.fn (.yield l) #[],args:=#[] ++ (enc x bx).toArray },.round l fn ((ps.toArray.zip (enc x bx).toArray).foldl (fun tmps (t,a)=>tmps.setIfInBounds t a) a.tmps) assign body,w,rfl,?_,?_⟩
  ·have:=run_yield (P:=C.P) (args:=(enc x bx).toArray) hl (by simp [rec0,hps]);show (Instr.yield l (#[] ++ (enc x bx).toArray)).run C.P w = _;rw [Array.empty_append];exact this
  refine roundIn_of_wpIn trivial ?_
  have hfold : ((ps.toArray.zip (enc x bx).toArray).foldl (fun tmps (t,a)=>tmps.setIfInBounds t a) a.tmps) = ((ps.zip (enc x bx)).foldl (fun (tmps : Array Value) (x : Tmp × Value)=>tmps.setIfInBounds x.1 x.2) a.tmps):=by
   rw [← Array.foldl_toList];simp
  rw [hfold]
  obtain ⟨hsz,hget⟩:=aG7 ps (enc x bx) env a.tmps (by simp [hps]) (fun p hp=>by
   have:=List.all_eq_true.1 hpN p hp
   rw [hr.size];simpa using this) hr.get
  have hX:=hbody G l ((l,.obj (.loop rec0)) :: rst) ((l,.obj (.loop { rec0 with state:=.busy })) :: rst) ⟨_,List.mem_cons_self⟩ pre x post hxs bx H' ol own2' hle hI hlend
  have hrel : Rel ⟨C.P,G,C.N,some l,(l,.obj (.loop rec0)) :: rst⟩ ⟨wO ps (enc x bx) env,[],H',ol ++ own2'⟩ { tmps:=((ps.zip (enc x bx)).foldl (fun (tmps : Array Value) (x : Tmp × Value)=>tmps.setIfInBounds x.1 x.2) a.tmps),defers:=[] } w :=
   ⟨by rw [← hr.size];exact hsz,hget,[],rfl,hok'.perm (by simp only [List.map_nil,gN];exact List.perm_middle)⟩
  refine Go.wpIn_mono (hX _ _ hrel) ?_;rintro e a₁ w₁ ⟨σ,hr₁,hle₁,hq⟩;cases e with
  | normal =>
   obtain ⟨ms₁,hd₁,hok₁⟩:=hr₁.ok
   have hok₂ : Ok G σ.H ((l,.obj (.loop rec0)) :: (σ.own ++ (ms₁.map hid ++ rst))) w₁:=hok₁.perm (by
    rw [← eM,← eM];exact List.perm_middle.symm)
   have hbeg:=run_beginRound (P:=C.P) hok₂.objAt rfl;refine ⟨_,hbeg,?_⟩;have hok₃:=hok₂.putObj (o':=.loop { rec0 with state:=.busy })
   have hrel₂ : Rel ⟨C.P,G,C.N,some l,(l,.obj (.loop { rec0 with state:=.busy })) :: rst⟩ σ a₁ (w₁.putObj l (.loop { rec0 with state:=.busy })) :=
    ⟨hr₁.size,hr₁.get,ms₁,hd₁,hok₃.perm (by rw [← eM,← eM];exact List.perm_middle)⟩
   refine Go.wpIn_mono (hq _ _ hrel₂) ?_;rintro e a₂ w₂ ⟨τ,hr₂,hle₂,hq₂⟩;obtain ⟨ms₂,hd₂,hok₄⟩:=hr₂.ok
   have hok₅ : Ok G τ.H ((l,.obj (.loop { rec0 with state:=.busy })) :: (τ.own ++ (ms₂.map hid ++ rst))) w₂:=hok₄.perm (by
    rw [← eM,← eM];exact List.perm_middle.symm)
   have hend:=fun j=>run_endRound (P:=C.P) j hok₅.objAt
   have leave : ∀ (c : Code),(∃ o,o.Sublist τ.own ∧ Kx c τ.H o) → ∃ v w',(Instr.endRound l (some c)).run C.P w₂ = .ok v w' ∧ (Ending.returned v ≠ .outgrown ∧ ∃ H'' own'',Le H' H'' ∧ Ok G H'' (own'' ++ rst) w' ∧ eQ (fun v H'' own''=>(v = .bool true ∧ ∃ own3,own'' = ol ++ own3 ∧ J.Holds (pre ++ [x]) H'' own3) ∨ (v = .bool false ∧ K H'' own'')) (.returned v) H'' own''):=by
    rintro c ⟨o,hs,hk⟩;refine ⟨_,_,hend (some c),by simp,τ.H,(l,.obj (.loop { rec0 with state:=.done,pending:=some c })) :: o,hle₁.trans hle₂,?_,.inr ⟨rfl,o,c,rfl,hk⟩⟩;exact (hok₅.putObj (o':=.loop { rec0 with state:=.done,pending:=some c })).shrink (Le.refl _) (List.Sublist.cons_cons _ (hs.append (List.sublist_append_right _ _)))
   cases e with
   | normal =>
    obtain ⟨_,o,hs,o3,rfl,hI'⟩:=hq₂;refine ⟨_,_,hend none,by simp,τ.H,ol ++ (l,.obj (.loop rec0)) :: o3,hle₁.trans hle₂,?_,.inl ⟨rfl,_,rfl,o3,rfl,hI'⟩⟩;have hk:=(hok₅.putObj (o':=.loop rec0)).shrink (Le.refl _) (List.Sublist.cons_cons _ (hs.append (List.sublist_append_right _ _)) : ((l,SObj.obj (.loop rec0)) :: ((ol ++ o3) ++ rst)).Sublist _);refine hk.perm ?_;simp only [eM,fP];exact List.perm_middle
   | exit id=>exact leave _ hq₂.2
   | goto t=>exact leave _ hq₂.2
   | ret=>exact leave _ hq₂.2
   | panic ch=>exact hq₂.elim
   | outgrown=>exact hq₂.elim
  | exit id=>exact hq.elim
  | goto t=>exact hq.elim
  | ret=>exact hq.elim
  | panic ch=>exact hq.elim
  | outgrown=>exact hq.elim) ⟨own2,rfl,h0⟩
 refine ⟨l,mk,w₁,{ target:=.fn (.func f) cap.toArray,args:=#[] ++ #[yv] },w₁,f,(yv :: cap).toArray,w₁,hrun,?_,fun _ _=>trivial,?_,fun h=>(by cases h),?_⟩
 ·have hm : Array.map a.eval #[Operand.const (Value.func (Fn.yield l) #[] #[])] = #[yv]:=by simp [Act.eval,yv]
  simp only [resolve,rangeCall,hga,hm];rfl
 ·have:=hcall.1 (yv :: cap).toArray w₁;show (callFunc f ((#[] ++ #[yv]) ++ cap.toArray)).run C.P w₁ = _;have e : (#[] ++ #[yv] ++ cap.toArray : Array Value) = (yv :: cap).toArray:=by simp
  rw [e];exact this
 have hok₂ : Ok C.G H ((ownI ++ (l,.obj (.loop rec0)) :: own2) ++ (ms'.map hid ++ C.hid)) w₁:=hok₁.perm (by
  simp only [eM,fP];exact List.perm_middle)
 have hc : CallsIn Fence.wide (0 - 1) C.P f (yv :: cap).toArray w₁ _:=callsIn_wide.2 (hcall.2 C.G _ w₁ hok₂);have hc2 : CallsIn (Fr C.r) (0 - 1) C.P f (yv :: cap).toArray w₁ _:=hc;refine ⟨hc2.1,fun cs hcs=>?_⟩;obtain ⟨e,w₃,fr,⟨hne,H',own',hle,hok₃,hR⟩,hx⟩:=hc2.2 cs hcs;refine ⟨e,w₃,fr,?_,hx⟩;cases e with
 | outgrown=>exact absurd rfl hne
 | panicked ch=>exact hR.elim
 | returned v =>
  obtain ⟨_,ownI',ownY',rfl,hJK⟩:=hR
  have key : ∀ (r : Loop) (o : Own),ownY' = (l,.obj (.loop r)) :: o → r.state ≠ .busy → (Instr.endLoop l).run C.P w₃ = .ok r.pending (w₃.putObj l (.loop { r with state:=.exhausted })) ∧
    Rel C ⟨env,df,H',o⟩ { a with defers:=mk ++ a.defers } (w₃.putObj l (.loop { r with state:=.exhausted })):=by
   rintro r o rfl hb
   have hok₄ : Ok C.G H' ((l,.obj (.loop r)) :: (ownI' ++ (o ++ (ms'.map hid ++ C.hid)))) w₃:=hok₃.perm (by
    simp only [eM,fP];exact List.perm_middle.symm)
   refine ⟨run_endLoop hok₄.objAt hb,hr.size,hr.get,ms',hdf,?_⟩;exact (hok₄.putObj (o':=.loop { r with state:=.exhausted })).shrink (Le.refl _) (.cons _ (List.sublist_append_right _ _))
  rcases hJK with ⟨o,ho,hI⟩ | ⟨o,c,ho,hk⟩
  ·obtain ⟨h1,h2⟩:=key rec0 o ho (by simp [rec0]);exact ⟨none,_,h1,⟨_,h2,hle,hdone H' o hle hI⟩⟩
  obtain ⟨h1,h2⟩:=key { rec0 with state:=.done,pending:=some c } o ho zP;exact ⟨some c,_,h1,Go.wpIn_mono (hjump c H' o hle hk _ _ h2) fun _ _ _ lf=>uG lf hle fun _ _ q=>q⟩
end
theorem iH.take {α : Type} {ρ : Rep α} {H : Hp} : ∀ {l : List α} {cs : List Value} (k : Nat),iH ρ H cs l → ∃ c1 c2,cs = c1 ++ c2 ∧ iH ρ H c1 (l.take k)
 | l,cs,0,h=>⟨[],cs,rfl,by simp [iH]⟩
 | [],cs,k + 1,h=>⟨cs,[],by simp,h⟩
 | x :: l,cs,k + 1,⟨c1,c2,e,h1,h2⟩=>by
  obtain ⟨d1,d2,e2,h3⟩:=iH.take k h2;exact ⟨c1 ++ d1,d2,by rw [e,e2,eM],c1,d1,rfl,h1,h3⟩
theorem Acc.take {α : Type} {ρ : Rep α} {T : TypeId} {H : Hp} {p : Nat × SObj} {a : Option Addr} {c : Nat} {l : List α} (h : Acc ρ T H p a c l) (k : Nat) :
  ∃ s',Acc ρ T H (p.1,s') a c (l.take k) ∧ (∀ o,p.2.Is o → s'.Is o) ∧ p.2.some = s'.some:=by
 rcases h with ⟨h1,h2,h3,h4⟩ | ⟨xs,h1,h2,h3,h4⟩
 ·subst h3;exact ⟨p.2,.inl ⟨h1,h2,by simp,h4⟩,fun _ h=>h,rfl⟩
 obtain ⟨c1,c2,e,h5⟩:=h3.take k;refine ⟨.row T (c * ρ.sz) c1,.inr ⟨c1,h1,rfl,h5,?_⟩,?_,by rw [h2];rfl⟩
 ·rw [List.length_take];omega
 rw [h2];rintro o ⟨d,h6,h7⟩;subst e;exact ⟨c2 ++ d,by rw [h6,eM],by rw [← h7,eM]⟩
theorem Ok.weak {G : World} {H : Hp} {pre post : Own} {w : World} {b : Nat} {s s' : SObj} (h : Ok G H (pre ++ (b,s) :: post) w) (hs : ∀ o,s.Is o → s'.Is o) (hk : s.some = s'.some) : Ok G H (pre ++ (b,s') :: post) w:=by
 unfold Ok at h ⊢;rw [uW] at h ⊢;cases hb : s.some with
 | false =>
  have e1 : aBp ((b,s) :: post) = aBp post:=by simp [aBp,hb]
  have e2 : aBp ((b,s') :: post) = aBp post:=by simp [aBp,← hk,hb]
  rw [e1] at h;rw [e2];exact h
 | true =>
  rw [uA hb] at h;rw [uA (by rw [← hk];exact hb)];refine ⟨h.os,h.tape,h.out,h.pub,fun p hp=>?_,?_⟩
  ·rcases gM.1 hp with hp | hp
   ·exact h.mine p (by simp [hp])
   rcases List.mem_cons.1 hp with rfl | hp
   ·obtain ⟨⟨o,h1,h2⟩,h3⟩:=h.mine (b,s) zP;exact ⟨⟨o,hs _ h1,h2⟩,h3⟩
   exact h.mine p (by simp [hp])
  have:=h.nd;simpa using this
section
variable {C : Ctx} {ops : Array Oper} {Q : Exit → St → Prop} {rest : List Oper} {env : gY} {df : List Deferred} {H : Hp} {own : Own} {dst : Option Tmp} {ty : TypeId} {pos : String} {af : Array Edge}
theorem XO.weakAt (i : Nat) {p : Nat × SObj} {s' : SObj} (ho : Own.at own i = some p) (hs : ∀ o,p.2.Is o → s'.Is o) (hk : p.2.some = s'.some) (h : XO C ops Q rest ⟨env,df,H,Own.set2 own i (p.1,s')⟩) : XO C ops Q rest ⟨env,df,H,own⟩:=by
 obtain ⟨pre,post,rfl,rfl⟩:=Own.at_split ho;rw [Own.set2_split] at h;intro a w hr;obtain ⟨ms,hdf,hok⟩:=hr.ok;refine h a w ⟨hr.size,hr.get,ms,hdf,?_⟩;rw [eM,fP] at hok ⊢;exact Ok.weak (s:=p.2) hok hs hk
theorem XO.sliceA (i : Nat) {α : Type} {ρ : Rep α} {t e : TypeId} {x y : Operand} {k : IntKind} {p : Nat × SObj} {a : Option Addr} {c : Nat} {l : List α} {agg : Bool} {n : Nat} (hx : ev env x = some (.slice a l.length c)) (hy : ev env y = some (.int k n)) (ho : Own.at own i = some p) (hacc : Acc ρ e H p a c l)
  (hn : n ≤ l.length) (ht : C.P.underlying t = some (.slice e)) (he : tP C.P e ρ.sz agg = true) (hd : iU C.N dst = true)
  (h : ∀ p',Acc ρ e H p' a c (l.take n) → XO C ops Q rest ⟨jI dst (.slice a (l.take n).length c) env,df,H,Own.set2 own i p'⟩) :
  XO C ops Q (⟨dst,.slice t x none (some y) none,ty,pos,af,none⟩ :: rest) ⟨env,df,H,own⟩:=by
 obtain ⟨s',h1,h2,h3⟩:=hacc.take n;refine XO.weakAt i ho h2 h3 ?_;have hle:=hacc.le;refine kF rfl rfl hd (fun ρ' ha w=>?_) (h _ h1)
 have hb : (Instr.sliceBounds true l.length c none (some (ρ' y)) none).run C.P w = .ok (0,n,c) w:=by
  have b1 : ∀ (code : BoundsCode) (w : World),(Instr.sliceBound (ρ' y) c code).run C.P w = .ok n w:=by
   intro code w;rw [ha _ _ hy];have:=aHm (P:=C.P) (w:=w) (k:=k) (x:=(n : Int)) (y:=c) (code:=code) zO zO;rwa [eN] at this
  unfold Instr.sliceBounds;simp only [Option.map_none,Option.map_some,Sem.run_bind];simp only [Pure.pure,Sem.run,Result.andThen,Sem.run_bind,if_true,b1,eN,Int.toNat_zero]
 have hadd : (if c = 0 then a else a.map (·.add (0 * ρ.sz))) = a:=by
  split
  ·rfl
  rcases hacc with ⟨g1,g2,g3,g4⟩ | ⟨xs,g1,g2,g3,g4⟩
  ·subst g1;rfl
  subst g1;simp [Addr.add]
 have hr : (Instr.sliceAt t (.slice a l.length c) none (some (ρ' y)) none).run C.P w = .ok (.slice a n c) w:=by
  unfold Instr.sliceAt;rw [Sem.run_bind,jC ht];simp only [Result.andThen,Instr.slice];rw [Sem.run_bind,jC ht];simp only [Result.andThen,Sem.run_bind,hb,mJ he];rw [hadd];rfl
 have wD : (l.take n).length = n:=by rw [List.length_take];omega
 simp only [execOp,ha _ _ hx,Sem.run_bind,Option.map_none,Option.map_some,hr,Result.andThen,wD];rfl
theorem XO.makeCap {α : Type} {ρ : Rep α} {t e : TypeId} {x y : Operand} {k k' : IntKind} {n : Nat} {zs : List Value} {agg : Bool} (hx : ev env x = some (.int k (0 : Nat))) (hy : ev env y = some (.int k' n)) (ht : C.P.underlying t = some (.slice e)) (he : tP C.P e ρ.sz agg = true) (hz : nB C.P e = some zs)
  (hzl : (Nat.blt 0 ρ.sz && Nat.beq zs.length ρ.sz) = true) (hby : Nat.ble (C.P.bytesOf e) 4096 = true) (hn : n ≤ 1073741824) (hd : iU C.N dst = true)
  (h : ∀ p,Acc ρ e H p (some ⟨p.1,0,none⟩) n ([] : List α) → XO C ops Q rest ⟨jI dst (.slice (some ⟨p.1,0,none⟩) 0 n) env,df,H,p :: own⟩) :
  XO C ops Q (⟨dst,.makeSlice t x y,ty,pos,af,none⟩ :: rest) ⟨env,df,H,own⟩:=by
 refine vO rfl rfl hd fun ρ' w fr ha hok=>?_;simp only [fL] at hzl;have h0 : 0 < ρ.sz:=by simpa using hzl.1
 have hzl:=fV hzl.2;have hby:=Nat.le_of_ble_eq_true hby;obtain ⟨_,inf,hi,hsz⟩:=wB he;have hby' : inf.bytes ≤ 4096:=by simpa [Program.bytesOf,hi] using hby
 have hmul : inf.bytes * n ≤ 4398046511104:=eK (Nat.mul_le_mul hby' hn) zD;obtain ⟨z,hzr,hzc⟩:=aC2 (w:=w) hz
 have hcells : (Array.map (fun x=>zs.toArray[x % zs.toArray.size]!) (Array.range (n * ρ.sz))) = (vD zs n).toArray:=by
  rw [← hzl];exact aJ8 zs zO n
 have hacc : Acc ρ e H (w.heap.size,SObj.row e (n * ρ.sz) []) (some ⟨w.heap.size,0,none⟩) n ([] : List α):=.inr ⟨[],rfl,rfl,rfl,by simp⟩;refine ⟨.value (.slice (some ⟨w.heap.size,0,none⟩) 0 n),_,{ w with heap:=w.heap.push (.cells (vD zs n).toArray e (0,0)) },H,_,?_,.inl rfl,Le.refl _,hok.new (s:=.row e (n * ρ.sz) []) ⟨vD zs n,by simp,by simp [aCw,hzl]⟩,h _ hacc⟩
 have hb : (Instr.makeSlice t (.int k (0 : Nat)) (.int k' n)).run C.P w = .ok (.slice (some ⟨w.heap.size,0,none⟩) 0 n) { w with heap:=w.heap.push (.cells (vD zs n).toArray e (0,0)) }:=by
  have hw : IntKind.i64.wrap (n : Int) = n:=dT zO zO;have hw0 : IntKind.i64.wrap ((0 : Nat) : Int) = (0 : Nat):=dT zO zO;unfold Instr.makeSlice;rw [Sem.run_bind,jC ht];simp only [Result.andThen,asInt,asIntOf,Sem.run_bind];have hti : (typeInfo e).run C.P w = .ok inf w:=by simp [typeInfo,program,hi,Sem.run,Pure.pure,bind,Sem.bind]
  simp only [Pure.pure,Sem.run,Result.andThen,Sem.run_bind,hti,hw,hw0]
  have hcond : ((decide ((n : Int) < 0) || decide (((inf.bytes : Nat) : Int) * (n : Int) > 2 ^ 48) || decide (((0 : Nat) : Int) < 0)) || decide (((0 : Nat) : Int) > n)) = false:=by
   have hc : ((inf.bytes : Nat) : Int) * (n : Int) ≤ 4398046511104:=by rw [← Int.natCast_mul];exact Int.ofNat_le.2 hmul
   have h1 : ¬ ((n : Int) < 0):=zO
   have h2 : ¬ (((inf.bytes : Nat) : Int) * (n : Int) > 2 ^ 48):=zO
   have h3 : ¬ (((0 : Nat) : Int) > n):=zO
   rw [aI h1,aI h2,aI h3];rfl
  simp only [hcond,Bool.false_eq_true,if_false,eN,mJ he,Sem.run_bind]
  have hroom : ∀ w : World,(askRoom (n * inf.bytes)).run C.P w = .ok () w:=by
   intro w;unfold askRoom;split <;> rfl
  rw [hroom];simp only [Result.andThen];by_cases hn0 : n * ρ.sz = 0
  ·have hn1 : n = 0:=by rcases Nat.mul_eq_zero.1 hn0 with h | h;exact h;omega
   subst hn1;have e1 : ∀ g : Nat → Value,Array.map g (Array.range 0) = #[]:=by intro g;simp
   simp only [Nat.zero_mul,if_true,e1];simp [newRow,newObj,Sem.run,bind,Sem.bind,Pure.pure,vD,Result.andThen,Sem.run_bind]
  rw [dG hn0];simp only [Sem.run_bind,hzr,Result.andThen];simp only [Pure.pure,Sem.run,Result.andThen,hzc,hcells];simp [newRow,newObj,Sem.run,bind,Sem.bind,Pure.pure]
 simp only [execOp,ha _ _ hx,ha _ _ hy,Sem.run_bind,hb,Result.andThen];rfl
theorem XO.eqlNil {x : Operand} {t e : TypeId} {a : Option Addr} {n c n' c' : Nat} (hx : ev env x = some (.slice a n c)) (ht : C.P.underlying t = some (.slice e)) (hd : iU C.N dst = true) (h : XO C ops Q rest ⟨jI dst (.bool a.isNone) env,df,H,own⟩) {yt : TypeId} :
  XO C ops Q (⟨dst,.binOp .eql t x (.const (.slice none n' c')) yt,ty,pos,af,none⟩ :: rest) ⟨env,df,H,own⟩:=by
 refine kF rfl rfl hd (fun ρ ha w=>?_) h;have hy : ρ (.const (.slice none n' c')) = .slice none n' c':=ha (.const (.slice none n' c')) _ rfl;have hgd : ∀ w,(eqGuard .eql t x (.const (.slice none n' c')) (.slice a n c) (.slice none n' c')).run C.P w = .ok () w:=fun w=>rfl
 have hb : (binOp .eql t (.slice a n c) (.slice none n' c')).run C.P w = .ok (.bool a.isNone) w:=by
  have e1 : binOp .eql t (.slice a n c) (.slice none n' c') = (do Pure.pure (Value.bool (← Op.equal t (.slice a n c) (.slice none n' c'))) : Sem Value):=rfl;have e2 : Op.equal t (.slice a n c) (.slice none n' c') = Op.equalIn (9999 + 1) t (.slice a n c) (.slice none n' c'):=rfl;rw [e1,Sem.run_bind,e2,Go.Lib.run_equalIn_slice_nil w 9999 t e a n c n' c' ht];rfl
 simp only [execOp,ha _ _ hx,hy,Sem.run_bind,hgd];simp only [Result.andThen,hb];rfl
end
end Go.XL

namespace Go.XL
def aWe (base : gY) {ι : Type} (H0 : Hp) (df : List Deferred) (U : ι → gY) (B : ι → Hp → Own → Prop) (Q : Exit → St → Prop) : Exit → St → Prop
 | .normal,σ=>∃ i,aSd base H0 df U B i σ
 | e,σ=>Q e σ
section
variable {C : Ctx} {Q : Exit → St → Prop} {env : gY} {df : List Deferred} {H : Hp} {own : Own} {ι : Type} {base : gY} {H0 : Hp} {U : ι → gY} {B : ι → Hp → Own → Prop} {σ : St}
theorem aN2 {x y : Code} (base : gY) (U : ι → gY) (B : ι → Hp → Own → Prop) (hb : aGb env base) (h1 : Le H H → XC C x (aWe base H df U B Q) ⟨env,df,H,own⟩)
  (h2 : ∀ i H' own',Le H H' → B i H' own' → XC C y Q ⟨U i ++ base,df,H',own'⟩) : XC C (.seq x y) Q ⟨env,df,H,own⟩:=by
 refine cO ((h1 (Le.refl _)).mono ?_);intro e τ hle q;cases e with
 | normal =>
  obtain ⟨i,own1,hB,hp,ho,hd,jJ⟩:=q;obtain ⟨env',df',H',own'⟩:=τ;cases hd;exact fun a w hr=>h2 i _ own1 jJ hB a w (hr.weaken hp (Le.refl _) ho)
 | exit _=>exact q
 | goto _=>exact q
 | ret=>exact q
 | panic _=>exact q
 | outgrown=>exact q
theorem wJ {env : gY} {H' : Hp} {own' : Own} (j : ι) {own1 : Own} (hp : aGb env (U j ++ base)) (hB : B j H' own1) (ho : own1.Sublist own') (hle : Le H0 H') : aWe base H0 df U B Q .normal ⟨env,df,H',own'⟩ :=
 ⟨j,own1,hB,hp,ho,rfl,hle⟩
end
end Go.XL
