/- The logic's rules for maps whose keys are numbers. No statement of the program stands here. -/
import Derived.Test.YtbeecebebeamiaaGreatDoorB1
import Derived.Carry
import Derived.ChangeArms
import Derived.ChangeSame
import Derived.Laws.StructEq
import Derived.ChangeKeysEq
import Derived.Laws.IdiomStrings
import Derived.RecoverIn
import Derived.Lib.SliceRun
set_option autoImplicit false
set_option linter.unusedSimpArgs false
set_option linter.unusedVariables false
set_option linter.unnecessarySimpa false
namespace Go.XL
def sG (kd : IntKind) (es : Array MapEntry) (m : List (Int × Value)) : Prop:=es.toList.map (fun e=>(e.key,e.val)) = m.map fun p=>(Value.int kd p.1,p.2)
def tN : List (Int × Value) → Int → Option Value
 | [],_=>none
 | (k,v) :: m,x=>if x = k then some v else tN m x
def tO : List (Int × Value) → Int → Value → List (Int × Value)
 | [],x,u=>[(x,u)]
 | (k,v) :: m,x,u=>if x = k then (x,u) :: m else (k,v) :: tO m x u
theorem sG.nil (kd : IntKind) : sG kd #[] []:=rfl
theorem sG.size {kd : IntKind} {es : Array MapEntry} {m : List (Int × Value)} (h : sG kd es m) : es.size = m.length:=by
 have:=congrArg List.length h
 simpa using this
theorem rQ {kd : IntKind} {x : Int} : ∀ (es : List MapEntry) (m : List (Int × Value)) (i : Nat),es.map (fun e=>(e.key,e.val)) = m.map (fun p=>(Value.int kd p.1,p.2)) →
    (tN m x = none ∧ Instr.findNow (.int kd) (.int kd x) es i = some none) ∨ (∃ j v,tN m x = some v ∧ Instr.findNow (.int kd) (.int kd x) es i = some (some (i + j,v)) ∧ j < es.length ∧ (es[j]?).map (·.key) = some (.int kd x) ∧
      ∀ u,(es.modify j fun e=>{ e with key:=.int kd x,val:=u }).map (fun e=>(e.key,e.val)) = (tO m x u).map fun p=>(Value.int kd p.1,p.2))
  | [],m,i,h=>by
    cases m with
    | nil=>exact .inl ⟨rfl,rfl⟩
    | cons p m=>simp at h
  | e :: es,m,i,h=>by
    cases m with
    | nil=>simp at h
    | cons p m =>
      obtain ⟨k,v⟩:=p
      obtain ⟨ek,evl,eb⟩:=e
      simp only [List.map_cons,List.cons.injEq,Prod.mk.injEq] at h
      obtain ⟨⟨rfl,rfl⟩,h⟩:=h
      simp only [Instr.findNow,Instr.sameNow,if_true,tN]
      by_cases hxk : x = k
      · subst hxk
        refine .inr ⟨0,evl,by simp,by simp,by simp,by simp,fun u=>?_⟩
        simp [tO,h]
      simp only [hxk,if_false]
      have hb : (x == k) = false:=by simpa using hxk
      rw [hb]
      rcases rQ es m (i + 1) h with ⟨h1,h2⟩ | ⟨j,v',h1,h2,h3,h4,h5⟩
      · exact .inl ⟨h1,h2⟩
      refine .inr ⟨j + 1,v',h1,by simp only;rw [h2];congr 3;omega,by simp;omega,by simpa using h4,fun u=>?_⟩
      simp only [tO,hxk,if_false,List.modify_succ_cons,List.map_cons,h5 u]
theorem mG {P : Program} {w : World} {b : Bool} {t : TypeId} {kd : IntKind} {x : Int} (h : P.underlying t = some (.int kd)) : (Instr.checkKey b 10000 t (.int kd x)).run P w = .ok () w:=by
 unfold Instr.checkKey
 rw [Sem.run_bind,dR h]
 rfl
theorem nG {P : Program} {w : World} {t : TypeId} {kd : IntKind} {x : Int} {es : List MapEntry} {r : Option (Nat × Value)} (h : P.underlying t = some (.int kd)) (hf : Instr.findNow (.int kd) (.int kd x) es 0 = some r) : (Instr.findKey t (.int kd x) es).run P w = .ok r w:=by
 unfold Instr.findKey
 rw [Sem.run_bind,dR h]
 simp only [Result.andThen,hf]
 rfl
def aGi (P : Program) (t : TypeId) : Option Value:=(P.info? t).bind (·.zero)
theorem aD5 {P : Program} {w : World} {t : TypeId} {z : Value} (h : aGi P t = some z) : (zeroValue t).run P w = .ok z w:=by
  unfold aGi at h
  cases hi : P.info? t with
  | none=>rw [hi] at h;cases h
  | some i =>
    rw [hi] at h
    simp only [Option.bind_some] at h
    simp [zeroValue,typeInfo,program,hi,h,Sem.run,Pure.pure,bind,Sem.bind]
section
variable {C : Ctx} {ops : Array Oper} {Q : Exit → St → Prop} {rest : List Oper} {env : Env} {df : List Deferred} {H : Hp} {own : Own}
variable {dst : Option Tmp} {ty : TypeId} {pos : String} {af : Array Edge}
theorem Ok.objIn {G : World} {own : Own} {w : World} {i b : Nat} {o : Obj} {fr : Own} (h : Ok G H (own ++ fr) w) (ho : Own.at own i = some (b,.obj o)) : w.heap[b]? = some o:=by
 obtain ⟨⟨o1,ho1,hw1⟩,_⟩:=h.at (List.mem_append_left fr (Own.at_mem ho)) rfl
 simp only [SObj.Is] at ho1
 subst ho1
 exact hw1
theorem Ok.putIn {G : World} {own own' : Own} {w : World} {i b : Nat} {o o' : Obj} {fr : Own} (h : Ok G H (own ++ fr) w) (ho : Own.at own i = some (b,.obj o)) (hp : Own.put own i (.obj o') = some own') : Ok G H (own' ++ fr) (w.putObj b o'):=by
 have hb:=Ok.objIn h ho
 obtain ⟨pre,post,rfl,rfl⟩:=Own.at_split ho
 rw [Own.put_split] at hp
 cases hp
 simp only [List.append_assoc,List.cons_append] at h ⊢
 exact h.write (s':=.obj o') rfl rfl rfl rfl rfl (World.putObj_heap_same (pU hb)) (fun k hk=>World.putObj_heap_other hk)
theorem mW {P : Program} {w : World} {b : Nat} {es : Array MapEntry} {cl : Nat} (h : w.heap[b]? = some (.map es cl)) : (getObj b).run P w = .ok (.map es cl) w:=by simp [getObj,Sem.run,h]
theorem tG {P : Program} {w : World} {b : Nat} {es : Array MapEntry} {cl : Nat} (o : Obj) (h : w.heap[b]? = some (.map es cl)) : (setObj b o).run P w = .ok () (w.putObj b o):=by simp [setObj,Sem.run,h,World.putObj]
theorem qJ {t : TypeId} (hd : eP C.N dst = true) (h : ∀ b,XO C ops Q rest ⟨fJ dst (.map (some b)) env,df,H,(b,.obj (.map #[] 0)) :: own⟩) :
  XO C ops Q (⟨dst,.makeMap t none,ty,pos,af,none⟩ :: rest) ⟨env,df,H,own⟩ :=
 lJ rfl rfl hd fun ρ w fr ha hok=>⟨.value (.map (some w.heap.size)),_,_,H,(w.heap.size,.obj (.map #[] 0)) :: own,
  by simp [execOp,Instr.makeMap,newObj,Sem.run,Pure.pure,bind,Sem.bind],.inl rfl,Le.refl _,hok.new (s:=.obj (.map #[] 0)) rfl,h _⟩
theorem XO.mapSet (i : Nat) {t kt et : TypeId} {x y z : Operand} {b : Nat} {kd : IntKind} {k : Int} {v : Value} {es : Array MapEntry} {cl : Nat} {m : List (Int × Value)}
    (hx : ev env x = some (.map (some b))) (hy : ev env y = some (.int kd k)) (hz : ev env z = some v) (ho : Own.at own i = some (b,.obj (.map es cl))) (hm : sG kd es m) (ht : C.P.underlying t = some (.map kt et)) (hk : C.P.underlying kt = some (.int kd)) (hd : eP C.N dst = true)
    (h : ∀ es' cl',sG kd es' (tO m k v) → XO C ops Q rest ⟨fJ dst undef env,df,H,Own.set2 own i (b,.obj (.map es' cl'))⟩) :
    XO C ops Q (⟨dst,.mapUpdate t x y z,ty,pos,af,none⟩ :: rest) ⟨env,df,H,own⟩:=by
  refine lJ rfl rfl hd fun ρ w fr ha hok=>?_
  have hb:=Ok.objIn hok ho
  have hput : ∀ o',∃ own',Own.put own i (.obj o') = some own' ∧ own' = Own.set2 own i (b,.obj o'):=by
    intro o'
    obtain ⟨pre,post,rfl,rfl⟩:=Own.at_split ho
    exact ⟨_,Own.put_split,Own.set2_split.symm⟩
  have run1 : ∀ {nx w'},(Instr.mapUpdate t (.map (some b)) (.int kd k) v).run C.P w = .ok nx w' → (execOp ρ ⟨dst,.mapUpdate t x y z,ty,pos,af,none⟩).run C.P w = .ok .skip w':=by
    intro nx w' hr
    simp only [execOp,ha _ _ hx,ha _ _ hy,ha _ _ hz,Sem.run_bind,hr,Result.andThen]
    rfl
  rcases rQ es.toList m 0 hm with ⟨h1,h2⟩ | ⟨j,v',h1,h2,h3,h4,h5⟩
  · obtain ⟨own',hown,hse⟩:=hput (.map (es.push { key:=.int kd k,val:=v,born:=cl }) (cl + 1))
    refine ⟨.skip,undef,w.putObj b (.map (es.push { key:=.int kd k,val:=v,born:=cl }) (cl + 1)),H,own',run1 (nx:=()) ?_,.inr ⟨rfl,rfl⟩,Le.refl _,Ok.putIn hok ho hown,(hse ▸ h _ _ ?_)⟩
    · unfold Instr.mapUpdate
      rw [Sem.run_bind,dR ht]
      simp only [Result.andThen,Sem.run_bind,mW hb,mG (x:=k) hk,nG (x:=k) hk h2,tG _ hb]
    have : ∀ (m : List (Int × Value)),tN m k = none → tO m k v = m ++ [(k,v)]:=by
      intro m
      induction m with
      | nil=>intro _;rfl
      | cons p m ih =>
        obtain ⟨k',v''⟩:=p
        intro hg
        simp only [tN] at hg
        split at hg
        · cases hg
        rename_i hne;simp [tO,hne,ih hg]
    unfold sG at hm ⊢
    rw [this m h1]
    simp [hm]
  obtain ⟨own',hown,hse⟩:=hput (.map (es.modify j fun e=>{ e with key:=.int kd k,val:=v }) cl)
  refine ⟨.skip,undef,w.putObj b (.map (es.modify j fun e=>{ e with key:=.int kd k,val:=v }) cl),H,own',run1 (nx:=()) ?_,.inr ⟨rfl,rfl⟩,Le.refl _,Ok.putIn hok ho hown,(hse ▸ h _ _ ?_)⟩
  · simp only [Nat.zero_add] at h2
    unfold Instr.mapUpdate
    rw [Sem.run_bind,dR ht]
    simp only [Result.andThen,Sem.run_bind,mW hb,mG (x:=k) hk,nG (x:=k) hk h2]
    have hkey : ((es[j]?).map (·.key)).getD (Value.int kd k) = .int kd k:=by
      have : (es[j]?).map (·.key) = some (.int kd k):=by simpa using h4
      rw [this];rfl
    rw [hkey]
    have hst : (Instr.keyThatStays (.int kd k) (.int kd k)).run C.P w = .ok (.int kd k) w:=by
      simp [Instr.keyThatStays,Instr.sameBits,Sem.run,Pure.pure]
    rw [hst]
    simp only [tG _ hb]
  unfold sG
  rw [← h5 v]
  simp
end
section
variable {C : Ctx} {ops : Array Oper} {Q : Exit → St → Prop} {rest : List Oper} {env : Env} {df : List Deferred} {H : Hp} {own : Own}
variable {dst : Option Tmp} {ty : TypeId} {pos : String} {af : Array Edge}
theorem XO.mapLen (i : Nat) {t kt et : TypeId} {x : Operand} {b : Nat} {kd : IntKind} {es : Array MapEntry} {cl : Nat} {m : List (Int × Value)} (hx : ev env x = some (.map (some b))) (ho : Own.at own i = some (b,.obj (.map es cl))) (hm : sG kd es m)
  (ht : C.P.underlying t = some (.map kt et)) (hd : eP C.N dst = true)
  (h : XO C ops Q rest ⟨fJ dst (.int .i64 m.length) env,df,H,own⟩) :
  XO C ops Q (⟨dst,.call { callee:=.builtin .len,args:=#[x],argTypes:=#[t] },ty,pos,af,none⟩ :: rest) ⟨env,df,H,own⟩:=by
 refine lJ rfl rfl hd fun ρ w fr ha hok=>⟨.value (.int .i64 m.length),_,w,H,own,?_,.inl rfl,Le.refl _,hok,h⟩
 have hb:=Ok.objIn hok ho
 simp only [execOp,resolve,Sem.run_bind]
 simp only [Pure.pure,Sem.run,Result.andThen,invoke,builtin,Sem.run_bind,Builtin.len_]
 simp [ha _ _ hx,Sem.run_bind,dR ht,mW hb,Result.andThen,goInt,Pure.pure,Sem.run,hm.size]
theorem XO.mapGet (i : Nat) {t kt et : TypeId} {x y : Operand} {b : Nat} {kd : IntKind} {k : Int} {es : Array MapEntry} {cl : Nat} {m : List (Int × Value)} {z : Value} {ok : Bool} (hx : ev env x = some (.map (some b))) (hy : ev env y = some (.int kd k)) (ho : Own.at own i = some (b,.obj (.map es cl))) (hm : sG kd es m)
  (ht : C.P.underlying t = some (.map kt et)) (hk : C.P.underlying kt = some (.int kd)) (hz : aGi C.P et = some z) (hd : eP C.N dst = true)
  (h : XO C ops Q rest ⟨fJ dst (if ok then .tuple #[(tN m k).getD z,.bool (tN m k).isSome] else (tN m k).getD z) env,df,H,own⟩) :
  XO C ops Q (⟨dst,.lookup t x y ok,ty,pos,af,none⟩ :: rest) ⟨env,df,H,own⟩:=by
 refine lJ rfl rfl hd fun ρ w fr ha hok=>⟨.value (if ok then .tuple #[(tN m k).getD z,.bool (tN m k).isSome] else (tN m k).getD z),_,w,H,own,?_,.inl rfl,Le.refl _,hok,h⟩
 have hb:=Ok.objIn hok ho
 have hl : (Instr.lookup t (.map (some b)) (.int kd k) ok).run C.P w = .ok (if ok then .tuple #[(tN m k).getD z,.bool (tN m k).isSome] else (tN m k).getD z) w:=by
  unfold Instr.lookup
  rw [Sem.run_bind,dR ht]
  rcases rQ (x:=k) es.toList m 0 hm with ⟨h1,h2⟩ | ⟨j,v',h1,h2,_,_,_⟩
  ·simp only [Result.andThen,Sem.run_bind,mW hb]
   simp only [Pure.pure,Sem.run,Result.andThen,Sem.run_bind,mG (x:=k) hk,nG (x:=k) hk h2,aD5 hz,h1]
   rfl
  simp only [Result.andThen,Sem.run_bind,mW hb]
  simp only [Pure.pure,Sem.run,Result.andThen,Sem.run_bind,mG (x:=k) hk,nG (x:=k) hk h2,h1]
  rfl
 simp only [execOp,ha _ _ hx,ha _ _ hy,Sem.run_bind,hl,Result.andThen]
 rfl
end
end Go.XL

namespace Go.XL
theorem eN.set {α : Type} {ρ : Rep α} {H : Hp} {cs vs : List Value} {l : List α} {k : Nat} {u : α} (h : eN ρ H cs l) (hk : k < l.length) (hv : ρ.R H vs u) :
    eN ρ H (cs.take (k * ρ.sz) ++ vs ++ cs.drop (k * ρ.sz + ρ.sz)) (l.set k u):=by
  induction l generalizing cs k with
  | nil=>simp at hk
  | cons x l ih =>
    obtain ⟨c1,c2,rfl,h2,h3⟩:=h
    have hl1:=ρ.len h2
    cases k with
    | zero =>
      refine ⟨vs,c2,?_,hv,h3⟩
      simp [List.drop_append,hl1]
    | succ k =>
      refine ⟨c1,_,?_,h2,ih h3 (by simpa using hk)⟩
      rw [Nat.add_mul,Nat.one_mul,List.take_append,List.drop_append,hl1,show k * ρ.sz + ρ.sz - ρ.sz = k * ρ.sz by omega,show k * ρ.sz + ρ.sz + ρ.sz - ρ.sz = k * ρ.sz + ρ.sz by omega]
      rw [List.take_of_length_le (by omega),List.drop_eq_nil_of_le (by omega)]
      simp
theorem eN.replicate {α : Type} {ρ : Rep α} {H : Hp} {zs : List Value} {x : α} (h : ρ.R H zs x) (n : Nat) : eN ρ H (qI zs n) (List.replicate n x):=by
 induction n with
 | zero=>rfl
 | succ n ih=>exact ⟨zs,qI zs n,rfl,h,ih⟩
theorem eN.one1 {α : Type} {ρ : Rep α} {H : Hp} {cs : List Value} {x : α} (h : ρ.R H cs x) : eN ρ H cs [x]:=⟨cs,[],by simp,h,rfl⟩
theorem eN.cons1 {α : Type} {ρ : Rep α} {H : Hp} {cs ds : List Value} {x : α} {l : List α} (h : ρ.R H cs x) (k : eN ρ H ds l) : eN ρ H (cs ++ ds) (x :: l):=⟨cs,ds,rfl,h,k⟩
section
variable {C : Ctx} {ops : Array Oper} {Q : Exit → St → Prop} {rest : List Oper} {env : Env} {df : List Deferred} {H : Hp} {own : Own}
variable {dst : Option Tmp} {ty : TypeId} {pos : String} {af : Array Edge}
theorem Acc.addr {α : Type} {ρ : Rep α} {T : TypeId} {p : Nat × SObj} {a : Option Addr} {c : Nat} {l : List α} (h : Acc ρ T H p a c l) (hl : 0 < l.length) : a = some ⟨p.1,0,none⟩:=by
 rcases h with ⟨_,_,h,_⟩ | ⟨xs,h,_⟩
 ·subst h;simp at hl
 exact h
theorem XO.makeSlice {α : Type} {ρ : Rep α} {t e : TypeId} {x y : Operand} {k k' : IntKind} {n : Nat} {zs : List Value} {agg : Bool} (u : α) (hx : ev env x = some (.int k n)) (hy : ev env y = some (.int k' n)) (ht : C.P.underlying t = some (.slice e)) (he : tyF C.P e ρ.sz agg = true) (hz : gH C.P e = some zs)
  (hzl : (Nat.blt 0 ρ.sz && Nat.beq zs.length ρ.sz) = true) (hby : Nat.ble (C.P.bytesOf e) 4096 = true) (hn : n ≤ 1073741824) (hR : ρ.R H zs u) (hd : eP C.N dst = true)
  (h : ∀ b,Acc ρ e H (b,.row e (n * ρ.sz) (qI zs n)) (some ⟨b,0,none⟩) n (List.replicate n u) → XO C ops Q rest ⟨fJ dst (.slice (some ⟨b,0,none⟩) n n) env,df,H,(b,.row e (n * ρ.sz) (qI zs n)) :: own⟩) :
  XO C ops Q (⟨dst,.makeSlice t x y,ty,pos,af,none⟩ :: rest) ⟨env,df,H,own⟩:=by
 refine lJ rfl rfl hd fun ρ' w fr ha hok=>?_
 simp only [Bool.and_eq_true] at hzl
 have h0 : 0 < ρ.sz:=by simpa using hzl.1
 have hzl:=Nat.eq_of_beq_eq_true hzl.2
 have hby:=Nat.le_of_ble_eq_true hby
 obtain ⟨_,inf,hi,hsz⟩:=nQ he
 have hby' : inf.bytes ≤ 4096:=by simpa [Program.bytesOf,hi] using hby
 have hmul : inf.bytes * n ≤ 4398046511104:=Nat.le_trans (Nat.mul_le_mul hby' hn) (by decide)
 obtain ⟨z,hzr,hzc⟩:=uX (w:=w) hz
 have hcells : (Array.map (fun x=>zs.toArray[x % zs.toArray.size]!) (Array.range (n * ρ.sz))) = (qI zs n).toArray:=by
  rw [← hzl];exact aC0 zs (by omega) n
 have hacc : Acc ρ e H (w.heap.size,SObj.row e (n * ρ.sz) (qI zs n)) (some ⟨w.heap.size,0,none⟩) n (List.replicate n u):=.inr ⟨qI zs n,rfl,rfl,eN.replicate hR n,by simp⟩
 refine ⟨.value (.slice (some ⟨w.heap.size,0,none⟩) n n),_,{ w with heap:=w.heap.push (.cells (qI zs n).toArray e (0,0)) },H,_,?_,.inl rfl,Le.refl _,hok.new (s:=.row e (n * ρ.sz) (qI zs n)) ⟨[],by simp,by simp [aAq,hzl]⟩,h _ hacc⟩
 have hb : (Instr.makeSlice t (.int k n) (.int k' n)).run C.P w = .ok (.slice (some ⟨w.heap.size,0,none⟩) n n) { w with heap:=w.heap.push (.cells (qI zs n).toArray e (0,0)) }:=by
  have hw : IntKind.i64.wrap (n : Int) = n:=bU (by omega) (by omega)
  unfold Instr.makeSlice
  rw [Sem.run_bind,dR ht]
  simp only [Result.andThen,asInt,asIntOf,Sem.run_bind]
  have hti : (typeInfo e).run C.P w = .ok inf w:=by simp [typeInfo,program,hi,Sem.run,Pure.pure,bind,Sem.bind]
  simp only [Pure.pure,Sem.run,Result.andThen,Sem.run_bind,hti,hw]
  have hcond : ((decide ((n : Int) < 0) || decide (((inf.bytes : Nat) : Int) * (n : Int) > 2 ^ 48) || decide ((n : Int) < 0)) || decide ((n : Int) > n)) = false:=by
   have hc : ((inf.bytes : Nat) : Int) * (n : Int) ≤ 4398046511104:=by rw [← Int.natCast_mul];exact Int.ofNat_le.2 hmul
   have h1 : ¬ ((n : Int) < 0):=by omega
   have h2 : ¬ (((inf.bytes : Nat) : Int) * (n : Int) > 2 ^ 48):=by omega
   have h3 : ¬ ((n : Int) > n):=by omega
   rw [decide_eq_false h1,decide_eq_false h2,decide_eq_false h3]
   rfl
  simp only [hcond,Bool.false_eq_true,if_false,Int.toNat_natCast,gU he,Sem.run_bind]
  have hroom : ∀ w : World,(askRoom (n * inf.bytes)).run C.P w = .ok () w:=by
   intro w;unfold askRoom;split <;> rfl
  rw [hroom]
  simp only [Result.andThen]
  by_cases hn0 : n * ρ.sz = 0
  ·have hn1 : n = 0:=by rcases Nat.mul_eq_zero.1 hn0 with h | h;exact h;omega
   subst hn1
   have e1 : ∀ g : Nat → Value,Array.map g (Array.range 0) = #[]:=by intro g;simp
   simp only [Nat.zero_mul,if_true,e1]
   simp [newRow,newObj,Sem.run,bind,Sem.bind,Pure.pure,qI,Result.andThen,Sem.run_bind]
  rw [if_neg hn0]
  simp only [Sem.run_bind,hzr,Result.andThen]
  simp only [Pure.pure,Sem.run,Result.andThen,hzc,hcells]
  simp [newRow,newObj,Sem.run,bind,Sem.bind,Pure.pure]
 simp only [execOp,ha _ _ hx,ha _ _ hy,Sem.run_bind,hb,Result.andThen]
 rfl
theorem aCb (i : Nat) {α : Type} {ρ : Rep α} {T t : TypeId} {x : Operand} {p : Nat × SObj} {g c k : Nat} {l : List α} {u : α} {agg : Bool} (hx : ev env x = some (.pointer (some ⟨g,0 + k * ρ.sz,none⟩))) (hp : Own.at own i = some p) (hacc : Acc ρ T H p (some ⟨g,0,none⟩) c l)
  (hu : l[k]? = some u) (ht : tyF C.P t ρ.sz agg = true) (hd : eP C.N dst = true) (h : ∀ cs v,ρ.R H cs u → mkV agg cs = some v → XO C ops Q rest ⟨fJ dst v env,df,H,own⟩) (hv : ∀ cs,ρ.R H cs u → ∃ v,mkV agg cs = some v) :
  XO C ops Q (⟨dst,.load t x,ty,pos,af,none⟩ :: rest) ⟨env,df,H,own⟩:=by
 rcases hacc with ⟨h1,_⟩ | ⟨xs,ha1,hs,hr,hl⟩
 ·cases h1
 cases ha1
 obtain ⟨b,s⟩:=p
 simp only at hs
 subst hs
 obtain ⟨c1,hR,hc⟩:=hr.get hu;obtain ⟨v,hv⟩:=hv c1 hR
 refine lJ rfl rfl hd fun ρ' w fr ha hok=>⟨.value v,v,w,H,own,?_,.inl rfl,Le.refl _,hok,h c1 v hR hv⟩
 obtain ⟨ct,hbw,hbn⟩:=aEw hok (List.mem_append_left fr (Own.at_mem hp))
 have hrun:=rO (P:=C.P) (w:=w) ht (b:=b) (o:=0 + k * ρ.sz) (ρ.len hR) (v:=v) (fun j u hj=>by
  have:=hc j u hj
  simp only [World.cell?,hbw,Option.isSome_none,Bool.false_eq_true,if_false,List.getElem?_toArray,Nat.zero_add]
  rw [List.getElem?_append_left (List.getElem?_eq_some_iff.1 this).1]
  exact this) hv
 simp only [execOp,ha _ _ hx,Instr.loadAt,Instr.sureAddr,Sem.run_bind]
 simp only [Sem.run,Pure.pure,Result.andThen,hrun]
theorem XO.storeA (i : Nat) {α : Type} {ρ : Rep α} {T t : TypeId} {x y : Operand} {p : Nat × SObj} {g c k : Nat} {l : List α} {u : α} {agg : Bool} {v : Value} {vs : List Value} (hx : ev env x = some (.pointer (some ⟨g,0 + k * ρ.sz,none⟩))) (hy : ev env y = some v) (hp : Own.at own i = some p) (hacc : Acc ρ T H p (some ⟨g,0,none⟩) c l)
  (hk : k < l.length) (hv : wT v = some vs) (hR : ρ.R H vs u) (ht : tyF C.P t ρ.sz agg = true) (hd : eP C.N dst = true)
  (h : ∀ p',Acc ρ T H p' (some ⟨g,0,none⟩) c (l.set k u) → XO C ops Q rest ⟨fJ dst undef env,df,H,Own.set2 own i p'⟩) :
  XO C ops Q (⟨dst,.store t x y,ty,pos,af,none⟩ :: rest) ⟨env,df,H,own⟩:=by
 rcases hacc with ⟨h1,_⟩ | ⟨xs,ha1,hs,hr,hl⟩
 ·cases h1
 cases ha1
 obtain ⟨b,s⟩:=p
 simp only at hs
 subst hs
 have hvl:=ρ.len hR
 have hxl:=hr.length
 have hkm : k * ρ.sz + ρ.sz ≤ xs.length:=by
  rw [hxl]
  have:=Nat.mul_le_mul_right ρ.sz (show k + 1 ≤ l.length from hk)
  rwa [Nat.add_mul,Nat.one_mul] at this
 refine lJ rfl rfl hd fun ρ' w fr ha hok=>?_
 obtain ⟨ct,hbw,hbn⟩:=aEw hok (List.mem_append_left fr (Own.at_mem hp))
 have hrun:=run_storeCells_at (P:=C.P) b (0 + k * ρ.sz) T vs 0 (xs ++ ct).toArray w hbw (by simp;omega) (xK (ρ.one hR))
 simp only [Nat.add_zero,Nat.zero_add] at hrun
 refine ⟨.skip,undef,w.setRow b ((xs ++ ct).toArray.toList.take (k * ρ.sz) ++ vs ++ (xs ++ ct).toArray.toList.drop (k * ρ.sz + vs.length)).toArray,H,_,?_,.inr ⟨rfl,rfl⟩,Le.refl _,?_,h (b,.row T (c * ρ.sz) (xs.take (k * ρ.sz) ++ vs ++ xs.drop (k * ρ.sz + ρ.sz))) (.inr ⟨_,rfl,rfl,hr.set hk hR,by simpa using hl⟩)⟩
 ·simp only [execOp,ha _ _ hx,ha _ _ hy,Instr.storeAt,Instr.sureAddr,Sem.run_bind,storeVar,gU ht,lQ hv]
  simp only [Sem.run,Pure.pure,Result.andThen,Sem.run_bind,gU ht,hvl,List.size_toArray,ne_eq,not_true_eq_false,if_false,Nat.zero_add]
  rw [hrun]
  simp only [hvl,List.append_assoc]
 refine hok.write2 hp rfl hbw ⟨ct,?_,?_⟩
 ·simp only [List.append_assoc,hvl]
  rw [List.take_append_of_le_length (by omega),List.drop_append_of_le_length (by omega)]
 simp only [List.length_append,List.length_take,List.length_drop] at hbn ⊢
 omega
/-! ### Slicing a published slice -/
theorem SlR.cut {α : Type} {ρ : Rep α} {a : Option Addr} {c : Nat} {l : List α} (h : SlR ρ H a c l) (lo hi m : Nat) (h1 : lo ≤ hi) (h2 : hi ≤ l.length) (h3 : hi ≤ m) (h4 : m ≤ c) :
  SlR ρ H (if m = lo then a else a.map (·.add (lo * ρ.sz))) (m - lo) ((l.drop lo).take (hi - lo)):=by
 refine ⟨by simp;omega,?_,?_⟩
 ·intro e
  split at e
  ·omega
  cases a with
  | none=>have:=h.nil rfl;omega
  | some a=>simp at e
 intro i x hx
 rw [List.getElem?_take] at hx
 split at hx
 ·rename_i hi'
  rw [List.getElem?_drop] at hx
  obtain ⟨b,o,cs,h5,h6,h7⟩:=h.el (lo + i) x hx
  rw [if_neg (by omega),h5]
  refine ⟨b,o + lo * ρ.sz,cs,by simp [jV],?_,h7⟩
  rwa [Nat.add_mul,← Nat.add_assoc] at h6
 cases hx
theorem aAb {P : Program} {w : World} {k : IntKind} {x : Int} {y : Nat} {code : BoundsCode} (h0 : 0 ≤ x) (h1 : x ≤ y) : (Instr.sliceBound (.int k x) y code).run P w = .ok x.toNat w:=by
 unfold Instr.sliceBound
 simp only [asIntOf,Sem.run_bind]
 simp only [Pure.pure,Sem.run,Result.andThen,h0,h1,and_self,if_true]
def ev? (env : Env) (x : Option Operand) (d : Int) (n : Int) : Prop:=match x with | none=>n = d | some x=>∃ k,ev env x = some (.int k n)
theorem fF {env : Env} {d : Int} : ev? env none d d:=rfl
theorem fT {env : Env} {x : Operand} {d n : Int} {k : IntKind} (h : ev env x = some (.int k n)) : ev? env (some x) d n:=⟨k,h⟩
theorem iP {α : Type} {ρ : Rep α} {t e : TypeId} {x : Operand} {lo hi mx : Option Operand} {a : Option Addr} {c : Nat} {l : List α} {agg : Bool} {lo' hi' m' : Int} (hx : ev env x = some (.slice a l.length c)) (hs : SlR ρ H a c l)
    (hl : ev? env lo 0 lo') (hh : ev? env hi l.length hi') (hm : ev? env mx c m') (hnm : mx.isSome = true → hi.isSome = true) (h0 : 0 ≤ lo') (h1 : lo' ≤ hi') (h2 : hi' ≤ l.length) (h3 : hi' ≤ m') (h4 : m' ≤ c)
    (ht : C.P.underlying t = some (.slice e)) (he : tyF C.P e ρ.sz agg = true) (hd : eP C.N dst = true)
    (h : ∀ a' l',l' = (l.drop lo'.toNat).take (hi'.toNat - lo'.toNat) → SlR ρ H a' (m'.toNat - lo'.toNat) l' → XO C ops Q rest ⟨fJ dst (.slice a' l'.length (m'.toNat - lo'.toNat)) env,df,H,own⟩) :
    XO C ops Q (⟨dst,.slice t x lo hi mx,ty,pos,af,none⟩ :: rest) ⟨env,df,H,own⟩:=by
  have hcut:=hs.cut lo'.toNat hi'.toNat m'.toNat (by omega) (by omega) (by omega) (by omega)
  refine fN rfl rfl hd (fun ρ' ha w=>?_) (h _ _ rfl hcut)
  have hb : (Instr.sliceBounds true l.length c (lo.map ρ') (hi.map ρ') (mx.map ρ')).run C.P w = .ok (lo'.toNat,hi'.toNat,m'.toNat) w:=by
    have bd : ∀ (x : Operand) (n : Int) (y : Nat) (code : BoundsCode) (w : World),(∃ k,ev env x = some (.int k n)) → 0 ≤ n → n ≤ y → (Instr.sliceBound (ρ' x) y code).run C.P w = .ok n.toNat w:=by
      rintro x n y code w ⟨k,hk⟩ g0 g1
      rw [ha _ _ hk];exact aAb g0 g1
    have em : ∃ mm : Sem Nat,(∀ w,mm.run C.P w = .ok m'.toNat w) ∧ (match mx.map ρ' with | some v=>Instr.sliceBound v c .slice3Acap | none=>Pure.pure c) = mm:=by
      refine ⟨_,fun w=>?_,rfl⟩
      cases mx with
      | none=>have e : m' = c:=hm;subst e;simp [Sem.run,Pure.pure]
      | some y=>exact bd y m' c _ w hm (by omega) h4
    unfold Instr.sliceBounds
    cases mx with
    | none =>
      have e : m' = c:=hm
      subst e
      cases hi with
      | none =>
        have e : hi' = l.length:=hh
        subst e
        cases lo with
        | none=>have e : lo' = 0:=hl;subst e;simp [Sem.run,Pure.pure,Sem.run_bind,Result.andThen,bind,Sem.bind]
        | some z=>simp only [Option.map_none,Option.map_some,Sem.run_bind];simp only [Pure.pure,Sem.run,Result.andThen,Sem.run_bind,bd z lo' _ _ _ hl h0 h1,Int.toNat_natCast]
      | some y =>
        have b1:=fun code w=>bd y hi' c code w hh (by omega) (by omega)
        cases lo with
        | none =>
          have e : lo' = 0:=hl
          subst e
          simp only [Option.map_none,Option.map_some,Sem.run_bind];simp only [Pure.pure,Sem.run,Result.andThen,Sem.run_bind,if_true,b1,Int.toNat_natCast,Int.toNat_zero]
        | some z =>
          have b2:=fun code w=>bd z lo' hi'.toNat code w hl h0 (by omega)
          simp only [Option.map_none,Option.map_some,Sem.run_bind];simp only [Pure.pure,Sem.run,Result.andThen,Sem.run_bind,if_true,b1,b2,Int.toNat_natCast]
    | some q =>
      have b0:=fun code w=>bd q m' c code w hm (by omega) h4
      cases hi with
      | none=>exact absurd (hnm rfl) (by simp)
      | some y =>
        have b1:=fun code w=>bd y hi' m'.toNat code w hh (by omega) (by omega)
        cases lo with
        | none =>
          have e : lo' = 0:=hl
          subst e
          simp only [Option.map_none,Option.map_some,Sem.run_bind];simp only [Pure.pure,Sem.run,Result.andThen,Sem.run_bind,if_true,b0,b1,Int.toNat_zero]
        | some z =>
          have b2:=fun code w=>bd z lo' hi'.toNat code w hl h0 (by omega)
          simp only [Option.map_none,Option.map_some,Sem.run_bind];simp only [Pure.pure,Sem.run,Result.andThen,Sem.run_bind,if_true,b0,b1,b2]
  have hr : (Instr.sliceAt t (.slice a l.length c) (lo.map ρ') (hi.map ρ') (mx.map ρ')).run C.P w = .ok (.slice (if m'.toNat = lo'.toNat then a else a.map (·.add (lo'.toNat * ρ.sz))) (hi'.toNat - lo'.toNat) (m'.toNat - lo'.toNat)) w:=by
    unfold Instr.sliceAt
    rw [Sem.run_bind,dR ht]
    simp only [Result.andThen,Instr.slice]
    rw [Sem.run_bind,dR ht]
    simp only [Result.andThen,Sem.run_bind,hb,gU he]
    rfl
  have rF : ((l.drop lo'.toNat).take (hi'.toNat - lo'.toNat)).length = hi'.toNat - lo'.toNat:=by simp;omega
  simp only [execOp,ha _ _ hx,Sem.run_bind,hr,Result.andThen,rF]
  rfl
end
end Go.XL

namespace Go.XL
open Go.RowKit Go.ChangeShapes
def aH7 (w : World) : Hp:=fun b=>w.heap[b]?
theorem FnC.below {P : Program} {f : FuncId} {args : Array Value} {W : World} {V : Value} (h : FnC P f args (aH7 W) [] (bX fun v _ _=>v = V)) :
  Calls P f args W fun e w'=>e = .returned V ∧ Below W.heap.size W w':=by
 refine (h.2 W [] W ⟨rfl,rfl,rfl,fun _ _ e=>e,fun p hp=>by simp [zQ] at hp,by simp [zQ]⟩).mono ?_;rintro e w' ⟨h0,H',own',hle,hok,hR⟩
 have hb : ∀ k,k < W.heap.size → w'.heap[k]? = W.heap[k]?:=fun k hk=>by
  have e1 : W.heap[k]? = some W.heap[k]:=Array.getElem?_eq_getElem hk
  rw [e1];exact hok.pub _ _ (hle _ _ e1)
 refine ⟨?_,hok.os,hok.tape,hok.out,?_,hb⟩
 ·cases e with
  | returned v=>obtain rfl : v = V:=hR;rfl
  | panicked _=>exact hR.elim
  | outgrown=>exact hR.elim
 rcases Nat.eq_zero_or_pos W.heap.size with h1 | h1
 ·omega
 have:=hb (W.heap.size - 1) (by omega)
 rw [Array.getElem?_eq_getElem (by omega : W.heap.size - 1 < W.heap.size)] at this
 have:=pU this
 omega
def oZ (P : Program) (t : TypeId) {α : Type} (ρ : Rep α) (wf : α → Prop) : Prop:=∀ {H : Type} (enc : TypeId × Value → H) (w : World) (base : Nat) (spare : Nat → Bool) (held : Bool) (fuel : Nat) (cs : List Value) (x : DataW H × List MemPlace),
 DataW.trod enc P w base spare held fuel t cs = some x → ∃ u,ρ.R (aH7 w) cs u ∧ wf u
theorem oZ.int {P : Program} {t : TypeId} {k : IntKind} (ht : P.underlying t = some (.int k)) : oZ P t (eO k) (fun n=>(Lit.int k n).wf = true):=by
 intro H enc w base spare held fuel cs x h
 obtain ⟨n,h1,_,h3⟩:=DataW.trod_int ht h
 exact ⟨n,h1,h3⟩
theorem oZ.bool {P : Program} {t : TypeId} (ht : P.underlying t = some .bool) : oZ P t aCg (fun _=>True):=by
  intro H enc w base spare held fuel cs x h
  cases fuel with
  | zero=>simp [DataW.trod] at h
  | succ n =>
    unfold DataW.trod at h
    rw [ht] at h
    split at h <;> simp_all
    rename_i b
    cases b
    · exact .inl rfl
    exact .inr rfl
theorem aAr {α : Type} {Q : Nat → α → Prop} : ∀ (n : Nat),(∀ i,i < n → ∃ u,Q i u) → ∃ l : List α,l.length = n ∧ ∀ (i : Nat) (u : α),l[i]? = some u → Q i u
  | 0,_=>⟨[],rfl,fun i u h=>by simp at h⟩
  | n + 1,h=>by
    obtain ⟨l,h1,h2⟩:=aAr n (fun i hi=>h i (by omega))
    obtain ⟨u,hu⟩:=h n (by omega)
    refine ⟨l ++ [u],by simp [h1],fun i v hv=>?_⟩
    rw [List.getElem?_append] at hv
    split at hv
    · exact h2 i v hv
    rename_i hi
    rcases Nat.lt_or_ge n i with h3 | h3
    · rw [List.getElem?_eq_none (by simp;omega)] at hv;cases hv
    obtain rfl : i = n:=by omega
    simp [h1] at hv;subst hv;exact hu
theorem aBw {w : World} {base : Nat} {a : Addr} {n : Nat} {cs : List Value} (h : w.cells? base a n = some cs) : cs.length = n ∧ ∀ j u,cs[j]? = some u → w.cell? (a.add j) = some u:=by
 unfold World.cells? at h
 split at h
 ·have h1:=mapM_some_length h
  have h2:=mapM_some_get h
  simp at h1
  refine ⟨h1,fun j u hj=>?_⟩
  have hj' : j < n:=by rw [← h1];exact (List.getElem?_eq_some_iff.1 hj).1
  rw [h2 j j (by simp [hj']),hj]
 cases h
theorem oZ.slice {P : Program} {t e : TypeId} {α : Type} {ρ : Rep α} {wf : α → Prop} (ht : P.underlying t = some (.slice e)) (hsz : P.cellsOf e = ρ.sz) (hpos : 0 < ρ.sz) (ho : oZ P e ρ wf) :
  oZ P t (slR ρ) (fun l=>l.length ≤ maxLen ∧ ∀ u ∈ l,wf u):=by
 intro H enc w base spare held fuel cs x h
 rcases DataW.trod_slice ht h with ⟨rfl,_⟩ | ⟨a,len,cap,elems,rest,n,_,rfl,_,_,hl,hm,rF,hel,_,_⟩
 ·exact ⟨[],⟨none,0,rfl,SlR.nil0 _ _⟩,Nat.zero_le _,by simp⟩
 obtain ⟨l,h1,h2⟩:=aAr (Q:=fun i (u : α)=>∃ cs,w.cells? base (a.add (i * ρ.sz)) ρ.sz = some cs ∧ ρ.R (aH7 w) cs u ∧ wf u) len (fun i hi=>by
  have h3:=hel i hi
  rw [List.getElem?_eq_getElem (by omega),hsz,Option.bind_eq_some_iff] at h3
  obtain ⟨cs,h4,h5⟩:=h3;obtain ⟨u,h6,h7⟩:=ho enc w base spare held n cs _ h5
  exact ⟨u,cs,h4,h6,h7⟩)
 refine ⟨l,⟨some a,cap,by rw [h1],by omega,by simp,fun i u hu=>?_⟩,by omega,fun u hu=>?_⟩
 ·obtain ⟨cs,h3,h4,h5⟩:=h2 i u hu
  have hi : i < l.length:=(List.getElem?_eq_some_iff.1 hu).1
  obtain ⟨cs0,h30,h40,_⟩:=h2 0 l[0] (by rw [List.getElem?_eq_getElem]);obtain ⟨hk1,hk2⟩:=aBw h30
  have hsp : a.spot = none:=by
   have:=hk2 0 cs0[0] (List.getElem?_eq_getElem (by omega))
   simp [Addr.add] at this
   exact World.cell?_spot this
  obtain ⟨b,o,sp⟩:=a
  simp only at hsp;subst hsp
  refine ⟨b,o,cs,rfl,?_,h4⟩;obtain ⟨hc1,hc2⟩:=aBw h3
  have hadd : ∀ j k : Nat,((⟨b,o,none⟩ : Addr).add j).add k = ⟨b,o + j + k,none⟩:=fun j k=>by
   unfold Addr.add;(repeat' split) <;> simp_all
  have hblk : ∃ c T fz,w.heap[b]? = some (.cells c T fz):=by
   have:=hc2 0 cs[0] (List.getElem?_eq_getElem (by omega))
   rw [hadd] at this
   unfold World.cell? at this
   split at this
   ·rename_i c T fz hh;exact ⟨c,T,fz,hh⟩
   cases this
  obtain ⟨c,T,fz,hh⟩:=hblk;refine ⟨c,T,fz,hh,fun j v hj=>?_⟩
  have:=hc2 j v hj
  rw [hadd] at this
  unfold World.cell? at this
  simpa [hh] using this
 obtain ⟨i,hi,rfl⟩:=List.getElem_of_mem hu;obtain ⟨_,_,_,h5⟩:=h2 i _ (List.getElem?_eq_getElem hi)
 exact h5
end Go.XL

namespace Go.XL
theorem aMi {n : Int} (h : (Lit.int .u8 n).wf = true) : 0 ≤ n ∧ n ≤ 255:=by
 simpa [Lit.wf,IntKind.min,IntKind.max,IntKind.signed,IntKind.bits] using h
section
variable {C : Ctx} {ops : Array Oper} {Q : Exit → St → Prop} {rest : List Oper} {env : Env} {df : List Deferred} {H : Hp} {own : Own}
variable {dst : Option Tmp} {ty : TypeId} {pos : String} {af : Array Edge}
theorem XO.maxI {s t : TypeId} {x y : Operand} {k : IntKind} {a b c : Int} (hx : ev env x = some (.int k a)) (hy : ev env y = some (.int k b)) (hc : (if b > a then b else a) = c) (hd : eP C.N dst = true)
  (h : XO C ops Q rest ⟨fJ dst (.int k c) env,df,H,own⟩) :
  XO C ops Q (⟨dst,.call { callee:=.builtin .max,args:=#[x,y],argTypes:=#[s,t] },ty,pos,af,none⟩ :: rest) ⟨env,df,H,own⟩ :=
 fN rfl rfl hd (fun ρ ha w=>by
  subst hc
  simp only [execOp,resolve,Sem.run_bind]
  simp only [Pure.pure,Sem.run,Result.andThen,invoke,builtin,Sem.run_bind,Builtin.max_]
  simp [ha _ _ hx,ha _ _ hy,Sem.run_bind,Result.andThen,Pure.pure,Sem.run,Builtin.max2,List.foldlM]) h
end
end Go.XL

namespace Go.XL
def jZ (cre : List Nat) (L : Array Bool) (ent : Nat → Nat × SObj) : Own:=(cre.filter (lst L)).map ent
theorem aG8 {cre : List Nat} {L : Array Bool} {ent : Nat → Nat × SObj} (h : ∀ j,lst L j = false) : jZ cre L ent = []:=by
 rw [jZ,List.filter_eq_nil_iff.2 (fun j _=>by rw [h j];simp)];rfl
theorem aEg {cre : List Nat} {L L' : Array Bool} {ent : Nat → Nat × SObj} {i : Nat} {p : Nat × SObj} (hi : i ∉ cre) (hL : ∀ j,lst L' j = if j = i then true else lst L j) :
    jZ cre L' (fun j=>if j = i then p else ent j) = jZ cre L ent:=by
  unfold jZ
  induction cre with
  | nil=>rfl
  | cons c cre ih =>
    have h1 : c ≠ i:=fun e=>hi (by simp [e])
    have h2:=ih (fun h=>hi (by simp [h]))
    rw [List.filter_cons,List.filter_cons,hL,if_neg h1]
    split
    · rw [List.map_cons,List.map_cons,h2,if_neg h1]
    exact h2
theorem aJ9 {cre : List Nat} {L L' : Array Bool} {ent : Nat → Nat × SObj} {i : Nat} {p : Nat × SObj} (hnd : cre.Nodup) (hi : i ∈ cre) (hun : lst L i = false) (hL : ∀ j,lst L' j = if j = i then true else lst L j) :
    (jZ cre L' (fun j=>if j = i then p else ent j)).Perm (p :: jZ cre L ent):=by
  induction cre with
  | nil=>cases hi
  | cons c cre ih =>
    rw [List.nodup_cons] at hnd
    by_cases hc : c = i
    · subst hc
      have h1:=aEg (ent:=ent) (p:=p) hnd.1 hL
      unfold jZ at h1 ⊢
      rw [List.filter_cons,List.filter_cons,hL,if_pos rfl,hun,if_pos rfl,if_neg (by simp),List.map_cons,h1,if_pos rfl]
    have hi' : i ∈ cre:=by
      rcases List.mem_cons.1 hi with h | h
      · exact absurd h.symm hc
      exact h
    have h2:=ih hnd.2 hi'
    unfold jZ at h2 ⊢
    rw [List.filter_cons,List.filter_cons,hL,if_neg hc]
    split
    · rw [List.map_cons,List.map_cons,if_neg hc]
      exact (h2.cons _).trans (List.Perm.swap ..)
    exact h2
def qT (l : List Oper) (FO : Nat → Value → Nat × SObj → Hp → Prop) (H : Hp) (acc : Env) : List Nat → (Own → Prop) → Prop
 | [],K=>K []
 | i :: is,K=>∀ p,(∀ v,(∃ t,eJ l i = some t ∧ Env.get acc t = some v) → FO i v p H) → qT l FO H acc is fun es=>K (p :: es)
theorem vC {l : List Oper} {FO : Nat → Value → Nat × SObj → Hp → Prop} {H : Hp} {acc : Env} {ent : Nat → Nat × SObj} : ∀ (cre : List Nat) (K : Own → Prop),qT l FO H acc cre K → (∀ i ∈ cre,∀ v,(∃ t,eJ l i = some t ∧ Env.get acc t = some v) → FO i v (ent i) H) → K (cre.map ent)
 | [],K,h,_=>h
 | i :: is,K,h,hf=>vC is _ (h (ent i) (hf i (by simp))) (fun j hj=>hf j (by simp [hj]))
theorem nC : ∀ {e : Env} {t : Nat} {u : Value},Env.get e t = some u → (t,u) ∈ e
  | (k,u') :: r,t,u,h=>by
    simp only [Env.get] at h
    cases hb : Nat.beq k t with
    | true=>rw [hb] at h;simp at h;subst h;rw [← Nat.eq_of_beq_eq_true hb];simp
    | false=>rw [hb] at h;exact List.mem_cons_of_mem _ (nC h)
theorem iO {l : List Oper} {FO : Nat → Value → Nat × SObj → Hp → Prop} {H : Hp} {acc : Env} {i : Nat} {is : List Nat} {K : Own → Prop} (h : ∀ p,(∀ v,(∃ t,eJ l i = some t ∧ Env.get acc t = some v) → FO i v p H) → qT l FO H acc is fun es=>K (p :: es)) : qT l FO H acc (i :: is) K:=h
theorem fL {l : List Oper} {FO : Nat → Value → Nat × SObj → Hp → Prop} {H : Hp} {acc : Env} {K : Own → Prop} (h : K []) : qT l FO H acc [] K:=h
def slG {α : Type} (ρ : Rep α) (l : List α) : Value → Hp → Prop:=fun v H=>∃ a c,v = .slice a l.length c ∧ SlR ρ H a c l
theorem lD {α : Type} (ρ : Rep α) (l : List α) : ∀ v H H',Le H H' → slG ρ l v H → slG ρ l v H':=fun _ _ _ hle ⟨a,c,h1,h2⟩=>⟨a,c,h1,h2.mono hle⟩
def lH {α : Type} (ρ : Rep α) (T : TypeId) (l : List α) : Nat → Value → Nat × SObj → Hp → Prop:=fun _ v p H=>∃ a c,v = .slice a l.length c ∧ Acc ρ T H p a c l
theorem wF {α : Type} (ρ : Rep α) (T : TypeId) (l : List α) : ∀ i v p H H',Le H H' → lH ρ T l i v p H → lH ρ T l i v p H':=fun _ _ _ _ _ hle ⟨a,c,h1,h2⟩=>⟨a,c,h1,h2.mono hle⟩
def rC : Value → Hp → Prop:=fun _ _=>True
theorem gR : ∀ v H H',Le H H' → rC v H → rC v H':=fun _ _ _ _ _=>trivial
def sF (Gd : Hp → Prop) (cre : List Nat) (k : Nat) (dst : Option Tmp) (f : Value → Hp → Prop) (fo : Value → Nat × SObj → Hp → Prop) (env : Env) (df : List Deferred) (own : Own) : Exit → St → Prop
 | .normal,σ=>Gd σ.H ∧ σ.df = df ∧ ∃ v p,σ.env = fJ dst v env ∧ f v σ.H ∧ (bif cre.contains k then σ.own = p :: own ∧ fo v p σ.H else σ.own = own)
 | _,_=>False
theorem bN {Gd : Hp → Prop} {cre : List Nat} {k : Nat} {dst : Option Tmp} {f : Value → Hp → Prop} {fo : Value → Nat × SObj → Hp → Prop} {env : Env} {df : List Deferred} {own : Own} {H : Hp} {v : Value} (hk : cre.contains k = false) (hG : Gd H) (hf : f v H) : sF Gd cre k dst f fo env df own .normal ⟨fJ dst v env,df,H,own⟩:=⟨hG,rfl,v,(0,.nothing),rfl,hf,by rw [hk];rfl⟩
theorem kJ {Gd : Hp → Prop} {cre : List Nat} {k : Nat} {dst : Option Tmp} {f : Value → Hp → Prop} {fo : Value → Nat × SObj → Hp → Prop} {env : Env} {df : List Deferred} {own : Own} {H : Hp} {v : Value} {p : Nat × SObj} (hk : cre.contains k = true) (hG : Gd H) (hf : f v H) (hfo : fo v p H) : sF Gd cre k dst f fo env df own .normal ⟨fJ dst v env,df,H,p :: own⟩:=⟨hG,rfl,v,p,rfl,hf,by rw [hk];exact ⟨rfl,hfo⟩⟩
def stepsN (Gd : Hp → Prop) (cre : List Nat) (FO : Nat → Value → Nat × SObj → Hp → Prop) (C : Ctx) (l : List Oper) (F : List (Value → Hp → Prop)) (env : Env) (df : List Deferred) (H : Hp) (own : Own) (m : Nat) : Nat → List Oper → Prop
  | _,[]=>True
  | k,o :: rest=>bif Nat.blt k m then
      (∀ X ext H',Le H H' → Gd H' → iS l F H' (rK o) [] fun acc=>XO C l.toArray (sF Gd cre k o.dst (gC F k) (FO k) (acc ++ (env ++ X)) df (own ++ ext)) [o] ⟨acc ++ (env ++ X),df,H',own ++ ext⟩) ∧ stepsN Gd cre FO C l F env df H own m (k + 1) rest
    else True
section
variable {C : Ctx} {Q : Exit → St → Prop} {env : Env} {df : List Deferred} {H : Hp} {own : Own}
variable {ops : Array Oper} {rest : List Oper}
variable {dst : Option Tmp} {ty : TypeId} {pos : String} {af : Array Edge}
theorem XO.appendN {α : Type} {ρ : Rep α} {t e : TypeId} {x y : Operand} {a a' : Option Addr} {c c' n n' : Nat} {l l' : List α} {zs : List Value} {agg : Bool}
    (hx : ev env x = some (.slice a n c)) (hs : SlR ρ H a c l) (hln : n = l.length) (hy : ev env y = some (.slice a' n' c')) (hsrc : SlR ρ H a' c' l') (hln' : n' = l'.length) (hroom : c < l.length + l'.length)
    (ht : C.P.underlying t = some (.slice e)) (he : tyF C.P e ρ.sz agg = true) (hz : gH C.P e = some zs) (hzl : Nat.beq zs.length ρ.sz = true) (hby : Nat.ble (C.P.bytesOf e) 4096 = true) (hn : l.length + l'.length ≤ 1073741824) (hd : eP C.N dst = true)
    (h : ∀ p' a'' c'',Acc ρ e H p' a'' c'' (l ++ l') → XO C ops Q rest ⟨fJ dst (.slice a'' (l ++ l').length c'') env,df,H,p' :: own⟩) :
    XO C ops Q (⟨dst,.call { callee:=.builtin .append,args:=#[x,y],argTypes:=#[t,t] },ty,pos,af,none⟩ :: rest) ⟨env,df,H,own⟩:=by
  cases a with
  | none =>
    obtain rfl:=hs.nil rfl
    have hl0 : l = []:=List.length_eq_zero_iff.1 (by have:=hs.le;omega)
    subst hl0
    refine sN (σ:=[]) fun b=>?_
    refine fB 0 hx rfl (Acc.nil ρ e H b) hln hy hsrc hln' ht he hz hzl hby hn hd fun p' a'' c'' hacc=>?_
    exact h p' a'' c'' hacc
  | some ad =>
    refine sN (σ:=[]) fun b=>?_
    subst hln;subst hln'
    refine lJ rfl rfl hd fun ρ' w fr ha hok=>?_
    have hcs:=hs.cells
    obtain ⟨cs,hrows0,hcells0⟩:=hcs
    obtain ⟨_,inf,hi,hsz⟩:=nQ he
    have hzl':=Nat.eq_of_beq_eq_true hzl
    have hby0:=Nat.le_of_ble_eq_true hby
    have hby' : inf.bytes ≤ 4096:=by simpa [Program.bytesOf,hi] using hby0
    have hmul : (l.length + l'.length) * inf.bytes ≤ 140737488355328:=Nat.le_trans (Nat.mul_le_mul hn hby') (by decide)
    obtain ⟨z,hzz,hzc⟩ : ∃ z,inf.zero = some z ∧ z.cells = zs.toArray:=by
      unfold gH at hz
      rw [hi] at hz
      simp only at hz
      split at hz
      · rename_i z hzz;exact ⟨z,hzz,lQ hz⟩
      cases hz
    have hpos : 0 < l'.length:=by have:=hs.le;omega
    obtain ⟨x0,lt,hl'⟩ : ∃ x0 lt,l' = x0 :: lt:=by cases l' with | nil=>simp at hpos | cons x0 lt=>exact ⟨x0,lt,rfl⟩
    obtain ⟨cs',hrows,hcells⟩:=hsrc.cells
    obtain ⟨b',o',c0,ha',_,_⟩:=hsrc.el 0 x0 (by rw [hl'];rfl)
    have hnews : ∀ j v,cs'[j]? = some v → w.cell? ((⟨b',o',none⟩ : Addr).add j) = some v:=by
      intro j v hj
      obtain ⟨cc,T,fz,hH,hc⟩:=hcells b' o' ha' j v hj
      rw [jV]
      simp [World.cell?,hok.pub _ _ hH,hc]
    have holds : ∀ j v,cs[j]? = some v → w.cell? (ad.add j) = some v:=by
      intro j v hj
      cases hl : l with
      | nil =>
        rw [hl] at hrows0
        obtain rfl : cs = []:=hrows0
        simp at hj
      | cons y0 ly =>
        obtain ⟨b1,o1,_,had,_,_⟩:=hs.el 0 y0 (by rw [hl];rfl)
        obtain ⟨cc,T,fz,hH,hc⟩:=hcells0 b1 o1 had j v hj
        cases had
        rw [jV]
        simp [World.cell?,hok.pub _ _ hH,hc]
    have rF : cs'.length = l'.length * inf.size:=by rw [hsz];exact hrows.length
    have hrun:=run_append_grow (P:=C.P) (w:=w) t ty e inf z ht hi hzz ad l.length c cs (by rw [hsz];exact hrows0.length) holds
      ⟨b',o',none⟩ l'.length c' cs' rF hnews (by omega) (by omega) (growslice_fits (by omega) hmul)
    have hge:=grownCap_ge w (l.length + l'.length) c e
    have hok' : Ok C.G H (Own.set2 ((b,SObj.nothing) :: own) 0 (w.heap.size,.row e (grownCap w (l.length + l'.length) c e * ρ.sz) (cs ++ cs')) ++ fr) (w.drew.alloc (.cells (cs.toArray ++ cs'.toArray ++ Builtin.zeroCells z.cells (grownCap w (l.length + l'.length) c e - (l.length + l'.length))) e)):=by
      refine hok.swap (i:=0) rfl ⟨(Builtin.zeroCells z.cells (grownCap w (l.length + l'.length) c e - (l.length + l'.length))).toList,by simp,?_⟩
      rw [hzc,List.length_append,kK,hzl',List.length_append,hrows0.length,hrows.length,← Nat.add_mul,← Nat.add_mul]
      congr 1;omega
    refine ⟨.value (.slice (some ⟨w.heap.size,0,none⟩) (l ++ l').length (grownCap w (l.length + l'.length) c e)),_,_,H,_,?_,.inl rfl,Le.refl _,hok',h _ _ _ (.inr ⟨cs ++ cs',rfl,rfl,hrows0.append hrows,by simpa using hge⟩)⟩
    subst ha'
    simp only [execOp,resolve,Sem.run_bind]
    simp only [Pure.pure,Sem.run,Result.andThen,invoke,builtin,Sem.run_bind]
    simp [ha _ _ hx,ha _ _ hy,hrun,Result.andThen,Sem.run]
end
end Go.XL

namespace Go.XL
theorem tJ {P : Program} {t : TypeId} {k : IntKind} {cs : Array Value} {off : Nat} {v : Value} {w : World} (ht : P.underlying t = some (.int k)) (hv : cs[off]? = some v) : (part t cs off).run P w = .ok v w:=by
 unfold part
 simp only [Sem.run_bind,isAgg,dR ht,Result.andThen]
 simp [hv,Sem.run,Pure.pure]
section
variable {C : Ctx} {ops : Array Oper} {Q : Exit → St → Prop} {rest : List Oper} {env : Env} {df : List Deferred} {H : Hp} {own : Own}
variable {dst : Option Tmp} {ty : TypeId} {pos : String} {af : Array Edge}
end
end Go.XL

namespace Go.XL
theorem fP {α : Type} {l : List α} {k : Nat} {x : α} (h : l[k]? = some x) : l.take (k + 1) = l.take k ++ [x]:=by
 rw [List.take_add_one,h];rfl
theorem lN {α β : Type} {f : α → β} {l : List α} {k : Nat} {x : α} (h : l[k]? = some x) : (l.take (k + 1)).map f = (l.take k).map f ++ [f x]:=by
 rw [fP h,List.map_append];rfl
theorem aCv {α : Type} {q : α → Prop} {l : List α} {k : Nat} {x : α} (h : ∀ y ∈ l.take k,¬ q y) (hx : l[k]? = some x) (hn : ¬ q x) : ∀ y ∈ l.take (k + 1),¬ q y:=by
 intro y hy
 rw [fP hx] at hy
 rcases List.mem_append.1 hy with h1 | h1
 ·exact h y h1
 simp at h1;subst h1;exact hn
section
variable {C : Ctx} {ops : Array Oper} {Q : Exit → St → Prop} {rest : List Oper} {env : Env} {df : List Deferred} {H : Hp} {own : Own}
variable {dst : Option Tmp} {ty : TypeId} {pos : String} {af : Array Edge}
theorem rT {α : Type} {ρ : Rep α} {t e : TypeId} {n : Nat} {agg : Bool} {ps : List (Nat × Operand)} {vs : List (Nat × Value)} {zs r : List Value} {l : List α} (hv : evP env ps = some vs) (ht : C.P.underlying t = some (.slice e)) (he : tyF C.P e ρ.sz agg = true) (hz : gH C.P e = some zs)
  (hzl : (Nat.blt 0 ρ.sz && Nat.beq zs.length ρ.sz && Nat.ble (n * ρ.sz) 16777216) = true) (hr : aB8 (fun i=>some (i * ρ.sz,ρ.sz)) (qI zs n) vs = some r) (hl : l.length = n) (hR : eN ρ H r l) (hd : eP C.N dst = true)
  (h : ∀ p a c,Acc ρ e H p a c l → XO C ops Q rest ⟨fJ dst (.slice a l.length c) env,df,H,p :: own⟩) :
  XO C ops Q (⟨dst,.buildSlice t n ps.toArray,ty,pos,af,none⟩ :: rest) ⟨env,df,H,own⟩:=by
 refine dB hv ht he hz hzl hr hd fun b=>XO.toRow 0 rfl ?_
 subst hl
 have:=h (b,.row e r.length r) (some ⟨b,0,none⟩) l.length (by rw [hR.length];exact Acc.lit hR)
 exact this
theorem XO.makeRow {α : Type} {ρ : Rep α} {t e : TypeId} {x y : Operand} {k k' : IntKind} {n : Nat} {zs : List Value} {agg : Bool} (u : α) (hx : ev env x = some (.int k n)) (hy : ev env y = some (.int k' n)) (ht : C.P.underlying t = some (.slice e)) (he : tyF C.P e ρ.sz agg = true) (hz : gH C.P e = some zs)
  (hzl : (Nat.blt 0 ρ.sz && Nat.beq zs.length ρ.sz) = true) (hby : Nat.ble (C.P.bytesOf e) 4096 = true) (hn : n ≤ 1073741824) (hR : ρ.R H zs u) (hd : eP C.N dst = true)
  (h : ∀ p c,Acc ρ e H p (some ⟨p.1,0,none⟩) c (List.replicate n u) → XO C ops Q rest ⟨fJ dst (.slice (some ⟨p.1,0,none⟩) n c) env,df,H,p :: own⟩) :
  XO C ops Q (⟨dst,.makeSlice t x y,ty,pos,af,none⟩ :: rest) ⟨env,df,H,own⟩ :=
 XO.makeSlice u hx hy ht he hz hzl hby hn hR hd fun b hacc=>h (b,_) n hacc
theorem qF {xt yt : TypeId} {x y : Operand} {k yk : IntKind} {a b : Int} (hx : ev env x = some (.int k a)) (hy : ev env y = some (.int yk b)) (h0 : 0 ≤ b) (hd : eP C.N dst = true)
  (h : XO C ops Q rest ⟨fJ dst (.int k (a.fdiv (2 ^ min b.toNat k.bits))) env,df,H,own⟩) : XO C ops Q (⟨dst,.binOp .shr xt x y yt,ty,pos,af,none⟩ :: rest) ⟨env,df,H,own⟩ :=
 fN rfl rfl hd (fun ρ ha w=>by
  rw [kQ (ha _ _ hx) (ha _ _ hy)]
  have h1 : ¬ b < 0:=by omega
  simp [binOp,Op.shift,h1,Sem.run,Pure.pure,Result.andThen]) h
theorem aH8 {xt yt : TypeId} {x y : Operand} {k yk : IntKind} {a b : Int} (hx : ev env x = some (.int k a)) (hy : ev env y = some (.int yk b)) (h0 : 0 ≤ b) (hd : eP C.N dst = true)
  (h : XO C ops Q rest ⟨fJ dst (.int k (k.wrap (a * 2 ^ min b.toNat k.bits))) env,df,H,own⟩) : XO C ops Q (⟨dst,.binOp .shl xt x y yt,ty,pos,af,none⟩ :: rest) ⟨env,df,H,own⟩ :=
 fN rfl rfl hd (fun ρ ha w=>by
  rw [kQ (ha _ _ hx) (ha _ _ hy)]
  have h1 : ¬ b < 0:=by omega
  simp [binOp,Op.shift,h1,Sem.run,Pure.pure,Result.andThen]) h
theorem aA4 {xt yt : TypeId} {x y : Operand} {k : IntKind} {a b : Int} (hx : ev env x = some (.int k a)) (hy : ev env y = some (.int k b)) (hd : eP C.N dst = true)
  (h : XO C ops Q rest ⟨fJ dst (.int k (k.wrap (BitVec.ofInt k.bits a &&& BitVec.ofInt k.bits b).toNat)) env,df,H,own⟩) : XO C ops Q (⟨dst,.binOp .and xt x y yt,ty,pos,af,none⟩ :: rest) ⟨env,df,H,own⟩ :=
 fN rfl rfl hd (fun ρ ha w=>by rw [kQ (ha _ _ hx) (ha _ _ hy)];simp [binOp,Op.intBits,Sem.run,Pure.pure,Result.andThen]) h
theorem aBo {xt yt : TypeId} {x y : Operand} {k : IntKind} {a b : Int} (hx : ev env x = some (.int k a)) (hy : ev env y = some (.int k b)) (hd : eP C.N dst = true)
  (h : XO C ops Q rest ⟨fJ dst (.int k (k.wrap (BitVec.ofInt k.bits a ||| BitVec.ofInt k.bits b).toNat)) env,df,H,own⟩) : XO C ops Q (⟨dst,.binOp .or xt x y yt,ty,pos,af,none⟩ :: rest) ⟨env,df,H,own⟩ :=
 fN rfl rfl hd (fun ρ ha w=>by rw [kQ (ha _ _ hx) (ha _ _ hy)];simp [binOp,Op.intBits,Sem.run,Pure.pure,Result.andThen]) h
theorem pT {xt yt : TypeId} {x y : Operand} {k : IntKind} {a b : Int} (hx : ev env x = some (.int k a)) (hy : ev env y = some (.int k b)) (hd : eP C.N dst = true)
  (h : XO C ops Q rest ⟨fJ dst (.int k (k.wrap (BitVec.ofInt k.bits a ^^^ BitVec.ofInt k.bits b).toNat)) env,df,H,own⟩) : XO C ops Q (⟨dst,.binOp .xor xt x y yt,ty,pos,af,none⟩ :: rest) ⟨env,df,H,own⟩ :=
 fN rfl rfl hd (fun ρ ha w=>by rw [kQ (ha _ _ hx) (ha _ _ hy)];simp [binOp,Op.intBits,Sem.run,Pure.pure,Result.andThen]) h
end
end Go.XL

namespace Go.XL
def gM (o : Oper) : List Nat:=o.after.toList.filterMap fun e=>match e.ground with | .data=>some e.on | .guard=>some e.on | _=>none
def iV (l : List Oper) (F : List (Value → Hp → Prop)) (H' : Hp) : List Nat → Env → (Env → Prop) → Prop
  | [],acc,K=>K acc
  | j :: js,acc,K=>match eJ l j with
    | some t=>∀ v,gC F j v H' → iV l F H' js ((t,v) :: acc) K
    | none=>iV l F H' js acc K
theorem dD {l : List Oper} {F : List (Value → Hp → Prop)} {H' : Hp} {js js' : List Nat} {j t : Nat} {acc : Env} {K : Env → Prop} (hj : js = j :: js') (ht : eJ l j = some t) (h : ∀ v,gC F j v H' → iV l F H' js' ((t,v) :: acc) K) : iV l F H' js acc K:=by
 subst hj;simp only [iV,ht];exact h
theorem oT {l : List Oper} {F : List (Value → Hp → Prop)} {H' : Hp} {js js' : List Nat} {j : Nat} {acc : Env} {K : Env → Prop} (hj : js = j :: js') (ht : eJ l j = none) (h : iV l F H' js' acc K) : iV l F H' js acc K:=by
 subst hj;simp only [iV,ht];exact h
theorem bG {l : List Oper} {F : List (Value → Hp → Prop)} {H' : Hp} {js : List Nat} {acc : Env} {K : Env → Prop} (hj : js = []) (h : K acc) : iV l F H' js acc K:=by subst hj;exact h
theorem mQ {l : List Oper} {F : List (Value → Hp → Prop)} {H' : Hp} {val : Nat → Value} : ∀ (js : List Nat) (acc : Env) (K : Env → Prop),iV l F H' js acc K → (∀ j ∈ js,∀ t,eJ l j = some t → gC F j (val j) H') →
    ∃ acc',K (acc' ++ acc) ∧ ∀ t v,(t,v) ∈ acc' → ∃ j ∈ js,eJ l j = some t ∧ v = val j
  | [],acc,K,h,_=>⟨[],h,fun _ _ h=>by cases h⟩
  | j :: js,acc,K,h,hf=>by
    cases ht : eJ l j with
    | none =>
      simp only [iV,ht] at h
      obtain ⟨acc',hk,hm⟩:=mQ js _ K h (fun j' hj'=>hf j' (by simp [hj']))
      exact ⟨acc',hk,fun t v hv=>let ⟨j',hj',h3⟩:=hm t v hv;⟨j',by simp [hj'],h3⟩⟩
    | some t =>
      simp only [iV,ht] at h
      obtain ⟨acc',hk,hm⟩:=mQ js _ K (h (val j) (hf j (by simp) t ht)) (fun j' hj'=>hf j' (by simp [hj']))
      refine ⟨acc' ++ [(t,val j)],by simpa using hk,fun t' v' hm'=>?_⟩
      rcases List.mem_append.1 hm' with hm' | hm'
      · obtain ⟨j',hj',h3⟩:=hm t' v' hm';exact ⟨j',by simp [hj'],h3⟩
      simp only [List.mem_singleton,Prod.mk.injEq] at hm'
      obtain ⟨rfl,rfl⟩:=hm'
      exact ⟨j,by simp,ht,rfl⟩
def rP (m : Nat) (l : List Oper) (keys : List Nat) : Bool :=
  Nat.ble m l.length && (List.range m).all (fun i=>match l[i]? with
    | some o=>qH o.op && (match o.dst with
      | some t=>!keys.contains t && (List.range m).all (fun j=>Nat.beq i j || !(eJ l j == some t))
      | none=>true) && (o.after.toList.all fun e=>!Region.binds .any e || Nat.blt e.on i) && (gM o).all (fun j=>Nat.blt j m && o.after.toList.any fun e=>Region.binds .any e && Nat.beq e.on j)
    | none=>false) &&
  (List.range l.length).all (fun i=>Nat.blt i m || match l[i]? with
    | some o=>(List.range i).all (fun j=>pF l l.length o j) && (o.after.toList.all fun e=>!Region.binds .any e || Nat.blt e.on i)
    | none=>false)
def tT (Gd : Hp → Prop) (cre : List Nat) (FO : Nat → Value → Nat × SObj → Hp → Prop) (C : Ctx) (l : List Oper) (F : List (Value → Hp → Prop)) (env : Env) (df : List Deferred) (H : Hp) (own : Own) (m : Nat) : Nat → List Oper → Prop
  | _,[]=>True
  | k,o :: rest=>bif Nat.blt k m then
      (∀ X ext H',Le H H' → Gd H' → iV l F H' (gM o) [] fun acc=>XO C l.toArray (sF Gd cre k o.dst (gC F k) (FO k) (acc ++ (env ++ X)) df (own ++ ext)) [o] ⟨acc ++ (env ++ X),df,H',own ++ ext⟩) ∧ tT Gd cre FO C l F env df H own m (k + 1) rest
    else True
theorem bJ {Gd : Hp → Prop} {cre : List Nat} {FO : Nat → Value → Nat × SObj → Hp → Prop} {C : Ctx} {l : List Oper} {F : List (Value → Hp → Prop)} {env : Env} {df : List Deferred} {H : Hp} {own : Own} {m k : Nat} {o : Oper} {rest : List Oper} (hk : Nat.blt k m = true)
  (h : ∀ X ext H',Le H H' → Gd H' → iV l F H' (gM o) [] fun acc=>XO C l.toArray (sF Gd cre k o.dst (gC F k) (FO k) (acc ++ (env ++ X)) df (own ++ ext)) [o] ⟨acc ++ (env ++ X),df,H',own ++ ext⟩) (k2 : tT Gd cre FO C l F env df H own m (k + 1) rest) : tT Gd cre FO C l F env df H own m k (o :: rest):=by
 rw [tT,hk];exact ⟨h,k2⟩
theorem gI {Gd : Hp → Prop} {cre : List Nat} {FO : Nat → Value → Nat × SObj → Hp → Prop} {C : Ctx} {l : List Oper} {F : List (Value → Hp → Prop)} {env : Env} {df : List Deferred} {H : Hp} {own : Own} {m k : Nat} {rest : List Oper} (hk : Nat.blt k m = false) : tT Gd cre FO C l F env df H own m k rest:=by
 cases rest with
 | nil=>trivial
 | cons o r=>rw [tT,hk];trivial
theorem kU {d : Option Tmp} {v : Value} {e : Env} {t : Nat} (h : d ≠ some t) : Env.get (fJ d v e) t = Env.get e t:=by
 cases d with
 | none=>rfl
 | some s=>simp only [fJ,Env.get];rw [show Nat.beq s t = false from aIu fun e=>h (by rw [e])];rfl
theorem gP : ∀ (e : Env) (t : Nat) (u : Value),Env.get e t = some u → (t,u) ∈ e:=fun _ _ _ h=>nC h
theorem sX {tj : Nat} {u0 : Value} : ∀ (e : Env),(tj,u0) ∈ e → (∀ u,(tj,u) ∈ e → u = u0) → Env.get e tj = some u0
  | [],h,_=>by cases h
  | (k,u') :: r,h,hu2=>by
    simp only [Env.get]
    cases hb : Nat.beq k tj with
    | true =>
      have:=Nat.eq_of_beq_eq_true hb
      subst this
      rw [hu2 u' (by simp)];rfl
    | false =>
      simp only [cond_false]
      refine sX r ?_ (fun u hu3=>hu2 u (List.mem_cons_of_mem _ hu3))
      rcases List.mem_cons.1 h with h | h
      · cases h;simp at hb
      exact h
theorem tM {l : List Oper} {L : Array Bool} {m : Nat} (hml : m ≤ l.length) (hall : ∀ j,j < m → lst L j = true) (hT : ∀ j,m ≤ j → lst L j = false) : l.length - m = unl l.length L:=by
  have : unl l.length L = (List.range l.length).countP fun i=>decide (m ≤ i):=by
    refine List.countP_congr fun i hi=>?_
    rcases Nat.lt_or_ge i m with h | h
    · rw [hall i h];simp;omega
    rw [hT i h];simp [h]
  rw [this]
  have key : ∀ n,m ≤ n → (List.range n).countP (fun i=>decide (m ≤ i)) = n - m:=by
    intro n
    induction n with
    | zero=>intro h;simp
    | succ n ihn =>
      intro h
      rw [List.range_succ,List.countP_append]
      rcases Nat.lt_or_ge n m with h' | h'
      · have : n + 1 = m:=by omega
        subst this
        have h0 : (List.range n).countP (fun i=>decide (n + 1 ≤ i)) = 0:=by
          rw [List.countP_eq_zero];intro i hi;simp at hi ⊢;omega
        rw [h0];simp
      rw [ihn h'];simp [h'];omega
  exact (key _ hml).symm
section
variable {C : Ctx} {Q : Exit → St → Prop} {env : Env} {df : List Deferred} {H : Hp} {own : Own}
theorem aC9 {Gd : Hp → Prop} {cre : List Nat} {FO : Nat → Value → Nat × SObj → Hp → Prop} {l : List Oper} {F : List (Value → Hp → Prop)} {m : Nat} : ∀ (rest : List Oper) (k : Nat),tT Gd cre FO C l F env df H own m k rest → ∀ (i : Nat) (o : Oper),rest[i]? = some o → k + i < m →
    ∀ X ext H',Le H H' → Gd H' → iV l F H' (gM o) [] fun acc=>XO C l.toArray (sF Gd cre (k + i) o.dst (gC F (k + i)) (FO (k + i)) (acc ++ (env ++ X)) df (own ++ ext)) [o] ⟨acc ++ (env ++ X),df,H',own ++ ext⟩
  | [],k,_,i,o,hi,_=>by simp at hi
  | x :: rest,k,h,i,o,hi,hlt=>by
    simp only [tT] at h
    rw [show Nat.blt k m = true by simp;omega] at h
    cases i with
    | zero=>simp only [List.getElem?_cons_zero,Option.some.injEq] at hi;subst hi;exact h.1
    | succ i =>
      have:=aC9 rest (k + 1) h.2 i o (by simpa using hi) (by omega)
      rwa [show k + 1 + i = k + (i + 1) by omega] at this
theorem iG (Gd : Hp → Prop) (hG : Gd H) (cre : List Nat) (hnd0 : cre.Nodup) (FO : Nat → Value → Nat × SObj → Hp → Prop) (hFO : ∀ i v p H H',Le H H' → FO i v p H → FO i v p H') {id : Nat} {l : List Oper} (m : Nat) (F : List (Value → Hp → Prop)) (hm : C.P.follows .mixedOrders = true) (hck : rP m l (env.map Prod.fst) = true) (hmono' : aAl F)
    (hcm : (cre.all fun i=>Nat.blt i m) = true) (steps : tT Gd cre FO C l F env df H own m 0 l)
    (tail : ∀ H',Le H H' → Gd H' → iV l F H' (List.range m) [] fun acc=>qT l FO H' acc cre fun es=>XO C l.toArray Q (l.drop m) ⟨acc ++ env,df,H',es ++ own⟩) : XC C (.region id l.toArray true) Q ⟨env,df,H,own⟩:=by
  have hmono:=vB hmono'
  intro a₀ w₀ hr₀
  refine wpIn_region_any hm ?_
  simp only [rP,Bool.and_eq_true,List.all_eq_true,List.mem_range] at hck
  obtain ⟨⟨hml,hck1⟩,hck2⟩:=hck
  have hml:=Nat.le_of_ble_eq_true hml
  have hpre : ∀ i,i < m → ∃ o,l[i]? = some o ∧ (∀ t,o.dst = some t → t ∉ env.map Prod.fst ∧ (∀ j,j < m → i ≠ j → eJ l j ≠ some t)) ∧ (∀ e ∈ o.after,Region.binds .any e = true → e.on < i) ∧ (∀ j ∈ gM o,j < m ∧ ∃ e ∈ o.after,Region.binds .any e = true ∧ e.on = j):=by
    intro i hi
    have h:=hck1 i hi
    split at h
    · rename_i o ho
      simp only [Bool.and_eq_true,List.all_eq_true] at h
      obtain ⟨⟨⟨hnd,hd⟩,haf⟩,hp⟩:=h
      refine ⟨o,ho,?_,?_,?_⟩
      · intro t ht
        rw [ht] at hd
        simp only [Bool.and_eq_true,List.all_eq_true,List.mem_range,Bool.not_eq_true',List.contains_eq_mem,decide_eq_false_iff_not] at hd
        refine ⟨hd.1,fun j hj hne he=>?_⟩
        have:=hd.2 j hj
        rw [he] at this
        simp at this
        exact hne this
      · intro e he hb
        have:=haf e (by simpa using he)
        simpa [hb] using this
      intro j hj
      have:=hp j hj
      simp only [List.any_eq_true,Bool.and_eq_true] at this
      obtain ⟨h1,e,he,hb,hon⟩:=this
      exact ⟨by simpa using h1,e,by simpa using he,hb,Nat.eq_of_beq_eq_true hon⟩
    cases h
  have hkey : ∀ i t,i < m → eJ l i = some t → t ∉ env.map Prod.fst:=by
    intro i t hi ht
    obtain ⟨o,ho,hd,_⟩:=hpre i hi
    exact (hd t (by simpa [eJ,ho] using ht)).1
  have hdis : ∀ i j t,i < m → j < m → eJ l i = some t → eJ l j = some t → i = j:=by
    intro i j t hi hj ht ht2
    obtain ⟨o,ho,hd,_⟩:=hpre i hi
    by_cases h : i = j
    · exact h
    exact absurd ht2 ((hd t (by simpa [eJ,ho] using ht)).2 j hj h)
  have htl : ∀ (i : Nat) (o : Oper),m ≤ i → l[i]? = some o → (∀ j,j < i → pF l l.length o j = true) ∧ (∀ e ∈ o.after,Region.binds .any e = true → e.on < i):=by
    intro i o hi ho
    have hlt:=(List.getElem?_eq_some_iff.1 ho).1
    have h:=hck2 i hlt
    rw [ho] at h
    rw [show Nat.blt i m = false from aBy hi] at h
    simp only [Bool.false_or,Bool.and_eq_true,List.all_eq_true,List.mem_range] at h
    refine ⟨fun j hj=>h.1 j hj,fun e he hb=>?_⟩
    · have:=h.2 e (by simpa using he)
      simpa [hb] using this
  have hdc : ∀ (i : Nat) (o : Oper),l[i]? = some o → ∀ e ∈ o.after,Region.binds .any e = true → e.on < i:=by
    intro i o ho
    rcases Nat.lt_or_ge i m with h | h
    · obtain ⟨o2,ho2,_,haf,_⟩:=hpre i h
      rw [ho] at ho2;cases ho2;exact haf
    exact (htl i o h ho).2
  have main : ∀ (fuel : Nat) (L : Array Bool) (a : Act) (w : World) (val : Nat → Value) (ent : Nat → Nat × SObj) (H' : Hp),L.size = l.length → unl l.length L ≤ fuel → Le H H' → Gd H' → (∀ (i : Nat) (o : Oper),l[i]? = some o → lst L i = true → ∀ e ∈ o.after,Region.binds .any e = true → lst L e.on = true) → (∀ j,m ≤ j → lst L j = false) →
      a.tmps.size = C.N → (∀ t v,env.get t = some v → a.tmps.getD t undef = v) → (∃ ms : List Nat,a.defers = ms.map oF ++ df ∧ Ok C.G H' ((own ++ jZ cre L ent) ++ (ms.map hid ++ C.hid)) w) → (∀ i ∈ cre,lst L i = true → FO i (val i) (ent i) H') →
      (∀ i,i < m → lst L i = true → ∀ t,eJ l i = some t → a.tmps.getD t undef = val i ∧ gC F i (val i) H') →
      wpAnyIn (Fr C.r) 0 C.P .any l.toArray (lA C H Q) fuel L a w:=by
    intro fuel
    have done : ∀ (fuel : Nat) (L : Array Bool) (a : Act) (w : World) (val : Nat → Value) (ent : Nat → Nat × SObj) (H' : Hp),L.size = l.length → unl l.length L ≤ fuel → Le H H' → Gd H' → (∀ j,m ≤ j → lst L j = false) →
        a.tmps.size = C.N → (∀ t v,env.get t = some v → a.tmps.getD t undef = v) → (∃ ms : List Nat,a.defers = ms.map oF ++ df ∧ Ok C.G H' ((own ++ jZ cre L ent) ++ (ms.map hid ++ C.hid)) w) → (∀ i ∈ cre,lst L i = true → FO i (val i) (ent i) H') →
        (∀ i,i < m → lst L i = true → ∀ t,eJ l i = some t → a.tmps.getD t undef = val i ∧ gC F i (val i) H') → (∀ j,j < m → lst L j = true) →
        wpAnyIn (Fr C.r) 0 C.P .any l.toArray (lA C H Q) fuel L a w:=by
      intro fuel L a w val ent H' hs hu hle hGd hT hsz henv hok hents hfacts hall
      obtain ⟨acc',hk,hmem⟩:=mQ (val:=val) (List.range m) [] _ (tail H' hle hGd) (fun j hj t ht=>(hfacts j (List.mem_range.1 hj) (hall j (List.mem_range.1 hj)) t ht).2)
      have hcount : l.length - m ≤ fuel:=by rw [tM hml hall hT];exact hu
      refine sV (m:=m) htl hdc fuel m L a w (Nat.le_refl _) hs hcount hml ?_ ?_
      · intro j
        rcases Nat.lt_or_ge j m with h | h
        · rw [hall j h];simp [h]
        rw [hT j h];simp;omega
      have hcall : ∀ i ∈ cre,i < m:=fun i hi=>by simpa using List.all_eq_true.1 hcm i hi
      have hk2:=vC (ent:=ent) cre _ hk (fun i hi v hg=>by
        obtain ⟨t,hd,hg⟩:=hg
        have him:=hcall i hi
        obtain ⟨j,hj,hdj,rfl⟩:=hmem t v (nC (by simpa using hg))
        obtain rfl:=hdis i j t him (List.mem_range.1 hj) hd hdj
        exact hents i hi (hall i him))
      have hext : jZ cre L ent = cre.map ent:=by
        rw [jZ,List.filter_eq_self.2 (fun i hi=>hall i (hcall i hi))]
      have hok2 : ∃ ms : List Nat,a.defers = ms.map oF ++ df ∧ Ok C.G H' ((cre.map ent ++ own) ++ (ms.map hid ++ C.hid)) w:=by
        obtain ⟨ms,h1,h2⟩:=hok
        rw [hext] at h2
        exact ⟨ms,h1,h2.perm (List.perm_append_comm.append_right _)⟩
      refine jK hle _ _ _ (hk2 a w ⟨hsz,?_,hok2⟩)
      intro t v hg
      simp only [List.append_nil] at hg
      rw [Env.get_append] at hg
      cases hga : Env.get acc' t with
      | none=>rw [hga] at hg;exact henv t v (by simpa using hg)
      | some u =>
        rw [hga] at hg;simp at hg;subst hg
        obtain ⟨j,hj,hd,rfl⟩:=hmem t u (gP _ _ _ hga)
        have hj:=List.mem_range.1 hj
        exact (hfacts j hj (hall j hj) t hd).1
    induction fuel with
    | zero =>
      intro L a w val ent H' hs hu hle hGd hdown hT hsz henv hok hents hfacts
      refine done 0 L a w val ent H' hs hu hle hGd hT hsz henv hok hents hfacts ?_
      intro j hj
      cases hx : lst L j with
      | true=>rfl
      | false =>
        have:=nS (L:=L) (i:=j) hs (by omega) hx
        omega
    | succ fuel ih =>
      intro L a w val ent H' hs hu hle hGd hdown hT hsz henv hok hents hfacts
      by_cases hall : ∀ j,j < m → lst L j = true
      · exact done (fuel + 1) L a w val ent H' hs hu hle hGd hT hsz henv hok hents hfacts hall
      constructor
      · intro hnil
        exfalso
        apply hall
        -- the least one that is not listed is ready
        intro j hj
        induction j using Nat.strongRecOn with
        | _ j ihj =>
          cases hx : lst L j with
          | true=>rfl
          | false =>
            exfalso
            obtain ⟨o,ho,_,haf,_⟩:=hpre j hj
            have : j ∈ Region.ready .any l.toArray L:=by
              rw [mem_ready]
              refine ⟨?_,o,by simpa using ho,fun e he hb=>ihj e.on (haf e he hb) (by have:=haf e he hb;omega)⟩
              unfold lst at hx
              rw [Array.getD_eq_getD_getElem?,Array.getElem?_eq_getElem (by omega)] at hx ⊢
              simpa using hx
            rw [hnil] at this;cases this
      intro i hi
      rw [mem_ready] at hi
      obtain ⟨h0,o,ho,hbef⟩:=hi
      have hilt : i < l.length:=by simpa using (Array.getElem?_eq_some_iff.1 ho).1
      have hun : lst L i = false:=by
        unfold lst
        rw [Array.getD_eq_getD_getElem?,Array.getElem?_eq_getElem (by omega)] at h0 ⊢
        simpa using h0
      have ho' : l[i]? = some o:=by simpa using ho
      have him : i < m:=by
        rcases Nat.lt_or_ge i m with h | h
        · exact h
        exfalso
        apply hall
        intro j hj
        exact kY hdown _ o j hbef ((htl i o h ho').1 j (by omega))
      obtain ⟨o2,ho2,hd,haf,hprd⟩:=hpre i him
      rw [ho'] at ho2;cases ho2
      have hdo : eJ l i = o.dst:=by simp [eJ,ho']
      have hst:=aC9 l 0 steps i o ho' (by omega)
      simp only [Nat.zero_add] at hst
      -- all that is known of the slots,a_s one list
      let X : Env:=(List.range m).filterMap fun j=>if lst L j then (eJ l j).map fun t=>(t,val j) else none
      obtain ⟨acc',hk,hmem⟩:=mQ (val:=val) (gM o) [] _ (hst X (jZ cre L ent) H' hle hGd) (fun j hj tj hdj=>by
        obtain ⟨hjm,e,he,hb,hon⟩:=hprd j hj
        have hlj : lst L j = true:=by have:=hbef e he hb;rw [hon] at this;exact this
        exact (hfacts j hjm hlj tj hdj).2)
      simp only [List.append_nil] at hk
      have hX : ∀ t v,(t,v) ∈ X → ∃ j,j < m ∧ lst L j = true ∧ eJ l j = some t ∧ v = val j:=by
        intro t v h
        obtain ⟨j,hj,hjj⟩:=List.mem_filterMap.1 h
        split at hjj
        · rename_i hlj
          cases hdj : eJ l j with
          | none=>rw [hdj] at hjj;cases hjj
          | some tj =>
            rw [hdj] at hjj
            simp only [Option.map_some,Option.some.injEq,Prod.mk.injEq] at hjj
            obtain ⟨rfl,rfl⟩:=hjj
            exact ⟨j,List.mem_range.1 hj,hlj,hdj,rfl⟩
        cases hjj
      have hrel : Rel C ⟨acc' ++ (env ++ X),df,H',own ++ jZ cre L ent⟩ a w:=by
        refine ⟨hsz,?_,hok⟩
        intro t v hgv
        rw [Env.get_append,Env.get_append] at hgv
        cases hga : Env.get acc' t with
        | some u =>
          rw [hga] at hgv;simp at hgv;subst hgv
          obtain ⟨j,hj,hdj,rfl⟩:=hmem t u (gP _ _ _ hga)
          obtain ⟨hjm,e,he,hb,hon⟩:=hprd j hj
          have hlj : lst L j = true:=by have:=hbef e he hb;rw [hon] at this;exact this
          exact (hfacts j hjm hlj t hdj).1
        | none =>
          rw [hga] at hgv;simp only [Option.none_or] at hgv
          cases hge : Env.get env t with
          | some u=>rw [hge] at hgv;simp at hgv;subst hgv;exact henv t u hge
          | none =>
            rw [hge] at hgv;simp only [Option.none_or] at hgv
            obtain ⟨j,hj,hlj,hdj,rfl⟩:=hX t v (gP _ _ _ hgv)
            exact (hfacts j hj hlj t hdj).1
      have hrun:=hk a w hrel
      have hnext : ∀ a' w',lA C H' (sF Gd cre i o.dst (gC F i) (FO i) (acc' ++ (env ++ X)) df (own ++ jZ cre L ent)) .normal a' w' → wpAnyIn (Fr C.r) 0 C.P .any l.toArray (lA C H Q) fuel (L.setIfInBounds i true) a' w':=by
        rintro a' w' ⟨σ',hr',hle',hGd',hdf',v,pe,henv',hfv,hown'⟩
        refine ih (L.setIfInBounds i true) a' w' (fun j=>if j = i then v else val j) (fun j=>if j = i then pe else ent j) σ'.H (by simpa using hs) ?_ (hle.trans hle') hGd' ?_ ?_ hr'.size ?_ ?_ ?_ ?_
        · have:=nS hs hilt hun;omega
        · intro i' o' hi' hl' e he hb
          rw [gE (by omega)] at hl' ⊢
          split
          · rfl
          split at hl'
          · rename_i e1 e2;subst e2;rw [ho'] at hi';cases hi';exact hbef e he hb
          exact hdown i' o' hi' hl' e he hb
        · intro j hj
          rw [gE (by omega),if_neg (by omega)]
          exact hT j hj
        · intro t' v' hg'
          refine hr'.get t' v' ?_
          have hin : t' ∈ env.map Prod.fst:=List.mem_map.2 ⟨(t',v'),gP _ _ _ hg',rfl⟩
          rw [henv',kU (fun e=>(hd t' e).1 hin),Env.get_append,Env.get_append]
          have : Env.get acc' t' = none:=by
            cases hga : Env.get acc' t' with
            | none=>rfl
            | some u =>
              obtain ⟨j,hj,hdj,_⟩:=hmem t' u (gP _ _ _ hga)
              exact absurd hin (hkey j t' (hprd j hj).1 hdj)
          rw [this,hg'];rfl
        · obtain ⟨ms,hd',hok'⟩:=hr'.ok
          refine ⟨ms,by rw [hd',hdf'],?_⟩
          cases hc : cre.contains i with
          | true =>
            rw [hc] at hown'
            rw [hown'.1] at hok'
            refine hok'.perm (List.Perm.append_right _ ?_)
            exact ((aJ9 hnd0 (List.contains_iff_mem.1 hc) hun (fun j=>gE (by omega) j)).append_left own).trans List.perm_middle
          | false =>
            rw [hc] at hown'
            rw [show σ'.own = own ++ jZ cre L ent from hown'] at hok'
            rw [aEg (fun h=>by rw [List.contains_iff_mem.2 h] at hc;cases hc) (fun j=>gE (by omega) j)]
            exact hok'
        · intro j hj hlj
          rw [gE (by omega)] at hlj
          by_cases hji : j = i
          · subst hji
            rw [List.contains_iff_mem.2 hj] at hown'
            simpa using hown'.2
          rw [if_neg hji] at hlj
          simp only [if_neg hji]
          exact hFO _ _ _ _ _ hle' (hents j hj hlj)
        intro j hj hlj tj htj
        rw [gE (by omega)] at hlj
        by_cases hji : j = i
        · subst hji
          rw [hdo] at htj
          simp only [if_true]
          refine ⟨hr'.get tj v ?_,hfv⟩
          rw [henv',htj];simp [fJ,Env.get]
        rw [if_neg hji] at hlj
        obtain ⟨h1,h2⟩:=hfacts j hj hlj tj htj
        simp only [if_neg hji]
        refine ⟨hr'.get tj (val j) ?_,oY hmono hle' h2⟩
        rw [henv',kU (fun e=>hji (hdis j i tj hj him htj (by rw [hdo,e]))),Env.get_append,Env.get_append]
        have hacc : Env.get acc' tj = none ∨ Env.get acc' tj = some (val j):=by
          cases hga : Env.get acc' tj with
          | none=>exact .inl rfl
          | some u =>
            obtain ⟨j',hj',hdj',rfl⟩:=hmem tj u (gP _ _ _ hga)
            obtain rfl:=hdis j' j tj (hprd j' hj').1 hj hdj' htj
            exact .inr rfl
        rcases hacc with hacc | hacc
        · rw [hacc]
          have henvn : Env.get env tj = none:=by
            cases hge : Env.get env tj with
            | none=>rfl
            | some u=>exact absurd (List.mem_map.2 ⟨(tj,u),gP _ _ _ hge,rfl⟩) (hkey j tj hj htj)
          rw [henvn]
          simp only [Option.none_or]
          -- it stands in X,once
          refine sX X (List.mem_filterMap.2 ⟨j,List.mem_range.2 hj,by simp only [hlj,if_true,htj,Option.map_some]⟩) ?_
          intro u hu'
          obtain ⟨j',hj',_,hdj',rfl⟩:=hX tj u hu'
          obtain rfl:=hdis j' j tj hj' hj hdj' htj
          rfl
        rw [hacc];rfl
      unfold wpOpIn
      rw [ho]
      simp only [wpListIn] at hrun ⊢
      split
      · rename_i hw
        rw [if_pos hw] at hrun
        refine lM hnext ?_ hrun
        rintro e a' w' he ⟨σ',_,_,hq⟩
        cases e <;> first | exact absurd rfl he | exact hq.elim
      rename_i hw
      rw [if_neg hw] at hrun
      exact ⟨hrun.1,hnext _ _ hrun.2⟩
  have hlst0 : ∀ j,lst (Array.replicate l.toArray.size false) j = false:=fun j=>by simp [lst,Array.getD_eq_getD_getElem?,Array.getElem?_replicate];split <;> rfl
  exact main l.toArray.size (Array.replicate l.toArray.size false) a₀ _ (fun _=>undef) (fun _=>(0,.nothing)) H (by simp) (by
      refine Nat.le_trans (List.countP_le_length) (by simp)) (Le.refl _) hG (fun i o _ hl=>by
      have : lst (Array.replicate l.toArray.size false) i = false:=by simp [lst,Array.getD_eq_getD_getElem?,Array.getElem?_replicate];split <;> rfl
      rw [this] at hl;cases hl) (fun j _=>by simp [lst,Array.getD_eq_getD_getElem?,Array.getElem?_replicate];split <;> rfl) hr₀.size hr₀.get
    (let ⟨ms,hd,hok⟩:=hr₀.ok;⟨ms,hd,by rw [aG8 hlst0,List.append_nil];exact hok.drew⟩) (fun i _ h=>by rw [hlst0] at h;cases h) (fun i _ h=>by
      have : lst (Array.replicate l.toArray.size false) i = false:=by simp [lst,Array.getD_eq_getD_getElem?,Array.getElem?_replicate];split <;> rfl
      rw [this] at h;cases h)
end
theorem wQq {l : List Oper} {F : List (Value → Hp → Prop)} {H' : Hp} {js js' : List Nat} {j t : Nat} {acc : Env} {K : Env → Prop} {x : Value} (hj : js = j :: js') (ht : eJ l j = some t) (hF : gC F j = eqF x) (h : iV l F H' js' ((t,x) :: acc) K) : iV l F H' js acc K :=
  dD hj ht fun v hv=>by rw [hF] at hv;obtain rfl : v = x:=hv;exact h
end Go.XL

namespace Go.XL
/-! ### Results in variables -/
def aAe (P : Program) (e : Env) (own : Own) : List ResultVar → List Value → Prop
 | [],vs=>vs = []
 | .tmp t :: r,vs=>∃ v us,vs = v :: us ∧ e.get t = some v ∧ aAe P e own r us
 | .cell a ty :: r,vs=>∃ v us b T cs i sz agg ws,vs = v :: us ∧ e.get a = some (.pointer (some ⟨b,0,none⟩)) ∧ Own.at own i = some (b,.cells T cs) ∧ tyF P ty sz agg = true ∧ zR cs 0 sz = some ws ∧ mkV agg ws = some v ∧ aAe P e own r us
theorem gB {P : Program} {e : Env} {own : Own} : aAe P e own [] []:=rfl
theorem iK {P : Program} {e : Env} {own : Own} {t : Nat} {v : Value} {us : List Value} {r : List ResultVar} (h : e.get t = some v) (k : aAe P e own r us) : aAe P e own (.tmp t :: r) (v :: us):=⟨v,us,rfl,h,k⟩
theorem fH {P : Program} {e : Env} {own : Own} (i : Nat) {a : Nat} {ty T : TypeId} {b sz : Nat} {agg : Bool} {cs ws : List Value} {v : Value} {us : List Value} {r : List ResultVar} (h : e.get a = some (.pointer (some ⟨b,0,none⟩))) (ho : Own.at own i = some (b,.cells T cs)) (ht : tyF P ty sz agg = true)
  (hl : zR cs 0 sz = some ws) (hv : mkV agg ws = some v) (k : aAe P e own r us) : aAe P e own (.cell a ty :: r) (v :: us):=⟨v,us,b,T,cs,i,sz,agg,ws,rfl,h,ho,ht,hl,hv,k⟩
theorem zD {C : Ctx} {σ : St} {a : Act} {w w' : World} {fr : Own} (hr : Rel C σ a w) (hok : Ok C.G σ.H (σ.own ++ fr) w') {fn : Func} {rs : List ResultVar} (hf : fn.results = rs.toArray) {vs : List Value} (h : aAe C.P σ.env σ.own rs vs) :
    (results fn a.tmps).run C.P w' = .ok (aEf vs) w':=by
  have key : ∀ (g : ResultVar → Sem Value),(∀ t,g (.tmp t) = pure (a.tmps.getD t undef)) → (∀ t ty,g (.cell t ty) = do loadVar ty (← asAddr (a.tmps.getD t undef))) → ∀ (rs : List ResultVar) (vs : List Value),aAe C.P σ.env σ.own rs vs →
      (rs.mapM g).run C.P w' = .ok vs w':=by
    intro g hg hg2 rs
    induction rs with
    | nil=>intro vs h;cases h;rfl
    | cons r rs ih =>
      intro vs h
      cases r with
      | cell b t =>
        obtain ⟨v,us,b',T,cs,i,sz,agg,ws,rfl,h1,ho,ht,hl,hv,hus⟩:=h
        have h1':=hr.get _ _ h1
        have h2:=ih us hus
        have hb:=wI hok (List.mem_append_left fr (Own.at_mem ho))
        obtain ⟨e1,e2,e3⟩:=aFk hl
        have hrun:=rO (P:=C.P) (w:=w') ht (b:=b') (o:=0) e3 (v:=v) (fun j u hj=>by
          rw [e1,List.getElem?_take] at hj
          split at hj
          · rw [List.getElem?_drop] at hj
            simp only [Nat.zero_add] at hj
            simp [World.cell?,hb,hj]
          cases hj) hv
        rw [List.mapM_cons]
        simp only [Sem.run_bind,hg2,h1',asAddr]
        simp only [Pure.pure,Sem.run,Result.andThen,hrun]
        show (Sem.run C.P (List.mapM g rs) w').andThen _ = _
        rw [h2]
        rfl
      | tmp t =>
        obtain ⟨v,us,rfl,hv,hus⟩:=h
        have h1:=hr.get t v hv
        have h2:=ih us hus
        rw [List.mapM_cons]
        simp only [Sem.run_bind,hg,h1]
        show (Result.ok v w').andThen _ = _
        show (Sem.run C.P (List.mapM g rs) w').andThen _ = _
        rw [h2]
        rfl
  unfold results
  rw [hf,List.mapM_toArray]
  simp only [Sem.run_bind,Sem.run_map]
  rw [key _ (fun _=>rfl) (fun _ _=>rfl) rs vs h]
  cases vs with
  | nil=>rfl
  | cons v vs=>cases vs <;> rfl
def bodyQC (P : Program) (rs : List ResultVar) (R : Ending → Hp → Own → Prop) (rest : Own) : Exit → St → Prop
 | .normal,σ | .ret,σ=>σ.df = [] ∧ ∃ vs own',aAe P σ.env σ.own rs vs ∧ (own' ++ rest).Sublist σ.own ∧ R (.returned (aEf vs)) σ.H own'
 | .panic chain,σ=>σ.df = [] ∧ ∃ own',(own' ++ rest).Sublist σ.own ∧ R (.panicked chain) σ.H own'
 | _,_=>False
theorem FnC.introC {P : Program} {f : FuncId} {fn : Func} {c : Code} {args : List Value} {H : Hp} {own : Own} {R : Ending → Hp → Own → Prop} {N : Nat} {env : Env} {rs : List ResultVar}
    (hf : P.funcs[f]? = some fn) (hb : fn.body = some c) (hn : (fn.name == "runtime.NumGoroutine") = false) (hN : fn.ntmps = N) (hrs : fn.results = rs.toArray) (hlt : Nat.ble args.length N = true)
    (hi : Env.init 0 args = some env)
    (h : ∀ G rest,XC ⟨P,G,N,none,[]⟩ c (bodyQC P rs R rest) ⟨env,[],H,own ++ rest⟩) : FnC P f args.toArray H own R:=by
  refine ⟨fun a_s w=>?_,fun G rest w ok=>?_⟩
  · have hn' : fn.name ≠ "runtime.NumGoroutine":=by simpa using hn
    simp [callFunc,program,Sem.run_bind,Sem.run,Result.andThen,hf,hn',hb,bind,Sem.bind,pure]
  refine callsIn_wide.1 (callsIn_of_wp_marks (n:=0) hf hb trivial ?_)
  have hrel : Rel ⟨P,G,N,none,[]⟩ ⟨env,[],H,own ++ rest⟩ { tmps:=args.toArray ++ Array.replicate (fn.ntmps - args.toArray.size) undef,defers:=[] } w:=by
    have hle : args.length ≤ N:=Nat.le_of_ble_eq_true hlt
    refine ⟨by simp [hN];omega,?_,[],rfl,by simpa using ok⟩
    intro t v hg
    obtain ⟨_,h2⟩:=Env.init_get hi hg
    simp only [Nat.sub_zero] at h2
    have hlt : t < args.length:=by
      rcases Nat.lt_or_ge t args.length with h | h
      · exact h
      rw [List.getElem?_eq_none h] at h2;cases h2
    rw [Array.getD_eq_getD_getElem?,Array.getElem?_append_left (by simpa using hlt)]
    simp [h2]
  refine Go.wpIn_mono (h G rest _ w hrel) ?_
  intro e a w' hl
  obtain ⟨τ,hr,hle,hq⟩:=hl
  have hR : ∀ e own',e ≠ .outgrown → (own' ++ rest).Sublist τ.own → R e τ.H own' → ∀ w'',Ok G τ.H τ.own w'' → (e ≠ .outgrown ∧ ∃ H' own',Le H H' ∧ Ok G H' (own' ++ rest) w'' ∧ R e H' own') :=
    fun e own' he hs hr w'' ok=>⟨he,τ.H,own',hle,ok.shrink (Le.refl _) hs,hr⟩
  have fin : ∀ vs own',τ.df = [] → aAe P τ.env τ.own rs vs → (own' ++ rest).Sublist τ.own → R (.returned (aEf vs)) τ.H own' → LeavesInM Fence.wide 0 P fn a.tmps (fun e w'=>e ≠ .outgrown ∧ ∃ H' own',Le H H' ∧ Ok G H' (own' ++ rest) w' ∧ R e H' own') a.defers .returning w':=by
    intro vs own' hd hres hs hRR
    obtain ⟨ms,hdf,hok⟩:=hr.ok
    rw [hdf,hd,List.append_nil]
    refine wD (by simp) ms τ.own w' (by simpa using hok) ?_
    intro w'' ok''
    exact ⟨_,zD (fr:=[]) hr (by simpa using ok'') hrs hres,hR _ own' (by simp) hs hRR w'' ok''⟩
  cases e with
  | normal=>obtain ⟨hd,vs,own',hres,hs,hRR⟩:=hq;exact fin vs own' hd hres hs hRR
  | ret=>obtain ⟨hd,vs,own',hres,hs,hRR⟩:=hq;exact fin vs own' hd hres hs hRR
  | panic chain =>
    obtain ⟨hd,own',hs,hRR⟩:=hq
    obtain ⟨ms,hdf,hok⟩:=hr.ok
    show LeavesInM Fence.wide 0 P fn a.tmps _ a.defers (.panicking chain) w'
    rw [hdf,hd,List.append_nil]
    refine wD (by simp) ms τ.own w' (by simpa using hok) ?_
    intro w'' ok''
    exact hR _ own' (by simp) hs hRR w'' ok''
  | exit _=>exact hq.elim
  | goto _=>exact hq.elim
  | outgrown=>exact hq.elim
/-! ### Bytes -/
def u8R : Rep UInt8 where
 sz:=1
 R:=fun _ cs a=>cs = [.int .u8 (a.toNat : Nat)]
 len:=fun h=>by subst h;rfl
 one:=fun h=>by subst h;rfl
 mono:=fun _ h=>h
abbrev iW (l : List UInt8) : ByteArray:=⟨l.toArray⟩
def pairR : Rep (Int × Int) where
 sz:=2
 R:=fun _ cs p=>cs = [.int .i64 p.1,.int .i64 p.2]
 len:=fun h=>by subst h;rfl
 one:=fun h=>by subst h;rfl
 mono:=fun _ h=>h
section
variable {C : Ctx} {ops : Array Oper} {Q : Exit → St → Prop} {rest : List Oper} {env : Env} {df : List Deferred} {H : Hp} {own : Own}
variable {dst : Option Tmp} {ty : TypeId} {pos : String} {af : Array Edge}
theorem jA {op : Op} {j t : Nat} {want : Bool} (hj : (ops[j]?).bind (·.dst) = some t) (hv : env.get t = some undef) (hN : Nat.blt t C.N = true) (hd : eP C.N dst = true)
  (h : XO C ops Q rest ⟨fJ dst undef env,df,H,own⟩) : XO C ops Q (⟨dst,op,ty,pos,af,some (j,want)⟩ :: rest) ⟨env,df,H,own⟩:=by
 intro a w hr
 have hlt : t < a.tmps.size:=by rw [hr.size];simpa using hN
 have hy : yielded ops a.tmps j = none:=by
  have:=hr.get t _ hv
  rw [Array.getD_eq_getD_getElem?] at this
  simp only [yielded,hj,Option.bind_some]
  rw [Array.getElem?_eq_getElem hlt] at this ⊢
  simp only [Option.getD_some] at this
  rw [this];rfl
 have hw : Region.wanted (⟨dst,op,ty,pos,af,some (j,want)⟩ : Oper) (yielded ops a.tmps) = false:=by
  simp only [Region.wanted,hy];cases want <;> rfl
 simp only [wpListIn,hw]
 exact ⟨fun _ _=>trivial,h _ _ (hr.put (sW hd) undef hr.ok)⟩
theorem eF {t e : TypeId} {x y : Operand} {k : IntKind} {i : Int} {b o n sz : Nat} {agg : Bool} (hx : ev env x = some (.pointer (some ⟨b,o,none⟩))) (hy : ev env y = some (.int k i))
  (ht : C.P.underlying t = some (.array n e)) (he : tyF C.P e sz agg = true) (h0 : 0 ≤ i) (h1 : i < n) (hd : eP C.N dst = true)
  (h : XO C ops Q rest ⟨fJ dst (.pointer (some ⟨b,o + i.toNat * sz,none⟩)) env,df,H,own⟩) :
  XO C ops Q (⟨dst,.indexAddr t x y,ty,pos,af,none⟩ :: rest) ⟨env,df,H,own⟩:=by
 refine fN rfl rfl hd (fun ρ' ha w=>?_) h
 simp only [execOp,ha _ _ hx,ha _ _ hy,Instr.indexAt,asIntOf,Sem.run_bind]
 simp only [Pure.pure,Sem.run,Result.andThen,dR ht,Sem.run_bind,Instr.sureAddr]
 simp only [h0,h1,and_self,if_true,Sem.run_bind,gU he,Result.andThen,jV]
 rfl
theorem mD {t e : TypeId} {x : Operand} {b o n sz : Nat} {agg : Bool} (hx : ev env x = some (.pointer (some ⟨b,o,none⟩))) (ht : C.P.underlying t = some (.array n e)) (he : tyF C.P e sz agg = true) (hd : eP C.N dst = true)
  (h : XO C ops Q rest ⟨fJ dst (.slice (some ⟨b,o,none⟩) n n) env,df,H,own⟩) :
  XO C ops Q (⟨dst,.slice t x none none none,ty,pos,af,none⟩ :: rest) ⟨env,df,H,own⟩:=by
 refine fN rfl rfl hd (fun ρ' ha w=>?_) h
 have hz : (⟨b,o,none⟩ : Addr).add (0 * sz) = ⟨b,o,none⟩:=by rw [jV];simp
 simp only [execOp,ha _ _ hx,Sem.run_bind,Instr.sliceAt,dR ht,Result.andThen,Option.map_none]
 simp only [Instr.sureAddr,Instr.sliceBounds,Pure.pure,Sem.run,Result.andThen,Sem.run_bind,gU he,hz,ite_self,Nat.sub_zero]
def arrE (P : Program) (t : TypeId) : Option TypeId:=match P.underlying t with | some (.array _ e)=>some e | _=>none
theorem jL {t e : TypeId} {n sz : Nat} {agg : Bool} {ps : List (Nat × Operand)} {vs : List (Nat × Value)} {zs r : List Value} (ht : C.P.underlying t = some (.array n e)) (he : tyF C.P e sz agg = true) (hz : gH C.P t = some zs) (hv : evP env ps = some vs) (hr : aB8 (fun i=>some (i * sz,sz)) zs vs = some r) (hd : eP C.N dst = true)
  (h : XO C ops Q rest ⟨fJ dst (.agg ⟨r⟩) env,df,H,own⟩) :
  XO C ops Q (⟨dst,.build t ps.toArray,ty,pos,af,none⟩ :: rest) ⟨env,df,H,own⟩:=by
 refine fN rfl rfl hd (fun ρ' ha w=>?_) h;obtain ⟨z,hz1,hz2⟩:=uX (P:=C.P) (w:=w) hz
 have hps : (ps.toArray.map fun p=>(p.1,ρ' p.2)).toList = vs:=by simpa using aFc ha hv
 simp only [execOp,Instr.build,Sem.run_bind,hz1,Result.andThen,dR ht,gU he,hps,hz2,aFz hr]
 rfl
theorem XO.b2s {s t e : TypeId} {x : Operand} {a : Option Addr} {c : Nat} {l : List UInt8} (hx : ev env x = some (.slice a l.length c)) (hs : SlR u8R H a c l) (hsrc : C.P.underlying s = some (.slice e)) (he : C.P.underlying e = some (.int .u8)) (ht : C.P.underlying t = some .string) (hd : eP C.N dst = true)
    (h : XO C ops Q rest ⟨fJ dst (.string (iW l)) env,df,H,own⟩) : XO C ops Q (⟨dst,.convert s t x,ty,pos,af,none⟩ :: rest) ⟨env,df,H,own⟩:=by
  refine lJ rfl rfl hd fun ρ' w fr ha hok=>⟨.value (.string (iW l)),.string (iW l),w,H,own,?_,.inl rfl,Le.refl _,hok,h⟩
  simp only [execOp,ha _ _ hx,Sem.run_bind]
  cases a with
  | none =>
    obtain rfl:=hs.nil rfl
    have hl0 : l = []:=List.length_eq_zero_iff.1 (by have:=hs.le;omega)
    subst hl0
    rw [run_convert_bytes_string w s t e none _ _ hsrc he ht]
    rfl
  | some a =>
    cases l with
    | nil =>
      have:=run_convert_bytes_back (P:=C.P) w s t e a c [] hsrc he ht (fun j hj=>by simp at hj)
      simp only [List.length_nil] at this ⊢
      rw [this];rfl
    | cons u l =>
      obtain ⟨b,o,cs,ha',_,_⟩:=hs.el 0 u rfl
      cases ha'
      have:=run_convert_bytes_back (P:=C.P) w s t e ⟨b,o,none⟩ c (u :: l) hsrc he ht (fun j hj=>by
        obtain ⟨b',o',cs',hb',hp,hR⟩:=hs.el j (u :: l)[j] (List.getElem?_eq_getElem hj)
        cases hb'
        obtain rfl : cs' = _:=hR
        obtain ⟨cc,T,fz,hH,hcc⟩:=hp
        have:=hok.pub _ _ hH
        rw [jV]
        have h3:=hcc 0 _ rfl
        simp only [u8R,Nat.mul_one,Nat.add_zero] at h3
        simp [World.cell?,this,h3])
      rw [this];rfl
theorem bs_toList (l : List UInt8) : (iW l).toList = l:=by
 simp [ByteArray.toList_eq]
theorem beq_dec (l m : List UInt8) : (l == m) = decide (l = m):=by rw [Bool.eq_iff_iff];simp
theorem xW {xt yt : TypeId} {x y : Operand} {l m : List UInt8} (hx : ev env x = some (.string (iW l))) (hy : ev env y = some (.string (iW m))) (hd : eP C.N dst = true)
  (h : XO C ops Q rest ⟨fJ dst (.bool (decide (l = m))) env,df,H,own⟩) : XO C ops Q (⟨dst,.binOp .eql xt x y yt,ty,pos,af,none⟩ :: rest) ⟨env,df,H,own⟩ :=
 fN rfl rfl hd (fun ρ ha w=>by
  have hgd : ∀ w,(eqGuard .eql xt x y (.string (iW l)) (.string (iW m))).run C.P w = .ok () w:=fun w=>rfl
  simp only [execOp,ha _ _ hx,ha _ _ hy,Sem.run_bind,hgd]
  simp only [Result.andThen,binOp,Op.stringOp,bs_toList,beq_dec]
  simp [Sem.run,Pure.pure]) h
theorem run_append_none {P : Program} {w : World} {t e t' : TypeId} {a a' : Option Addr} {n c c' sz : Nat} {agg : Bool} (ht : P.underlying t = some (.slice e)) (he : tyF P e sz agg = true) (hc : n ≤ c) :
  (Builtin.append_ #[t,t] t' #[.slice a n c,.slice a' 0 c']).run P w = .ok (.slice a n c) w:=by
 obtain ⟨_,inf,hi,hsz⟩:=nQ he
 have hf : ∀ w : World,(Builtin.firstCells inf.size 0 (.slice a' 0 c')).run P w = .ok #[] w:=by
  intro w;cases a' <;> simp [Builtin.firstCells,loadCells,loadCellsFrom,Sem.run,Pure.pure]
 simp [Builtin.append_,dR ht,sizeOf,typeInfo,hi,Builtin.lenOf,hc,hf]
 cases a <;> simp [storeCells,Sem.run,Pure.pure]
theorem SlR.of_pt {H : Hp} {b o : Nat} {k : IntKind} {l : List Int} (h : PtH H b o (l.map (Value.int k))) : SlR (eO k) H (some ⟨b,o,none⟩) l.length l:=by
 refine ⟨Nat.le_refl _,by simp,fun i x hx=>⟨b,o,[.int k x],rfl,?_,rfl⟩⟩;obtain ⟨c,T,fz,hb,hc⟩:=h;refine ⟨c,T,fz,hb,fun j u hj=>?_⟩
 have hj0 : j = 0:=by
  have:=(List.getElem?_eq_some_iff.1 hj).1
  simp at this;exact this
 subst hj0
 simp at hj;subst hj
 have:=hc i (.int k x) (by simp [hx])
 simpa [eO] using this
theorem XO.appendP {α : Type} {ρ : Rep α} {t e : TypeId} {x y : Operand} {a a' : Option Addr} {c c' n n' : Nat} {l l' : List α} {zs : List Value} {agg : Bool}
    (hx : ev env x = some (.slice a n c)) (hs : SlR ρ H a c l) (hln : n = l.length) (hy : ev env y = some (.slice a' n' c')) (hsrc : SlR ρ H a' c' l') (hln' : n' = l'.length) (hfull : c ≤ l.length)
    (ht : C.P.underlying t = some (.slice e)) (he : tyF C.P e ρ.sz agg = true) (hz : gH C.P e = some zs) (hzl : Nat.beq zs.length ρ.sz = true) (hby : Nat.ble (C.P.bytesOf e) 4096 = true) (hn : l.length + l'.length ≤ 1073741824) (hd : eP C.N dst = true)
    (h : ∀ H' a'' c'',Le H H' → SlR ρ H' a'' c'' (l ++ l') → XO C ops Q rest ⟨fJ dst (.slice a'' (l ++ l').length c'') env,df,H',own⟩) :
    XO C ops Q (⟨dst,.call { callee:=.builtin .append,args:=#[x,y],argTypes:=#[t,t] },ty,pos,af,none⟩ :: rest) ⟨env,df,H,own⟩:=by
  cases l' with
  | nil =>
    have h':=h H a c (Le.refl _) (by simpa using hs)
    simp only [List.append_nil] at h'
    subst hln
    refine lJ rfl rfl hd fun ρ' w fr ha hok=>⟨.value (.slice a l.length c),.slice a l.length c,w,H,own,?_,.inl rfl,Le.refl _,hok,h'⟩
    have h0:=run_append_none (P:=C.P) (w:=w) (t':=ty) (a:=a) (c':=c') (a':=a') ht he hs.le
    have hn0 : n' = 0:=by simpa using hln'
    subst hn0
    simp only [execOp,resolve,Sem.run_bind]
    simp only [Pure.pure,Sem.run,Result.andThen,invoke,builtin,Sem.run_bind]
    simp only [List.map_toArray,List.map_cons,List.map_nil,ha _ _ hx,ha _ _ hy]
    rw [show (#[Value.slice a l.length c,Value.slice a' 0 c'] : Array Value) = [Value.slice a l.length c,Value.slice a' 0 c'].toArray from rfl] at h0
    rw [h0]
  | cons u l' =>
    refine XO.appendN hx hs hln hy hsrc hln' (by simp;omega) ht he hz hzl hby hn hd fun p' a'' c'' hacc=>?_
    exact gL 0 rfl hacc rfl fun H' hle hsl=>h H' a'' c'' hle hsl
end
end Go.XL

namespace Go.XL
def aIs (md : List (Nat × Nat)) (k : Nat) : Option Nat:=(md.find? fun q=>Nat.beq q.1 k).map (·.2)
abbrev aCs:=Nat → Value → Nat × SObj → Hp → Prop
def zL (md : List (Nat × Nat)) (FO FO2 : aCs) (L : Nat → Bool) (j : Nat) (v : Value) (p : Nat × SObj) (H : Hp) : Prop :=
 match md.find? fun q=>Nat.beq q.2 j with
 | some q=>if L q.1 = true then FO2 q.1 v p H else FO j v p H
 | none=>FO j v p H
def endP (md : List (Nat × Nat)) (FO FO2 : aCs) : aCs:=fun j v p H=>zL md FO FO2 (fun _=>true) j v p H
theorem aDe {md : List (Nat × Nat)} {FO FO2 : aCs} (h1 : ∀ i v p H H',Le H H' → FO i v p H → FO i v p H') (h2 : ∀ i v p H H',Le H H' → FO2 i v p H → FO2 i v p H') {L : Nat → Bool} {j : Nat} {v : Value} {p : Nat × SObj} {H H' : Hp} (hle : Le H H')
  (h : zL md FO FO2 L j v p H) : zL md FO FO2 L j v p H':=by
 unfold zL at *
 split
 ·rename_i q hq
  rw [hq] at h
  simp only at h
  split
  ·rename_i hl;rw [if_pos hl] at h;exact h2 _ _ _ _ _ hle h
  rename_i hl;rw [if_neg hl] at h;exact h1 _ _ _ _ _ hle h
 rename_i hq
 rw [hq] at h
 exact h1 _ _ _ _ _ hle h
theorem xO {md : List (Nat × Nat)} {FO FO2 : aCs} {L L' : Nat → Bool} {j : Nat} {v : Value} {p : Nat × SObj} {H : Hp} (h : ∀ q ∈ md,q.2 = j → L q.1 = L' q.1) (k : zL md FO FO2 L j v p H) : zL md FO FO2 L' j v p H:=by
 unfold zL at *
 split
 ·rename_i q hq
  rw [hq] at k
  simp only at k
  have h3:=h q (List.mem_of_find?_eq_some hq) (by have:=List.find?_some hq;simpa using this)
  rw [h3] at k
  exact k
 rename_i hq
 rw [hq] at k
 exact k
def aFb (Gd : Hp → Prop) (fo : Value → Nat × SObj → Hp → Prop) (tj : Option Nat) (acc : Env) (dst : Option Tmp) (f : Value → Hp → Prop) (env : Env) (df : List Deferred) (own : Own) : Exit → St → Prop
 | .normal,σ=>Gd σ.H ∧ σ.df = df ∧ ∃ v p',σ.env = fJ dst v env ∧ f v σ.H ∧ σ.own = p' :: own ∧ ∀ u t,tj = some t → Env.get acc t = some u → fo u p' σ.H
 | _,_=>False
theorem vU {Gd : Hp → Prop} {fo : Value → Nat × SObj → Hp → Prop} {tj : Option Nat} {acc : Env} {dst : Option Tmp} {f : Value → Hp → Prop} {env : Env} {df : List Deferred} {own : Own} {H : Hp} {v : Value} {p' : Nat × SObj} (hG : Gd H) (hf : f v H)
  (h : ∀ u t,tj = some t → Env.get acc t = some u → fo u p' H) : aFb Gd fo tj acc dst f env df own .normal ⟨fJ dst v env,df,H,p' :: own⟩:=⟨hG,rfl,v,p',rfl,hf,rfl,h⟩
def pH (Gd : Hp → Prop) (cre : List Nat) (md : List (Nat × Nat)) (FO FO2 : aCs) (C : Ctx) (l : List Oper) (F : List (Value → Hp → Prop)) (env : Env) (df : List Deferred) (H : Hp) (own : Own) (m : Nat) : Nat → List Oper → Prop
  | _,[]=>True
  | k,o :: rest=>bif Nat.blt k m then
      (match aIs md k with
        | none=>∀ X ext H',Le H H' → Gd H' → iV l F H' (gM o) [] fun acc=>XO C l.toArray (sF Gd cre k o.dst (gC F k) (FO k) (acc ++ (env ++ X)) df (own ++ ext)) [o] ⟨acc ++ (env ++ X),df,H',own ++ ext⟩
        | some j=>∀ X ext p H',Le H H' → Gd H' → iV l F H' (gM o) [] fun acc=>(∀ u t,eJ l j = some t → Env.get acc t = some u → FO j u p H') →
            XO C l.toArray (aFb Gd (FO2 k) (eJ l j) acc o.dst (gC F k) (acc ++ (env ++ X)) df (own ++ ext)) [o] ⟨acc ++ (env ++ X),df,H',p :: (own ++ ext)⟩) ∧ pH Gd cre md FO FO2 C l F env df H own m (k + 1) rest
    else True
theorem eA {Gd : Hp → Prop} {cre : List Nat} {md : List (Nat × Nat)} {FO FO2 : aCs} {C : Ctx} {l : List Oper} {F : List (Value → Hp → Prop)} {env : Env} {df : List Deferred} {H : Hp} {own : Own} {m k : Nat} {o : Oper} {rest : List Oper} (hk : Nat.blt k m = true) (hmd : aIs md k = none)
  (h : ∀ X ext H',Le H H' → Gd H' → iV l F H' (gM o) [] fun acc=>XO C l.toArray (sF Gd cre k o.dst (gC F k) (FO k) (acc ++ (env ++ X)) df (own ++ ext)) [o] ⟨acc ++ (env ++ X),df,H',own ++ ext⟩) (k2 : pH Gd cre md FO FO2 C l F env df H own m (k + 1) rest) : pH Gd cre md FO FO2 C l F env df H own m k (o :: rest):=by
 rw [pH,hk,hmd];exact ⟨h,k2⟩
theorem tU {Gd : Hp → Prop} {cre : List Nat} {md : List (Nat × Nat)} {FO FO2 : aCs} {C : Ctx} {l : List Oper} {F : List (Value → Hp → Prop)} {env : Env} {df : List Deferred} {H : Hp} {own : Own} {m k j : Nat} {o : Oper} {rest : List Oper} (hk : Nat.blt k m = true) (hmd : aIs md k = some j)
  (h : ∀ X ext p H',Le H H' → Gd H' → iV l F H' (gM o) [] fun acc=>(∀ u t,eJ l j = some t → Env.get acc t = some u → FO j u p H') →
      XO C l.toArray (aFb Gd (FO2 k) (eJ l j) acc o.dst (gC F k) (acc ++ (env ++ X)) df (own ++ ext)) [o] ⟨acc ++ (env ++ X),df,H',p :: (own ++ ext)⟩) (k2 : pH Gd cre md FO FO2 C l F env df H own m (k + 1) rest) : pH Gd cre md FO FO2 C l F env df H own m k (o :: rest):=by
 rw [pH,hk,hmd];exact ⟨h,k2⟩
theorem tR {Gd : Hp → Prop} {cre : List Nat} {md : List (Nat × Nat)} {FO FO2 : aCs} {C : Ctx} {l : List Oper} {F : List (Value → Hp → Prop)} {env : Env} {df : List Deferred} {H : Hp} {own : Own} {m k : Nat} {rest : List Oper} (hk : Nat.blt k m = false) : pH Gd cre md FO FO2 C l F env df H own m k rest:=by
 cases rest with
 | nil=>trivial
 | cons o r=>rw [pH,hk];trivial
def mdOk (m : Nat) (l : List Oper) (cre : List Nat) (md : List (Nat × Nat)) : Bool :=
 md.all fun q=>Nat.blt q.1 m && cre.contains q.2 && !cre.contains q.1 && (md.all fun q2=>Nat.beq q.1 q2.1 == Nat.beq q.2 q2.2) && (match l[q.1]? with | some o=>(gM o).contains q.2 | none=>false) && (eJ l q.2).isSome
theorem zM {l : List Oper} {F : List (Value → Hp → Prop)} {H' : Hp} {val : Nat → Value} : ∀ (js : List Nat) (acc : Env) (K : Env → Prop),iV l F H' js acc K → (∀ j ∈ js,∀ t,eJ l j = some t → gC F j (val j) H') →
    ∃ acc',K (acc' ++ acc) ∧ (∀ t v,(t,v) ∈ acc' → ∃ j ∈ js,eJ l j = some t ∧ v = val j) ∧ ∀ j ∈ js,∀ t,eJ l j = some t → (t,val j) ∈ acc'
  | [],acc,K,h,_=>⟨[],h,fun _ _ h=>(by cases h),fun _ h=>(by cases h)⟩
  | j :: js,acc,K,h,hf=>by
    cases ht : eJ l j with
    | none =>
      simp only [iV,ht] at h
      obtain ⟨acc',hk,hm,hm2⟩:=zM js _ K h (fun j' hj'=>hf j' (by simp [hj']))
      refine ⟨acc',hk,fun t v hv=>let ⟨j',hj',h3⟩:=hm t v hv;⟨j',by simp [hj'],h3⟩,fun j' hj' t hd=>?_⟩
      rcases List.mem_cons.1 hj' with rfl | hj'
      · rw [ht] at hd;cases hd
      exact hm2 j' hj' t hd
    | some t =>
      simp only [iV,ht] at h
      obtain ⟨acc',hk,hm,hm2⟩:=zM js _ K (h (val j) (hf j (by simp) t ht)) (fun j' hj'=>hf j' (by simp [hj']))
      refine ⟨acc' ++ [(t,val j)],by simpa using hk,fun t' v' hm'=>?_,fun j' hj' t' hd=>?_⟩
      · rcases List.mem_append.1 hm' with hm' | hm'
        · obtain ⟨j',hj',h3⟩:=hm t' v' hm';exact ⟨j',by simp [hj'],h3⟩
        simp only [List.mem_cons,Prod.mk.injEq,List.not_mem_nil,or_false] at hm'
        exact ⟨j,by simp,hm'.1 ▸ ht,hm'.2⟩
      rcases List.mem_cons.1 hj' with rfl | hj'
      · rw [ht] at hd;cases hd;simp
      exact List.mem_append_left _ (hm2 j' hj' t' hd)
section
variable {C : Ctx} {Q : Exit → St → Prop} {env : Env} {df : List Deferred} {H : Hp} {own : Own}
theorem aDf {Gd : Hp → Prop} {cre : List Nat} {md : List (Nat × Nat)} {FO FO2 : aCs} {l : List Oper} {F : List (Value → Hp → Prop)} {m : Nat} : ∀ (rest : List Oper) (k : Nat),pH Gd cre md FO FO2 C l F env df H own m k rest → ∀ (i : Nat) (o : Oper),rest[i]? = some o → k + i < m →
    (match aIs md (k + i) with
        | none=>∀ X ext H',Le H H' → Gd H' → iV l F H' (gM o) [] fun acc=>XO C l.toArray (sF Gd cre (k + i) o.dst (gC F (k + i)) (FO (k + i)) (acc ++ (env ++ X)) df (own ++ ext)) [o] ⟨acc ++ (env ++ X),df,H',own ++ ext⟩
        | some j=>∀ X ext p H',Le H H' → Gd H' → iV l F H' (gM o) [] fun acc=>(∀ u t,eJ l j = some t → Env.get acc t = some u → FO j u p H') →
            XO C l.toArray (aFb Gd (FO2 (k + i)) (eJ l j) acc o.dst (gC F (k + i)) (acc ++ (env ++ X)) df (own ++ ext)) [o] ⟨acc ++ (env ++ X),df,H',p :: (own ++ ext)⟩)
  | [],k,_,i,o,hi,_=>by simp at hi
  | x :: rest,k,h,i,o,hi,hlt=>by
    simp only [pH] at h
    rw [show Nat.blt k m = true by simp;omega] at h
    cases i with
    | zero=>simp only [List.getElem?_cons_zero,Option.some.injEq] at hi;subst hi;exact h.1
    | succ i =>
      have:=aDf rest (k + 1) h.2 i o (by simpa using hi) (by omega)
      rwa [show k + 1 + i = k + (i + 1) by omega] at this
theorem ext_mod {cre : List Nat} {L : Array Bool} {ent : Nat → Nat × SObj} {j : Nat} (hnd : cre.Nodup) (hj : j ∈ cre) (hl : lst L j = true) :
  ∃ ext,(jZ cre L ent).Perm (ent j :: ext) ∧ ∀ p,(jZ cre L fun x=>if x = j then p else ent x).Perm (p :: ext):=by
 have hm : j ∈ cre.filter (lst L):=List.mem_filter.2 ⟨hj,hl⟩
 have hp:=List.perm_cons_erase hm
 have hnd2 : (cre.filter (lst L)).Nodup:=List.filter_sublist.nodup hnd
 have hne : ∀ x ∈ (cre.filter (lst L)).erase j,x ≠ j:=fun x hx e=>by
  subst e
  exact (List.Nodup.not_mem_erase hnd2) hx
 refine ⟨((cre.filter (lst L)).erase j).map ent,(hp.map ent),fun p=>?_⟩;refine (hp.map _).trans ?_
 simp only [List.map_cons,if_true]
 refine List.Perm.cons _ ?_
 rw [List.map_congr_left (g:=ent) (fun x hx=>if_neg (hne x hx))]
theorem yS (Gd : Hp → Prop) (hG : Gd H) (cre : List Nat) (hnd0 : cre.Nodup) (md : List (Nat × Nat)) (FO FO2 : aCs) (hFO : ∀ i v p H H',Le H H' → FO i v p H → FO i v p H') (hFO2 : ∀ i v p H H',Le H H' → FO2 i v p H → FO2 i v p H') {id : Nat} {l : List Oper} (m : Nat) (F : List (Value → Hp → Prop)) (hm : C.P.follows .mixedOrders = true) (hck : rP m l (env.map Prod.fst) = true) (hmono' : aAl F)
    (hcm : (cre.all fun i=>Nat.blt i m) = true) (hmd : mdOk m l cre md = true) (steps : pH Gd cre md FO FO2 C l F env df H own m 0 l)
    (tail : ∀ H',Le H H' → Gd H' → iV l F H' (List.range m) [] fun acc=>qT l (endP md FO FO2) H' acc cre fun es=>XO C l.toArray Q (l.drop m) ⟨acc ++ env,df,H',es ++ own⟩) : XC C (.region id l.toArray true) Q ⟨env,df,H,own⟩:=by
  have hmono:=vB hmono'
  intro a₀ w₀ hr₀
  refine wpIn_region_any hm ?_
  simp only [rP,Bool.and_eq_true,List.all_eq_true,List.mem_range] at hck
  obtain ⟨⟨hml,hck1⟩,hck2⟩:=hck
  have hml:=Nat.le_of_ble_eq_true hml
  have hpre : ∀ i,i < m → ∃ o,l[i]? = some o ∧ (∀ t,o.dst = some t → t ∉ env.map Prod.fst ∧ (∀ j,j < m → i ≠ j → eJ l j ≠ some t)) ∧ (∀ e ∈ o.after,Region.binds .any e = true → e.on < i) ∧ (∀ j ∈ gM o,j < m ∧ ∃ e ∈ o.after,Region.binds .any e = true ∧ e.on = j):=by
    intro i hi
    have h:=hck1 i hi
    split at h
    · rename_i o ho
      simp only [Bool.and_eq_true,List.all_eq_true] at h
      obtain ⟨⟨⟨hnd,hd⟩,haf⟩,hp⟩:=h
      refine ⟨o,ho,?_,?_,?_⟩
      · intro t ht
        rw [ht] at hd
        simp only [Bool.and_eq_true,List.all_eq_true,List.mem_range,Bool.not_eq_true',List.contains_eq_mem,decide_eq_false_iff_not] at hd
        refine ⟨hd.1,fun j hj hne he=>?_⟩
        have:=hd.2 j hj
        rw [he] at this
        simp at this
        exact hne this
      · intro e he hb
        have:=haf e (by simpa using he)
        simpa [hb] using this
      intro j hj
      have:=hp j hj
      simp only [List.any_eq_true,Bool.and_eq_true] at this
      obtain ⟨h1,e,he,hb,hon⟩:=this
      exact ⟨by simpa using h1,e,by simpa using he,hb,Nat.eq_of_beq_eq_true hon⟩
    cases h
  have hkey : ∀ i t,i < m → eJ l i = some t → t ∉ env.map Prod.fst:=by
    intro i t hi ht
    obtain ⟨o,ho,hd,_⟩:=hpre i hi
    exact (hd t (by simpa [eJ,ho] using ht)).1
  have hdis : ∀ i j t,i < m → j < m → eJ l i = some t → eJ l j = some t → i = j:=by
    intro i j t hi hj ht ht2
    obtain ⟨o,ho,hd,_⟩:=hpre i hi
    by_cases h : i = j
    · exact h
    exact absurd ht2 ((hd t (by simpa [eJ,ho] using ht)).2 j hj h)
  have hmds : ∀ q ∈ md,q.1 < m ∧ q.2 ∈ cre ∧ q.1 ∉ cre ∧ (∀ q2 ∈ md,q.1 = q2.1 ↔ q.2 = q2.2) ∧ (∃ o,l[q.1]? = some o ∧ q.2 ∈ gM o) ∧ ∃ t,eJ l q.2 = some t:=by
    intro q hq
    have h:=List.all_eq_true.1 hmd q hq
    simp only [Bool.and_eq_true,List.all_eq_true] at h
    obtain ⟨⟨⟨⟨⟨h1,h2⟩,h3⟩,h4⟩,h5⟩,h6⟩:=h
    refine ⟨by simpa using h1,by simpa using h2,by simpa using h3,fun q2 hq2=>?_,?_,Option.isSome_iff_exists.1 h6⟩
    · have:=h4 q2 hq2
      rw [beq_iff_eq,Bool.eq_iff_iff] at this
      simpa using this
    split at h5
    · rename_i o ho;exact ⟨o,ho,by simpa using h5⟩
    cases h5
  have htl : ∀ (i : Nat) (o : Oper),m ≤ i → l[i]? = some o → (∀ j,j < i → pF l l.length o j = true) ∧ (∀ e ∈ o.after,Region.binds .any e = true → e.on < i):=by
    intro i o hi ho
    have hlt:=(List.getElem?_eq_some_iff.1 ho).1
    have h:=hck2 i hlt
    rw [ho] at h
    rw [show Nat.blt i m = false from aBy hi] at h
    simp only [Bool.false_or,Bool.and_eq_true,List.all_eq_true,List.mem_range] at h
    refine ⟨fun j hj=>h.1 j hj,fun e he hb=>?_⟩
    · have:=h.2 e (by simpa using he)
      simpa [hb] using this
  have hdc : ∀ (i : Nat) (o : Oper),l[i]? = some o → ∀ e ∈ o.after,Region.binds .any e = true → e.on < i:=by
    intro i o ho
    rcases Nat.lt_or_ge i m with h | h
    · obtain ⟨o2,ho2,_,haf,_⟩:=hpre i h
      rw [ho] at ho2;cases ho2;exact haf
    exact (htl i o h ho).2
  have main : ∀ (fuel : Nat) (L : Array Bool) (a : Act) (w : World) (val : Nat → Value) (ent : Nat → Nat × SObj) (H' : Hp),L.size = l.length → unl l.length L ≤ fuel → Le H H' → Gd H' → (∀ (i : Nat) (o : Oper),l[i]? = some o → lst L i = true → ∀ e ∈ o.after,Region.binds .any e = true → lst L e.on = true) → (∀ j,m ≤ j → lst L j = false) →
      a.tmps.size = C.N → (∀ t v,env.get t = some v → a.tmps.getD t undef = v) → (∃ ms : List Nat,a.defers = ms.map oF ++ df ∧ Ok C.G H' ((own ++ jZ cre L ent) ++ (ms.map hid ++ C.hid)) w) → (∀ i ∈ cre,lst L i = true → zL md FO FO2 (lst L) i (val i) (ent i) H') →
      (∀ i,i < m → lst L i = true → ∀ t,eJ l i = some t → a.tmps.getD t undef = val i ∧ gC F i (val i) H') →
      wpAnyIn (Fr C.r) 0 C.P .any l.toArray (lA C H Q) fuel L a w:=by
    intro fuel
    have done : ∀ (fuel : Nat) (L : Array Bool) (a : Act) (w : World) (val : Nat → Value) (ent : Nat → Nat × SObj) (H' : Hp),L.size = l.length → unl l.length L ≤ fuel → Le H H' → Gd H' → (∀ j,m ≤ j → lst L j = false) →
        a.tmps.size = C.N → (∀ t v,env.get t = some v → a.tmps.getD t undef = v) → (∃ ms : List Nat,a.defers = ms.map oF ++ df ∧ Ok C.G H' ((own ++ jZ cre L ent) ++ (ms.map hid ++ C.hid)) w) → (∀ i ∈ cre,lst L i = true → zL md FO FO2 (lst L) i (val i) (ent i) H') →
        (∀ i,i < m → lst L i = true → ∀ t,eJ l i = some t → a.tmps.getD t undef = val i ∧ gC F i (val i) H') → (∀ j,j < m → lst L j = true) →
        wpAnyIn (Fr C.r) 0 C.P .any l.toArray (lA C H Q) fuel L a w:=by
      intro fuel L a w val ent H' hs hu hle hGd hT hsz henv hok hents hfacts hall
      obtain ⟨acc',hk,hmem⟩:=mQ (val:=val) (List.range m) [] _ (tail H' hle hGd) (fun j hj t ht=>(hfacts j (List.mem_range.1 hj) (hall j (List.mem_range.1 hj)) t ht).2)
      have hcount : l.length - m ≤ fuel:=by rw [tM hml hall hT];exact hu
      refine sV (m:=m) htl hdc fuel m L a w (Nat.le_refl _) hs hcount hml ?_ ?_
      · intro j
        rcases Nat.lt_or_ge j m with h | h
        · rw [hall j h];simp [h]
        rw [hT j h];simp;omega
      have hcall : ∀ i ∈ cre,i < m:=fun i hi=>by simpa using List.all_eq_true.1 hcm i hi
      have hk2:=vC (ent:=ent) cre _ hk (fun i hi v hg=>by
        obtain ⟨t,hd,hg⟩:=hg
        have him:=hcall i hi
        obtain ⟨j,hj,hdj,rfl⟩:=hmem t v (nC (by simpa using hg))
        obtain rfl:=hdis i j t him (List.mem_range.1 hj) hd hdj
        refine xO ?_ (hents i hi (hall i him))
        intro q hq _
        exact hall _ (hmds q hq).1)
      have hext : jZ cre L ent = cre.map ent:=by
        rw [jZ,List.filter_eq_self.2 (fun i hi=>hall i (hcall i hi))]
      have hok2 : ∃ ms : List Nat,a.defers = ms.map oF ++ df ∧ Ok C.G H' ((cre.map ent ++ own) ++ (ms.map hid ++ C.hid)) w:=by
        obtain ⟨ms,h1,h2⟩:=hok
        rw [hext] at h2
        exact ⟨ms,h1,h2.perm (List.perm_append_comm.append_right _)⟩
      refine jK hle _ _ _ (hk2 a w ⟨hsz,?_,hok2⟩)
      intro t v hg
      simp only [List.append_nil] at hg
      rw [Env.get_append] at hg
      cases hga : Env.get acc' t with
      | none=>rw [hga] at hg;exact henv t v (by simpa using hg)
      | some u =>
        rw [hga] at hg;simp at hg;subst hg
        obtain ⟨j,hj,hd,rfl⟩:=hmem t u (gP _ _ _ hga)
        have hj:=List.mem_range.1 hj
        exact (hfacts j hj (hall j hj) t hd).1
    induction fuel with
    | zero =>
      intro L a w val ent H' hs hu hle hGd hdown hT hsz henv hok hents hfacts
      refine done 0 L a w val ent H' hs hu hle hGd hT hsz henv hok hents hfacts ?_
      intro j hj
      cases hx : lst L j with
      | true=>rfl
      | false =>
        have:=nS (L:=L) (i:=j) hs (by omega) hx
        omega
    | succ fuel ih =>
      intro L a w val ent H' hs hu hle hGd hdown hT hsz henv hok hents hfacts
      by_cases hall : ∀ j,j < m → lst L j = true
      · exact done (fuel + 1) L a w val ent H' hs hu hle hGd hT hsz henv hok hents hfacts hall
      constructor
      · intro hnil
        exfalso
        apply hall
        -- the least one that is not listed is ready
        intro j hj
        induction j using Nat.strongRecOn with
        | _ j ihj =>
          cases hx : lst L j with
          | true=>rfl
          | false =>
            exfalso
            obtain ⟨o,ho,_,haf,_⟩:=hpre j hj
            have : j ∈ Region.ready .any l.toArray L:=by
              rw [mem_ready]
              refine ⟨?_,o,by simpa using ho,fun e he hb=>ihj e.on (haf e he hb) (by have:=haf e he hb;omega)⟩
              unfold lst at hx
              rw [Array.getD_eq_getD_getElem?,Array.getElem?_eq_getElem (by omega)] at hx ⊢
              simpa using hx
            rw [hnil] at this;cases this
      intro i hi
      rw [mem_ready] at hi
      obtain ⟨h0,o,ho,hbef⟩:=hi
      have hilt : i < l.length:=by simpa using (Array.getElem?_eq_some_iff.1 ho).1
      have hun : lst L i = false:=by
        unfold lst
        rw [Array.getD_eq_getD_getElem?,Array.getElem?_eq_getElem (by omega)] at h0 ⊢
        simpa using h0
      have ho' : l[i]? = some o:=by simpa using ho
      have him : i < m:=by
        rcases Nat.lt_or_ge i m with h | h
        · exact h
        exfalso
        apply hall
        intro j hj
        exact kY hdown _ o j hbef ((htl i o h ho').1 j (by omega))
      obtain ⟨o2,ho2,hd,haf,hprd⟩:=hpre i him
      rw [ho'] at ho2;cases ho2
      have hdo : eJ l i = o.dst:=by simp [eJ,ho']
      have hst:=aDf l 0 steps i o ho' (by omega)
      simp only [Nat.zero_add] at hst
      -- all that is known of the slots,a_s one list
      let X : Env:=(List.range m).filterMap fun j=>if lst L j then (eJ l j).map fun t=>(t,val j) else none
      have hpredF : ∀ j ∈ gM o,∀ tj,eJ l j = some tj → gC F j (val j) H':=fun j hj tj hdj=>by
        obtain ⟨hjm,e,he,hb,hon⟩:=hprd j hj
        have hlj : lst L j = true:=by have:=hbef e he hb;rw [hon] at this;exact this
        exact (hfacts j hjm hlj tj hdj).2
      have hX : ∀ t v,(t,v) ∈ X → ∃ j,j < m ∧ lst L j = true ∧ eJ l j = some t ∧ v = val j:=by
        intro t v h
        obtain ⟨j,hj,hjj⟩:=List.mem_filterMap.1 h
        split at hjj
        · rename_i hlj
          cases hdj : eJ l j with
          | none=>rw [hdj] at hjj;cases hjj
          | some tj =>
            rw [hdj] at hjj
            simp only [Option.map_some,Option.some.injEq,Prod.mk.injEq] at hjj
            obtain ⟨rfl,rfl⟩:=hjj
            exact ⟨j,List.mem_range.1 hj,hlj,hdj,rfl⟩
        cases hjj
      have hgets : ∀ acc' : Env,(∀ t v,(t,v) ∈ acc' → ∃ j ∈ gM o,eJ l j = some t ∧ v = val j) → ∀ t v,Env.get (acc' ++ (env ++ X)) t = some v → a.tmps.getD t undef = v:=by
        intro acc' hmem t v hgv
        rw [Env.get_append,Env.get_append] at hgv
        cases hga : Env.get acc' t with
        | some u =>
          rw [hga] at hgv;simp at hgv;subst hgv
          obtain ⟨j,hj,hdj,rfl⟩:=hmem t u (gP _ _ _ hga)
          obtain ⟨hjm,e,he,hb,hon⟩:=hprd j hj
          have hlj : lst L j = true:=by have:=hbef e he hb;rw [hon] at this;exact this
          exact (hfacts j hjm hlj t hdj).1
        | none =>
          rw [hga] at hgv;simp only [Option.none_or] at hgv
          cases hge : Env.get env t with
          | some u=>rw [hge] at hgv;simp at hgv;subst hgv;exact henv t u hge
          | none =>
            rw [hge] at hgv;simp only [Option.none_or] at hgv
            obtain ⟨j,hj,hlj,hdj,rfl⟩:=hX t v (gP _ _ _ hgv)
            exact (hfacts j hj hlj t hdj).1
      have hnextG : ∀ (acc' : Env),(∀ t v,(t,v) ∈ acc' → ∃ j ∈ gM o,eJ l j = some t ∧ v = val j) → ∀ (a' : Act) (w' : World) (σ' : St) (v : Value) (ent' : Nat → Nat × SObj),Rel C σ' a' w' → Le H' σ'.H → Gd σ'.H → σ'.df = df → σ'.env = fJ o.dst v (acc' ++ (env ++ X)) → gC F i v σ'.H →
          (∀ ms : List Nat,Ok C.G σ'.H (σ'.own ++ (ms.map hid ++ C.hid)) w' → Ok C.G σ'.H ((own ++ jZ cre (L.setIfInBounds i true) ent') ++ (ms.map hid ++ C.hid)) w') →
          (∀ j ∈ cre,lst (L.setIfInBounds i true) j = true → zL md FO FO2 (lst (L.setIfInBounds i true)) j (if j = i then v else val j) (ent' j) σ'.H) →
          wpAnyIn (Fr C.r) 0 C.P .any l.toArray (lA C H Q) fuel (L.setIfInBounds i true) a' w':=by
        intro acc' hmem a' w' σ' v ent' hr' hle' hGd' hdf' henv' hfv hown' hent'
        refine ih (L.setIfInBounds i true) a' w' (fun j=>if j = i then v else val j) ent' σ'.H (by simpa using hs) ?_ (hle.trans hle') hGd' ?_ ?_ hr'.size ?_ ?_ hent' ?_
        · have:=nS hs hilt hun;omega
        · intro i' o' hi' hl' e he hb
          rw [gE (by omega)] at hl' ⊢
          split
          · rfl
          split at hl'
          · rename_i e1 e2;subst e2;rw [ho'] at hi';cases hi';exact hbef e he hb
          exact hdown i' o' hi' hl' e he hb
        · intro j hj
          rw [gE (by omega),if_neg (by omega)]
          exact hT j hj
        · intro t' v' hg'
          refine hr'.get t' v' ?_
          have hin : t' ∈ env.map Prod.fst:=List.mem_map.2 ⟨(t',v'),gP _ _ _ hg',rfl⟩
          rw [henv',kU (fun e=>(hd t' e).1 hin),Env.get_append,Env.get_append]
          have : Env.get acc' t' = none:=by
            cases hga : Env.get acc' t' with
            | none=>rfl
            | some u =>
              obtain ⟨j,hj,hdj,_⟩:=hmem t' u (gP _ _ _ hga)
              exact absurd hin (hkey j t' (hprd j hj).1 hdj)
          rw [this,hg'];rfl
        · obtain ⟨ms,hd',hok'⟩:=hr'.ok
          exact ⟨ms,by rw [hd',hdf'],hown' ms hok'⟩
        intro j hj hlj tj htj
        rw [gE (by omega)] at hlj
        by_cases hji : j = i
        · subst hji
          rw [hdo] at htj
          simp only [if_true]
          refine ⟨hr'.get tj v ?_,hfv⟩
          rw [henv',htj];simp [fJ,Env.get]
        rw [if_neg hji] at hlj
        obtain ⟨h1,h2⟩:=hfacts j hj hlj tj htj
        simp only [if_neg hji]
        refine ⟨hr'.get tj (val j) ?_,oY hmono hle' h2⟩
        rw [henv',kU (fun e=>hji (hdis j i tj hj him htj (by rw [hdo,e]))),Env.get_append,Env.get_append]
        have hacc : Env.get acc' tj = none ∨ Env.get acc' tj = some (val j):=by
          cases hga : Env.get acc' tj with
          | none=>exact .inl rfl
          | some u =>
            obtain ⟨j',hj',hdj',rfl⟩:=hmem tj u (gP _ _ _ hga)
            obtain rfl:=hdis j' j tj (hprd j' hj').1 hj hdj' htj
            exact .inr rfl
        rcases hacc with hacc | hacc
        · rw [hacc]
          have henvn : Env.get env tj = none:=by
            cases hge : Env.get env tj with
            | none=>rfl
            | some u=>exact absurd (List.mem_map.2 ⟨(tj,u),gP _ _ _ hge,rfl⟩) (hkey j tj hj htj)
          rw [henvn]
          simp only [Option.none_or]
          -- it stands in X,once
          refine sX X (List.mem_filterMap.2 ⟨j,List.mem_range.2 hj,by simp only [hlj,if_true,htj,Option.map_some]⟩) ?_
          intro u hu'
          obtain ⟨j',hj',_,hdj',rfl⟩:=hX tj u hu'
          obtain rfl:=hdis j' j tj hj' hj hdj' htj
          rfl
        rw [hacc];rfl
      have hcase : ∀ (acc' : Env) (own2 : Own) (Q2 : Exit → St → Prop),(∀ e σ,e ≠ .normal → ¬ Q2 e σ) → XO C l.toArray Q2 [o] ⟨acc' ++ (env ++ X),df,H',own2⟩ → Rel C ⟨acc' ++ (env ++ X),df,H',own2⟩ a w →
          (∀ a' w',lA C H' Q2 .normal a' w' → wpAnyIn (Fr C.r) 0 C.P .any l.toArray (lA C H Q) fuel (L.setIfInBounds i true) a' w') → wpOpIn (Fr C.r) 0 C.P l.toArray (lA C H Q) i (fun a' w'=>wpAnyIn (Fr C.r) 0 C.P .any l.toArray (lA C H Q) fuel (L.setIfInBounds i true) a' w') a w:=by
        intro acc' own2 Q2 hno hk hrel hnext
        have hrun:=hk a w hrel
        unfold wpOpIn
        rw [ho]
        simp only [wpListIn] at hrun ⊢
        split
        · rename_i hw
          rw [if_pos hw] at hrun
          refine lM hnext ?_ hrun
          rintro e a' w' he ⟨σ',_,_,hq⟩
          exact absurd hq (hno e σ' he)
        rename_i hw
        rw [if_neg hw] at hrun
        exact ⟨hrun.1,hnext _ _ hrun.2⟩
      cases hmk : aIs md i with
      | none =>
        rw [hmk] at hst
        obtain ⟨acc',hk,hmem⟩:=mQ (val:=val) (gM o) [] _ (hst X (jZ cre L ent) H' hle hGd) hpredF
        simp only [List.append_nil] at hk
        have hnm : ∀ q ∈ md,q.1 ≠ i:=fun q hq e=>by
          have h1 : (md.find? fun q=>Nat.beq q.1 i) = none:=by
            unfold aIs at hmk;simpa using hmk
          have:=List.find?_eq_none.1 h1 q hq
          simp [e] at this
        refine hcase acc' _ _ (fun e σ he=>by cases e <;> first | exact absurd rfl he | exact fun h=>h) hk ⟨hsz,hgets acc' hmem,hok⟩ ?_
        rintro a' w' ⟨σ',hr',hle',hGd',hdf',v,pe,henv',hfv,hown'⟩
        refine hnextG acc' hmem a' w' σ' v (fun j=>if j = i then pe else ent j) hr' hle' hGd' hdf' henv' hfv ?_ ?_
        · intro ms hok'
          cases hc : cre.contains i with
          | true =>
            rw [hc] at hown'
            rw [hown'.1] at hok'
            refine hok'.perm (List.Perm.append_right _ ?_)
            exact ((aJ9 hnd0 (List.contains_iff_mem.1 hc) hun (fun j=>gE (by omega) j)).append_left own).trans List.perm_middle
          | false =>
            rw [hc] at hown'
            rw [show σ'.own = own ++ jZ cre L ent from hown'] at hok'
            rw [aEg (fun h=>by rw [List.contains_iff_mem.2 h] at hc;cases hc) (fun j=>gE (by omega) j)]
            exact hok'
        intro j hj hlj
        have hcg : ∀ q ∈ md,q.2 = j → lst L q.1 = lst (L.setIfInBounds i true) q.1:=fun q hq _=>by rw [gE (by omega),if_neg (hnm q hq)]
        by_cases hji : j = i
        · subst hji
          rw [List.contains_iff_mem.2 hj] at hown'
          simp only [if_true]
          have hF : FO j v pe σ'.H:=by simpa using hown'.2
          unfold zL
          split
          · rename_i q hq
            have hqm:=List.mem_of_find?_eq_some hq
            have hq2 : q.2 = j:=by have:=List.find?_some hq;simpa using this
            -- the writer waits for the maker,which was not listed
            have hlq : lst L q.1 = false:=by
              cases hlq : lst L q.1 with
              | false=>rfl
              | true =>
                obtain ⟨_,_,_,_,⟨oq,hoq,hpq⟩,_⟩:=hmds q hqm
                rw [hq2] at hpq
                obtain ⟨oq2,hoq2,_,_,hprq⟩:=hpre q.1 (hmds q hqm).1
                rw [hoq] at hoq2;cases hoq2
                obtain ⟨_,e,he,hb,hon⟩:=hprq j hpq
                have:=hdown q.1 oq hoq hlq e he hb
                rw [hon,hun] at this;cases this
            rw [← hcg q hqm hq2,hlq]
            simpa using hF
          exact hF
        rw [gE (by omega),if_neg hji] at hlj
        simp only [if_neg hji]
        exact xO hcg (aDe hFO hFO2 hle' (hents j hj hlj))
      | some jm =>
        rw [hmk] at hst
        obtain ⟨q0,hq0,hq01,hq02⟩ : ∃ q0 ∈ md,q0.1 = i ∧ q0.2 = jm:=by
          unfold aIs at hmk
          rw [Option.map_eq_some_iff] at hmk
          obtain ⟨q,hq,rfl⟩:=hmk
          exact ⟨q,List.mem_of_find?_eq_some hq,by have:=List.find?_some hq;simpa using this,rfl⟩
        obtain ⟨_,hjc,hicre,huq,⟨oq,hoq,hpq⟩,tj,htj⟩:=hmds q0 hq0
        rw [hq01,ho'] at hoq;cases hoq
        rw [hq02] at hjc hpq htj
        rw [hq01] at hicre
        have hljm : lst L jm = true:=by
          obtain ⟨_,e,he,hb,hon⟩:=hprd jm hpq
          have:=hbef e he hb;rw [hon] at this;exact this
        have hjmi : jm ≠ i:=fun e=>hicre (e ▸ hjc)
        obtain ⟨ext,hperm,hperm2⟩:=ext_mod (ent:=ent) hnd0 hjc hljm
        obtain ⟨acc',hk,hmem,hmem2⟩:=zM (val:=val) (gM o) [] _ (hst X ext (ent jm) H' hle hGd) hpredF
        simp only [List.append_nil] at hk
        have hjmm : jm < m:=(hprd jm hpq).1
        have hget : ∀ u t,eJ l jm = some t → Env.get acc' t = some u → u = val jm:=fun u t ht hg=>by
          obtain ⟨j2,hj2,hd2,rfl⟩:=hmem t u (gP _ _ _ hg)
          rw [hdis j2 jm t (hprd j2 hj2).1 hjmm hd2 ht]
        have hFOj : FO jm (val jm) (ent jm) H':=by
          have h1:=hents jm hjc hljm
          unfold zL at h1
          split at h1
          · rename_i q hq
            have hqm:=List.mem_of_find?_eq_some hq
            have hq2 : q.2 = jm:=by have:=List.find?_some hq;simpa using this
            have hq1 : q.1 = i:=by rw [← hq01];exact (((hmds q hqm).2.2.2.1 q0 hq0).2 (by rw [hq2,hq02]))
            rw [hq1,hun] at h1
            simpa using h1
          exact h1
        have hpo : (own ++ jZ cre L ent).Perm (ent jm :: (own ++ ext)):=(hperm.append_left own).trans List.perm_middle
        refine hcase acc' _ _ (fun e σ he=>by cases e <;> first | exact absurd rfl he | exact fun h=>h) (hk (fun u t ht hg=>by rw [hget u t ht hg];exact hFOj)) ⟨hsz,hgets acc' hmem,?_⟩ ?_
        · obtain ⟨ms,h1,h2⟩:=hok
          exact ⟨ms,h1,h2.perm (hpo.symm.append_right _)⟩
        rintro a' w' ⟨σ',hr',hle',hGd',hdf',v,p',henv',hfv,hown',hfo⟩
        refine hnextG acc' hmem a' w' σ' v (fun x=>if x = jm then p' else ent x) hr' hle' hGd' hdf' henv' hfv ?_ ?_
        · intro ms hok'
          rw [hown'] at hok'
          refine hok'.perm (List.Perm.append_right _ ?_)
          have hold : jZ cre (L.setIfInBounds i true) (fun x=>if x = jm then p' else ent x) = jZ cre L (fun x=>if x = jm then p' else ent x):=by
            unfold jZ
            congr 1
            refine List.filter_congr fun x hx=>?_
            rw [gE (by omega),if_neg (fun e=>hicre (by rw [← e];exact hx))]
          rw [hold]
          exact ((hperm2 p').append_left own).trans List.perm_middle
        intro j hj hlj
        have hji : j ≠ i:=fun e=>hicre (e ▸ hj)
        rw [gE (by omega),if_neg hji] at hlj
        simp only [if_neg hji]
        by_cases hjj : j = jm
        · subst hjj
          simp only [if_true]
          have hF2 : FO2 i (val j) p' σ'.H:=by
            refine hfo (val j) tj htj ?_
            exact sX acc' (hmem2 j hpq tj htj) (fun u hu'=>by obtain ⟨j2,hj2,hd2,rfl⟩:=hmem tj u hu';rw [hdis j2 j tj (hprd j2 hj2).1 hjmm hd2 htj])
          unfold zL
          split
          · rename_i q hq
            have hqm:=List.mem_of_find?_eq_some hq
            have hq2 : q.2 = j:=by have:=List.find?_some hq;simpa using this
            have hq1 : q.1 = i:=by rw [← hq01];exact (((hmds q hqm).2.2.2.1 q0 hq0).2 (by rw [hq2,hq02]))
            rw [hq1,gE (by omega),if_pos rfl,if_pos rfl]
            exact hF2
          rename_i hq
          have:=List.find?_eq_none.1 hq q0 hq0
          simp [hq02] at this
        simp only [if_neg hjj]
        refine xO ?_ (aDe hFO hFO2 hle' (hents j hj hlj))
        intro q hq hq2
        rw [gE (by omega),if_neg ?_]
        intro e
        refine hjj ?_
        rw [← hq2,← hq02]
        exact ((hmds q hq).2.2.2.1 q0 hq0).1 (by rw [e,hq01])
  have hlst0 : ∀ j,lst (Array.replicate l.toArray.size false) j = false:=fun j=>by simp [lst,Array.getD_eq_getD_getElem?,Array.getElem?_replicate];split <;> rfl
  exact main l.toArray.size (Array.replicate l.toArray.size false) a₀ _ (fun _=>undef) (fun _=>(0,.nothing)) H (by simp) (by
      refine Nat.le_trans (List.countP_le_length) (by simp)) (Le.refl _) hG (fun i o _ hl=>by
      have : lst (Array.replicate l.toArray.size false) i = false:=by simp [lst,Array.getD_eq_getD_getElem?,Array.getElem?_replicate];split <;> rfl
      rw [this] at hl;cases hl) (fun j _=>by simp [lst,Array.getD_eq_getD_getElem?,Array.getElem?_replicate];split <;> rfl) hr₀.size hr₀.get
    (let ⟨ms,hd,hok⟩:=hr₀.ok;⟨ms,hd,by rw [aG8 hlst0,List.append_nil];exact hok.drew⟩) (fun i _ h=>by rw [hlst0] at h;cases h) (fun i _ h=>by
      have : lst (Array.replicate l.toArray.size false) i = false:=by simp [lst,Array.getD_eq_getD_getElem?,Array.getElem?_replicate];split <;> rfl
      rw [this] at h;cases h)
end
end Go.XL

namespace Go.XL
def FnD (P : Program) (f : FuncId) (args : Array Value) (u : FrameMode) (H : Hp) (own : Own) (R : FrameMode → Hp → Own → Prop) : Prop :=
 aB1 P f ∧ ∀ G rest w,Ok G H (own ++ rest) w → CallsDIn Fence.wide 0 P f args u w fun e u' w'=>(∃ v,e = .returned v) ∧ ∃ H' own',Le H H' ∧ Ok G H' (own' ++ rest) w' ∧ R u' H' own'
theorem FnD.mono {P : Program} {f : FuncId} {args : Array Value} {u : FrameMode} {H : Hp} {own : Own} {R R' : FrameMode → Hp → Own → Prop} (h : FnD P f args u H own R) (hr : ∀ u' H' own',Le H H' → R u' H' own' → R' u' H' own') : FnD P f args u H own R' :=
 ⟨h.1,fun G rest w ok=>(h.2 G rest w ok).mono fun _ _ _ ⟨h0,H',own',h1,h2,h3⟩=>⟨h0,H',own',h1,h2,hr _ _ _ h1 h3⟩⟩
/-! ### The walk of a deferred function -/
def aKx (C : Ctx) (H : Hp) (c0 : Frame) (cs : List Frame) (Q : Exit → FrameMode → St → Prop) (e : Exit) (a : Act) (cs' : List Frame) (w : World) : Prop :=
 ∃ u σ,cs' = { c0 with mode:=u } :: cs ∧ Rel C σ a w ∧ Le H σ.H ∧ Q e u σ
def XS (C : Ctx) (c : Code) (Q : Exit → FrameMode → St → Prop) (u : FrameMode) (σ : St) : Prop :=
 ∀ a w c0 cs,Rel C σ a w → c.wpSIn (Fr none) 0 C.P (aKx C σ.H c0 cs Q) a ({ c0 with mode:=u } :: cs) w
theorem aGe {F : Fence} {n : Nat} {P : Program} {c : Code} {Q Q' : Exit → Act → List Frame → World → Prop} {a : Act} {cs : List Frame} {w : World} (h : c.wpSIn F n P Q a cs w) (hq : ∀ e a cs w,Q e a cs w → Q' e a cs w) : c.wpSIn F n P Q' a cs w :=
 fun b k hb hr hF hroom=>let ⟨e,a',cs',w',l,q,r⟩:=h b k hb hr hF hroom;⟨e,a',cs',w',l,hq _ _ _ _ q,r⟩
section
variable {C : Ctx} {Q : Exit → FrameMode → St → Prop} {u : FrameMode} {σ : St}
theorem XS.of {c : Code} (hr : C.r = none) (h : XC C c (fun e τ=>Q e u τ) σ) : XS C c Q u σ:=by
 intro a w c0 cs hrel
 refine wpSIn_of_wpIn rfl ?_
 have h2:=h a w hrel
 rw [hr] at h2
 exact Go.wpIn_mono h2 fun e a' w' ⟨τ,h3,h4,h5⟩=>⟨u,τ,rfl,h3,h4,h5⟩
def seqS (C : Ctx) (y : Code) (Q : Exit → FrameMode → St → Prop) : Exit → FrameMode → St → Prop
 | .normal,u,σ=>XS C y Q u σ
 | e,u,σ=>Q e u σ
theorem liftS_le {C : Ctx} {H H' : Hp} {c0 : Frame} {cs cs' : List Frame} {Q : Exit → FrameMode → St → Prop} {e : Exit} {a : Act} {w : World} (hle : Le H H') (h : aKx C H' c0 cs Q e a cs' w) : aKx C H c0 cs Q e a cs' w :=
 let ⟨u,τ,h1,h2,h3,h4⟩:=h;⟨u,τ,h1,h2,hle.trans h3,h4⟩
theorem XS.seq {x y : Code} (h : XS C x (seqS C y Q) u σ) : XS C (.seq x y) Q u σ:=by
 intro a w c0 cs hrel
 refine wpSIn_seq (aGe (h a w c0 cs hrel) ?_);rintro e a' cs' w' ⟨u',τ,rfl,h2,h3,h4⟩
 cases e with
 | normal=>exact aGe (h4 a' w' c0 cs h2) fun _ _ _ _ hl=>liftS_le h3 hl
 | _=>exact ⟨u',τ,rfl,h2,h3,h4⟩
def tI : FrameMode → Value × FrameMode
 | .panicking ({ v,recovered:=false,goexit:=false } :: older)=>(v,.panicking ({ v,recovered:=true } :: older))
 | u=>(.nilIface,u)
theorem recV_spec (c0 : Frame) (u : FrameMode) (cs : List Frame) :
    recoverD ({ c0 with mode:=u } :: cs) = some ((tI u).1,{ c0 with mode:=(tI u).2 } :: cs) ∨ (recoverD ({ c0 with mode:=u } :: cs) = none ∧ tI u = (.nilIface,u)):=by
  unfold recoverD tI
  cases u with
  | panicking l =>
    cases l with
    | nil=>exact Or.inr ⟨rfl,rfl⟩
    | cons p older =>
      obtain ⟨v,r,g⟩:=p
      cases r <;> cases g <;> first | exact Or.inl rfl | exact Or.inr ⟨rfl,rfl⟩
  | _=>exact Or.inr ⟨rfl,rfl⟩
theorem XS.recover {id : Nat} {t : Option Tmp} {ts : Array TypeId} {ty : TypeId} {pos : String} {af : Array Edge} {l : List Oper} (hr : C.r = none) (hd : eP C.N t = true)
  (h : XO C (⟨t,.call { callee:=.builtin .recover,args:=#[],argTypes:=ts },ty,pos,af,none⟩ :: l : List Oper).toArray (fun e τ=>Q e (tI u).2 τ) l { σ with env:=fJ t (tI u).1 σ.env }) :
  XS C (.region id (⟨t,.call { callee:=.builtin .recover,args:=#[],argTypes:=ts },ty,pos,af,none⟩ :: l : List Oper).toArray false) Q u σ:=by
 intro a w c0 cs hrel b k hb hro hF hroom
 generalize hops : (⟨t,.call { callee:=.builtin .recover,args:=#[],argTypes:=ts },ty,pos,af,none⟩ :: l : List Oper).toArray = ops at h ⊢
 have hsz : List.range ops.size = 0 :: List.range' 1 l.length:=by
  rw [← hops];simp [List.range_eq_range',List.range'_succ]
 have ho : ops[0]? = some ⟨t,.call { callee:=.builtin .recover,args:=#[],argTypes:=ts },ty,pos,af,none⟩:=by rw [← hops];rfl
 have hput:=hrel.put (sW hd) (tI u).1 (H':=σ.H) (own':=σ.own) (w':=w) hrel.ok
 have hw2:=h _ _ hput
 rw [hr] at hw2
 rw [← wpOpsIn_eq_wpListIn l 1 (by intro j;rw [← hops];simp [Nat.add_comm])] at hw2
 have hsr : (execOp a.eval ⟨t,.call { callee:=.builtin .recover,args:=#[],argTypes:=ts },ty,pos,af,none⟩).run C.P w = .ok .recover w:=by
  simp [execOp,resolve,invoke,builtin,Sem.run_bind,Sem.run,Result.andThen,Pure.pure]
 have habout : ∀ f,Oper.about C.P w a.eval ⟨t,.call { callee:=.builtin .recover,args:=#[],argTypes:=ts },ty,pos,af,none⟩ = some f → (Fr none).fn f:=fun _ _=>trivial
 have h0 : (lone (b.atR a (.inRegion ops (0 :: List.range' 1 l.length) :: k)) ({ c0 with mode:=u } :: cs) w).fenced C.P (Fr none):=fenced_oper hF hroom ho habout
 obtain ⟨e,a',w',⟨τ,hq1,hq2,hq3⟩,harr⟩:=wp_opsIn (List.range' 1 l.length) _ w hw2 b k ({ c0 with mode:=(tI u).2 } :: cs) hro hF hroom;refine ⟨e,a',{ c0 with mode:=(tI u).2 } :: cs,w',rfl,⟨_,τ,rfl,hq1,hq2,hq3⟩,.of_steps (.one (fenced_calm hF hroom rfl) stepR_region) ?_⟩
 rw [hsz]
 refine .of_steps (.one h0 (step_lone_go ?_)) harr
 have hg:=stepGR_op (P:=C.P) (b:=b) (k:=k) (cs:={ c0 with mode:=u } :: cs) (w:=w) (rest:=List.range' 1 l.length) (a:=a) ho (by simp [Region.wanted])
 rw [hro,Oper.semAt_none] at hg
 have hfin : ∀ v,(b.atR a (.inRegion ops (0 :: List.range' 1 l.length) :: k)).finish v = b.atR (a.put t v) (.inRegion ops (List.range' 1 l.length) :: k):=by
  intro v;rw [Frame.finish_atR,ho];rfl
 have hk : (b.atR a (.inRegion ops (0 :: List.range' 1 l.length) :: k)).kind = .deferred:=hb
 have htr:=tryRecover_deferred hk ({ c0 with mode:=u } :: cs)
 rw [hg,← hfin]
 simp only [Frame.atR,hro] at htr ⊢
 rcases recV_spec c0 u cs with hrec | ⟨hrec,hv⟩
 ·simp [stepG.apply,hsr,htr,hrec]
 simp [stepG.apply,hsr,htr,hrec,hv]
end
/-! ### Contracts of deferred functions -/
theorem aGk {P : Program} {G : World} {H : Hp} {own : Own} {r : Nat} {ms : List Nat} {w : World} (ok : Ok G H (own ++ (r :: ms).map hid) w) :
  ∃ w',(Instr.takeDeferred r).run P w = .ok [] w' ∧ Ok G H (own ++ ms.map hid) w':=by
 have hm : (hid r) ∈ own ++ (r :: ms).map hid:=by simp
 obtain ⟨⟨o,ho,hw⟩,_⟩:=ok.at hm rfl
 simp only [hid,SObj.Is] at ho
 subst ho
 have hw' : w.heap[r]? = some (.deferred (some [])):=hw
 refine ⟨{ w with heap:=w.heap.setIfInBounds r (.deferred none) },?_,?_⟩
 ·have hw2:=hw'
  simp [Instr.takeDeferred,getObj,setObj,Sem.run_bind,Sem.run,Result.andThen,hw2,bind,Sem.bind,pure]
 have ok' : Ok G H (own ++ ((r,SObj.obj (.deferred (some []))) :: ms.map hid)) w:=ok
 have:=ok'.write (b:=r) (s':=.obj (.deferred none)) (o':=.deferred none) (w':={ w with heap:=w.heap.setIfInBounds r (.deferred none) }) rfl rfl rfl rfl rfl
  (by have:=pU hw';simp [this]) (fun k hk=>by simp [Array.getElem?_setIfInBounds,Ne.symm hk])
 exact this.shrink (Le.refl _) (List.Sublist.append_left (List.sublist_cons_self _ _) _)
theorem aAx {P : Program} {G : World} {H : Hp} {own : Own} : ∀ (ms : List Nat) (w : World) (fr : Frame) (cs : List Frame),fr.mode = .returning → fr.defers = ms.map oF → Ok G H (own ++ ms.map hid) w →
    ∃ w',StepsIn (Machine.fenced P Fence.wide) P (lone fr cs w) (lone { fr with defers:=[] } cs w') ∧ Ok G H own w'
  | [],w,fr,cs,hm,hd,ok=>by
    have h : { fr with defers:=[] } = fr:=by cases fr;simp at hd;simp [hd]
    exact ⟨w,by rw [h];exact StepsIn.refl _,by simpa using ok⟩
  | r :: ms,w,fr,cs,hm,hd,ok=>by
    obtain ⟨w1,h1,ok1⟩:=aGk (P:=P) ok
    have hs:=step_collected (P:=P) (cs:=cs) (d:=oF r) (ds:=ms.map oF) (by rw [hm];simp) (by simpa using hd) rfl h1
    have i1 : (lone fr cs w).fenced P Fence.wide:=fenced_out (n:=0) trivial (fun d hd=>by cases hd) (by rw [hm];simp) (d:=oF r) (ds:=ms.map oF) (by simpa using hd) (fun g _=>trivial)
    obtain ⟨w2,h2,ok2⟩:=aAx ms w1 { fr with defers:=ms.map oF } cs hm rfl ok1
    exact ⟨w2,.head i1 hs h2,ok2⟩
def bodyQS (rs : List ResultVar) (R : FrameMode → Hp → Own → Prop) (rest : Own) : Exit → FrameMode → St → Prop
 | .normal,u,σ | .ret,u,σ=>σ.df = [] ∧ ∃ vs own',aGb σ.env rs = some vs ∧ (own' ++ rest).Sublist σ.own ∧ R u σ.H own'
 | _,_,_=>False
theorem aG9 {P : Program} {G : World} {fn : Func} {args : List Value} {N : Nat} {env : Env} {H : Hp} {own : Own} {w : World} (hN : fn.ntmps = N) (hlt : Nat.ble args.length N = true) (hi : Env.init 0 args = some env) (ok : Ok G H own w) :
  Rel ⟨P,G,N,none,[]⟩ ⟨env,[],H,own⟩ { tmps:=args.toArray ++ Array.replicate (fn.ntmps - args.toArray.size) undef,defers:=[] } w:=by
 have hle : args.length ≤ N:=Nat.le_of_ble_eq_true hlt
 refine ⟨by simp [hN];omega,?_,[],rfl,by simpa using ok⟩
 intro t v hg
 obtain ⟨_,h2⟩:=Env.init_get hi hg
 simp only [Nat.sub_zero] at h2
 have hlt : t < args.length:=by
  rcases Nat.lt_or_ge t args.length with h | h
  ·exact h
  rw [List.getElem?_eq_none h] at h2;cases h2
 rw [Array.getD_eq_getD_getElem?,Array.getElem?_append_left (by simpa using hlt)]
 simp [h2]
theorem aAw {P : Program} {f : FuncId} {fn : Func} {c : Code} (hf : P.funcs[f]? = some fn) (hb : fn.body = some c) (hn : (fn.name == "runtime.NumGoroutine") = false) : aB1 P f:=by
 intro a_s w
 have hn' : fn.name ≠ "runtime.NumGoroutine":=by simpa using hn
 simp [callFunc,program,Sem.run_bind,Sem.run,Result.andThen,hf,hn',hb,bind,Sem.bind,pure]
theorem FnD.intro {P : Program} {f : FuncId} {fn : Func} {c : Code} {args : List Value} {u : FrameMode} {H : Hp} {own : Own} {R : FrameMode → Hp → Own → Prop} {N : Nat} {env : Env} {rs : List ResultVar}
    (hf : P.funcs[f]? = some fn) (hb : fn.body = some c) (hn : (fn.name == "runtime.NumGoroutine") = false) (hN : fn.ntmps = N) (hrs : fn.results = rs.toArray) (hlt : Nat.ble args.length N = true)
    (hi : Env.init 0 args = some env)
    (h : ∀ G rest,XS ⟨P,G,N,none,[]⟩ c (bodyQS rs R rest) u ⟨env,[],H,own ++ rest⟩) : FnD P f args.toArray u H own R:=by
  refine ⟨aAw hf hb hn,fun G rest w ok=>⟨trivial,fun c₀ cs hu hroom=>?_⟩⟩
  let b : Frame:={ (default : Frame) with fn:=f,kind:=.deferred,roundOf:=none }
  have henter : Frame.enter P f args.toArray .deferred =
      b.atR { tmps:=args.toArray ++ Array.replicate (fn.ntmps - args.toArray.size) undef,defers:=[] } [.code c]:=by
    simp [Frame.enter,Frame.atR,hf,hb,b]
  have hc : ({ c₀ with mode:=u } : Frame) = c₀:=by subst hu;rfl
  have hw:=h G rest _ w c₀ cs (aG9 hN hlt hi ok)
  rw [hc] at hw
  obtain ⟨e,a',cs',w',hl,⟨u',τ,rfl,hr,hle,hq⟩,harr⟩:=hw b [] rfl rfl trivial hroom
  rw [← henter] at harr
  have fin : ∀ todo,(∃ vs own',aGb τ.env rs = some vs ∧ (own' ++ rest).Sublist τ.own ∧ R u' τ.H own') → τ.df = [] →
      StepsIn (Machine.fenced P Fence.wide) P (lone (Frame.enter P f args.toArray .deferred) (c₀ :: cs) w) (lone { b.atR a' todo with mode:=.returning } ({ c₀ with mode:=u' } :: cs) w') →
      ∃ e u' w' fr,((∃ v,e = .returned v) ∧ ∃ H' own',Le H H' ∧ Ok G H' (own' ++ rest) w' ∧ R u' H' own') ∧
        ComesIn (Machine.fenced P Fence.wide) P (lone (Frame.enter P f args.toArray .deferred) (c₀ :: cs) w) (lone fr ({ c₀ with mode:=u' } :: cs) w') e ∧ fr.kind = .deferred ∧ fr.fn = f ∧ fr.going P w' e:=by
    intro todo ⟨vs,own',hres,hs,hR⟩ hd hsteps
    obtain ⟨ms,hdf,hok⟩:=hr.ok
    obtain ⟨w2,h2,ok2⟩:=aAx (P:=P) ms w' { b.atR a' todo with mode:=.returning } ({ c₀ with mode:=u' } :: cs) rfl (by show a'.defers = _;rw [hdf,hd,List.append_nil]) (by simpa using hok)
    exact ⟨.returned (aEf vs),u',w2,_,⟨⟨_,rfl⟩,τ.H,own',hle,ok2.shrink (Le.refl _) hs,hR⟩,StepsIn.trans hsteps h2,rfl,rfl,rfl,rfl,fn,hf,aAm hr hrs hres⟩
  cases e with
  | normal =>
    obtain ⟨hd,hq⟩:=hq
    exact fin [] hq hd (StepsIn.trans harr (.one (fenced_calm (fr:=b.atR a' []) (n:=0) trivial hroom rfl) (stepR_end rfl)))
  | ret =>
    obtain ⟨hd,hq⟩:=hq
    obtain ⟨todo,hs⟩:=harr.1 rfl
    exact fin todo hq hd hs
  | panic chain=>exact hq.elim
  | exit id=>exact hq.elim
  | goto l=>exact hq.elim
  | outgrown=>exact hq.elim
end Go.XL

namespace Go.XL
def aFx (P : Program) (rs : List ResultVar) (R : Ending → Hp → Own → Prop) (rest : Own) (u : FrameMode) (σ : St) : Prop :=
 ∃ (f : FuncId) (cap dargs : Array Value) (ms0 : List Nat) (own1 own2 : Own),σ.df = ⟨.fn (.func f) cap,dargs⟩ :: ms0.map oF ∧ σ.own.Perm (own1 ++ (own2 ++ ms0.map hid)) ∧
  FnD P f (dargs ++ cap) u σ.H own1 fun u' H' own1'=>settle u' = .returning ∧ ∃ vs own'',aAe P σ.env (own1' ++ own2) rs vs ∧ (own'' ++ rest).Sublist (own1' ++ own2) ∧ R (.returned (aEf vs)) H' own''
def bodyQD (P : Program) (rs : List ResultVar) (R : Ending → Hp → Own → Prop) (rest : Own) : Exit → St → Prop
 | .normal,σ | .ret,σ=>aFx P rs R rest .returning σ
 | .panic ch,σ=>aFx P rs R rest (.panicking ch) σ
 | _,_=>False
theorem aG0 {P : Program} {fn : Func} {tmps : Array Value} {G : World} {H : Hp} {u : FrameMode} (hu : u ≠ .run) {R : Ending → World → Prop} {ds : List Deferred} : ∀ (ms : List Nat) (own : Own) (w : World),
    Ok G H (own ++ ms.map hid) w → (∀ w',Ok G H own w' → LeavesInM Fence.wide 0 P fn tmps R ds u w') → LeavesInM Fence.wide 0 P fn tmps R (ms.map oF ++ ds) u w
  | [],own,w,ok,h=>by simpa using h w (by simpa using ok)
  | r :: ms,own,w,ok,h=>by
    obtain ⟨w1,h1,ok1⟩:=aGk (P:=P) ok
    exact ⟨hu,.inl ⟨r,w1,rfl,h1,aG0 hu ms own w1 ok1 h⟩⟩
theorem FnC.introD {P : Program} {f : FuncId} {fn : Func} {c : Code} {args : List Value} {H : Hp} {own : Own} {R : Ending → Hp → Own → Prop} {N : Nat} {env : Env} {rs : List ResultVar}
  (hf : P.funcs[f]? = some fn) (hb : fn.body = some c) (hn : (fn.name == "runtime.NumGoroutine") = false) (hN : fn.ntmps = N) (hrs : fn.results = rs.toArray) (hlt : Nat.ble args.length N = true)
  (hi : Env.init 0 args = some env)
  (h : ∀ G rest,XC ⟨P,G,N,none,[]⟩ c (bodyQD P rs R rest) ⟨env,[],H,own ++ rest⟩) : FnC P f args.toArray H own R:=by
 refine ⟨aAw hf hb hn,fun G rest w ok=>?_⟩;refine callsIn_wide.1 (callsIn_of_wp_marks (n:=0) hf hb trivial ?_);refine Go.wpIn_mono (h G rest _ w (aG9 hN hlt hi ok)) ?_
 intro e a w' ⟨τ,hr,hle,hq⟩
 have key : ∀ u,u ≠ .run → aFx P rs R rest u τ → LeavesInM Fence.wide 0 P fn a.tmps (fun e w'=>e ≠ .outgrown ∧ ∃ H' own',Le H H' ∧ Ok G H' (own' ++ rest) w' ∧ R e H' own') a.defers u w':=by
  intro u hu ⟨g,cap,dargs,ms0,own1,own2,hdf,hperm,hD⟩
  obtain ⟨ms,hd,hok⟩:=hr.ok
  rw [hd,hdf]
  refine aG0 hu ms τ.own w' (by simpa using hok) fun w1 ok1=>?_
  refine ⟨hu,.inr ⟨fun hx=>(by cases hx),.func g,cap,g,dargs ++ cap,rfl,hD.1 _ _,fun _ _=>trivial,?_⟩⟩
  have ok2 : Ok G τ.H (own1 ++ (own2 ++ ms0.map hid)) w1:=ok1.perm hperm.symm
  refine (hD.2 G (own2 ++ ms0.map hid) w1 ok2).mono ?_;rintro e u' w2 ⟨⟨v,rfl⟩,H',own1',hle',ok3,hset,vs,own'',hres,hsub,hR⟩
  show LeavesInM Fence.wide 0 P fn a.tmps _ (ms0.map oF) (settle u') w2
  rw [hset]
  refine wD (by simp) ms0 (own1' ++ own2) w2 (by rw [List.append_assoc];exact ok3) ?_
  intro w3 ok4
  have hrel : Rel ⟨P,G,N,none,[]⟩ ⟨τ.env,a.defers,H',own1' ++ own2⟩ a w3:=⟨hr.size,hr.get,[],rfl,by simpa using ok4⟩
  refine ⟨_,zD (fr:=[]) hrel (by simpa using ok4) hrs hres,by simp,H',own'',hle.trans hle',ok4.shrink (Le.refl _) hsub,hR⟩
 cases e with
 | normal=>exact key .returning (by simp) hq
 | ret=>exact key .returning (by simp) hq
 | panic chain=>exact key (.panicking chain) (by simp) hq
 | exit _=>exact hq.elim
 | goto _=>exact hq.elim
 | outgrown=>exact hq.elim
theorem vV : ∀ (own : Own) (i : Nat) (p : Nat × SObj),Own.at own i = some p → own.Perm (p :: own.eraseIdx i)
  | [],_,_,h=>by cases h
  | q :: r,0,p,h=>by simp only [Own.at,Option.some.injEq] at h;subst h;exact List.Perm.refl _
  | q :: r,i + 1,p,h=>by
    have:=vV r i p h
    rw [List.eraseIdx_cons_succ]
    exact (this.cons q).trans (List.Perm.swap _ _ _)
theorem jN {P : Program} {rs : List ResultVar} {R : Ending → Hp → Own → Prop} {rest rest' : Own} {u : FrameMode} {env : Env} {H : Hp} {L own : Own} {ms : List Nat} {f : FuncId} {dargs : Array Value} (i : Nat) {p : Nat × SObj} (hL : own = L ++ rest') (hrest : rest' = rest ++ ms.map hid) (hp : Own.at L i = some p)
  (hD : FnD P f dargs u H [p] fun u' H' own1'=>settle u' = .returning ∧ ∃ p' vs,own1' = [p'] ∧ aAe P env (p' :: (L.eraseIdx i ++ rest)) rs vs ∧ R (.returned (aEf vs)) H' []) :
  aFx P rs R rest u ⟨env,⟨.fn (.func f) #[],dargs⟩ :: ms.map oF,H,own⟩:=by
 subst hL;subst hrest
 refine ⟨f,#[],dargs,ms,[p],L.eraseIdx i ++ rest,rfl,?_,?_⟩
 ·have:=(vV L i p hp).append_right (rest ++ ms.map hid)
  simpa using this
 rw [Array.append_empty]
 refine hD.mono ?_;rintro u' H' own' _ ⟨h1,p',vs,rfl,h2,h3⟩
 exact ⟨h1,vs,[],h2,(List.sublist_append_right _ _).cons _,h3⟩
def zI (ch : List PanicEntry) : Ending → Hp → Own → Prop
 | .panicked c,_,own=>c = ch ∧ own = []
 | _,_,_=>False
theorem zI.mk {ch : List PanicEntry} {H : Hp} : zI ch (.panicked ch) H []:=⟨rfl,rfl⟩
section
variable {C : Ctx} {ops : Array Oper} {Q : Exit → St → Prop} {rest : List Oper} {env : Env} {df : List Deferred} {H : Hp} {own : Own} {dst : Option Tmp} {ty : TypeId} {pos : String} {af : Array Edge}
theorem nE {f : FuncId} {xs : List Operand} {ts : Array TypeId} {vs : List Value} {L rst : Own} (hr : C.r = none) (hh : C.hid = []) (hxs : evs env xs = some vs) (ho : own = L ++ rst) (hd : dst = none)
  (h : ∀ ms rst',rst' = rst ++ List.map hid ms → XO C ops Q rest ⟨env,⟨.fn (.func f) #[],vs.toArray⟩ :: ms.map oF,H,L ++ rst'⟩) :
  XO C ops Q (⟨dst,.defer { callee:=.value (.func f),args:=xs.toArray,argTypes:=ts },ty,pos,af,none⟩ :: rest) ⟨env,[],H,own⟩:=by
 intro a w hrel
 refine wpListIn_plain rfl fun K hK=>⟨fun _ _=>trivial,?_⟩
 obtain ⟨ms,hdf,hok⟩:=hrel.ok
 subst ho;subst hd
 have hrun : (Oper.semAt (Fr C.r).round a.eval ⟨none,.defer { callee:=.value (.func f),args:=xs.toArray,argTypes:=ts },ty,pos,af,none⟩).run C.P w = .ok (.defer ⟨.fn (.func f) #[],vs.toArray⟩) w:=by
  rw [show (Fr C.r).round = none from hr,Oper.semAt_none]
  simp only [execOp,resolve,Sem.run_bind]
  have : xs.toArray.map a.eval = vs.toArray:=by simp [hrel.evals hxs]
  simp [this,Act.eval,Deferred.ofValue,Sem.run,Pure.pure,Result.andThen]
 rw [hrun]
 have hrel2 : Rel C ⟨env,⟨.fn (.func f) #[],vs.toArray⟩ :: ms.map oF,H,L ++ (rst ++ ms.map hid)⟩ ({ a with defers:=⟨.fn (.func f) #[],vs.toArray⟩ :: a.defers }.put none undef) w:=by
  refine ⟨hrel.size,hrel.get,[],?_,?_⟩
  ·show ⟨.fn (.func f) #[],vs.toArray⟩ :: a.defers = _
   rw [hdf];simp
  rw [hh] at hok ⊢
  simpa using hok
 exact hK _ _ (h ms _ rfl _ w hrel2)
theorem XO.panic {x : Operand} {t : TypeId} {v : Value} (hx : ev env x = some (.iface t v)) (h : Q (.panic [{ v:=.iface t v,recovered:=false }]) ⟨env,df,H,own⟩) :
  XO C ops Q (⟨dst,.panic x,ty,pos,af,none⟩ :: rest) ⟨env,df,H,own⟩:=by
 intro a w hrel
 refine wpListIn_plain rfl fun K hK=>⟨fun _ _=>trivial,?_⟩
 rw [rI _ _ _ rfl]
 have hrun : (execOp a.eval ⟨dst,.panic x,ty,pos,af,none⟩).run C.P w = .halt (.panic (.iface t v)) w:=by
  simp [execOp,hrel.eval hx,Instr.panic,goPanic,Sem.run_bind,Sem.run,Result.andThen]
 rw [hrun]
 exact ⟨_,hrel,Le.refl _,h⟩
theorem iL {x : Operand} {t : TypeId} {v : Value} {ut : TypeDesc} (hx : ev env x = some v) (ht : C.P.underlying t = some ut) (hi : ∀ ms,ut ≠ .interface ms) (hd : eP C.N dst = true) (h : XO C ops Q rest ⟨fJ dst (.iface t v) env,df,H,own⟩) :
  XO C ops Q (⟨dst,.makeInterface t x,ty,pos,af,none⟩ :: rest) ⟨env,df,H,own⟩:=by
 refine fN rfl rfl hd (fun ρ ha w=>?_) h
 simp only [execOp,ha _ _ hx,Instr.makeInterface,underlying,program,Sem.run_bind]
 simp only [Sem.run,Pure.pure,Result.andThen,ht]
theorem aCa {P : Program} {t : TypeId} {v : Value} {ms : Array (String × TypeId)} {b : Bool} (hv : (v = .nilIface ∧ b = false) ∨ (∃ t2 u,v = .iface t2 u ∧ b = true)) (ht : P.underlying t = some (.interface ms)) (w : World) : (Op.equal t v .nilIface).run P w = .ok (!b) w:=by
 have h0 : (underlying t).run P w = .ok (.interface ms) w:=by
  simp only [underlying,program,Sem.run_bind,Sem.run,Result.andThen,ht];rfl
 rw [Op.equal,show Op.maxDepth = 9999 + 1 from rfl,Op.equalIn,Sem.run_bind,h0]
 rcases hv with ⟨rfl,rfl⟩ | ⟨t2,u,rfl,rfl⟩ <;> rfl
theorem XO.neqNilI {x : Operand} {t : TypeId} {v : Value} {ms : Array (String × TypeId)} {b : Bool} (hx : ev env x = some v) (hv : (v = .nilIface ∧ b = false) ∨ (∃ t2 u,v = .iface t2 u ∧ b = true)) (ht : C.P.underlying t = some (.interface ms)) (hd : eP C.N dst = true) (h : XO C ops Q rest ⟨fJ dst (.bool b) env,df,H,own⟩) {yt : TypeId} :
  XO C ops Q (⟨dst,.binOp .neq t x (.const .nilIface) yt,ty,pos,af,none⟩ :: rest) ⟨env,df,H,own⟩:=by
 refine fN rfl rfl hd (fun ρ ha w=>?_) h
 have hy : ρ (.const .nilIface) = .nilIface:=ha (.const .nilIface) _ rfl
 have hgd : ∀ w,(eqGuard .neq t x (.const .nilIface) v .nilIface).run C.P w = .ok () w:=by
  intro w
  rcases hv with ⟨rfl,rfl⟩ | ⟨t2,u,rfl,rfl⟩
  ·cases x <;> rfl
  rfl
 have hbin : (binOp .neq t v .nilIface).run C.P w = .ok (.bool b) w:=by
  have e1 : binOp .neq t v .nilIface = (do Pure.pure (Value.bool (!(← Op.equal t v .nilIface))) : Sem Value):=by
   rcases hv with ⟨rfl,rfl⟩ | ⟨t2,u,rfl,rfl⟩ <;> rfl
  rw [e1,Sem.run_bind,aCa hv ht]
  cases b <;> rfl
 simp only [execOp,ha _ _ hx,hy,Sem.run_bind,hgd]
 simp only [Result.andThen,hbin]
 rfl
theorem XO.assertOk {x : Operand} {st t : TypeId} {v : Value} {k : IntKind} (hx : ev env x = some (.iface t v)) (ht : C.P.underlying t = some (.int k)) (hd : eP C.N dst = true) (h : XO C ops Q rest ⟨fJ dst (.tuple #[v,.bool true]) env,df,H,own⟩) :
  XO C ops Q (⟨dst,.typeAssert x st t true,ty,pos,af,none⟩ :: rest) ⟨env,df,H,own⟩:=by
 refine fN rfl rfl hd (fun ρ ha w=>?_) h
 simp [execOp,ha _ _ hx,Instr.typeAssert,underlying,program,Sem.run_bind,Sem.run,Pure.pure,Result.andThen,ht]
theorem eC {x : Operand} {a : Addr} (hx : ev env x = some (.pointer (some a))) (hd : eP C.N dst = true) (h : XO C ops Q rest ⟨fJ dst (.pointer (some a)) env,df,H,own⟩) :
  XO C ops Q (⟨dst,.nilCheck x,ty,pos,af,none⟩ :: rest) ⟨env,df,H,own⟩:=by
 refine fN rfl rfl hd (fun ρ ha w=>?_) h
 simp [execOp,ha _ _ hx,Sem.run,Pure.pure]
theorem mP {f : FuncId} {xs : List Operand} {ts : Array TypeId} {vs : List Value} {ch : List PanicEntry} (hxs : evs env xs = some vs) (hf : FnC C.P f vs.toArray H [] (zI ch)) (hd : eP C.N dst = true)
  (h : ∀ H',Le H H' → Q (.panic ch) ⟨env,df,H',own⟩) : XO C ops Q (⟨dst,.call { callee:=.value (.func f),args:=xs.toArray,argTypes:=ts },ty,pos,af,none⟩ :: rest) ⟨env,df,H,own⟩ :=
 sS hxs hf hd (rst:=own) rfl (fun _ _ _ _ hR=>hR.elim) (fun c H' own' hle hR=>by obtain ⟨rfl,rfl⟩:=hR;exact h H' hle)
end
end Go.XL

namespace Go.XL
theorem zF : ∀ (own : Own) (i : Nat) (p p' : Nat × SObj),Own.at own i = some p → (Own.set2 own i p').Perm (p' :: own.eraseIdx i)
  | [],_,_,_,h=>by cases h
  | q :: r,0,p,p',h=>List.Perm.refl _
  | q :: r,i + 1,p,p',h=>by
    have:=zF r i p p' h
    rw [List.eraseIdx_cons_succ]
    exact (this.cons q).trans (List.Perm.swap _ _ _)
section
variable {C : Ctx} {ops : Array Oper} {Q : Exit → St → Prop} {rest : List Oper} {env : Env} {df : List Deferred} {H : Hp} {own : Own} {dst : Option Tmp} {ty : TypeId} {pos : String} {af : Array Edge}
theorem tF {own' : Own} (hp : own.Perm own') (h : XO C ops Q rest ⟨env,df,H,own'⟩) : XO C ops Q rest ⟨env,df,H,own⟩:=by
 intro a w hr
 obtain ⟨ms,hdf,hok⟩:=hr.ok
 exact h a w ⟨hr.size,hr.get,ms,hdf,hok.perm (hp.symm.append_right _)⟩
theorem pA (i : Nat) {f : FuncId} {xs : List Operand} {ts : Array TypeId} {vs : List Value} {p : Nat × SObj} {K : Value → Hp → Own → Prop} (hxs : evs env xs = some vs) (hf : FnC C.P f vs.toArray H [p] (bX K)) (hd : eP C.N dst = true) (ho : Own.at own i = some p)
  (h : ∀ v H' own',Le H H' → K v H' own' → ∃ p',own' = [p'] ∧ XO C ops Q rest ⟨fJ dst v env,df,H',Own.set2 own i p'⟩) :
  XO C ops Q (⟨dst,.call { callee:=.value (.func f),args:=xs.toArray,argTypes:=ts },ty,pos,af,none⟩ :: rest) ⟨env,df,H,own⟩:=by
 refine tF (vV own i p ho) (sS hxs hf hd (rst:=own.eraseIdx i) rfl (fun v H' own' hle hR=>?_) (fun _ _ _ _ hR=>hR.elim));obtain ⟨p',rfl,hk⟩:=h v H' own' hle hR
 exact ⟨H',[p'] ++ own.eraseIdx i,hle,Le.refl _,List.Sublist.refl _,tF (zF own i p p' ho).symm hk⟩
end
end Go.XL

namespace Go.XL
def uV (Gd : Hp → Prop) (dst : Option Tmp) (f : Value → Hp → Prop) (fo : Value → Nat × SObj → Hp → Prop) (env : Env) (df : List Deferred) (own : Own) : Exit → St → Prop
 | .normal,σ=>Gd σ.H ∧ σ.df = df ∧ ∃ v e,σ.env = fJ dst v env ∧ f v σ.H ∧ σ.own = e :: own ∧ fo v e σ.H
 | _,_=>False
theorem eH {Gd : Hp → Prop} {dst : Option Tmp} {f : Value → Hp → Prop} {fo : Value → Nat × SObj → Hp → Prop} {env : Env} {df : List Deferred} {own : Own} {H : Hp} {v : Value} {e : Nat × SObj} (hG : Gd H) (hf : f v H) (hfo : fo v e H) :
  uV Gd dst f fo env df own .normal ⟨fJ dst v env,df,H,e :: own⟩:=⟨hG,rfl,v,e,rfl,hf,rfl,hfo⟩
def foV (i0 k : Nat) (FOa : Nat × SObj → Hp → Prop) (FO2 : Value → Nat × SObj → Hp → Prop) (e0 : Nat × SObj) : Value → Nat × SObj → Hp → Prop:=fun v e H=>if k = i0 then FO2 v e H else e = e0
def stepsV (Gd : Hp → Prop) (i0 : Nat) (FOa : Nat × SObj → Hp → Prop) (FO2 : Value → Nat × SObj → Hp → Prop) (C : Ctx) (l : List Oper) (F : List (Value → Hp → Prop)) (env : Env) (df : List Deferred) (H : Hp) (own : Own) (m : Nat) : Nat → List Oper → Prop
  | _,[]=>True
  | k,o :: rest=>bif Nat.blt k m then
      (∀ X e H',Le H H' → Gd H' → (k = i0 → FOa e H') → iV l F H' (gM o) [] fun acc=>XO C l.toArray (uV Gd o.dst (gC F k) (foV i0 k FOa FO2 e) (acc ++ (env ++ X)) df own) [o] ⟨acc ++ (env ++ X),df,H',e :: own⟩) ∧ stepsV Gd i0 FOa FO2 C l F env df H own m (k + 1) rest
    else True
section
variable {C : Ctx} {Q : Exit → St → Prop} {env : Env} {df : List Deferred} {H : Hp} {own : Own}
end
end Go.XL

namespace Go.XL
theorem FnV.of_first {P : Program} {f : FuncId} {fst args cap : List Value} {H : Hp} {own : Own} {R : Ending → Hp → Own → Prop} (h : FnC P f (fst ++ args ++ cap).toArray H own R) : FnV P (.func (.func f) fst.toArray cap.toArray) args H own R:=by
 intro G rest w ok
 refine ⟨_,.enter f (fst ++ args ++ cap).toArray,w,rfl,?_,h.2 G rest w ok⟩
 have:=h.1 (fst ++ args ++ cap).toArray w
 simpa [invoke] using this
theorem kZ {C : Ctx} {ops : Array Oper} {Q : Exit → St → Prop} {rest : List Oper} {env : Env} {df : List Deferred} {H : Hp} {own : Own} {dst : Option Tmp} {ty : TypeId} {pos : String} {af : Array Edge} {fn : Fn} {fs cs : List Operand} {us vs : List Value} (hf : evs env fs = some us) (hc : evs env cs = some vs) (hd : eP C.N dst = true)
  (h : XO C ops Q rest ⟨fJ dst (.func fn us.toArray vs.toArray) env,df,H,own⟩) : XO C ops Q (⟨dst,.makeFunc fn fs.toArray cs.toArray,ty,pos,af,none⟩ :: rest) ⟨env,df,H,own⟩ :=
 fN rfl rfl hd (fun ρ ha w=>by
  have h1:=aFs ha hc
  have h2:=aFs ha hf
  simp [execOp,Instr.makeFunc,h1,h2,Sem.run,Pure.pure,bind,Sem.bind]) h
end Go.XL

namespace Go.XL
structure JS (α : Type) where
 St : List α → Hp → Own → Prop
 mono : ∀ l H H' o,Le H H' → St l H o → St l H' o
def JS.Holds {α : Type} (J : JS α) (l : List α) (H : Hp) (o : Own) : Prop:=J.St l H o
theorem JS.Holds.mono {α : Type} {J : JS α} {l : List α} {H H' : Hp} {o : Own} (h : J.Holds l H o) (hle : Le H H') : J.Holds l H' o:=J.mono _ _ _ _ hle h
def YOk {α β : Type} (P : Program) (yv : Value) (H : Hp) (enc : α → β → List Value) (lend : α → β → Hp → Own → Prop) (xs : List α) (J : JS α) (K : Hp → Own → Prop) : Prop :=
 ∀ pre x post,xs = pre ++ x :: post → ∀ bx H' ol own',Le H H' → J.Holds pre H' own' → lend x bx H' ol →
   FnV P yv (enc x bx) H' (ol ++ own') (bX fun v H'' own''=>(v = .bool true ∧ ∃ own3,own'' = ol ++ own3 ∧ J.Holds (pre ++ [x]) H'' own3) ∨ (v = .bool false ∧ K H'' own''))
def SeqL {α β : Type} (P : Program) (f : FuncId) (cap : List Value) (H : Hp) (ownI : Own) (enc : α → β → List Value) (lend : α → β → Hp → Own → Prop) (xs : List α) : Prop :=
 ∀ (yv : Value) (J : JS α) (K : Hp → Own → Prop) (ownY : Own),YOk P yv H enc lend xs J K → J.Holds [] H ownY →
  FnC P f ((yv :: cap).toArray) H (ownI ++ ownY) (bX fun v H' own'=>v = .tuple #[] ∧ ∃ ownI' ownY',own' = ownI' ++ ownY' ∧ (J.Holds xs H' ownY' ∨ K H' ownY'))
section
variable {C : Ctx} {Q : Exit → St → Prop} {env : Env} {df : List Deferred} {H : Hp} {own : Own}
end
section
variable {C : Ctx} {ops : Array Oper} {Q : Exit → St → Prop} {rest : List Oper} {env : Env} {df : List Deferred} {H : Hp} {own : Own} {dst : Option Tmp} {ty : TypeId} {pos : String} {af : Array Edge}
theorem zN {x : Operand} {t e : TypeId} {a : Option Addr} {n c n' c' : Nat} (hx : ev env x = some (.slice a n c)) (ht : C.P.underlying t = some (.slice e)) (hd : eP C.N dst = true) (h : XO C ops Q rest ⟨fJ dst (.bool a.isNone) env,df,H,own⟩) {yt : TypeId} :
  XO C ops Q (⟨dst,.binOp .eql t x (.const (.slice none n' c')) yt,ty,pos,af,none⟩ :: rest) ⟨env,df,H,own⟩:=by
 refine fN rfl rfl hd (fun ρ ha w=>?_) h
 have hy : ρ (.const (.slice none n' c')) = .slice none n' c':=ha (.const (.slice none n' c')) _ rfl
 have hgd : ∀ w,(eqGuard .eql t x (.const (.slice none n' c')) (.slice a n c) (.slice none n' c')).run C.P w = .ok () w:=fun w=>rfl
 have hb : (binOp .eql t (.slice a n c) (.slice none n' c')).run C.P w = .ok (.bool a.isNone) w:=by
  have e1 : binOp .eql t (.slice a n c) (.slice none n' c') = (do Pure.pure (Value.bool (← Op.equal t (.slice a n c) (.slice none n' c'))) : Sem Value):=rfl
  have e2 : Op.equal t (.slice a n c) (.slice none n' c') = Op.equalIn (9999 + 1) t (.slice a n c) (.slice none n' c'):=rfl
  rw [e1,Sem.run_bind,e2,Go.Lib.run_equalIn_slice_nil w 9999 t e a n c n' c' ht]
  rfl
 simp only [execOp,ha _ _ hx,hy,Sem.run_bind,hgd]
 simp only [Result.andThen,hb]
 rfl
end
end Go.XL

namespace Go.XL
def aNl (base : Env) {ι : Type} (H0 : Hp) (df : List Deferred) (U : ι → Env) (B : ι → Hp → Own → Prop) (Q : Exit → St → Prop) : Exit → St → Prop
 | .normal,σ=>∃ i,aI8 base H0 df U B i σ
 | e,σ=>Q e σ
section
variable {C : Ctx} {Q : Exit → St → Prop} {env : Env} {df : List Deferred} {H : Hp} {own : Own} {ι : Type} {base : Env} {H0 : Hp} {U : ι → Env} {B : ι → Hp → Own → Prop} {σ : St}
theorem XC.join {x y : Code} (base : Env) (U : ι → Env) (B : ι → Hp → Own → Prop) (hb : aAz env base) (h1 : Le H H → XC C x (aNl base H df U B Q) ⟨env,df,H,own⟩)
    (h2 : ∀ i H' own',Le H H' → B i H' own' → XC C y Q ⟨U i ++ base,df,H',own'⟩) : XC C (.seq x y) Q ⟨env,df,H,own⟩:=by
  refine aZ ((h1 (Le.refl _)).mono ?_)
  intro e τ hle q
  cases e with
  | normal =>
    obtain ⟨i,own1,hB,hp,ho,hd,eM⟩:=q
    obtain ⟨env',df',H',own'⟩:=τ
    cases hd
    exact fun a w hr=>h2 i _ own1 eM hB a w (hr.weaken hp (Le.refl _) ho)
  | exit _=>exact q
  | goto _=>exact q
  | ret=>exact q
  | panic _=>exact q
  | outgrown=>exact q
theorem lO {env : Env} {H' : Hp} {own' : Own} (j : ι) {own1 : Own} (hp : aAz env (U j ++ base)) (hB : B j H' own1) (ho : own1.Sublist own') (hle : Le H0 H') : aNl base H0 df U B Q .normal ⟨env,df,H',own'⟩ :=
 ⟨j,own1,hB,hp,ho,rfl,hle⟩
end
end Go.XL
