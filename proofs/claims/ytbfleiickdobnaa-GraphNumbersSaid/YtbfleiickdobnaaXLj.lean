/- The logic's rules for maps whose keys are numbers. No statement of the program stands here. -/
import Derived.Test.YtbfleiickdobnaaXLi
set_option autoImplicit false
set_option linter.unusedSimpArgs false
set_option linter.unusedVariables false
set_option linter.unnecessarySimpa false
namespace Go.XL

/-- The entries, in the order of their making. -/
def MapI (kd : IntKind) (es : Array MapEntry) (m : List (Int × Value)) : Prop := es.toList.map (fun e => (e.key, e.val)) = m.map fun p => (Value.int kd p.1, p.2)
def mget : List (Int × Value) → Int → Option Value
  | [], _ => none
  | (k, v) :: m, x => if x = k then some v else mget m x
def mset : List (Int × Value) → Int → Value → List (Int × Value)
  | [], x, u => [(x, u)]
  | (k, v) :: m, x, u => if x = k then (x, u) :: m else (k, v) :: mset m x u
theorem mget_mset (m : List (Int × Value)) (x y : Int) (u : Value) : mget (mset m x u) y = if y = x then some u else mget m y := by
  induction m with
  | nil => simp [mset, mget]
  | cons p m ih =>
    obtain ⟨k, v⟩ := p
    simp only [mset]
    split
    · rename_i h; subst h
      simp only [mget]
      split <;> simp_all
    · rename_i h
      simp only [mget, ih]
      split
      · rename_i h2; subst h2; rw [if_neg (fun e => h e.symm)]
      · rfl

theorem MapI.nil (kd : IntKind) : MapI kd #[] [] := rfl
theorem MapI.size {kd : IntKind} {es : Array MapEntry} {m : List (Int × Value)} (h : MapI kd es m) : es.size = m.length := by
  have := congrArg List.length h
  simpa using this

theorem findNow_int {kd : IntKind} {x : Int} : ∀ (es : List MapEntry) (m : List (Int × Value)) (i : Nat), es.map (fun e => (e.key, e.val)) = m.map (fun p => (Value.int kd p.1, p.2)) →
    (mget m x = none ∧ Instr.findNow (.int kd) (.int kd x) es i = some none) ∨ (∃ j v, mget m x = some v ∧ Instr.findNow (.int kd) (.int kd x) es i = some (some (i + j, v)) ∧ j < es.length ∧ (es[j]?).map (·.key) = some (.int kd x) ∧
      ∀ u, (es.modify j fun e => { e with key := .int kd x, val := u }).map (fun e => (e.key, e.val)) = (mset m x u).map fun p => (Value.int kd p.1, p.2))
  | [], m, i, h => by
    cases m with
    | nil => exact .inl ⟨rfl, rfl⟩
    | cons p m => simp at h
  | e :: es, m, i, h => by
    cases m with
    | nil => simp at h
    | cons p m =>
      obtain ⟨k, v⟩ := p
      obtain ⟨ek, evl, eb⟩ := e
      simp only [List.map_cons, List.cons.injEq, Prod.mk.injEq] at h
      obtain ⟨⟨rfl, rfl⟩, h⟩ := h
      simp only [Instr.findNow, Instr.sameNow, if_true, mget]
      by_cases hxk : x = k
      · subst hxk
        refine .inr ⟨0, evl, by simp, by simp, by simp, by simp, fun u => ?_⟩
        simp [mset, h]
      · simp only [hxk, if_false]
        have hb : (x == k) = false := by simpa using hxk
        rw [hb]
        rcases findNow_int es m (i + 1) h with ⟨h1, h2⟩ | ⟨j, v', h1, h2, h3, h4, h5⟩
        · exact .inl ⟨h1, h2⟩
        · refine .inr ⟨j + 1, v', h1, by simp only; rw [h2]; congr 3; omega, by simp; omega, by simpa using h4, fun u => ?_⟩
          simp only [mset, hxk, if_false, List.modify_succ_cons, List.map_cons, h5 u]

theorem run_checkKey {P : Program} {w : World} {b : Bool} {t : TypeId} {kd : IntKind} {x : Int} (h : P.underlying t = some (.int kd)) : (Instr.checkKey b 10000 t (.int kd x)).run P w = .ok () w := by
  unfold Instr.checkKey
  rw [Sem.run_bind, run_underlying h]
  rfl

theorem run_findKey {P : Program} {w : World} {t : TypeId} {kd : IntKind} {x : Int} {es : List MapEntry} {r : Option (Nat × Value)} (h : P.underlying t = some (.int kd)) (hf : Instr.findNow (.int kd) (.int kd x) es 0 = some r) : (Instr.findKey t (.int kd x) es).run P w = .ok r w := by
  unfold Instr.findKey
  rw [Sem.run_bind, run_underlying h]
  simp only [Result.andThen, hf]
  rfl

def zeroV (P : Program) (t : TypeId) : Option Value := (P.info? t).bind (·.zero)
theorem run_zeroV {P : Program} {w : World} {t : TypeId} {z : Value} (h : zeroV P t = some z) : (zeroValue t).run P w = .ok z w := by
  unfold zeroV at h
  cases hi : P.info? t with
  | none => rw [hi] at h; cases h
  | some i =>
    rw [hi] at h
    simp only [Option.bind_some] at h
    simp [zeroValue, typeInfo, program, hi, h, Sem.run, Pure.pure, bind, Sem.bind]

section
variable {C : Ctx} {ops : Array Oper} {Q : Exit → St → Prop} {rest : List Oper} {env : Env} {df : List Deferred} {H : Hp} {own : Own}
variable {dst : Option Tmp} {ty : TypeId} {pos : String} {af : Array Edge}

theorem Ok.objIn {G : World} {own : Own} {w : World} {i b : Nat} {o : Obj} {fr : Own} (h : Ok G H (own ++ fr) w) (ho : Own.at own i = some (b, .obj o)) : w.heap[b]? = some o := by
  obtain ⟨⟨o1, ho1, hw1⟩, _⟩ := h.at (List.mem_append_left fr (Own.at_mem ho)) rfl
  simp only [SObj.Is] at ho1
  subst ho1
  exact hw1

theorem Ok.putIn {G : World} {own own' : Own} {w : World} {i b : Nat} {o o' : Obj} {fr : Own} (h : Ok G H (own ++ fr) w) (ho : Own.at own i = some (b, .obj o)) (hp : Own.put own i (.obj o') = some own') : Ok G H (own' ++ fr) (w.putObj b o') := by
  have hb := Ok.objIn h ho
  obtain ⟨pre, post, rfl, rfl⟩ := Own.at_split ho
  rw [Own.put_split] at hp
  cases hp
  simp only [List.append_assoc, List.cons_append] at h ⊢
  exact h.write (s' := .obj o') rfl rfl rfl rfl rfl (World.putObj_heap_same (heap_lt hb)) (fun k hk => World.putObj_heap_other hk)

theorem run_getMap {P : Program} {w : World} {b : Nat} {es : Array MapEntry} {cl : Nat} (h : w.heap[b]? = some (.map es cl)) : (getObj b).run P w = .ok (.map es cl) w := by simp [getObj, Sem.run, h]
theorem run_setMap {P : Program} {w : World} {b : Nat} {es : Array MapEntry} {cl : Nat} (o : Obj) (h : w.heap[b]? = some (.map es cl)) : (setObj b o).run P w = .ok () (w.putObj b o) := by simp [setObj, Sem.run, h, World.putObj]

theorem XO.makeMap {t : TypeId} (hd : dstOk C.N dst = true) (h : ∀ b, XO C ops Q rest ⟨putE dst (.map (some b)) env, df, H, (b, .obj (.map #[] 0)) :: own⟩) :
    XO C ops Q (⟨dst, .makeMap t none, ty, pos, af, none⟩ :: rest) ⟨env, df, H, own⟩ :=
  XO.op rfl rfl hd fun ρ w fr ha hok => ⟨.value (.map (some w.heap.size)), _, _, H, (w.heap.size, .obj (.map #[] 0)) :: own,
    by simp [execOp, Instr.makeMap, newObj, Sem.run, Pure.pure, bind, Sem.bind], .inl rfl, Le.refl _, hok.new (s := .obj (.map #[] 0)) rfl, h _⟩

theorem XO.mapSet (i : Nat) {t kt et : TypeId} {x y z : Operand} {b : Nat} {kd : IntKind} {k : Int} {v : Value} {es : Array MapEntry} {cl : Nat} {m : List (Int × Value)}
    (hx : ev env x = some (.map (some b))) (hy : ev env y = some (.int kd k)) (hz : ev env z = some v) (ho : Own.at own i = some (b, .obj (.map es cl))) (hm : MapI kd es m) (ht : C.P.underlying t = some (.map kt et)) (hk : C.P.underlying kt = some (.int kd)) (hd : dstOk C.N dst = true)
    (h : ∀ es' cl', MapI kd es' (mset m k v) → XO C ops Q rest ⟨putE dst undef env, df, H, Own.set2 own i (b, .obj (.map es' cl'))⟩) :
    XO C ops Q (⟨dst, .mapUpdate t x y z, ty, pos, af, none⟩ :: rest) ⟨env, df, H, own⟩ := by
  refine XO.op rfl rfl hd fun ρ w fr ha hok => ?_
  have hb := Ok.objIn hok ho
  have hput : ∀ o', ∃ own', Own.put own i (.obj o') = some own' ∧ own' = Own.set2 own i (b, .obj o') := by
    intro o'
    obtain ⟨pre, post, rfl, rfl⟩ := Own.at_split ho
    exact ⟨_, Own.put_split, Own.set2_split.symm⟩
  have run1 : ∀ {nx w'}, (Instr.mapUpdate t (.map (some b)) (.int kd k) v).run C.P w = .ok nx w' → (execOp ρ ⟨dst, .mapUpdate t x y z, ty, pos, af, none⟩).run C.P w = .ok .skip w' := by
    intro nx w' hr
    simp only [execOp, ha _ _ hx, ha _ _ hy, ha _ _ hz, Sem.run_bind, hr, Result.andThen]
    rfl
  rcases findNow_int es.toList m 0 hm with ⟨h1, h2⟩ | ⟨j, v', h1, h2, h3, h4, h5⟩
  · obtain ⟨own', hown, hse⟩ := hput (.map (es.push { key := .int kd k, val := v, born := cl }) (cl + 1))
    refine ⟨.skip, undef, w.putObj b (.map (es.push { key := .int kd k, val := v, born := cl }) (cl + 1)), H, own', run1 (nx := ()) ?_, .inr ⟨rfl, rfl⟩, Le.refl _, Ok.putIn hok ho hown, (hse ▸ h _ _ ?_)⟩
    · unfold Instr.mapUpdate
      rw [Sem.run_bind, run_underlying ht]
      simp only [Result.andThen, Sem.run_bind, run_getMap hb, run_checkKey (x := k) hk, run_findKey (x := k) hk h2, run_setMap _ hb]
    · have : ∀ (m : List (Int × Value)), mget m k = none → mset m k v = m ++ [(k, v)] := by
        intro m
        induction m with
        | nil => intro _; rfl
        | cons p m ih =>
          obtain ⟨k', v''⟩ := p
          intro hg
          simp only [mget] at hg
          split at hg
          · cases hg
          · rename_i hne; simp [mset, hne, ih hg]
      unfold MapI at hm ⊢
      rw [this m h1]
      simp [hm]
  · obtain ⟨own', hown, hse⟩ := hput (.map (es.modify j fun e => { e with key := .int kd k, val := v }) cl)
    refine ⟨.skip, undef, w.putObj b (.map (es.modify j fun e => { e with key := .int kd k, val := v }) cl), H, own', run1 (nx := ()) ?_, .inr ⟨rfl, rfl⟩, Le.refl _, Ok.putIn hok ho hown, (hse ▸ h _ _ ?_)⟩
    · simp only [Nat.zero_add] at h2
      unfold Instr.mapUpdate
      rw [Sem.run_bind, run_underlying ht]
      simp only [Result.andThen, Sem.run_bind, run_getMap hb, run_checkKey (x := k) hk, run_findKey (x := k) hk h2]
      have hkey : ((es[j]?).map (·.key)).getD (Value.int kd k) = .int kd k := by
        have : (es[j]?).map (·.key) = some (.int kd k) := by simpa using h4
        rw [this]; rfl
      rw [hkey]
      have hst : (Instr.keyThatStays (.int kd k) (.int kd k)).run C.P w = .ok (.int kd k) w := by
        simp [Instr.keyThatStays, Instr.sameBits, Sem.run, Pure.pure]
      rw [hst]
      simp only [run_setMap _ hb]
    · unfold MapI
      rw [← h5 v]
      simp
end

section
variable {C : Ctx} {ops : Array Oper} {Q : Exit → St → Prop} {rest : List Oper} {env : Env} {df : List Deferred} {H : Hp} {own : Own}
variable {dst : Option Tmp} {ty : TypeId} {pos : String} {af : Array Edge}
theorem XO.mapLen (i : Nat) {t kt et : TypeId} {x : Operand} {b : Nat} {kd : IntKind} {es : Array MapEntry} {cl : Nat} {m : List (Int × Value)} (hx : ev env x = some (.map (some b))) (ho : Own.at own i = some (b, .obj (.map es cl))) (hm : MapI kd es m)
    (ht : C.P.underlying t = some (.map kt et)) (hd : dstOk C.N dst = true)
    (h : XO C ops Q rest ⟨putE dst (.int .i64 m.length) env, df, H, own⟩) :
    XO C ops Q (⟨dst, .call { callee := .builtin .len, args := #[x], argTypes := #[t] }, ty, pos, af, none⟩ :: rest) ⟨env, df, H, own⟩ := by
  refine XO.op rfl rfl hd fun ρ w fr ha hok => ⟨.value (.int .i64 m.length), _, w, H, own, ?_, .inl rfl, Le.refl _, hok, h⟩
  have hb := Ok.objIn hok ho
  simp only [execOp, resolve, Sem.run_bind]
  simp only [Pure.pure, Sem.run, Result.andThen, invoke, builtin, Sem.run_bind, Builtin.len_]
  simp [ha _ _ hx, Sem.run_bind, run_underlying ht, run_getMap hb, Result.andThen, goInt, Pure.pure, Sem.run, hm.size]

theorem XO.mapGet (i : Nat) {t kt et : TypeId} {x y : Operand} {b : Nat} {kd : IntKind} {k : Int} {es : Array MapEntry} {cl : Nat} {m : List (Int × Value)} {z : Value} {ok : Bool} (hx : ev env x = some (.map (some b))) (hy : ev env y = some (.int kd k)) (ho : Own.at own i = some (b, .obj (.map es cl))) (hm : MapI kd es m)
    (ht : C.P.underlying t = some (.map kt et)) (hk : C.P.underlying kt = some (.int kd)) (hz : zeroV C.P et = some z) (hd : dstOk C.N dst = true)
    (h : XO C ops Q rest ⟨putE dst (if ok then .tuple #[(mget m k).getD z, .bool (mget m k).isSome] else (mget m k).getD z) env, df, H, own⟩) :
    XO C ops Q (⟨dst, .lookup t x y ok, ty, pos, af, none⟩ :: rest) ⟨env, df, H, own⟩ := by
  refine XO.op rfl rfl hd fun ρ w fr ha hok => ⟨.value (if ok then .tuple #[(mget m k).getD z, .bool (mget m k).isSome] else (mget m k).getD z), _, w, H, own, ?_, .inl rfl, Le.refl _, hok, h⟩
  have hb := Ok.objIn hok ho
  have hl : (Instr.lookup t (.map (some b)) (.int kd k) ok).run C.P w = .ok (if ok then .tuple #[(mget m k).getD z, .bool (mget m k).isSome] else (mget m k).getD z) w := by
    unfold Instr.lookup
    rw [Sem.run_bind, run_underlying ht]
    rcases findNow_int (x := k) es.toList m 0 hm with ⟨h1, h2⟩ | ⟨j, v', h1, h2, _, _, _⟩
    · simp only [Result.andThen, Sem.run_bind, run_getMap hb]
      simp only [Pure.pure, Sem.run, Result.andThen, Sem.run_bind, run_checkKey (x := k) hk, run_findKey (x := k) hk h2, run_zeroV hz, h1]
      rfl
    · simp only [Result.andThen, Sem.run_bind, run_getMap hb]
      simp only [Pure.pure, Sem.run, Result.andThen, Sem.run_bind, run_checkKey (x := k) hk, run_findKey (x := k) hk h2, h1]
      rfl
  simp only [execOp, ha _ _ hx, ha _ _ hy, Sem.run_bind, hl, Result.andThen]
  rfl
end
end Go.XL
