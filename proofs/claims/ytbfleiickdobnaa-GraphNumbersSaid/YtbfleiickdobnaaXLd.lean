/- The logic's rules for memory: variables, structs, slices. No statement of the program stands here. -/
import Derived.Test.YtbfleiickdobnaaXLc
set_option autoImplicit false
set_option linter.unusedSimpArgs false
set_option linter.unusedVariables false
namespace Go.XL

/-! ### Facts on types (closed, by kernel_rfl) -/
def aggD : TypeDesc → Bool | .struct _ | .array _ _ => true | _ => false
def tyF (P : Program) (t : TypeId) (sz : Nat) (agg : Bool) : Bool :=
  match P.underlying t, P.info? t with | some d, some i => aggD d == agg && i.size == sz | _, _ => false
def cellsO : Value → Option (List Value) | .agg ⟨l⟩ => some l | v => some [v]
def zeroC (P : Program) (t : TypeId) : Option (List Value) :=
  match P.info? t with | some i => (match i.zero with | some z => cellsO z | none => none) | none => none
/-- the offset of a field that is not empty -/
def fieldF (P : Program) (t : TypeId) (f : Nat) : Option Nat :=
  match P.underlying t with
  | some (.struct fs) => (match fs[f]? with | some fd => (match P.info? fd.type with | some i => (if i.size = 0 then none else some fd.offset) | none => none) | none => none)
  | _ => none
def fieldT (P : Program) (t : TypeId) (f : Nat) : Option (Nat × TypeId) :=
  match P.underlying t with
  | some (.struct fs) => (match fs[f]? with | some fd => some (fd.offset, fd.type) | none => none)
  | _ => none

def subL : List Value → Nat → Nat → Option (List Value)
  | _, 0, 0 => some []
  | x :: xs, 0, n + 1 => match subL xs 0 n with | some r => some (x :: r) | none => none
  | _ :: xs, o + 1, n => subL xs o n
  | [], _, _ => none
def setL : List Value → Nat → List Value → Option (List Value)
  | xs, 0, [] => some xs
  | _ :: xs, 0, v :: vs => match setL xs 0 vs with | some r => some (v :: r) | none => none
  | x :: xs, o + 1, vs => match setL xs o vs with | some r => some (x :: r) | none => none
  | [], _, _ => none
def mkV : Bool → List Value → Option Value
  | true, vs => some (.agg ⟨vs⟩)
  | false, [v] => some v
  | false, _ => none
def oneAll : List Value → Bool
  | [] => true
  | v :: vs => Value.oneCell' v && oneAll vs

theorem oneAll_mem {vs : List Value} (h : oneAll vs = true) : ∀ v ∈ vs, v.oneCell' = true := by
  induction vs with
  | nil => intro v hv; cases hv
  | cons u us ih =>
    simp only [oneAll, Bool.and_eq_true] at h
    intro v hv
    rcases List.mem_cons.1 hv with rfl | hv
    · exact h.1
    · exact ih h.2 v hv

theorem subL_eq {xs : List Value} {o n : Nat} {vs : List Value} (h : subL xs o n = some vs) : vs = (xs.drop o).take n ∧ o + n ≤ xs.length ∧ vs.length = n := by
  induction xs generalizing o n vs with
  | nil =>
    cases o with
    | zero => cases n with
      | zero => cases h; simp
      | succ n => cases h
    | succ o => cases h
  | cons x xs ih =>
    cases o with
    | zero =>
      cases n with
      | zero => cases h; simp
      | succ n =>
        simp only [subL] at h
        split at h
        · rename_i r hr
          cases h
          obtain ⟨h1, h2, h3⟩ := ih hr
          refine ⟨?_, by simp; omega, by simp [h3]⟩
          simp only [List.drop_zero, List.take_succ_cons, List.cons.injEq, true_and] at h1 ⊢
          exact h1
        · cases h
    | succ o =>
      simp only [subL] at h
      obtain ⟨h1, h2, h3⟩ := ih h
      exact ⟨by simpa using h1, by simp; omega, h3⟩

theorem setL_eq {xs : List Value} {o : Nat} {vs r : List Value} (h : setL xs o vs = some r) : r = xs.take o ++ vs ++ xs.drop (o + vs.length) ∧ o + vs.length ≤ xs.length := by
  induction xs generalizing o vs r with
  | nil =>
    cases o with
    | zero => cases vs with
      | nil => cases h; simp
      | cons v vs => cases h
    | succ o => cases vs <;> cases h
  | cons x xs ih =>
    cases o with
    | zero =>
      cases vs with
      | nil => cases h; simp
      | cons v vs =>
        simp only [setL] at h
        split at h
        · rename_i q hq
          cases h
          obtain ⟨h1, h2⟩ := ih hq
          refine ⟨?_, by simp at h2 ⊢; omega⟩
          simp only [List.take_zero, List.nil_append, Nat.zero_add, List.length_cons, List.drop_succ_cons, List.cons_append, List.cons.injEq, true_and] at h1 ⊢
          exact h1
        · cases h
    | succ o =>
      have h' : (match setL xs o vs with | some r => some (x :: r) | none => none) = some r := by cases vs <;> exact h
      split at h'
      · rename_i q hq
        cases h'
        obtain ⟨h1, h2⟩ := ih hq
        refine ⟨?_, by simp; omega⟩
        rw [h1, show o + 1 + vs.length = (o + vs.length) + 1 by omega]
        simp
      · cases h'

section runs
variable {P : Program} {w : World}

theorem tyF_run {t : TypeId} {sz : Nat} {agg : Bool} (h : tyF P t sz agg = true) : (∃ d, P.underlying t = some d ∧ aggD d = agg) ∧ ∃ i, P.info? t = some i ∧ i.size = sz := by
  unfold tyF at h
  split at h
  · rename_i d i hd hi
    simp only [Bool.and_eq_true, beq_iff_eq] at h
    exact ⟨⟨d, hd, h.1⟩, i, hi, h.2⟩
  · cases h

theorem run_isAgg {t : TypeId} {sz : Nat} {agg : Bool} (h : tyF P t sz agg = true) : (isAgg t).run P w = .ok agg w := by
  obtain ⟨⟨d, hd, ha⟩, _⟩ := tyF_run h
  subst ha
  simp only [isAgg, underlying, program, Sem.run_bind, Sem.run, Result.andThen, hd, bind, Sem.bind, Pure.pure]
  cases d <;> rfl

theorem run_sizeOf {t : TypeId} {sz : Nat} {agg : Bool} (h : tyF P t sz agg = true) : (sizeOf t).run P w = .ok sz w := by
  obtain ⟨_, i, hi, hs⟩ := tyF_run h
  subst hs
  simp [sizeOf, typeInfo, program, Sem.run_bind, Sem.run, Result.andThen, hi, bind, Sem.bind, Pure.pure]

theorem run_underlying {t : TypeId} {d : TypeDesc} (h : P.underlying t = some d) : (underlying t).run P w = .ok d w := by
  simp [underlying, program, Sem.run, h, bind, Sem.bind, Pure.pure]

theorem run_loadVar {t : TypeId} {sz : Nat} {agg : Bool} (h : tyF P t sz agg = true) {b o : Nat} {vs : List Value} {v : Value} (hl : vs.length = sz) (hc : ∀ j u, vs[j]? = some u → w.cell? ⟨b, o + j, none⟩ = some u) (hv : mkV agg vs = some v) :
    (loadVar t ⟨b, o, none⟩).run P w = .ok v w := by
  have hadd : ∀ j, (⟨b, o, none⟩ : Addr).add j = ⟨b, o + j, none⟩ := by intro j; unfold Addr.add; split <;> simp_all
  unfold loadVar
  rw [Sem.run_bind, run_isAgg h]
  simp only [Result.andThen]
  cases agg with
  | true =>
    cases hv
    have h1 := run_loadCells_list (P := P) (w := w) ⟨b, o, none⟩ vs (fun j u hj => by rw [hadd]; exact hc j u hj)
    subst hl
    simp only [if_true, Sem.run_bind, run_sizeOf h, Result.andThen, h1]
    rfl
  | false =>
    obtain ⟨u, rfl⟩ : ∃ u, vs = [u] := by
      cases vs with
      | nil => cases hv
      | cons x xs => cases xs with
        | nil => exact ⟨x, rfl⟩
        | cons _ _ => cases hv
    simp only [mkV, Option.some.injEq] at hv
    subst hv
    have := hc 0 u rfl
    simp only [Nat.add_zero] at this
    simp [load, Sem.run, this]

theorem cellsO_eq {v : Value} {vs : List Value} (h : cellsO v = some vs) : v.cells = vs.toArray := by
  cases v with
  | agg cs => cases cs; cases h; rfl
  | _ => cases h; rfl

end runs

section
variable {C : Ctx} {ops : Array Oper} {Q : Exit → St → Prop} {rest : List Oper} {env : Env} {df : List Deferred} {H : Hp} {own : Own}
variable {dst : Option Tmp} {ty : TypeId} {pos : String} {af : Array Edge}

/-! ### Variables of the call's own -/
theorem XO.box {T : TypeId} {x : Operand} {v : Value} {vs : List Value} (hx : ev env x = some v) (hv : cellsO v = some vs) (hd : dstOk C.N dst = true)
    (h : ∀ b, XO C ops Q rest ⟨putE dst (.pointer (some ⟨b, 0, none⟩)) env, df, H, (b, .cells T vs) :: own⟩) :
    XO C ops Q (⟨dst, .box T x, ty, pos, af, none⟩ :: rest) ⟨env, df, H, own⟩ :=
  XO.op rfl rfl hd fun ρ w fr ha hok => ⟨.value (.pointer (some ⟨w.heap.size, 0, none⟩)), _, _, H, (w.heap.size, .cells T vs) :: own,
    by simp [execOp, Instr.box, ha _ _ hx, newVar, newRow, newObj, cellsO_eq hv, Sem.run, Pure.pure, bind, Sem.bind], .inl rfl, Le.refl _, hok.new (s := .cells T vs) rfl, h _⟩

theorem XO.alloc {T : TypeId} {vs : List Value} (hz : zeroC C.P T = some vs) (hd : dstOk C.N dst = true)
    (h : ∀ b, XO C ops Q rest ⟨putE dst (.pointer (some ⟨b, 0, none⟩)) env, df, H, (b, .cells T vs) :: own⟩) :
    XO C ops Q (⟨dst, .alloc T, ty, pos, af, none⟩ :: rest) ⟨env, df, H, own⟩ := by
  refine XO.op rfl rfl hd fun ρ w fr ha hok => ⟨.value (.pointer (some ⟨w.heap.size, 0, none⟩)), _, _, H, (w.heap.size, .cells T vs) :: own, ?_, .inl rfl, Le.refl _, hok.new (s := .cells T vs) rfl, h _⟩
  unfold zeroC at hz
  split at hz
  · rename_i i hi
    split at hz
    · rename_i z hzz
      simp [execOp, Instr.alloc, zeroValue, typeInfo, program, hi, hzz, newVar, newRow, newObj, cellsO_eq hz, Sem.run, Pure.pure, bind, Sem.bind]
    · cases hz
  · cases hz

theorem cell_of {G : World} {H : Hp} {own : Own} {w : World} (hok : Ok G H own w) {b : Nat} {T : TypeId} {cs : List Value} (hm : (b, SObj.cells T cs) ∈ own) : w.heap[b]? = some (.cells cs.toArray T (0, 0)) := by
  obtain ⟨⟨o, ho, hw⟩, _⟩ := hok.at hm rfl
  simp only [SObj.Is] at ho
  subst ho
  exact hw

theorem Own.at_mem {own : Own} {i : Nat} {p : Nat × SObj} (h : Own.at own i = some p) : p ∈ own := by
  obtain ⟨pre, post, rfl, _⟩ := Own.at_split h
  simp

theorem XO.loadO (i : Nat) {t T : TypeId} {x : Operand} {b o sz : Nat} {agg : Bool} {cs vs : List Value} {v : Value} (hx : ev env x = some (.pointer (some ⟨b, o, none⟩))) (ho : Own.at own i = some (b, .cells T cs))
    (ht : tyF C.P t sz agg = true) (hl : subL cs o sz = some vs) (hv : mkV agg vs = some v) (hd : dstOk C.N dst = true)
    (h : XO C ops Q rest ⟨putE dst v env, df, H, own⟩) :
    XO C ops Q (⟨dst, .load t x, ty, pos, af, none⟩ :: rest) ⟨env, df, H, own⟩ := by
  refine XO.op rfl rfl hd fun ρ w fr ha hok => ⟨.value v, v, w, H, own, ?_, .inl rfl, Le.refl _, hok, h⟩
  have hb := cell_of hok (List.mem_append_left fr (Own.at_mem ho))
  obtain ⟨h1, h2, h3⟩ := subL_eq hl
  have hrun := run_loadVar (P := C.P) (w := w) ht (b := b) (o := o) h3 (v := v) (fun j u hj => by
    rw [h1, List.getElem?_take] at hj
    split at hj
    · rw [List.getElem?_drop] at hj
      simp [World.cell?, hb, hj]
    · cases hj) hv
  simp only [execOp, ha _ _ hx, Instr.loadAt, Instr.sureAddr, Sem.run_bind]
  simp only [Sem.run, Pure.pure, Result.andThen, hrun]

theorem XO.storeO (i : Nat) {t T : TypeId} {x y : Operand} {b o sz : Nat} {agg : Bool} {cs vs cs' : List Value} {own' : Own} {v : Value} (hx : ev env x = some (.pointer (some ⟨b, o, none⟩))) (hy : ev env y = some v)
    (ho : Own.at own i = some (b, .cells T cs)) (hv : cellsO v = some vs) (ht : tyF C.P t sz agg = true) (hsz : vs.length = sz) (h1 : oneAll vs = true) (hs : setL cs o vs = some cs') (hp : Own.put own i (.cells T cs') = some own') (hd : dstOk C.N dst = true)
    (h : XO C ops Q rest ⟨putE dst undef env, df, H, own'⟩) :
    XO C ops Q (⟨dst, .store t x y, ty, pos, af, none⟩ :: rest) ⟨env, df, H, own⟩ := by
  refine XO.op rfl rfl hd fun ρ w fr ha hok => ?_
  have hb := cell_of hok (List.mem_append_left fr (Own.at_mem ho))
  obtain ⟨e1, e2⟩ := setL_eq hs
  have hrun := run_storeCells_at (P := C.P) b o T vs 0 cs.toArray w hb (by simpa using e2) (oneAll_mem h1)
  simp only [Nat.add_zero] at hrun
  rw [← e1] at hrun
  refine ⟨.skip, undef, w.setRow b cs'.toArray, H, own', ?_, .inr ⟨rfl, rfl⟩, Le.refl _, ?_, h⟩
  · simp only [execOp, ha _ _ hx, ha _ _ hy, Instr.storeAt, Instr.sureAddr, Sem.run_bind, storeVar, run_sizeOf ht, cellsO_eq hv]
    simp only [Sem.run, Pure.pure, Result.andThen, Sem.run_bind, run_sizeOf ht, hsz, List.size_toArray, ne_eq, not_true_eq_false, if_false]
    rw [hrun]
  · obtain ⟨pre, post, rfl, rfl⟩ := Own.at_split ho
    rw [Own.put_split] at hp
    cases hp
    simp only [List.append_assoc, List.cons_append] at hok ⊢
    refine hok.write (s' := .cells T cs') (o' := .cells cs'.toArray T (0, 0)) rfl rfl rfl rfl rfl ?_ ?_
    · exact setRow_heap w b _ _ T _ hb
    · intro k hk
      simp [World.setRow, Array.getElem?_modify, Ne.symm hk]

/-! ### Structs as values -/
theorem XO.field {t t' : TypeId} {x : Operand} {f off sz : Nat} {agg : Bool} {cs vs : List Value} {v : Value} (hx : ev env x = some (.agg ⟨cs⟩)) (hf : fieldT C.P t f = some (off, t')) (ht : tyF C.P t' sz agg = true)
    (hl : subL cs off sz = some vs) (hv : mkV agg vs = some v) (hd : dstOk C.N dst = true) (h : XO C ops Q rest ⟨putE dst v env, df, H, own⟩) :
    XO C ops Q (⟨dst, .field t x f, ty, pos, af, none⟩ :: rest) ⟨env, df, H, own⟩ := by
  refine XO.pure rfl rfl hd (fun ρ ha w => ?_) h
  obtain ⟨h1, h2, h3⟩ := subL_eq hl
  unfold fieldT at hf
  split at hf
  · rename_i fs hfs
    split at hf
    · rename_i fd hfd
      cases hf
      have hpart : (part fd.type ⟨cs⟩ fd.offset).run C.P w = .ok v w := by
        unfold part
        rw [Sem.run_bind, run_isAgg ht]
        simp only [Result.andThen]
        cases agg with
        | true =>
          cases hv
          simp only [if_true, Sem.run_bind, run_sizeOf ht, Result.andThen]
          simp [Sem.run, Pure.pure, h1]
        | false =>
          obtain ⟨u, rfl⟩ : ∃ u, vs = [u] := by
            cases vs with
            | nil => cases hv
            | cons x xs => cases xs with
              | nil => exact ⟨x, rfl⟩
              | cons _ _ => cases hv
          cases hv
          have : cs[fd.offset]? = some v := by
            have h4 : ((cs.drop fd.offset).take sz)[0]? = some v := by rw [← h1]; rfl
            rw [List.getElem?_take] at h4
            split at h4
            · simpa using h4
            · cases h4
          simp [this, Sem.run, Pure.pure]
      simp only [execOp, ha _ _ hx, Instr.field, Sem.run_bind, run_underlying hfs, Result.andThen]
      simp only [hfd, asAgg, Sem.run_bind]
      simp only [Sem.run, Pure.pure, Result.andThen, hpart]
    · cases hf
  · cases hf

/-! ### Published data -/
end

/-- How a Lean value lies in cells. -/
structure Rep (α : Type) where
  sz : Nat
  R : Hp → List Value → α → Prop
  len : ∀ {H cs a}, R H cs a → cs.length = sz
  one : ∀ {H cs a}, R H cs a → oneAll cs = true
  mono : ∀ {H H' cs a}, Le H H' → R H cs a → R H' cs a

/-- The cells of block b from o on are these. -/
def PtH (H : Hp) (b o : Nat) (cs : List Value) : Prop := ∃ c T fz, H b = some (.cells c T fz) ∧ ∀ j u, cs[j]? = some u → c[o + j]? = some u

theorem PtH.mono {H H' : Hp} {b o : Nat} {cs : List Value} (hle : Le H H') (h : PtH H b o cs) : PtH H' b o cs :=
  let ⟨c, T, fz, h1, h2⟩ := h; ⟨c, T, fz, hle _ _ h1, h2⟩

/-- A slice of l.length elements at this address, with this capacity. -/
structure SlR {α : Type} (ρ : Rep α) (H : Hp) (a : Option Addr) (c : Nat) (l : List α) : Prop where
  le : l.length ≤ c
  nil : a = none → c = 0
  el : ∀ (i : Nat) (x : α), l[i]? = some x → ∃ b o cs, a = some ⟨b, o, none⟩ ∧ PtH H b (o + i * ρ.sz) cs ∧ ρ.R H cs x

theorem SlR.mono {α : Type} {ρ : Rep α} {H H' : Hp} {a : Option Addr} {c : Nat} {l : List α} (hle : Le H H') (h : SlR ρ H a c l) : SlR ρ H' a c l :=
  ⟨h.le, h.nil, fun i x hx => let ⟨b, o, cs, h1, h2, h3⟩ := h.el i x hx; ⟨b, o, cs, h1, h2.mono hle, ρ.mono hle h3⟩⟩

theorem SlR.nil0 {α : Type} (ρ : Rep α) (H : Hp) : SlR ρ H none 0 ([] : List α) := ⟨Nat.le_refl _, fun _ => rfl, fun i x h => by simp at h⟩

def intR (k : IntKind) : Rep Int where
  sz := 1
  R := fun _ cs a => cs = [.int k a]
  len := fun h => by subst h; rfl
  one := fun h => by subst h; rfl
  mono := fun _ h => h
def boolR : Rep Bool where
  sz := 1
  R := fun _ cs a => cs = [.bool a]
  len := fun h => by subst h; rfl
  one := fun h => by subst h; rfl
  mono := fun _ h => h
def strR : Rep ByteArray where
  sz := 1
  R := fun _ cs a => cs = [.string a]
  len := fun h => by subst h; rfl
  one := fun h => by subst h; rfl
  mono := fun _ h => h
/-- A slice inside data. -/
def slR {α : Type} (ρ : Rep α) : Rep (List α) where
  sz := 1
  R := fun H cs l => ∃ a c, cs = [.slice a l.length c] ∧ SlR ρ H a c l
  len := fun ⟨_, _, h, _⟩ => by subst h; rfl
  one := fun ⟨_, _, h, _⟩ => by subst h; rfl
  mono := fun hle ⟨a, c, h, k⟩ => ⟨a, c, h, k.mono hle⟩

section
variable {C : Ctx} {ops : Array Oper} {Q : Exit → St → Prop} {rest : List Oper} {env : Env} {df : List Deferred} {H : Hp} {own : Own}
variable {dst : Option Tmp} {ty : TypeId} {pos : String} {af : Array Edge}

theorem XO.lenS {t e : TypeId} {x : Operand} {a : Option Addr} {n c : Nat} {ts : Array TypeId} (hx : ev env x = some (.slice a n c)) (ht : C.P.underlying t = some (.slice e)) (hd : dstOk C.N dst = true)
    (h : XO C ops Q rest ⟨putE dst (.int .i64 n) env, df, H, own⟩) :
    XO C ops Q (⟨dst, .call { callee := .builtin .len, args := #[x], argTypes := #[t] }, ty, pos, af, none⟩ :: rest) ⟨env, df, H, own⟩ :=
  XO.pure rfl rfl hd (fun ρ ha w => by
    simp only [execOp, resolve, Sem.run_bind]
    simp only [Pure.pure, Sem.run, Result.andThen, invoke, builtin, Sem.run_bind, Builtin.len_]
    simp [ha _ _ hx, Sem.run_bind, run_underlying ht, Result.andThen, goInt, Pure.pure, Sem.run]) h

theorem XO.indexH {α : Type} {ρ : Rep α} {t e : TypeId} {x y : Operand} {k : IntKind} {i : Int} {a : Option Addr} {c : Nat} {l : List α} {agg : Bool} (hx : ev env x = some (.slice a l.length c)) (hs : SlR ρ H a c l) (hy : ev env y = some (.int k i))
    (ht : C.P.underlying t = some (.slice e)) (he : tyF C.P e ρ.sz agg = true) (h0 : 0 ≤ i) (h1 : i < l.length) (hd : dstOk C.N dst = true)
    (h : ∀ b o cs u, l[i.toNat]? = some u → ρ.R H cs u → PtH H b o cs → XO C ops Q rest ⟨putE dst (.pointer (some ⟨b, o, none⟩)) env, df, H, own⟩) :
    XO C ops Q (⟨dst, .indexAddr t x y, ty, pos, af, none⟩ :: rest) ⟨env, df, H, own⟩ := by
  have hlt : i.toNat < l.length := by omega
  obtain ⟨b, o, cs, rfl, hp, hr⟩ := hs.el i.toNat l[i.toNat] (List.getElem?_eq_getElem hlt)
  refine XO.pure rfl rfl hd (v := .pointer (some ⟨b, o + i.toNat * ρ.sz, none⟩)) (fun ρ' ha w => ?_) (h b _ cs _ (List.getElem?_eq_getElem hlt) hr hp)
  have hadd : ∀ j, (⟨b, o, none⟩ : Addr).add j = ⟨b, o + j, none⟩ := by intro j; unfold Addr.add; split <;> simp_all
  simp only [execOp, ha _ _ hx, ha _ _ hy, Instr.indexAt, asIntOf, Sem.run_bind]
  simp only [Pure.pure, Sem.run, Result.andThen, run_underlying ht, Sem.run_bind]
  simp only [h0, h1, and_self, if_true, Sem.run_bind, run_sizeOf he, Result.andThen, hadd]
  rfl

theorem XO.loadH {t : TypeId} {x : Operand} {b o sz : Nat} {agg : Bool} {cs : List Value} {v : Value} (hx : ev env x = some (.pointer (some ⟨b, o, none⟩))) (hp : PtH H b o cs)
    (ht : tyF C.P t sz agg = true) (hl : cs.length = sz) (hv : mkV agg cs = some v) (hd : dstOk C.N dst = true)
    (h : XO C ops Q rest ⟨putE dst v env, df, H, own⟩) :
    XO C ops Q (⟨dst, .load t x, ty, pos, af, none⟩ :: rest) ⟨env, df, H, own⟩ := by
  refine XO.op rfl rfl hd fun ρ w fr ha hok => ⟨.value v, v, w, H, own, ?_, .inl rfl, Le.refl _, hok, h⟩
  obtain ⟨c, T, fz, hb, hc⟩ := hp
  have hw := hok.pub _ _ hb
  have hrun := run_loadVar (P := C.P) (w := w) ht (b := b) (o := o) hl (v := v) (fun j u hj => by simp [World.cell?, hw, hc j u hj]) hv
  simp only [execOp, ha _ _ hx, Instr.loadAt, Instr.sureAddr, Sem.run_bind]
  simp only [Sem.run, Pure.pure, Result.andThen, hrun]

/-- A field's address. -/
theorem XO.fieldAddr {t : TypeId} {x : Operand} {f off b o : Nat} (hx : ev env x = some (.pointer (some ⟨b, o, none⟩))) (hf : fieldF C.P t f = some off) (hd : dstOk C.N dst = true)
    (h : XO C ops Q rest ⟨putE dst (.pointer (some ⟨b, o + off, none⟩)) env, df, H, own⟩) :
    XO C ops Q (⟨dst, .fieldAddr t x f, ty, pos, af, none⟩ :: rest) ⟨env, df, H, own⟩ := by
  refine XO.pure rfl rfl hd (fun ρ ha w => ?_) h
  have hadd : ∀ j, (⟨b, o, none⟩ : Addr).add j = ⟨b, o + j, none⟩ := by intro j; unfold Addr.add; split <;> simp_all
  unfold fieldF at hf
  split at hf
  · rename_i fs hfs
    split at hf
    · rename_i fd hfd
      split at hf
      · rename_i i hi
        split at hf
        · cases hf
        · rename_i hz
          cases hf
          simp only [execOp, ha _ _ hx, Instr.fieldAt, Sem.run_bind, run_underlying hfs, Result.andThen, hfd, Instr.sureAddr]
          simp only [Pure.pure, Sem.run, Result.andThen, fieldPlace, sizeOf, typeInfo, program, Sem.run_bind, hi, hz, if_false, hadd, bind, Sem.bind]
      · cases hf
    · cases hf
  · cases hf

/-- A block of the call's own is published from here on. -/
theorem XC.publish (i : Nat) {c : Code} {b : Nat} {s : SObj} {own' : Own} (ho : Own.at own i = some (b, s)) (hs : s.some = true) (hp : Own.del own i = some own')
    (h : ∀ H' o, Le H H' → H' b = some o → s.Is o → XC C c Q ⟨env, df, H', own'⟩) : XC C c Q ⟨env, df, H, own⟩ := by
  intro a w hr
  obtain ⟨ms, hdf, hok⟩ := hr.ok
  obtain ⟨pre, post, rfl, rfl⟩ := Own.at_split ho
  rw [Own.del_split] at hp
  cases hp
  simp only [List.append_assoc, List.cons_append] at hok
  obtain ⟨H', o, hle, hb, hso, hok'⟩ := hok.publish hs
  refine Go.wpIn_mono (h H' o hle hb hso a w ⟨hr.size, hr.get, ms, hdf, by simpa using hok'⟩) ?_
  exact fun _ _ _ l => lift_mono l hle fun _ _ q => q

theorem XO.publish (i : Nat) {b : Nat} {s : SObj} {own' : Own} (ho : Own.at own i = some (b, s)) (hs : s.some = true) (hp : Own.del own i = some own')
    (h : ∀ H' o, Le H H' → H' b = some o → s.Is o → XO C ops Q rest ⟨env, df, H', own'⟩) : XO C ops Q rest ⟨env, df, H, own⟩ := by
  intro a w hr
  obtain ⟨ms, hdf, hok⟩ := hr.ok
  obtain ⟨pre, post, rfl, rfl⟩ := Own.at_split ho
  rw [Own.del_split] at hp
  cases hp
  simp only [List.append_assoc, List.cons_append] at hok
  obtain ⟨H', o, hle, hb, hso, hok'⟩ := hok.publish hs
  exact wpList_mono hle _ _ _ (h H' o hle hb hso a w ⟨hr.size, hr.get, ms, hdf, by simpa using hok'⟩)

theorem PtH.of_is {H : Hp} {b : Nat} {T : TypeId} {cs : List Value} {o : Obj} (hb : H b = some o) (hs : (SObj.cells T cs).Is o) : PtH H b 0 cs := by
  simp only [SObj.Is] at hs
  subst hs
  exact ⟨_, _, _, hb, fun j u hj => by simpa using hj⟩

/-- Rows of numbers. -/
theorem SlR.ints {H : Hp} {b : Nat} {T : TypeId} {o : Obj} {k : IntKind} {l : List Int} {cs : List Value} (hb : H b = some o) (hs : (SObj.cells T cs).Is o) (hcs : cs = l.map (Value.int k)) : SlR (intR k) H (some ⟨b, 0, none⟩) l.length l := by
  subst hcs
  obtain ⟨c, T', fz, h1, h2⟩ := PtH.of_is hb hs
  refine ⟨Nat.le_refl _, (fun h => by cases h), fun i x hx => ⟨b, 0, [.int k x], rfl, ⟨c, T', fz, h1, ?_⟩, rfl⟩⟩
  intro j u hj
  cases j with
  | zero => simp at hj; subst hj; have := h2 i (.int k x) (by simp [hx]); simpa [intR] using this
  | succ j => simp at hj

/-- Forget slots (and put the rest in order). -/
theorem XC.keep (ts : List Nat) {c : Code} {env' : Env} (hk : Env.keep env ts = some env') (h : XC C c Q ⟨env', df, H, own⟩) : XC C c Q ⟨env, df, H, own⟩ :=
  fun a w hr => h a w (hr.weaken (Env.keep_prov hk) (Le.refl _) (List.Sublist.refl _))
theorem XC.weaken {c : Code} {env' : Env} {own' : Own} (hk : Prov env env') (ho : own'.Sublist own) (h : XC C c Q ⟨env', df, H, own'⟩) : XC C c Q ⟨env, df, H, own⟩ :=
  fun a w hr => h a w (hr.weaken hk (Le.refl _) ho)
theorem XO.weaken {env' : Env} {own' : Own} (hk : Prov env env') (ho : own'.Sublist own) (h : XO C ops Q rest ⟨env', df, H, own'⟩) : XO C ops Q rest ⟨env, df, H, own⟩ :=
  fun a w hr => h a w (hr.weaken hk (Le.refl _) ho)

theorem Env.get_append_left {a b : Env} {t : Nat} {v : Value} (h : Env.get a t = some v) : Env.get (a ++ b) t = some v := by
  induction a with
  | nil => cases h
  | cons p r ih =>
    obtain ⟨k, u⟩ := p
    simp only [List.cons_append, Env.get] at h ⊢
    cases hk : Nat.beq k t with
    | true => rw [hk] at h; exact h
    | false => rw [hk] at h; exact ih h

theorem provI {e : Env} {t : Nat} {k : IntKind} {a b : Int} (hg : Env.get e t = some (.int k a)) (h : a = b) : Env.get e t = some (.int k b) := by rw [hg, h]
theorem prov_nil {e : Env} : Prov e [] := trivial
theorem prov_cons {e : Env} {t : Nat} {v : Value} {r : Env} (h : Env.get e t = some v) (k : Prov e r) : Prov e ((t, v) :: r) := ⟨h, k⟩

/-- The usual loop: the slots of 'U i' change from round to round, the others stay ('base'); B says what else holds. -/
def LoopI (base : Env) {ι : Type} (H0 : Hp) (df : List Deferred) (U : ι → Env) (B : ι → Hp → Own → Prop) (i : ι) (σ : St) : Prop :=
  ∃ own, B i σ.H own ∧ Prov σ.env (U i ++ base) ∧ own.Sublist σ.own ∧ σ.df = df ∧ Le H0 σ.H

theorem XC.loop {ι : Type} {c : Code} (base : Env) (U : ι → Env) (B : ι → Hp → Own → Prop) (μ : ι → Nat) (i₀ : ι) (hp : Prov env (U i₀ ++ base)) {own0 : Own} (ho : own0.Sublist own) (h₀ : B i₀ H own0)
    (round : ∀ i H' own', Le H H' → B i H' own' → XC C c (loopQ (LoopI base H df U B) μ i Q) ⟨U i ++ base, df, H', own'⟩) : XC C (.loop c) Q ⟨env, df, H, own⟩ := by
  refine XC.loopG (LoopI base H df U B) μ i₀ ⟨own0, h₀, hp, ho, rfl, Le.refl _⟩ ?_
  rintro i ⟨env', df', H', own'⟩ hle ⟨own1, hB, hp, ho, rfl, hle2⟩
  exact fun a w hr => round i H' own1 hle2 hB a w (hr.weaken hp (Le.refl _) ho)

theorem loop_next {ι : Type} {base : Env} {H0 : Hp} {df : List Deferred} {U : ι → Env} {B : ι → Hp → Own → Prop} {μ : ι → Nat} {i : ι} {Q : Exit → St → Prop} {env : Env} {H' : Hp} {own' : Own} (j : ι) {own1 : Own}
    (hμ : μ j < μ i) (hp : Prov env (U j ++ base)) (hB : B j H' own1) (ho : own1.Sublist own') (hle : Le H0 H') : loopQ (LoopI base H0 df U B) μ i Q .normal ⟨env, df, H', own'⟩ :=
  ⟨j, hμ, own1, hB, hp, ho, rfl, hle⟩

theorem XO.indexN {α : Type} {ρ : Rep α} {t e : TypeId} {x y : Operand} {k : IntKind} {i : Nat} {a : Option Addr} {c : Nat} {l : List α} {agg : Bool} (hx : ev env x = some (.slice a l.length c)) (hs : SlR ρ H a c l) (hy : ev env y = some (.int k (i : Nat)))
    (ht : C.P.underlying t = some (.slice e)) (he : tyF C.P e ρ.sz agg = true) (h1 : i < l.length) (hd : dstOk C.N dst = true)
    (h : ∀ b o cs u, l[i]? = some u → ρ.R H cs u → PtH H b o cs → XO C ops Q rest ⟨putE dst (.pointer (some ⟨b, o, none⟩)) env, df, H, own⟩) :
    XO C ops Q (⟨dst, .indexAddr t x y, ty, pos, af, none⟩ :: rest) ⟨env, df, H, own⟩ :=
  XO.indexH hx hs hy ht he (by omega) (by omega) hd h

theorem wrap_i64 {n : Int} (h1 : -9223372036854775808 ≤ n) (h2 : n < 9223372036854775808) : IntKind.i64.wrap n = n := IntWalk.i64_in n (by omega)
theorem wrap_u8 {n : Int} (h1 : 0 ≤ n) (h2 : n < 256) : IntKind.u8.wrap n = n := by simp only [IntKind.wrap, IntKind.bits, IntKind.signed, Bool.false_and, Bool.false_eq_true, if_false]; omega
theorem wrap_u32 {n : Int} (h1 : 0 ≤ n) (h2 : n < 4294967296) : IntKind.u32.wrap n = n := by simp only [IntKind.wrap, IntKind.bits, IntKind.signed, Bool.false_and, Bool.false_eq_true, if_false]; omega
theorem wrap_u64 {n : Int} (h1 : 0 ≤ n) (h2 : n < 18446744073709551616) : IntKind.u64.wrap n = n := by simp only [IntKind.wrap, IntKind.bits, IntKind.signed, Bool.false_and, Bool.false_eq_true, if_false]; omega
theorem quo_i64 {a b : Int} (h1 : 0 ≤ a) (h2 : 0 < b) (h3 : a < 9223372036854775808) : IntKind.i64.wrap (a.tdiv b) = a / b := by
  rw [Int.tdiv_eq_ediv_of_nonneg h1]
  exact wrap_i64 (by have := Int.ediv_nonneg h1 (Int.le_of_lt h2); omega) (by have := Int.ediv_le_self b h1; omega)
theorem rem_nn {a b : Int} (h1 : 0 ≤ a) : a.tmod b = a % b := Int.tmod_eq_emod_of_nonneg h1

end
end Go.XL
