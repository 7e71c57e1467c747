/- The logic's rules for making structs and slices, and for append. No statement of the program stands here. -/
import Derived.Test.YtbfleiickdobnaaXLd
set_option autoImplicit false
set_option linter.unusedSimpArgs false
set_option linter.unusedVariables false
namespace Go.XL

def evP (e : Env) : List (Nat × Operand) → Option (List (Nat × Value))
  | [] => some []
  | (i, x) :: r => match ev e x with
    | some v => match evP e r with | some vs => some ((i, v) :: vs) | none => none
    | none => none

theorem evP_map {env : Env} {ρ : Operand → Value} (ha : Agree env ρ) {ps : List (Nat × Operand)} {vs : List (Nat × Value)} (h : evP env ps = some vs) : ps.map (fun p => (p.1, ρ p.2)) = vs := by
  induction ps generalizing vs with
  | nil => cases h; rfl
  | cons p ps ih =>
    obtain ⟨i, x⟩ := p
    simp only [evP] at h
    split at h
    · rename_i v hv
      split at h
      · rename_i r hr; cases h; simp [ha _ _ hv, ih hr]
      · cases h
    · cases h

def fillL (pl : Nat → Option (Nat × Nat)) : List Value → List (Nat × Value) → Option (List Value)
  | zs, [] => some zs
  | zs, (i, v) :: r => match pl i with
    | some (off, sz) => match cellsO v with
      | some vs => bif Nat.beq vs.length sz then (match setL zs off vs with | some zs' => fillL pl zs' r | none => none) else none
      | none => none
    | none => none

theorem foldl_setL : ∀ (vs : List Value) (k off : Nat) (zs r : List Value), setL zs (off + k) vs = some r →
    ((vs.zipIdx k).foldl (fun (cs : Array Value) (p : Value × Nat) => cs.setIfInBounds (off + p.2) p.1) zs.toArray) = r.toArray := by
  intro vs
  induction vs with
  | nil =>
    intro k off zs r h
    obtain ⟨h1, _⟩ := setL_eq h
    simp only [List.append_nil, List.length_nil, Nat.add_zero, List.take_append_drop] at h1
    subst h1
    rfl
  | cons v vs ih =>
    intro k off zs r h
    obtain ⟨h1, h2⟩ := setL_eq h
    simp only [List.length_cons] at h1 h2
    simp only [List.zipIdx_cons, List.foldl_cons]
    have hset : (zs.toArray).setIfInBounds (off + k) v = (zs.set (off + k) v).toArray := by simp
    rw [hset]
    refine ih (k + 1) off _ r ?_
    have : ∀ (zs : List Value) (o : Nat) (vs : List Value), o + vs.length ≤ zs.length → setL zs o vs = some (zs.take o ++ vs ++ zs.drop (o + vs.length)) := by
      intro zs
      induction zs with
      | nil => intro o vs h; obtain ⟨rfl, h'⟩ : o = 0 ∧ vs.length = 0 := by simp at h ⊢; omega
               obtain rfl := List.eq_nil_of_length_eq_zero h'; rfl
      | cons z zs ih =>
        intro o vs h
        cases o with
        | zero => cases vs with
          | nil => rfl
          | cons v vs =>
            simp only [setL]
            rw [ih 0 vs (by simp at h ⊢; omega)]
            simp
        | succ o =>
          have e : setL (z :: zs) (o + 1) vs = (match setL zs o vs with | some r => some (z :: r) | none => none) := by cases vs <;> rfl
          rw [e, ih o vs (by simp at h; omega)]
          simp [show o + 1 + vs.length = (o + vs.length) + 1 by omega]
    have hlt : off + k < zs.length := by omega
    have hs : zs.set (off + k) v = zs.take (off + k) ++ v :: zs.drop (off + k + 1) := List.set_eq_take_append_cons_drop ▸ by simp [hlt]
    rw [this _ _ _ (by simp; omega), h1, hs]
    have hl : (zs.take (off + k)).length = off + k := by simp; omega
    have key : ∀ (p q : List Value) (m : Nat), p.length = off + k → (p ++ v :: q).take (off + k + 1) = p ++ [v] ∧ (p ++ v :: q).drop (off + k + 1 + m) = q.drop m := by
      intro p q m hp
      refine ⟨?_, ?_⟩
      · rw [List.take_append, hp, show off + k + 1 - (off + k) = 1 by omega, List.take_of_length_le (by omega)]; rfl
      · rw [List.drop_append, hp, show off + k + 1 + m - (off + k) = m + 1 by omega, List.drop_eq_nil_of_le (by omega)]; rfl
    obtain ⟨k1, k2⟩ := key _ (zs.drop (off + k + 1)) vs.length hl
    rw [← Nat.add_assoc (off + k) 1 0, Nat.add_zero] at *
    have e : off + (k + 1) = off + k + 1 := by omega
    rw [e, k1, k2, List.drop_drop]
    simp [Nat.add_comm, Nat.add_left_comm]

theorem fill_eq {pl : Nat → Option (Nat × Nat)} {ps : List (Nat × Value)} {zs r : List Value} (h : fillL pl zs ps = some r) : Instr.fill pl zs.toArray ps = some r.toArray := by
  induction ps generalizing zs with
  | nil => cases h; rfl
  | cons p ps ih =>
    obtain ⟨i, v⟩ := p
    simp only [fillL] at h
    split at h
    · rename_i off sz hpl
      split at h
      · rename_i vs hvs
        cases hb : Nat.beq vs.length sz with
        | false => rw [hb] at h; cases h
        | true =>
          rw [hb] at h
          simp only [cond_true] at h
          split at h
          · rename_i zs' hz
            have hlen := Nat.eq_of_beq_eq_true hb
            obtain ⟨_, h2⟩ := setL_eq hz
            simp only [Instr.fill, hpl, cellsO_eq hvs]
            rw [if_neg (by simp; omega)]
            have := foldl_setL vs 0 off zs zs' (by simpa using hz)
            rw [← Array.foldl_toList, Array.toList_zipIdx, this]
            exact ih h
          · cases h
      · cases h
    · cases h

def structF (P : Program) (t : TypeId) : Option (List (Nat × Nat)) :=
  match P.underlying t with
  | some (.struct fs) => some (fs.toList.map fun f => (f.offset, P.cellsOf f.type))
  | _ => none
/-- every field's type is known -/
def structK (P : Program) (t : TypeId) : Bool :=
  match P.underlying t with
  | some (.struct fs) => fs.all fun f => (P.info? f.type).isSome
  | _ => false

def atL (l : List (Nat × Nat)) : Nat → Option (Nat × Nat)
  | 0 => match l with | [] => none | x :: _ => some x
  | n + 1 => match l with | [] => none | _ :: r => atL r n
theorem atL_eq (l : List (Nat × Nat)) (n : Nat) : atL l n = l[n]? := by
  induction l generalizing n with
  | nil => cases n <;> rfl
  | cons x r ih => cases n with
    | zero => rfl
    | succ n => simpa [atL] using ih n

def repL (zs : List Value) : Nat → List Value
  | 0 => []
  | n + 1 => zs ++ repL zs n
theorem repL_length (zs : List Value) (n : Nat) : (repL zs n).length = n * zs.length := by
  induction n with
  | zero => simp [repL]
  | succ n ih => simp [repL, ih, Nat.add_mul, Nat.add_comm]
theorem repL_get (zs : List Value) (hz : 0 < zs.length) (n i : Nat) (hi : i < n * zs.length) : (repL zs n)[i]? = zs[i % zs.length]? := by
  induction n generalizing i with
  | zero => simp at hi
  | succ n ih =>
    simp only [repL]
    rcases Nat.lt_or_ge i zs.length with h | h
    · rw [List.getElem?_append_left h, Nat.mod_eq_of_lt h]
    · rw [List.getElem?_append_right h, ih _ (by rw [Nat.add_mul] at hi; omega), Nat.mod_eq_sub_mod h]
theorem zeros_eq (zs : List Value) (hz : 0 < zs.length) (n : Nat) : ((Array.range (n * zs.length)).map (fun i => zs.toArray[i % zs.toArray.size]!)) = (repL zs n).toArray := by
  apply Array.ext_getElem?
  intro i
  rw [Array.getElem?_map]
  rcases Nat.lt_or_ge i (n * zs.length) with h | h
  · have hm : i % zs.length < zs.length := Nat.mod_lt _ hz
    have e1 : (repL zs n).toArray[i]? = zs[i % zs.length]? := by rw [List.getElem?_toArray]; exact repL_get zs hz n i h
    rw [e1]
    simp [h, hm]
  · simp only [List.getElem?_toArray]
    rw [List.getElem?_eq_none (by rw [repL_length]; exact h)]
    simp [Array.getElem?_eq_none, h]

theorem run_zero {P : Program} {w : World} {t : TypeId} {zs : List Value} (hz : zeroC P t = some zs) : ∃ z, (zeroValue t).run P w = .ok z w ∧ z.cells = zs.toArray := by
  unfold zeroC at hz
  split at hz
  · rename_i i hi
    split at hz
    · rename_i z hzz
      exact ⟨z, by simp [zeroValue, typeInfo, program, hi, hzz, Sem.run, Pure.pure, bind, Sem.bind], cellsO_eq hz⟩
    · cases hz
  · cases hz

section
variable {C : Ctx} {ops : Array Oper} {Q : Exit → St → Prop} {rest : List Oper} {env : Env} {df : List Deferred} {H : Hp} {own : Own}
variable {dst : Option Tmp} {ty : TypeId} {pos : String} {af : Array Edge}

theorem mapM_places {P : Program} {w : World} : ∀ (fs : List Field), (fs.all fun f => (P.info? f.type).isSome) = true →
    (fs.mapM (m := Sem) fun f => do pure (f.offset, ← sizeOf f.type)).run P w = .ok (fs.map fun f => (f.offset, P.cellsOf f.type)) w := by
  intro fs
  induction fs with
  | nil => intro _; rfl
  | cons f fs ih =>
    intro h
    simp only [List.all_cons, Bool.and_eq_true] at h
    obtain ⟨i, hi⟩ := Option.isSome_iff_exists.1 h.1
    have h1 : (sizeOf f.type).run P w = .ok (P.cellsOf f.type) w := by
      simp [sizeOf, typeInfo, program, Sem.run, hi, bind, Sem.bind, Pure.pure, Program.cellsOf]
    rw [List.mapM_cons]
    have ih' := ih h.2
    generalize fs.mapM (m := Sem) (fun f => do Pure.pure (f.offset, ← sizeOf f.type)) = m at ih'
    simp only [Sem.run_bind, h1]
    show (Sem.run P m w).andThen _ = _
    rw [ih']
    rfl

theorem XO.build {t : TypeId} {ps : List (Nat × Operand)} {pl : List (Nat × Nat)} {vs : List (Nat × Value)} {zs r : List Value} (hk : structK C.P t = true) (hf : structF C.P t = some pl) (hz : zeroC C.P t = some zs) (hv : evP env ps = some vs) (hr : fillL (atL pl) zs vs = some r) (hd : dstOk C.N dst = true)
    (h : XO C ops Q rest ⟨putE dst (.agg ⟨r⟩) env, df, H, own⟩) :
    XO C ops Q (⟨dst, .build t ps.toArray, ty, pos, af, none⟩ :: rest) ⟨env, df, H, own⟩ := by
  refine XO.pure rfl rfl hd (fun ρ ha w => ?_) h
  obtain ⟨z, hz1, hz2⟩ := run_zero (w := w) hz
  unfold structF at hf
  unfold structK at hk
  split at hf
  · rename_i fs hfs
    rw [hfs] at hk
    simp only at hk
    cases hf
    have hm := mapM_places (P := C.P) (w := w) fs.toList (by simpa using hk)
    have hfill := fill_eq hr
    have hpl : atL (fs.toList.map fun f => (f.offset, C.P.cellsOf f.type)) = fun (i : Nat) => (fs.toList.map fun f => (f.offset, C.P.cellsOf f.type))[i]? := funext (atL_eq _)
    rw [hpl] at hfill
    have hparts : (ps.toArray.map (fun p => (p.1, ρ p.2))).toList = vs := by simp [evP_map ha hv]
    have hm2 : (fs.mapM (m := Sem) fun f => do Pure.pure (f.offset, ← sizeOf f.type)).run C.P w = .ok (fs.toList.map fun f => (f.offset, C.P.cellsOf f.type)).toArray w := by
      rw [← Array.toArray_toList (xs := fs), List.mapM_toArray, Sem.run_map, hm]
      simp [Result.andThen]
    show ((do Pure.pure (Next.value (← Instr.build t (ps.toArray.map (fun p => (p.1, ρ p.2)))))) : Sem Next).run C.P w = _
    rw [Sem.run_bind]
    have hb : (Instr.build t (ps.toArray.map (fun p => (p.1, ρ p.2)))).run C.P w = .ok (.agg ⟨r⟩) w := by
      unfold Instr.build
      rw [Sem.run_bind, hz1]
      simp only [Result.andThen, Sem.run_bind, run_underlying hfs]
      rw [hm2]
      simp only [Result.andThen, hparts, hz2]
      have : (fun (x : Nat) => (List.map (fun f => (f.offset, C.P.cellsOf f.type)) fs.toList).toArray[x]?) = fun (i : Nat) => (fs.toList.map fun f => (f.offset, C.P.cellsOf f.type))[i]? := by funext i; simp
      rw [this, hfill]
      rfl
    rw [hb]
    rfl
  · cases hf

theorem XO.buildSlice {t e : TypeId} {n sz : Nat} {agg : Bool} {ps : List (Nat × Operand)} {vs : List (Nat × Value)} {zs r : List Value} (hv : evP env ps = some vs) (ht : C.P.underlying t = some (.slice e)) (he : tyF C.P e sz agg = true) (hz : zeroC C.P e = some zs)
    (hzl : (Nat.blt 0 sz && Nat.beq zs.length sz && Nat.ble (n * sz) 16777216) = true) (hr : fillL (fun i => some (i * sz, sz)) (repL zs n) vs = some r) (hd : dstOk C.N dst = true)
    (h : ∀ b, XO C ops Q rest ⟨putE dst (.slice (some ⟨b, 0, none⟩) n n) env, df, H, (b, .cells e r) :: own⟩) :
    XO C ops Q (⟨dst, .buildSlice t n ps.toArray, ty, pos, af, none⟩ :: rest) ⟨env, df, H, own⟩ := by
  refine XO.op rfl rfl hd fun ρ w fr ha hok => ⟨.value (.slice (some ⟨w.heap.size, 0, none⟩) n n), _, _, H, (w.heap.size, .cells e r) :: own, ?_, .inl rfl, Le.refl _, hok.new (s := .cells e r) rfl, h _⟩
  simp only [Bool.and_eq_true] at hzl
  obtain ⟨⟨hz0, hz1⟩, hz2⟩ := hzl
  have hz0 : 0 < sz := by simpa using hz0
  have hz1 := Nat.eq_of_beq_eq_true hz1
  have hz2 := Nat.le_of_ble_eq_true hz2
  obtain ⟨z, hzr, hzc⟩ := run_zero (w := w) hz
  have hparts : (ps.toArray.map (fun p => (p.1, ρ p.2))).toList = vs := by simp [evP_map ha hv]
  show ((do Pure.pure (Next.value (← Instr.buildSlice t n (ps.toArray.map (fun p => (p.1, ρ p.2)))))) : Sem Next).run C.P w = _
  rw [Sem.run_bind]
  have hb : (Instr.buildSlice t n (ps.toArray.map (fun p => (p.1, ρ p.2)))).run C.P w = .ok (.slice (some ⟨w.heap.size, 0, none⟩) n n) { w with heap := w.heap.push (.cells r.toArray e (0, 0)) } := by
    unfold Instr.buildSlice
    rw [Sem.run_bind, run_underlying ht]
    simp only [Result.andThen, Sem.run_bind, run_sizeOf he]
    rw [if_neg (by omega)]
    have hfill := fill_eq hr
    rw [← zeros_eq zs (by omega), hz1] at hfill
    by_cases hn : n * sz = 0
    · rw [if_pos hn]
      rw [hn] at hfill ⊢
      have e0 : Array.map (fun x => zs.toArray[x % zs.toArray.size]!) (Array.range 0) = #[] := by simp
      have e1 : ∀ g : Nat → Value, Array.map g (Array.range 0) = #[] := by intro g; simp
      simp only [Sem.run, Pure.pure, Result.andThen, hparts, e1, e0] at hfill ⊢
      rw [hfill]
      simp [newRow, newObj, Sem.run, bind, Sem.bind, Pure.pure]
    · rw [if_neg hn]
      simp only [Sem.run_bind, hzr, Result.andThen]
      simp only [Sem.run, Pure.pure, Result.andThen, hparts, hzc]
      rw [hfill]
      simp [newRow, newObj, Sem.run, bind, Sem.bind, Pure.pure]
  rw [hb]
  rfl
end

/-! ### Rows of elements -/
def RowsR {α : Type} (ρ : Rep α) (H : Hp) : List Value → List α → Prop
  | cs, [] => cs = []
  | cs, x :: l => ∃ c1 c2, cs = c1 ++ c2 ∧ ρ.R H c1 x ∧ RowsR ρ H c2 l

theorem RowsR.mono {α : Type} {ρ : Rep α} {H H' : Hp} (hle : Le H H') {cs : List Value} {l : List α} (h : RowsR ρ H cs l) : RowsR ρ H' cs l := by
  induction l generalizing cs with
  | nil => exact h
  | cons x l ih => obtain ⟨c1, c2, h1, h2, h3⟩ := h; exact ⟨c1, c2, h1, ρ.mono hle h2, ih h3⟩
theorem RowsR.length {α : Type} {ρ : Rep α} {H : Hp} {cs : List Value} {l : List α} (h : RowsR ρ H cs l) : cs.length = l.length * ρ.sz := by
  induction l generalizing cs with
  | nil => cases h; simp
  | cons x l ih => obtain ⟨c1, c2, rfl, h2, h3⟩ := h; simp [ρ.len h2, ih h3, Nat.add_mul, Nat.add_comm]
theorem oneAll_append {a b : List Value} : oneAll (a ++ b) = (oneAll a && oneAll b) := by
  induction a with
  | nil => simp [oneAll]
  | cons x a ih => simp [oneAll, ih, Bool.and_assoc]
theorem RowsR.one {α : Type} {ρ : Rep α} {H : Hp} {cs : List Value} {l : List α} (h : RowsR ρ H cs l) : oneAll cs = true := by
  induction l generalizing cs with
  | nil => cases h; rfl
  | cons x l ih => obtain ⟨c1, c2, rfl, h2, h3⟩ := h; rw [oneAll_append, ρ.one h2, ih h3]; rfl
theorem RowsR.append {α : Type} {ρ : Rep α} {H : Hp} {cs ds : List Value} {l m : List α} (h : RowsR ρ H cs l) (k : RowsR ρ H ds m) : RowsR ρ H (cs ++ ds) (l ++ m) := by
  induction l generalizing cs with
  | nil => cases h; exact k
  | cons x l ih => obtain ⟨c1, c2, rfl, h2, h3⟩ := h; exact ⟨c1, c2 ++ ds, by simp, h2, ih h3⟩
theorem RowsR.get {α : Type} {ρ : Rep α} {H : Hp} {cs : List Value} {l : List α} (h : RowsR ρ H cs l) {i : Nat} {x : α} (hx : l[i]? = some x) : ∃ c1, ρ.R H c1 x ∧ ∀ j u, c1[j]? = some u → cs[i * ρ.sz + j]? = some u := by
  induction l generalizing cs i with
  | nil => simp at hx
  | cons y l ih =>
    obtain ⟨c1, c2, rfl, h2, h3⟩ := h
    cases i with
    | zero =>
      simp at hx; subst hx
      refine ⟨c1, h2, fun j u hj => ?_⟩
      rw [List.getElem?_append_left (by simpa using (List.getElem?_eq_some_iff.1 hj).1)]
      simpa using hj
    | succ i =>
      obtain ⟨c, h4, h5⟩ := ih h3 (by simpa using hx)
      refine ⟨c, h4, fun j u hj => ?_⟩
      rw [List.getElem?_append_right (by rw [ρ.len h2, Nat.add_mul]; omega), ρ.len h2, show (i + 1) * ρ.sz + j - ρ.sz = i * ρ.sz + j by rw [Nat.add_mul]; omega]
      exact h5 j u hj
/-- what a published slice's cells are, in one list -/
theorem SlR.cells {α : Type} {ρ : Rep α} {H : Hp} {a : Option Addr} {c : Nat} {l : List α} (h : SlR ρ H a c l) : ∃ cs, RowsR ρ H cs l ∧ ∀ b o, a = some ⟨b, o, none⟩ → ∀ j u, cs[j]? = some u → ∃ cc T fz, H b = some (.cells cc T fz) ∧ cc[o + j]? = some u := by
  have key : ∀ (n : Nat) (l' : List α), (∀ i x, l'[i]? = some x → l[n + i]? = some x) → ∃ cs, RowsR ρ H cs l' ∧ ∀ b o, a = some ⟨b, o, none⟩ → ∀ j u, cs[j]? = some u → ∃ cc T fz, H b = some (.cells cc T fz) ∧ cc[o + n * ρ.sz + j]? = some u := by
    intro n l'
    induction l' generalizing n with
    | nil => intro _; exact ⟨[], rfl, fun _ _ _ j u hj => by simp at hj⟩
    | cons x l' ih =>
      intro hl
      obtain ⟨cs, h1, h2⟩ := ih (n + 1) (fun i y hy => by have := hl (i + 1) y (by simpa using hy); rw [show n + 1 + i = n + (i + 1) by omega]; exact this)
      obtain ⟨b, o, c1, ha, ⟨cc, T, fz, hb, hc⟩, hr⟩ := h.el n x (by simpa using hl 0 x rfl)
      refine ⟨c1 ++ cs, ⟨c1, cs, rfl, hr, h1⟩, fun b' o' ha' j u hj => ?_⟩
      rw [ha] at ha'
      cases ha'
      rcases Nat.lt_or_ge j c1.length with hlt | hge
      · rw [List.getElem?_append_left hlt] at hj
        exact ⟨cc, T, fz, hb, hc j u hj⟩
      · rw [List.getElem?_append_right hge] at hj
        obtain ⟨cc', T', fz', hb', hc'⟩ := h2 b o ha _ _ hj
        rw [ρ.len hr] at hc' hge
        exact ⟨cc', T', fz', hb', by rw [show o + n * ρ.sz + j = o + (n + 1) * ρ.sz + (j - ρ.sz) by rw [Nat.add_mul]; omega]; exact hc'⟩
  obtain ⟨cs, h1, h2⟩ := key 0 l (fun i x hx => by simpa using hx)
  exact ⟨cs, h1, fun b o ha j u hj => by simpa using h2 b o ha j u hj⟩

theorem SlR.of_rows {α : Type} {ρ : Rep α} {H : Hp} {b : Nat} {c : Array Value} {T : TypeId} {fz : Nat × Nat} {cs : List Value} {l : List α} {cap : Nat} (hb : H b = some (.cells c T fz)) (hc : ∀ (j : Nat) (u : Value), cs[j]? = some u → c[j]? = some u) (h : RowsR ρ H cs l) (hl : l.length ≤ cap) : SlR ρ H (some ⟨b, 0, none⟩) cap l :=
  ⟨hl, (fun h => by cases h), fun i x hx => by
    obtain ⟨c1, h1, h2⟩ := h.get hx
    exact ⟨b, 0, c1, rfl, ⟨c, T, fz, hb, fun j u hj => by simpa using hc _ u (h2 j u hj)⟩, h1⟩⟩

theorem SlR.lit {α : Type} {ρ : Rep α} {H : Hp} {b : Nat} {T : TypeId} {cs : List Value} {o : Obj} {l : List α} (hb : H b = some o) (ho : (SObj.cells T cs).Is o) (h : RowsR ρ H cs l) : SlR ρ H (some ⟨b, 0, none⟩) l.length l := by
  simp only [SObj.Is] at ho
  subst ho
  exact SlR.of_rows hb (fun j u hj => by simpa using hj) h (Nat.le_refl _)

/-- A slice that the call itself fills: nil, or a row of the call's own. -/
def Acc {α : Type} (ρ : Rep α) (T : TypeId) (H : Hp) (p : Nat × SObj) (a : Option Addr) (c : Nat) (l : List α) : Prop :=
  (a = none ∧ c = 0 ∧ l = [] ∧ p.2 = .nothing) ∨ ∃ xs, a = some ⟨p.1, 0, none⟩ ∧ p.2 = .row T (c * ρ.sz) xs ∧ RowsR ρ H xs l ∧ l.length ≤ c

theorem Acc.mono {α : Type} {ρ : Rep α} {T : TypeId} {H H' : Hp} {p : Nat × SObj} {a : Option Addr} {c : Nat} {l : List α} (hle : Le H H') (h : Acc ρ T H p a c l) : Acc ρ T H' p a c l := by
  rcases h with h | ⟨xs, h1, h2, h3, h4⟩
  · exact .inl h
  · exact .inr ⟨xs, h1, h2, h3.mono hle, h4⟩
theorem Acc.le {α : Type} {ρ : Rep α} {T : TypeId} {H : Hp} {p : Nat × SObj} {a : Option Addr} {c : Nat} {l : List α} (h : Acc ρ T H p a c l) : l.length ≤ c := by
  rcases h with ⟨_, h, h', _⟩ | ⟨_, _, _, _, h⟩
  · subst h'; simp
  · exact h
theorem Acc.nil {α : Type} (ρ : Rep α) (T : TypeId) (H : Hp) (b : Nat) : Acc ρ T H (b, .nothing) none 0 ([] : List α) := .inl ⟨rfl, rfl, rfl, rfl⟩

end Go.XL
