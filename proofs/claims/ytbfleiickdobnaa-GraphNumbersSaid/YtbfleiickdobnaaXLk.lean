/- The logic's rules for slices that the call writes, and for slicing. No statement of the program stands here. -/
import Derived.Test.YtbfleiickdobnaaXLj
set_option autoImplicit false
set_option linter.unusedSimpArgs false
set_option linter.unusedVariables false
set_option linter.unnecessarySimpa false
namespace Go.XL

theorem RowsR.set {α : Type} {ρ : Rep α} {H : Hp} {cs vs : List Value} {l : List α} {k : Nat} {u : α} (h : RowsR ρ H cs l) (hk : k < l.length) (hv : ρ.R H vs u) :
    RowsR ρ H (cs.take (k * ρ.sz) ++ vs ++ cs.drop (k * ρ.sz + ρ.sz)) (l.set k u) := by
  induction l generalizing cs k with
  | nil => simp at hk
  | cons x l ih =>
    obtain ⟨c1, c2, rfl, h2, h3⟩ := h
    have hl1 := ρ.len h2
    cases k with
    | zero =>
      refine ⟨vs, c2, ?_, hv, h3⟩
      simp [List.drop_append, hl1]
    | succ k =>
      refine ⟨c1, _, ?_, h2, ih h3 (by simpa using hk)⟩
      rw [Nat.add_mul, Nat.one_mul, List.take_append, List.drop_append, hl1, show k * ρ.sz + ρ.sz - ρ.sz = k * ρ.sz by omega, show k * ρ.sz + ρ.sz + ρ.sz - ρ.sz = k * ρ.sz + ρ.sz by omega]
      rw [List.take_of_length_le (by omega), List.drop_eq_nil_of_le (by omega)]
      simp

theorem RowsR.replicate {α : Type} {ρ : Rep α} {H : Hp} {zs : List Value} {x : α} (h : ρ.R H zs x) (n : Nat) : RowsR ρ H (repL zs n) (List.replicate n x) := by
  induction n with
  | zero => rfl
  | succ n ih => exact ⟨zs, repL zs n, rfl, h, ih⟩

theorem RowsR.one1 {α : Type} {ρ : Rep α} {H : Hp} {cs : List Value} {x : α} (h : ρ.R H cs x) : RowsR ρ H cs [x] := ⟨cs, [], by simp, h, rfl⟩
theorem RowsR.cons1 {α : Type} {ρ : Rep α} {H : Hp} {cs ds : List Value} {x : α} {l : List α} (h : ρ.R H cs x) (k : RowsR ρ H ds l) : RowsR ρ H (cs ++ ds) (x :: l) := ⟨cs, ds, rfl, h, k⟩

section
variable {C : Ctx} {ops : Array Oper} {Q : Exit → St → Prop} {rest : List Oper} {env : Env} {df : List Deferred} {H : Hp} {own : Own}
variable {dst : Option Tmp} {ty : TypeId} {pos : String} {af : Array Edge}

theorem Acc.addr {α : Type} {ρ : Rep α} {T : TypeId} {p : Nat × SObj} {a : Option Addr} {c : Nat} {l : List α} (h : Acc ρ T H p a c l) (hl : 0 < l.length) : a = some ⟨p.1, 0, none⟩ := by
  rcases h with ⟨_, _, h, _⟩ | ⟨xs, h, _⟩
  · subst h; simp at hl
  · exact h

theorem XO.makeSlice {α : Type} {ρ : Rep α} {t e : TypeId} {x y : Operand} {k k' : IntKind} {n : Nat} {zs : List Value} {agg : Bool} (u : α) (hx : ev env x = some (.int k n)) (hy : ev env y = some (.int k' n)) (ht : C.P.underlying t = some (.slice e)) (he : tyF C.P e ρ.sz agg = true) (hz : zeroC C.P e = some zs)
    (hzl : (Nat.blt 0 ρ.sz && Nat.beq zs.length ρ.sz) = true) (hby : Nat.ble (C.P.bytesOf e) 4096 = true) (hn : n ≤ 1073741824) (hR : ρ.R H zs u) (hd : dstOk C.N dst = true)
    (h : ∀ b, Acc ρ e H (b, .row e (n * ρ.sz) (repL zs n)) (some ⟨b, 0, none⟩) n (List.replicate n u) → XO C ops Q rest ⟨putE dst (.slice (some ⟨b, 0, none⟩) n n) env, df, H, (b, .row e (n * ρ.sz) (repL zs n)) :: own⟩) :
    XO C ops Q (⟨dst, .makeSlice t x y, ty, pos, af, none⟩ :: rest) ⟨env, df, H, own⟩ := by
  refine XO.op rfl rfl hd fun ρ' w fr ha hok => ?_
  simp only [Bool.and_eq_true] at hzl
  have h0 : 0 < ρ.sz := by simpa using hzl.1
  have hzl := Nat.eq_of_beq_eq_true hzl.2
  have hby := Nat.le_of_ble_eq_true hby
  obtain ⟨_, inf, hi, hsz⟩ := tyF_run he
  have hby' : inf.bytes ≤ 4096 := by simpa [Program.bytesOf, hi] using hby
  have hmul : inf.bytes * n ≤ 4398046511104 := Nat.le_trans (Nat.mul_le_mul hby' hn) (by decide)
  obtain ⟨z, hzr, hzc⟩ := run_zero (w := w) hz
  have hcells : (Array.map (fun x => zs.toArray[x % zs.toArray.size]!) (Array.range (n * ρ.sz))) = (repL zs n).toArray := by
    rw [← hzl]; exact zeros_eq zs (by omega) n
  have hacc : Acc ρ e H (w.heap.size, SObj.row e (n * ρ.sz) (repL zs n)) (some ⟨w.heap.size, 0, none⟩) n (List.replicate n u) := .inr ⟨repL zs n, rfl, rfl, RowsR.replicate hR n, by simp⟩
  refine ⟨.value (.slice (some ⟨w.heap.size, 0, none⟩) n n), _, { w with heap := w.heap.push (.cells (repL zs n).toArray e (0, 0)) }, H, _, ?_, .inl rfl, Le.refl _, hok.new (s := .row e (n * ρ.sz) (repL zs n)) ⟨[], by simp, by simp [repL_length, hzl]⟩, h _ hacc⟩
  have hb : (Instr.makeSlice t (.int k n) (.int k' n)).run C.P w = .ok (.slice (some ⟨w.heap.size, 0, none⟩) n n) { w with heap := w.heap.push (.cells (repL zs n).toArray e (0, 0)) } := by
    have hw : IntKind.i64.wrap (n : Int) = n := wrap_i64 (by omega) (by omega)
    unfold Instr.makeSlice
    rw [Sem.run_bind, run_underlying ht]
    simp only [Result.andThen, asInt, asIntOf, Sem.run_bind]
    have hti : (typeInfo e).run C.P w = .ok inf w := by simp [typeInfo, program, hi, Sem.run, Pure.pure, bind, Sem.bind]
    simp only [Pure.pure, Sem.run, Result.andThen, Sem.run_bind, hti, hw]
    have hcond : ((decide ((n : Int) < 0) || decide (((inf.bytes : Nat) : Int) * (n : Int) > 2 ^ 48) || decide ((n : Int) < 0)) || decide ((n : Int) > n)) = false := by
      have hc : ((inf.bytes : Nat) : Int) * (n : Int) ≤ 4398046511104 := by rw [← Int.natCast_mul]; exact Int.ofNat_le.2 hmul
      have h1 : ¬ ((n : Int) < 0) := by omega
      have h2 : ¬ (((inf.bytes : Nat) : Int) * (n : Int) > 2 ^ 48) := by omega
      have h3 : ¬ ((n : Int) > n) := by omega
      rw [decide_eq_false h1, decide_eq_false h2, decide_eq_false h3]
      rfl
    simp only [hcond, Bool.false_eq_true, if_false, Int.toNat_natCast, run_sizeOf he, Sem.run_bind]
    have hroom : ∀ w : World, (askRoom (n * inf.bytes)).run C.P w = .ok () w := by
      intro w; unfold askRoom; split <;> rfl
    rw [hroom]
    simp only [Result.andThen]
    by_cases hn0 : n * ρ.sz = 0
    · have hn1 : n = 0 := by rcases Nat.mul_eq_zero.1 hn0 with h | h; exact h; omega
      subst hn1
      have e1 : ∀ g : Nat → Value, Array.map g (Array.range 0) = #[] := by intro g; simp
      simp only [Nat.zero_mul, if_true, e1]
      simp [newRow, newObj, Sem.run, bind, Sem.bind, Pure.pure, repL, Result.andThen, Sem.run_bind]
    · rw [if_neg hn0]
      simp only [Sem.run_bind, hzr, Result.andThen]
      simp only [Pure.pure, Sem.run, Result.andThen, hzc, hcells]
      simp [newRow, newObj, Sem.run, bind, Sem.bind, Pure.pure]
  simp only [execOp, ha _ _ hx, ha _ _ hy, Sem.run_bind, hb, Result.andThen]
  rfl

theorem XO.loadA (i : Nat) {α : Type} {ρ : Rep α} {T t : TypeId} {x : Operand} {p : Nat × SObj} {g c k : Nat} {l : List α} {u : α} {agg : Bool} (hx : ev env x = some (.pointer (some ⟨g, 0 + k * ρ.sz, none⟩))) (hp : Own.at own i = some p) (hacc : Acc ρ T H p (some ⟨g, 0, none⟩) c l)
    (hu : l[k]? = some u) (ht : tyF C.P t ρ.sz agg = true) (hd : dstOk C.N dst = true) (h : ∀ cs v, ρ.R H cs u → mkV agg cs = some v → XO C ops Q rest ⟨putE dst v env, df, H, own⟩) (hv : ∀ cs, ρ.R H cs u → ∃ v, mkV agg cs = some v) :
    XO C ops Q (⟨dst, .load t x, ty, pos, af, none⟩ :: rest) ⟨env, df, H, own⟩ := by
  rcases hacc with ⟨h1, _⟩ | ⟨xs, ha1, hs, hr, hl⟩
  · cases h1
  · cases ha1
    obtain ⟨b, s⟩ := p
    simp only at hs
    subst hs
    obtain ⟨c1, hR, hc⟩ := hr.get hu
    obtain ⟨v, hv⟩ := hv c1 hR
    refine XO.op rfl rfl hd fun ρ' w fr ha hok => ⟨.value v, v, w, H, own, ?_, .inl rfl, Le.refl _, hok, h c1 v hR hv⟩
    obtain ⟨ct, hbw, hbn⟩ := row_of hok (List.mem_append_left fr (Own.at_mem hp))
    have hrun := run_loadVar (P := C.P) (w := w) ht (b := b) (o := 0 + k * ρ.sz) (ρ.len hR) (v := v) (fun j u hj => by
      have := hc j u hj
      simp only [World.cell?, hbw, Option.isSome_none, Bool.false_eq_true, if_false, List.getElem?_toArray, Nat.zero_add]
      rw [List.getElem?_append_left (List.getElem?_eq_some_iff.1 this).1]
      exact this) hv
    simp only [execOp, ha _ _ hx, Instr.loadAt, Instr.sureAddr, Sem.run_bind]
    simp only [Sem.run, Pure.pure, Result.andThen, hrun]

theorem XO.storeA (i : Nat) {α : Type} {ρ : Rep α} {T t : TypeId} {x y : Operand} {p : Nat × SObj} {g c k : Nat} {l : List α} {u : α} {agg : Bool} {v : Value} {vs : List Value} (hx : ev env x = some (.pointer (some ⟨g, 0 + k * ρ.sz, none⟩))) (hy : ev env y = some v) (hp : Own.at own i = some p) (hacc : Acc ρ T H p (some ⟨g, 0, none⟩) c l)
    (hk : k < l.length) (hv : cellsO v = some vs) (hR : ρ.R H vs u) (ht : tyF C.P t ρ.sz agg = true) (hd : dstOk C.N dst = true)
    (h : ∀ p', Acc ρ T H p' (some ⟨g, 0, none⟩) c (l.set k u) → XO C ops Q rest ⟨putE dst undef env, df, H, Own.set2 own i p'⟩) :
    XO C ops Q (⟨dst, .store t x y, ty, pos, af, none⟩ :: rest) ⟨env, df, H, own⟩ := by
  rcases hacc with ⟨h1, _⟩ | ⟨xs, ha1, hs, hr, hl⟩
  · cases h1
  · cases ha1
    obtain ⟨b, s⟩ := p
    simp only at hs
    subst hs
    have hvl := ρ.len hR
    have hxl := hr.length
    have hkm : k * ρ.sz + ρ.sz ≤ xs.length := by
      rw [hxl]
      have := Nat.mul_le_mul_right ρ.sz (show k + 1 ≤ l.length from hk)
      rwa [Nat.add_mul, Nat.one_mul] at this
    refine XO.op rfl rfl hd fun ρ' w fr ha hok => ?_
    obtain ⟨ct, hbw, hbn⟩ := row_of hok (List.mem_append_left fr (Own.at_mem hp))
    have hrun := run_storeCells_at (P := C.P) b (0 + k * ρ.sz) T vs 0 (xs ++ ct).toArray w hbw (by simp; omega) (oneAll_mem (ρ.one hR))
    simp only [Nat.add_zero, Nat.zero_add] at hrun
    refine ⟨.skip, undef, w.setRow b ((xs ++ ct).toArray.toList.take (k * ρ.sz) ++ vs ++ (xs ++ ct).toArray.toList.drop (k * ρ.sz + vs.length)).toArray, H, _, ?_, .inr ⟨rfl, rfl⟩, Le.refl _, ?_, h (b, .row T (c * ρ.sz) (xs.take (k * ρ.sz) ++ vs ++ xs.drop (k * ρ.sz + ρ.sz))) (.inr ⟨_, rfl, rfl, hr.set hk hR, by simpa using hl⟩)⟩
    · simp only [execOp, ha _ _ hx, ha _ _ hy, Instr.storeAt, Instr.sureAddr, Sem.run_bind, storeVar, run_sizeOf ht, cellsO_eq hv]
      simp only [Sem.run, Pure.pure, Result.andThen, Sem.run_bind, run_sizeOf ht, hvl, List.size_toArray, ne_eq, not_true_eq_false, if_false, Nat.zero_add]
      rw [hrun]
      simp only [hvl, List.append_assoc]
    · refine hok.write2 hp rfl hbw ⟨ct, ?_, ?_⟩
      · simp only [List.append_assoc, hvl]
        rw [List.take_append_of_le_length (by omega), List.drop_append_of_le_length (by omega)]
      · simp only [List.length_append, List.length_take, List.length_drop] at hbn ⊢
        omega

/-! ### Slicing a published slice -/
theorem SlR.cut {α : Type} {ρ : Rep α} {a : Option Addr} {c : Nat} {l : List α} (h : SlR ρ H a c l) (lo hi m : Nat) (h1 : lo ≤ hi) (h2 : hi ≤ l.length) (h3 : hi ≤ m) (h4 : m ≤ c) :
    SlR ρ H (if m = lo then a else a.map (·.add (lo * ρ.sz))) (m - lo) ((l.drop lo).take (hi - lo)) := by
  refine ⟨by simp; omega, ?_, ?_⟩
  · intro e
    split at e
    · omega
    · cases a with
      | none => have := h.nil rfl; omega
      | some a => simp at e
  · intro i x hx
    rw [List.getElem?_take] at hx
    split at hx
    · rename_i hi'
      rw [List.getElem?_drop] at hx
      obtain ⟨b, o, cs, h5, h6, h7⟩ := h.el (lo + i) x hx
      rw [if_neg (by omega), h5]
      refine ⟨b, o + lo * ρ.sz, cs, by simp [addr_add], ?_, h7⟩
      rwa [Nat.add_mul, ← Nat.add_assoc] at h6
    · cases hx

theorem run_bound {P : Program} {w : World} {k : IntKind} {x : Int} {y : Nat} {code : BoundsCode} (h0 : 0 ≤ x) (h1 : x ≤ y) : (Instr.sliceBound (.int k x) y code).run P w = .ok x.toNat w := by
  unfold Instr.sliceBound
  simp only [asIntOf, Sem.run_bind]
  simp only [Pure.pure, Sem.run, Result.andThen, h0, h1, and_self, if_true]

/-- the value of an optional bound -/
def ev? (env : Env) (x : Option Operand) (d : Int) (n : Int) : Prop := match x with | none => n = d | some x => ∃ k, ev env x = some (.int k n)
theorem ev?_none {env : Env} {d : Int} : ev? env none d d := rfl
theorem ev?_some {env : Env} {x : Operand} {d n : Int} {k : IntKind} (h : ev env x = some (.int k n)) : ev? env (some x) d n := ⟨k, h⟩

theorem XO.slice {α : Type} {ρ : Rep α} {t e : TypeId} {x : Operand} {lo hi mx : Option Operand} {a : Option Addr} {c : Nat} {l : List α} {agg : Bool} {lo' hi' m' : Int} (hx : ev env x = some (.slice a l.length c)) (hs : SlR ρ H a c l)
    (hl : ev? env lo 0 lo') (hh : ev? env hi l.length hi') (hm : ev? env mx c m') (hnm : mx.isSome = true → hi.isSome = true) (h0 : 0 ≤ lo') (h1 : lo' ≤ hi') (h2 : hi' ≤ l.length) (h3 : hi' ≤ m') (h4 : m' ≤ c)
    (ht : C.P.underlying t = some (.slice e)) (he : tyF C.P e ρ.sz agg = true) (hd : dstOk C.N dst = true)
    (h : ∀ a' l', l' = (l.drop lo'.toNat).take (hi'.toNat - lo'.toNat) → SlR ρ H a' (m'.toNat - lo'.toNat) l' → XO C ops Q rest ⟨putE dst (.slice a' l'.length (m'.toNat - lo'.toNat)) env, df, H, own⟩) :
    XO C ops Q (⟨dst, .slice t x lo hi mx, ty, pos, af, none⟩ :: rest) ⟨env, df, H, own⟩ := by
  have hcut := hs.cut lo'.toNat hi'.toNat m'.toNat (by omega) (by omega) (by omega) (by omega)
  refine XO.pure rfl rfl hd (fun ρ' ha w => ?_) (h _ _ rfl hcut)
  have hb : (Instr.sliceBounds true l.length c (lo.map ρ') (hi.map ρ') (mx.map ρ')).run C.P w = .ok (lo'.toNat, hi'.toNat, m'.toNat) w := by
    have bd : ∀ (x : Operand) (n : Int) (y : Nat) (code : BoundsCode) (w : World), (∃ k, ev env x = some (.int k n)) → 0 ≤ n → n ≤ y → (Instr.sliceBound (ρ' x) y code).run C.P w = .ok n.toNat w := by
      rintro x n y code w ⟨k, hk⟩ g0 g1
      rw [ha _ _ hk]; exact run_bound g0 g1
    have em : ∃ mm : Sem Nat, (∀ w, mm.run C.P w = .ok m'.toNat w) ∧ (match mx.map ρ' with | some v => Instr.sliceBound v c .slice3Acap | none => Pure.pure c) = mm := by
      refine ⟨_, fun w => ?_, rfl⟩
      cases mx with
      | none => have e : m' = c := hm; subst e; simp [Sem.run, Pure.pure]
      | some y => exact bd y m' c _ w hm (by omega) h4
    unfold Instr.sliceBounds
    cases mx with
    | none =>
      have e : m' = c := hm
      subst e
      cases hi with
      | none =>
        have e : hi' = l.length := hh
        subst e
        cases lo with
        | none => have e : lo' = 0 := hl; subst e; simp [Sem.run, Pure.pure, Sem.run_bind, Result.andThen, bind, Sem.bind]
        | some z => simp only [Option.map_none, Option.map_some, Sem.run_bind]; simp only [Pure.pure, Sem.run, Result.andThen, Sem.run_bind, bd z lo' _ _ _ hl h0 h1, Int.toNat_natCast]
      | some y =>
        have b1 := fun code w => bd y hi' c code w hh (by omega) (by omega)
        cases lo with
        | none =>
          have e : lo' = 0 := hl
          subst e
          simp only [Option.map_none, Option.map_some, Sem.run_bind]; simp only [Pure.pure, Sem.run, Result.andThen, Sem.run_bind, if_true, b1, Int.toNat_natCast, Int.toNat_zero]
        | some z =>
          have b2 := fun code w => bd z lo' hi'.toNat code w hl h0 (by omega)
          simp only [Option.map_none, Option.map_some, Sem.run_bind]; simp only [Pure.pure, Sem.run, Result.andThen, Sem.run_bind, if_true, b1, b2, Int.toNat_natCast]
    | some q =>
      have b0 := fun code w => bd q m' c code w hm (by omega) h4
      cases hi with
      | none => exact absurd (hnm rfl) (by simp)
      | some y =>
        have b1 := fun code w => bd y hi' m'.toNat code w hh (by omega) (by omega)
        cases lo with
        | none =>
          have e : lo' = 0 := hl
          subst e
          simp only [Option.map_none, Option.map_some, Sem.run_bind]; simp only [Pure.pure, Sem.run, Result.andThen, Sem.run_bind, if_true, b0, b1, Int.toNat_zero]
        | some z =>
          have b2 := fun code w => bd z lo' hi'.toNat code w hl h0 (by omega)
          simp only [Option.map_none, Option.map_some, Sem.run_bind]; simp only [Pure.pure, Sem.run, Result.andThen, Sem.run_bind, if_true, b0, b1, b2]
  have hr : (Instr.sliceAt t (.slice a l.length c) (lo.map ρ') (hi.map ρ') (mx.map ρ')).run C.P w = .ok (.slice (if m'.toNat = lo'.toNat then a else a.map (·.add (lo'.toNat * ρ.sz))) (hi'.toNat - lo'.toNat) (m'.toNat - lo'.toNat)) w := by
    unfold Instr.sliceAt
    rw [Sem.run_bind, run_underlying ht]
    simp only [Result.andThen, Instr.slice]
    rw [Sem.run_bind, run_underlying ht]
    simp only [Result.andThen, Sem.run_bind, hb, run_sizeOf he]
    rfl
  have hlen : ((l.drop lo'.toNat).take (hi'.toNat - lo'.toNat)).length = hi'.toNat - lo'.toNat := by simp; omega
  simp only [execOp, ha _ _ hx, Sem.run_bind, hr, Result.andThen, hlen]
  rfl
end
end Go.XL
