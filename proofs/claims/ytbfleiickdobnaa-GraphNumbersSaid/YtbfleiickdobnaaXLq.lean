/- Slices of the call's own: made by a literal, written by a field. No statement of the program stands here. -/
import Derived.Test.YtbfleiickdobnaaXLp
set_option autoImplicit false
set_option linter.unusedSimpArgs false
set_option linter.unusedVariables false
namespace Go.XL
theorem take_snoc {α : Type} {l : List α} {k : Nat} {x : α} (h : l[k]? = some x) : l.take (k + 1) = l.take k ++ [x] := by
  rw [List.take_add_one, h]; rfl
theorem map_take_snoc {α β : Type} {f : α → β} {l : List α} {k : Nat} {x : α} (h : l[k]? = some x) : (l.take (k + 1)).map f = (l.take k).map f ++ [f x] := by
  rw [take_snoc h, List.map_append]; rfl
theorem all_snoc {α : Type} {q : α → Prop} {l : List α} {k : Nat} {x : α} (h : ∀ y ∈ l.take k, ¬ q y) (hx : l[k]? = some x) (hn : ¬ q x) : ∀ y ∈ l.take (k + 1), ¬ q y := by
  intro y hy
  rw [take_snoc hx] at hy
  rcases List.mem_append.1 hy with h1 | h1
  · exact h y h1
  · simp at h1; subst h1; exact hn
section
variable {C : Ctx} {ops : Array Oper} {Q : Exit → St → Prop} {rest : List Oper} {env : Env} {df : List Deferred} {H : Hp} {own : Own}
variable {dst : Option Tmp} {ty : TypeId} {pos : String} {af : Array Edge}
theorem XO.buildRow {α : Type} {ρ : Rep α} {t e : TypeId} {n : Nat} {agg : Bool} {ps : List (Nat × Operand)} {vs : List (Nat × Value)} {zs r : List Value} {l : List α} (hv : evP env ps = some vs) (ht : C.P.underlying t = some (.slice e)) (he : tyF C.P e ρ.sz agg = true) (hz : zeroC C.P e = some zs)
    (hzl : (Nat.blt 0 ρ.sz && Nat.beq zs.length ρ.sz && Nat.ble (n * ρ.sz) 16777216) = true) (hr : fillL (fun i => some (i * ρ.sz, ρ.sz)) (repL zs n) vs = some r) (hl : l.length = n) (hR : RowsR ρ H r l) (hd : dstOk C.N dst = true)
    (h : ∀ p a c, Acc ρ e H p a c l → XO C ops Q rest ⟨putE dst (.slice a l.length c) env, df, H, p :: own⟩) :
    XO C ops Q (⟨dst, .buildSlice t n ps.toArray, ty, pos, af, none⟩ :: rest) ⟨env, df, H, own⟩ := by
  refine XO.buildSlice hv ht he hz hzl hr hd fun b => XO.toRow 0 rfl ?_
  subst hl
  have := h (b, .row e r.length r) (some ⟨b, 0, none⟩) l.length (by rw [hR.length]; exact Acc.lit hR)
  exact this

theorem XO.storeAF (i : Nat) {α : Type} {ρ : Rep α} {T t : TypeId} {x y : Operand} {p : Nat × SObj} {g c k off sz : Nat} {l : List α} {u0 u : α} {agg : Bool} {v : Value} {vs : List Value} (hx : ev env x = some (.pointer (some ⟨g, 0 + k * ρ.sz + off, none⟩))) (hy : ev env y = some v) (hp : Own.at own i = some p) (hacc : Acc ρ T H p (some ⟨g, 0, none⟩) c l)
    (hu : l[k]? = some u0) (hv : cellsO v = some vs) (hsz : vs.length = sz) (h1 : oneAll vs = true) (hR : ∀ c1, ρ.R H c1 u0 → ∃ c2, setL c1 off vs = some c2 ∧ ρ.R H c2 u) (ht : tyF C.P t sz agg = true) (hd : dstOk C.N dst = true)
    (h : ∀ p', Acc ρ T H p' (some ⟨g, 0, none⟩) c (l.set k u) → XO C ops Q rest ⟨putE dst undef env, df, H, Own.set2 own i p'⟩) :
    XO C ops Q (⟨dst, .store t x y, ty, pos, af, none⟩ :: rest) ⟨env, df, H, own⟩ := by
  rcases hacc with ⟨h1, _⟩ | ⟨xs, ha1, hs, hr, hl⟩
  · cases h1
  · cases ha1
    obtain ⟨b, s⟩ := p
    simp only at hs
    subst hs
    obtain ⟨hk, _⟩ := List.getElem?_eq_some_iff.1 hu
    have hxl := hr.length
    have hkm : k * ρ.sz + ρ.sz ≤ xs.length := by
      rw [hxl]
      have := Nat.mul_le_mul_right ρ.sz (show k + 1 ≤ l.length from hk)
      rwa [Nat.add_mul, Nat.one_mul] at this
    obtain ⟨c1, hR1, hc1⟩ := hr.get hu
    have hl1 := ρ.len hR1
    obtain ⟨c2, hset, hR2⟩ := hR c1 hR1
    obtain ⟨e2, hle⟩ := setL_eq hset
    have ec1 : c1 = (xs.drop (k * ρ.sz)).take ρ.sz := by
      refine List.ext_getElem? fun j => ?_
      rcases Nat.lt_or_ge j c1.length with hj | hj
      · have h3 : c1[j]? = some c1[j] := List.getElem?_eq_getElem hj
        rw [h3, List.getElem?_take, if_pos (by omega), List.getElem?_drop, hc1 j _ h3]
      · rw [List.getElem?_eq_none hj, List.getElem?_take, if_neg (by omega)]
    have key : xs.take (k * ρ.sz + off) ++ vs ++ xs.drop (k * ρ.sz + off + vs.length) = xs.take (k * ρ.sz) ++ c2 ++ xs.drop (k * ρ.sz + ρ.sz) := by
      have hdl : (xs.drop (k * ρ.sz)).length = xs.length - k * ρ.sz := List.length_drop
      have e3 : c1.take off = (xs.drop (k * ρ.sz)).take off := by rw [ec1, List.take_take, Nat.min_eq_left (by omega)]
      have e4 : c1.drop (off + vs.length) ++ xs.drop (k * ρ.sz + ρ.sz) = xs.drop (k * ρ.sz + off + vs.length) := by
        have h5 : ((xs.drop (k * ρ.sz)).take ρ.sz ++ (xs.drop (k * ρ.sz)).drop ρ.sz).drop (off + vs.length) = c1.drop (off + vs.length) ++ (xs.drop (k * ρ.sz)).drop ρ.sz := by
          rw [← ec1, List.drop_append_of_le_length (by omega)]
        rw [List.take_append_drop, List.drop_drop, List.drop_drop] at h5
        rw [← h5, Nat.add_assoc]
      rw [e2, List.take_add, ← e4, e3]
      simp only [List.append_assoc]
    refine XO.op rfl rfl hd fun ρ' w fr ha hok => ?_
    obtain ⟨ct, hbw, hbn⟩ := row_of hok (List.mem_append_left fr (Own.at_mem hp))
    have hrun := run_storeCells_at (P := C.P) b (0 + k * ρ.sz + off) T vs 0 (xs ++ ct).toArray w hbw (by simp; omega) (oneAll_mem h1)
    simp only [Nat.add_zero, Nat.zero_add] at hrun
    refine ⟨.skip, undef, w.setRow b ((xs ++ ct).toArray.toList.take (k * ρ.sz + off) ++ vs ++ (xs ++ ct).toArray.toList.drop (k * ρ.sz + off + vs.length)).toArray, H, _, ?_, .inr ⟨rfl, rfl⟩, Le.refl _, ?_, h (b, .row T (c * ρ.sz) (xs.take (k * ρ.sz) ++ c2 ++ xs.drop (k * ρ.sz + ρ.sz))) (.inr ⟨_, rfl, rfl, hr.set hk hR2, by simpa using hl⟩)⟩
    · simp only [execOp, ha _ _ hx, ha _ _ hy, Instr.storeAt, Instr.sureAddr, Sem.run_bind, storeVar, run_sizeOf ht, cellsO_eq hv]
      simp only [Sem.run, Pure.pure, Result.andThen, Sem.run_bind, run_sizeOf ht, hsz, List.size_toArray, ne_eq, not_true_eq_false, if_false, Nat.zero_add]
      rw [hrun]
      simp only [hsz, List.append_assoc]
    · refine hok.write2 hp rfl hbw ⟨ct, ?_, ?_⟩
      · rw [← key]
        simp only [List.append_assoc]
        rw [List.take_append_of_le_length (by omega), List.drop_append_of_le_length (by omega)]
      · simp only [List.length_append, List.length_take, List.length_drop, ρ.len hR2] at hbn ⊢
        omega

theorem XO.makeRow {α : Type} {ρ : Rep α} {t e : TypeId} {x y : Operand} {k k' : IntKind} {n : Nat} {zs : List Value} {agg : Bool} (u : α) (hx : ev env x = some (.int k n)) (hy : ev env y = some (.int k' n)) (ht : C.P.underlying t = some (.slice e)) (he : tyF C.P e ρ.sz agg = true) (hz : zeroC C.P e = some zs)
    (hzl : (Nat.blt 0 ρ.sz && Nat.beq zs.length ρ.sz) = true) (hby : Nat.ble (C.P.bytesOf e) 4096 = true) (hn : n ≤ 1073741824) (hR : ρ.R H zs u) (hd : dstOk C.N dst = true)
    (h : ∀ p c, Acc ρ e H p (some ⟨p.1, 0, none⟩) c (List.replicate n u) → XO C ops Q rest ⟨putE dst (.slice (some ⟨p.1, 0, none⟩) n c) env, df, H, p :: own⟩) :
    XO C ops Q (⟨dst, .makeSlice t x y, ty, pos, af, none⟩ :: rest) ⟨env, df, H, own⟩ :=
  XO.makeSlice u hx hy ht he hz hzl hby hn hR hd fun b hacc => h (b, _) n hacc

theorem XO.shr {xt yt : TypeId} {x y : Operand} {k yk : IntKind} {a b : Int} (hx : ev env x = some (.int k a)) (hy : ev env y = some (.int yk b)) (h0 : 0 ≤ b) (hd : dstOk C.N dst = true)
    (h : XO C ops Q rest ⟨putE dst (.int k (a.fdiv (2 ^ min b.toNat k.bits))) env, df, H, own⟩) : XO C ops Q (⟨dst, .binOp .shr xt x y yt, ty, pos, af, none⟩ :: rest) ⟨env, df, H, own⟩ :=
  XO.pure rfl rfl hd (fun ρ ha w => by
    rw [run_binOp (ha _ _ hx) (ha _ _ hy)]
    have h1 : ¬ b < 0 := by omega
    simp [binOp, Op.shift, h1, Sem.run, Pure.pure, Result.andThen]) h
theorem XO.shl {xt yt : TypeId} {x y : Operand} {k yk : IntKind} {a b : Int} (hx : ev env x = some (.int k a)) (hy : ev env y = some (.int yk b)) (h0 : 0 ≤ b) (hd : dstOk C.N dst = true)
    (h : XO C ops Q rest ⟨putE dst (.int k (k.wrap (a * 2 ^ min b.toNat k.bits))) env, df, H, own⟩) : XO C ops Q (⟨dst, .binOp .shl xt x y yt, ty, pos, af, none⟩ :: rest) ⟨env, df, H, own⟩ :=
  XO.pure rfl rfl hd (fun ρ ha w => by
    rw [run_binOp (ha _ _ hx) (ha _ _ hy)]
    have h1 : ¬ b < 0 := by omega
    simp [binOp, Op.shift, h1, Sem.run, Pure.pure, Result.andThen]) h
theorem XO.band {xt yt : TypeId} {x y : Operand} {k : IntKind} {a b : Int} (hx : ev env x = some (.int k a)) (hy : ev env y = some (.int k b)) (hd : dstOk C.N dst = true)
    (h : XO C ops Q rest ⟨putE dst (.int k (k.wrap (BitVec.ofInt k.bits a &&& BitVec.ofInt k.bits b).toNat)) env, df, H, own⟩) : XO C ops Q (⟨dst, .binOp .and xt x y yt, ty, pos, af, none⟩ :: rest) ⟨env, df, H, own⟩ :=
  XO.pure rfl rfl hd (fun ρ ha w => by rw [run_binOp (ha _ _ hx) (ha _ _ hy)]; simp [binOp, Op.intBits, Sem.run, Pure.pure, Result.andThen]) h
theorem XO.bor {xt yt : TypeId} {x y : Operand} {k : IntKind} {a b : Int} (hx : ev env x = some (.int k a)) (hy : ev env y = some (.int k b)) (hd : dstOk C.N dst = true)
    (h : XO C ops Q rest ⟨putE dst (.int k (k.wrap (BitVec.ofInt k.bits a ||| BitVec.ofInt k.bits b).toNat)) env, df, H, own⟩) : XO C ops Q (⟨dst, .binOp .or xt x y yt, ty, pos, af, none⟩ :: rest) ⟨env, df, H, own⟩ :=
  XO.pure rfl rfl hd (fun ρ ha w => by rw [run_binOp (ha _ _ hx) (ha _ _ hy)]; simp [binOp, Op.intBits, Sem.run, Pure.pure, Result.andThen]) h
theorem XO.bxor {xt yt : TypeId} {x y : Operand} {k : IntKind} {a b : Int} (hx : ev env x = some (.int k a)) (hy : ev env y = some (.int k b)) (hd : dstOk C.N dst = true)
    (h : XO C ops Q rest ⟨putE dst (.int k (k.wrap (BitVec.ofInt k.bits a ^^^ BitVec.ofInt k.bits b).toNat)) env, df, H, own⟩) : XO C ops Q (⟨dst, .binOp .xor xt x y yt, ty, pos, af, none⟩ :: rest) ⟨env, df, H, own⟩ :=
  XO.pure rfl rfl hd (fun ρ ha w => by rw [run_binOp (ha _ _ hx) (ha _ _ hy)]; simp [binOp, Op.intBits, Sem.run, Pure.pure, Result.andThen]) h
end
end Go.XL
