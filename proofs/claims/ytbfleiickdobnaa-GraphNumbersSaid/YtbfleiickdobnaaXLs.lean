/- Results that lie in variables, arrays, bytes as strings. No statement of the program stands here. -/
import Derived.Test.YtbfleiickdobnaaXLr
import Derived.ChangeKeysEq
import Derived.Laws.IdiomStrings
set_option autoImplicit false
set_option linter.unusedSimpArgs false
set_option linter.unusedVariables false
namespace Go.XL
/-! ### Results in variables -/
def resC (P : Program) (e : Env) (own : Own) : List ResultVar → List Value → Prop
  | [], vs => vs = []
  | .tmp t :: r, vs => ∃ v us, vs = v :: us ∧ e.get t = some v ∧ resC P e own r us
  | .cell a ty :: r, vs => ∃ v us b T cs i sz agg ws, vs = v :: us ∧ e.get a = some (.pointer (some ⟨b, 0, none⟩)) ∧ Own.at own i = some (b, .cells T cs) ∧ tyF P ty sz agg = true ∧ subL cs 0 sz = some ws ∧ mkV agg ws = some v ∧ resC P e own r us
theorem resC_nil {P : Program} {e : Env} {own : Own} : resC P e own [] [] := rfl
theorem resC_tmp {P : Program} {e : Env} {own : Own} {t : Nat} {v : Value} {us : List Value} {r : List ResultVar} (h : e.get t = some v) (k : resC P e own r us) : resC P e own (.tmp t :: r) (v :: us) := ⟨v, us, rfl, h, k⟩
theorem resC_cell {P : Program} {e : Env} {own : Own} (i : Nat) {a : Nat} {ty T : TypeId} {b sz : Nat} {agg : Bool} {cs ws : List Value} {v : Value} {us : List Value} {r : List ResultVar} (h : e.get a = some (.pointer (some ⟨b, 0, none⟩))) (ho : Own.at own i = some (b, .cells T cs)) (ht : tyF P ty sz agg = true)
    (hl : subL cs 0 sz = some ws) (hv : mkV agg ws = some v) (k : resC P e own r us) : resC P e own (.cell a ty :: r) (v :: us) := ⟨v, us, b, T, cs, i, sz, agg, ws, rfl, h, ho, ht, hl, hv, k⟩

theorem results_runC {C : Ctx} {σ : St} {a : Act} {w w' : World} {fr : Own} (hr : Rel C σ a w) (hok : Ok C.G σ.H (σ.own ++ fr) w') {fn : Func} {rs : List ResultVar} (hf : fn.results = rs.toArray) {vs : List Value} (h : resC C.P σ.env σ.own rs vs) :
    (results fn a.tmps).run C.P w' = .ok (resV vs) w' := by
  have key : ∀ (g : ResultVar → Sem Value), (∀ t, g (.tmp t) = pure (a.tmps.getD t undef)) → (∀ t ty, g (.cell t ty) = do loadVar ty (← asAddr (a.tmps.getD t undef))) → ∀ (rs : List ResultVar) (vs : List Value), resC C.P σ.env σ.own rs vs →
      (rs.mapM g).run C.P w' = .ok vs w' := by
    intro g hg hg2 rs
    induction rs with
    | nil => intro vs h; cases h; rfl
    | cons r rs ih =>
      intro vs h
      cases r with
      | cell b t =>
        obtain ⟨v, us, b', T, cs, i, sz, agg, ws, rfl, h1, ho, ht, hl, hv, hus⟩ := h
        have h1' := hr.get _ _ h1
        have h2 := ih us hus
        have hb := cell_of hok (List.mem_append_left fr (Own.at_mem ho))
        obtain ⟨e1, e2, e3⟩ := subL_eq hl
        have hrun := run_loadVar (P := C.P) (w := w') ht (b := b') (o := 0) e3 (v := v) (fun j u hj => by
          rw [e1, List.getElem?_take] at hj
          split at hj
          · rw [List.getElem?_drop] at hj
            simp only [Nat.zero_add] at hj
            simp [World.cell?, hb, hj]
          · cases hj) hv
        rw [List.mapM_cons]
        simp only [Sem.run_bind, hg2, h1', asAddr]
        simp only [Pure.pure, Sem.run, Result.andThen, hrun]
        show (Sem.run C.P (List.mapM g rs) w').andThen _ = _
        rw [h2]
        rfl
      | tmp t =>
        obtain ⟨v, us, rfl, hv, hus⟩ := h
        have h1 := hr.get t v hv
        have h2 := ih us hus
        rw [List.mapM_cons]
        simp only [Sem.run_bind, hg, h1]
        show (Result.ok v w').andThen _ = _
        show (Sem.run C.P (List.mapM g rs) w').andThen _ = _
        rw [h2]
        rfl
  unfold results
  rw [hf, List.mapM_toArray]
  simp only [Sem.run_bind, Sem.run_map]
  rw [key _ (fun _ => rfl) (fun _ _ => rfl) rs vs h]
  cases vs with
  | nil => rfl
  | cons v vs => cases vs <;> rfl

def bodyQC (P : Program) (rs : List ResultVar) (R : Ending → Hp → Own → Prop) (rest : Own) : Exit → St → Prop
  | .normal, σ | .ret, σ => σ.df = [] ∧ ∃ vs own', resC P σ.env σ.own rs vs ∧ (own' ++ rest).Sublist σ.own ∧ R (.returned (resV vs)) σ.H own'
  | .panic chain, σ => σ.df = [] ∧ ∃ own', (own' ++ rest).Sublist σ.own ∧ R (.panicked chain) σ.H own'
  | _, _ => False

theorem FnC.introC {P : Program} {f : FuncId} {fn : Func} {c : Code} {args : List Value} {H : Hp} {own : Own} {R : Ending → Hp → Own → Prop} {N : Nat} {env : Env} {rs : List ResultVar}
    (hf : P.funcs[f]? = some fn) (hb : fn.body = some c) (hn : (fn.name == "runtime.NumGoroutine") = false) (hN : fn.ntmps = N) (hrs : fn.results = rs.toArray) (hlt : Nat.ble args.length N = true)
    (hi : Env.init 0 args = some env)
    (h : ∀ G rest, XC ⟨P, G, N, none, []⟩ c (bodyQC P rs R rest) ⟨env, [], H, own ++ rest⟩) : FnC P f args.toArray H own R := by
  refine ⟨fun as w => ?_, fun G rest w ok => ?_⟩
  · have hn' : fn.name ≠ "runtime.NumGoroutine" := by simpa using hn
    simp [callFunc, program, Sem.run_bind, Sem.run, Result.andThen, hf, hn', hb, bind, Sem.bind, pure]
  · refine callsIn_wide.1 (callsIn_of_wp_marks (n := 0) hf hb trivial ?_)
    have hrel : Rel ⟨P, G, N, none, []⟩ ⟨env, [], H, own ++ rest⟩ { tmps := args.toArray ++ Array.replicate (fn.ntmps - args.toArray.size) undef, defers := [] } w := by
      have hle : args.length ≤ N := Nat.le_of_ble_eq_true hlt
      refine ⟨by simp [hN]; omega, ?_, [], rfl, by simpa using ok⟩
      intro t v hg
      obtain ⟨_, h2⟩ := Env.init_get hi hg
      simp only [Nat.sub_zero] at h2
      have hlt : t < args.length := by
        rcases Nat.lt_or_ge t args.length with h | h
        · exact h
        · rw [List.getElem?_eq_none h] at h2; cases h2
      rw [Array.getD_eq_getD_getElem?, Array.getElem?_append_left (by simpa using hlt)]
      simp [h2]
    refine Go.wpIn_mono (h G rest _ w hrel) ?_
    intro e a w' hl
    obtain ⟨τ, hr, hle, hq⟩ := hl
    have hR : ∀ e own', e ≠ .outgrown → (own' ++ rest).Sublist τ.own → R e τ.H own' → ∀ w'', Ok G τ.H τ.own w'' → (e ≠ .outgrown ∧ ∃ H' own', Le H H' ∧ Ok G H' (own' ++ rest) w'' ∧ R e H' own') :=
      fun e own' he hs hr w'' ok => ⟨he, τ.H, own', hle, ok.shrink (Le.refl _) hs, hr⟩
    have fin : ∀ vs own', τ.df = [] → resC P τ.env τ.own rs vs → (own' ++ rest).Sublist τ.own → R (.returned (resV vs)) τ.H own' → LeavesInM Fence.wide 0 P fn a.tmps (fun e w' => e ≠ .outgrown ∧ ∃ H' own', Le H H' ∧ Ok G H' (own' ++ rest) w' ∧ R e H' own') a.defers .returning w' := by
      intro vs own' hd hres hs hRR
      obtain ⟨ms, hdf, hok⟩ := hr.ok
      rw [hdf, hd, List.append_nil]
      refine leavesM (by simp) ms τ.own w' (by simpa using hok) ?_
      intro w'' ok''
      exact ⟨_, results_runC (fr := []) hr (by simpa using ok'') hrs hres, hR _ own' (by simp) hs hRR w'' ok''⟩
    cases e with
    | normal => obtain ⟨hd, vs, own', hres, hs, hRR⟩ := hq; exact fin vs own' hd hres hs hRR
    | ret => obtain ⟨hd, vs, own', hres, hs, hRR⟩ := hq; exact fin vs own' hd hres hs hRR
    | panic chain =>
      obtain ⟨hd, own', hs, hRR⟩ := hq
      obtain ⟨ms, hdf, hok⟩ := hr.ok
      show LeavesInM Fence.wide 0 P fn a.tmps _ a.defers (.panicking chain) w'
      rw [hdf, hd, List.append_nil]
      refine leavesM (by simp) ms τ.own w' (by simpa using hok) ?_
      intro w'' ok''
      exact hR _ own' (by simp) hs hRR w'' ok''
    | exit _ => exact hq.elim
    | goto _ => exact hq.elim
    | outgrown => exact hq.elim

/-! ### Bytes -/
def u8R : Rep UInt8 where
  sz := 1
  R := fun _ cs a => cs = [.int .u8 (a.toNat : Nat)]
  len := fun h => by subst h; rfl
  one := fun h => by subst h; rfl
  mono := fun _ h => h
abbrev bsOf (l : List UInt8) : ByteArray := ⟨l.toArray⟩
/-- a pair of numbers, as an array of two -/
def pairR : Rep (Int × Int) where
  sz := 2
  R := fun _ cs p => cs = [.int .i64 p.1, .int .i64 p.2]
  len := fun h => by subst h; rfl
  one := fun h => by subst h; rfl
  mono := fun _ h => h
section
variable {C : Ctx} {ops : Array Oper} {Q : Exit → St → Prop} {rest : List Oper} {env : Env} {df : List Deferred} {H : Hp} {own : Own}
variable {dst : Option Tmp} {ty : TypeId} {pos : String} {af : Array Edge}
theorem XO.guardU {op : Op} {j t : Nat} {want : Bool} (hj : (ops[j]?).bind (·.dst) = some t) (hv : env.get t = some undef) (hN : Nat.blt t C.N = true) (hd : dstOk C.N dst = true)
    (h : XO C ops Q rest ⟨putE dst undef env, df, H, own⟩) : XO C ops Q (⟨dst, op, ty, pos, af, some (j, want)⟩ :: rest) ⟨env, df, H, own⟩ := by
  intro a w hr
  have hlt : t < a.tmps.size := by rw [hr.size]; simpa using hN
  have hy : yielded ops a.tmps j = none := by
    have := hr.get t _ hv
    rw [Array.getD_eq_getD_getElem?] at this
    simp only [yielded, hj, Option.bind_some]
    rw [Array.getElem?_eq_getElem hlt] at this ⊢
    simp only [Option.getD_some] at this
    rw [this]; rfl
  have hw : Region.wanted (⟨dst, op, ty, pos, af, some (j, want)⟩ : Oper) (yielded ops a.tmps) = false := by
    simp only [Region.wanted, hy]; cases want <;> rfl
  simp only [wpListIn, hw]
  exact ⟨fun _ _ => trivial, h _ _ (hr.put (dstOk_lt hd) undef hr.ok)⟩
theorem XO.minI {s t : TypeId} {x y : Operand} {k : IntKind} {a b c : Int} (hx : ev env x = some (.int k a)) (hy : ev env y = some (.int k b)) (hc : (if b < a then b else a) = c) (hd : dstOk C.N dst = true)
    (h : XO C ops Q rest ⟨putE dst (.int k c) env, df, H, own⟩) :
    XO C ops Q (⟨dst, .call { callee := .builtin .min, args := #[x, y], argTypes := #[s, t] }, ty, pos, af, none⟩ :: rest) ⟨env, df, H, own⟩ :=
  XO.pure rfl rfl hd (fun ρ ha w => by
    subst hc
    simp only [execOp, resolve, Sem.run_bind]
    simp only [Pure.pure, Sem.run, Result.andThen, invoke, builtin, Sem.run_bind, Builtin.min_]
    simp [ha _ _ hx, ha _ _ hy, Sem.run_bind, Result.andThen, Pure.pure, Sem.run, Builtin.min2, List.foldlM]) h
theorem XO.minI2 {s t : TypeId} {x y : Operand} {k : IntKind} {a b : Int} (hx : ev env x = some (.int k a)) (hy : ev env y = some (.int k b)) (hd : dstOk C.N dst = true)
    (h : XO C ops Q rest ⟨putE dst (.int k (min a b)) env, df, H, own⟩) :
    XO C ops Q (⟨dst, .call { callee := .builtin .min, args := #[x, y], argTypes := #[s, t] }, ty, pos, af, none⟩ :: rest) ⟨env, df, H, own⟩ :=
  XO.minI hx hy (by split <;> omega) hd h
theorem XO.maxI2 {s t : TypeId} {x y : Operand} {k : IntKind} {a b : Int} (hx : ev env x = some (.int k a)) (hy : ev env y = some (.int k b)) (hd : dstOk C.N dst = true)
    (h : XO C ops Q rest ⟨putE dst (.int k (max a b)) env, df, H, own⟩) :
    XO C ops Q (⟨dst, .call { callee := .builtin .max, args := #[x, y], argTypes := #[s, t] }, ty, pos, af, none⟩ :: rest) ⟨env, df, H, own⟩ :=
  XO.maxI hx hy (by split <;> omega) hd h
theorem XO.indexArr {t e : TypeId} {x y : Operand} {k : IntKind} {i : Int} {b o n sz : Nat} {agg : Bool} (hx : ev env x = some (.pointer (some ⟨b, o, none⟩))) (hy : ev env y = some (.int k i))
    (ht : C.P.underlying t = some (.array n e)) (he : tyF C.P e sz agg = true) (h0 : 0 ≤ i) (h1 : i < n) (hd : dstOk C.N dst = true)
    (h : XO C ops Q rest ⟨putE dst (.pointer (some ⟨b, o + i.toNat * sz, none⟩)) env, df, H, own⟩) :
    XO C ops Q (⟨dst, .indexAddr t x y, ty, pos, af, none⟩ :: rest) ⟨env, df, H, own⟩ := by
  refine XO.pure rfl rfl hd (fun ρ' ha w => ?_) h
  simp only [execOp, ha _ _ hx, ha _ _ hy, Instr.indexAt, asIntOf, Sem.run_bind]
  simp only [Pure.pure, Sem.run, Result.andThen, run_underlying ht, Sem.run_bind, Instr.sureAddr]
  simp only [h0, h1, and_self, if_true, Sem.run_bind, run_sizeOf he, Result.andThen, addr_add]
  rfl
theorem XO.sliceArr {t e : TypeId} {x : Operand} {b o n sz : Nat} {agg : Bool} (hx : ev env x = some (.pointer (some ⟨b, o, none⟩))) (ht : C.P.underlying t = some (.array n e)) (he : tyF C.P e sz agg = true) (hd : dstOk C.N dst = true)
    (h : XO C ops Q rest ⟨putE dst (.slice (some ⟨b, o, none⟩) n n) env, df, H, own⟩) :
    XO C ops Q (⟨dst, .slice t x none none none, ty, pos, af, none⟩ :: rest) ⟨env, df, H, own⟩ := by
  refine XO.pure rfl rfl hd (fun ρ' ha w => ?_) h
  have hz : (⟨b, o, none⟩ : Addr).add (0 * sz) = ⟨b, o, none⟩ := by rw [addr_add]; simp
  simp only [execOp, ha _ _ hx, Sem.run_bind, Instr.sliceAt, run_underlying ht, Result.andThen, Option.map_none]
  simp only [Instr.sureAddr, Instr.sliceBounds, Pure.pure, Sem.run, Result.andThen, Sem.run_bind, run_sizeOf he, hz, ite_self, Nat.sub_zero]
def arrE (P : Program) (t : TypeId) : Option TypeId := match P.underlying t with | some (.array _ e) => some e | _ => none
theorem XO.buildArr {t e : TypeId} {n sz : Nat} {agg : Bool} {ps : List (Nat × Operand)} {vs : List (Nat × Value)} {zs r : List Value} (ht : C.P.underlying t = some (.array n e)) (he : tyF C.P e sz agg = true) (hz : zeroC C.P t = some zs) (hv : evP env ps = some vs) (hr : fillL (fun i => some (i * sz, sz)) zs vs = some r) (hd : dstOk C.N dst = true)
    (h : XO C ops Q rest ⟨putE dst (.agg ⟨r⟩) env, df, H, own⟩) :
    XO C ops Q (⟨dst, .build t ps.toArray, ty, pos, af, none⟩ :: rest) ⟨env, df, H, own⟩ := by
  refine XO.pure rfl rfl hd (fun ρ' ha w => ?_) h
  obtain ⟨z, hz1, hz2⟩ := run_zero (P := C.P) (w := w) hz
  have hps : (ps.toArray.map fun p => (p.1, ρ' p.2)).toList = vs := by simpa using evP_map ha hv
  simp only [execOp, Instr.build, Sem.run_bind, hz1, Result.andThen, run_underlying ht, run_sizeOf he, hps, hz2, fill_eq hr]
  rfl
theorem equal_a2 {P : Program} {t e : TypeId} {k0 q0 : IntKind} {a b c d : Int} {w : World} (ht : P.underlying t = some (.array 2 e)) (h0 : P.underlying e = some (.int k0)) (hs : tyF P e 1 false = true) :
    (Op.equal t (.agg #[.int q0 a, .int q0 b]) (.agg #[.int q0 c, .int q0 d])).run P w = .ok (decide ((a, b) = (c, d))) w := by
  obtain ⟨⟨_, _, _⟩, i, hi, hsz⟩ := tyF_run hs
  unfold Op.equal Op.maxDepth
  have hc : P.cellsOf e = 1 := by simp [Program.cellsOf, hi, hsz]
  rw [show (10000 : Nat) = 9999 + 1 from rfl, run_equalIn_array w 9999 _ _ ht hi, hc]
  rw [show (9999 : Nat) = 9998 + 1 from rfl]
  have p0 : ∀ (u v : Value) (w : World), (part e #[u, v] (0 * 1)).run P w = .ok u w := fun u v w => run_part_int h0 rfl
  have p1 : ∀ (u v : Value) (w : World), (part e #[u, v] (1 * 1)).run P w = .ok v w := fun u v w => run_part_int h0 rfl
  simp only [show List.range 2 = [0, 1] from rfl, Op.eqItems, Sem.run_bind, p0, p1, Result.andThen, run_equalIn_int w _ _ _ _ _ _ h0]
  by_cases e1 : a = c
  · by_cases e2 : b = d
    · simp [e1, e2, Op.eqItems, Sem.run, Pure.pure, p1, run_equalIn_int w _ _ _ _ _ _ h0, Sem.run_bind, Result.andThen]
    · simp [e1, e2, Op.eqItems, Sem.run, Pure.pure, p1, run_equalIn_int w _ _ _ _ _ _ h0, Sem.run_bind, Result.andThen]
  · simp [e1, Op.eqItems, Sem.run, Pure.pure, Sem.run_bind, Result.andThen]
theorem XO.eqlA2 {xt yt e : TypeId} {x y : Operand} {k0 q0 : IntKind} {a b c d : Int} (hx : ev env x = some (.agg #[.int q0 a, .int q0 b])) (hy : ev env y = some (.agg #[.int q0 c, .int q0 d])) (ht : C.P.underlying xt = some (.array 2 e))
    (he : C.P.eqGuardType C.P.depth xt = false) (h0 : C.P.underlying e = some (.int k0)) (hs : tyF C.P e 1 false = true) (hd : dstOk C.N dst = true)
    (h : XO C ops Q rest ⟨putE dst (.bool (decide ((a, b) = (c, d)))) env, df, H, own⟩) : XO C ops Q (⟨dst, .binOp .eql xt x y yt, ty, pos, af, none⟩ :: rest) ⟨env, df, H, own⟩ :=
  XO.pure rfl rfl hd (fun ρ ha w => by
    have hgd := fun w => run_eqGuard_agg (P := C.P) w .eql xt x y #[.int q0 a, .int q0 b] #[.int q0 c, .int q0 d] he
    simp only [execOp, ha _ _ hx, ha _ _ hy, Sem.run_bind, hgd]
    simp only [Result.andThen, binOp, Sem.run_bind, equal_a2 ht h0 hs]
    simp [Sem.run, Pure.pure]) h
theorem XO.neqA2 {xt yt e : TypeId} {x y : Operand} {k0 q0 : IntKind} {a b c d : Int} (hx : ev env x = some (.agg #[.int q0 a, .int q0 b])) (hy : ev env y = some (.agg #[.int q0 c, .int q0 d])) (ht : C.P.underlying xt = some (.array 2 e))
    (he : C.P.eqGuardType C.P.depth xt = false) (h0 : C.P.underlying e = some (.int k0)) (hs : tyF C.P e 1 false = true) (hd : dstOk C.N dst = true)
    (h : XO C ops Q rest ⟨putE dst (.bool (decide (¬ (a, b) = (c, d)))) env, df, H, own⟩) : XO C ops Q (⟨dst, .binOp .neq xt x y yt, ty, pos, af, none⟩ :: rest) ⟨env, df, H, own⟩ :=
  XO.pure rfl rfl hd (fun ρ ha w => by
    have hgd := fun w => run_eqGuard_agg (P := C.P) w .neq xt x y #[.int q0 a, .int q0 b] #[.int q0 c, .int q0 d] he
    simp only [execOp, ha _ _ hx, ha _ _ hy, Sem.run_bind, hgd]
    simp only [Result.andThen, binOp, Sem.run_bind, equal_a2 ht h0 hs]
    simp only [decide_not]
    rfl) h
/-- string(b) -/
theorem XO.b2s {s t e : TypeId} {x : Operand} {a : Option Addr} {c : Nat} {l : List UInt8} (hx : ev env x = some (.slice a l.length c)) (hs : SlR u8R H a c l) (hsrc : C.P.underlying s = some (.slice e)) (he : C.P.underlying e = some (.int .u8)) (ht : C.P.underlying t = some .string) (hd : dstOk C.N dst = true)
    (h : XO C ops Q rest ⟨putE dst (.string (bsOf l)) env, df, H, own⟩) : XO C ops Q (⟨dst, .convert s t x, ty, pos, af, none⟩ :: rest) ⟨env, df, H, own⟩ := by
  refine XO.op rfl rfl hd fun ρ' w fr ha hok => ⟨.value (.string (bsOf l)), .string (bsOf l), w, H, own, ?_, .inl rfl, Le.refl _, hok, h⟩
  simp only [execOp, ha _ _ hx, Sem.run_bind]
  cases a with
  | none =>
    obtain rfl := hs.nil rfl
    have hl0 : l = [] := List.length_eq_zero_iff.1 (by have := hs.le; omega)
    subst hl0
    rw [run_convert_bytes_string w s t e none _ _ hsrc he ht]
    rfl
  | some a =>
    cases l with
    | nil =>
      have := run_convert_bytes_back (P := C.P) w s t e a c [] hsrc he ht (fun j hj => by simp at hj)
      simp only [List.length_nil] at this ⊢
      rw [this]; rfl
    | cons u l =>
      obtain ⟨b, o, cs, ha', _, _⟩ := hs.el 0 u rfl
      cases ha'
      have := run_convert_bytes_back (P := C.P) w s t e ⟨b, o, none⟩ c (u :: l) hsrc he ht (fun j hj => by
        obtain ⟨b', o', cs', hb', hp, hR⟩ := hs.el j (u :: l)[j] (List.getElem?_eq_getElem hj)
        cases hb'
        obtain rfl : cs' = _ := hR
        obtain ⟨cc, T, fz, hH, hcc⟩ := hp
        have := hok.pub _ _ hH
        rw [addr_add]
        have h3 := hcc 0 _ rfl
        simp only [u8R, Nat.mul_one, Nat.add_zero] at h3
        simp [World.cell?, this, h3])
      rw [this]; rfl
theorem bs_toList (l : List UInt8) : (bsOf l).toList = l := by
  simp [ByteArray.toList_eq]
theorem beq_dec (l m : List UInt8) : (l == m) = decide (l = m) := by rw [Bool.eq_iff_iff]; simp
theorem XO.eqlS {xt yt : TypeId} {x y : Operand} {l m : List UInt8} (hx : ev env x = some (.string (bsOf l))) (hy : ev env y = some (.string (bsOf m))) (hd : dstOk C.N dst = true)
    (h : XO C ops Q rest ⟨putE dst (.bool (decide (l = m))) env, df, H, own⟩) : XO C ops Q (⟨dst, .binOp .eql xt x y yt, ty, pos, af, none⟩ :: rest) ⟨env, df, H, own⟩ :=
  XO.pure rfl rfl hd (fun ρ ha w => by
    have hgd : ∀ w, (eqGuard .eql xt x y (.string (bsOf l)) (.string (bsOf m))).run C.P w = .ok () w := fun w => rfl
    simp only [execOp, ha _ _ hx, ha _ _ hy, Sem.run_bind, hgd]
    simp only [Result.andThen, binOp, Op.stringOp, bs_toList, beq_dec]
    simp [Sem.run, Pure.pure]) h
theorem XO.neqS {xt yt : TypeId} {x y : Operand} {l m : List UInt8} (hx : ev env x = some (.string (bsOf l))) (hy : ev env y = some (.string (bsOf m))) (hd : dstOk C.N dst = true)
    (h : XO C ops Q rest ⟨putE dst (.bool (decide (¬ l = m))) env, df, H, own⟩) : XO C ops Q (⟨dst, .binOp .neq xt x y yt, ty, pos, af, none⟩ :: rest) ⟨env, df, H, own⟩ :=
  XO.pure rfl rfl hd (fun ρ ha w => by
    have hgd : ∀ w, (eqGuard .neq xt x y (.string (bsOf l)) (.string (bsOf m))).run C.P w = .ok () w := fun w => rfl
    simp only [execOp, ha _ _ hx, ha _ _ hy, Sem.run_bind, hgd]
    simp only [Result.andThen, binOp, Op.stringOp, bs_toList, decide_not, beq_dec]
    simp [Sem.run, Pure.pure]) h
theorem run_append_none {P : Program} {w : World} {t e t' : TypeId} {a a' : Option Addr} {n c c' sz : Nat} {agg : Bool} (ht : P.underlying t = some (.slice e)) (he : tyF P e sz agg = true) (hc : n ≤ c) :
    (Builtin.append_ #[t, t] t' #[.slice a n c, .slice a' 0 c']).run P w = .ok (.slice a n c) w := by
  obtain ⟨_, inf, hi, hsz⟩ := tyF_run he
  have hf : ∀ w : World, (Builtin.firstCells inf.size 0 (.slice a' 0 c')).run P w = .ok #[] w := by
    intro w; cases a' <;> simp [Builtin.firstCells, loadCells, loadCellsFrom, Sem.run, Pure.pure]
  simp [Builtin.append_, run_underlying ht, sizeOf, typeInfo, hi, Builtin.lenOf, hc, hf]
  cases a <;> simp [storeCells, Sem.run, Pure.pure]
theorem SlR.of_pt {H : Hp} {b o : Nat} {k : IntKind} {l : List Int} (h : PtH H b o (l.map (Value.int k))) : SlR (intR k) H (some ⟨b, o, none⟩) l.length l := by
  refine ⟨Nat.le_refl _, by simp, fun i x hx => ⟨b, o, [.int k x], rfl, ?_, rfl⟩⟩
  obtain ⟨c, T, fz, hb, hc⟩ := h
  refine ⟨c, T, fz, hb, fun j u hj => ?_⟩
  have hj0 : j = 0 := by
    have := (List.getElem?_eq_some_iff.1 hj).1
    simp at this; exact this
  subst hj0
  simp at hj; subst hj
  have := hc i (.int k x) (by simp [hx])
  simpa [intR] using this
/-- append of nothing -/
theorem XO.append0 {t e : TypeId} {x y : Operand} {a a' : Option Addr} {c c' n n' sz : Nat} {agg : Bool} (hx : ev env x = some (.slice a n c)) (hy : ev env y = some (.slice a' n' c')) (hn' : n' = 0) (hc : n ≤ c)
    (ht : C.P.underlying t = some (.slice e)) (he : tyF C.P e sz agg = true) (hd : dstOk C.N dst = true)
    (h : XO C ops Q rest ⟨putE dst (.slice a n c) env, df, H, own⟩) :
    XO C ops Q (⟨dst, .call { callee := .builtin .append, args := #[x, y], argTypes := #[t, t] }, ty, pos, af, none⟩ :: rest) ⟨env, df, H, own⟩ := by
  subst hn'
  refine XO.op rfl rfl hd fun ρ' w fr ha hok => ⟨.value (.slice a n c), .slice a n c, w, H, own, ?_, .inl rfl, Le.refl _, hok, h⟩
  have h0 := run_append_none (P := C.P) (w := w) (t' := ty) (a := a) (c' := c') (a' := a') ht he hc
  simp only [execOp, resolve, Sem.run_bind]
  simp only [Pure.pure, Sem.run, Result.andThen, invoke, builtin, Sem.run_bind]
  simp only [List.map_toArray, List.map_cons, List.map_nil, ha _ _ hx, ha _ _ hy]
  rw [show (#[Value.slice a n c, Value.slice a' 0 c'] : Array Value) = [Value.slice a n c, Value.slice a' 0 c'].toArray from rfl] at h0
  rw [h0]
/-- append to a published slice that is full; what comes out is published. -/
theorem XO.appendP {α : Type} {ρ : Rep α} {t e : TypeId} {x y : Operand} {a a' : Option Addr} {c c' n n' : Nat} {l l' : List α} {zs : List Value} {agg : Bool}
    (hx : ev env x = some (.slice a n c)) (hs : SlR ρ H a c l) (hln : n = l.length) (hy : ev env y = some (.slice a' n' c')) (hsrc : SlR ρ H a' c' l') (hln' : n' = l'.length) (hfull : c ≤ l.length)
    (ht : C.P.underlying t = some (.slice e)) (he : tyF C.P e ρ.sz agg = true) (hz : zeroC C.P e = some zs) (hzl : Nat.beq zs.length ρ.sz = true) (hby : Nat.ble (C.P.bytesOf e) 4096 = true) (hn : l.length + l'.length ≤ 1073741824) (hd : dstOk C.N dst = true)
    (h : ∀ H' a'' c'', Le H H' → SlR ρ H' a'' c'' (l ++ l') → XO C ops Q rest ⟨putE dst (.slice a'' (l ++ l').length c'') env, df, H', own⟩) :
    XO C ops Q (⟨dst, .call { callee := .builtin .append, args := #[x, y], argTypes := #[t, t] }, ty, pos, af, none⟩ :: rest) ⟨env, df, H, own⟩ := by
  cases l' with
  | nil =>
    have h' := h H a c (Le.refl _) (by simpa using hs)
    simp only [List.append_nil] at h'
    subst hln
    refine XO.op rfl rfl hd fun ρ' w fr ha hok => ⟨.value (.slice a l.length c), .slice a l.length c, w, H, own, ?_, .inl rfl, Le.refl _, hok, h'⟩
    have h0 := run_append_none (P := C.P) (w := w) (t' := ty) (a := a) (c' := c') (a' := a') ht he hs.le
    have hn0 : n' = 0 := by simpa using hln'
    subst hn0
    simp only [execOp, resolve, Sem.run_bind]
    simp only [Pure.pure, Sem.run, Result.andThen, invoke, builtin, Sem.run_bind]
    simp only [List.map_toArray, List.map_cons, List.map_nil, ha _ _ hx, ha _ _ hy]
    rw [show (#[Value.slice a l.length c, Value.slice a' 0 c'] : Array Value) = [Value.slice a l.length c, Value.slice a' 0 c'].toArray from rfl] at h0
    rw [h0]
  | cons u l' =>
    refine XO.appendN hx hs hln hy hsrc hln' (by simp; omega) ht he hz hzl hby hn hd fun p' a'' c'' hacc => ?_
    exact XO.publishA 0 rfl hacc rfl fun H' hle hsl => h H' a'' c'' hle hsl
end
end Go.XL
