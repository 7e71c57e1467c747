/- Loops over functions that lend their own blocks to the loop's body; own slices that are cut short. No statement of the program stands here. -/
import Derived.Test.YtbfleiickdobnaaXLy
import Derived.Lib.SliceRun
set_option autoImplicit false
set_option linter.unusedSimpArgs false
set_option linter.unusedVariables false
set_option linter.unnecessarySimpa false
namespace Go.XL
/-- What a loop's rounds have gathered so far: a state that a greater heap leaves as it is. -/
structure JS (α : Type) where
  St : List α → Hp → Own → Prop
  mono : ∀ l H H' o, Le H H' → St l H o → St l H' o
def JS.Holds {α : Type} (J : JS α) (l : List α) (H : Hp) (o : Own) : Prop := J.St l H o
theorem JS.Holds.mono {α : Type} {J : JS α} {l : List α} {H H' : Hp} {o : Own} (h : J.Holds l H o) (hle : Le H H') : J.Holds l H' o := J.mono _ _ _ _ hle h
/-- what is asked of a loop's body, as the iterator sees it -/
def YOk {α β : Type} (P : Program) (yv : Value) (H : Hp) (enc : α → β → List Value) (lend : α → β → Hp → Own → Prop) (xs : List α) (J : JS α) (K : Hp → Own → Prop) : Prop :=
  ∀ pre x post, xs = pre ++ x :: post → ∀ bx H' ol own', Le H H' → J.Holds pre H' own' → lend x bx H' ol →
      FnV P yv (enc x bx) H' (ol ++ own') (RetR fun v H'' own'' => (v = .bool true ∧ ∃ own3, own'' = ol ++ own3 ∧ J.Holds (pre ++ [x]) H'' own3) ∨ (v = .bool false ∧ K H'' own''))
/-- As SeqC, but each element is handed out with blocks of the iterator's own, which come back as they were. -/
def SeqL {α β : Type} (P : Program) (f : FuncId) (cap : List Value) (H : Hp) (ownI : Own) (enc : α → β → List Value) (lend : α → β → Hp → Own → Prop) (xs : List α) : Prop :=
  ∀ (yv : Value) (J : JS α) (K : Hp → Own → Prop) (ownY : Own), YOk P yv H enc lend xs J K → J.Holds [] H ownY →
    FnC P f ((yv :: cap).toArray) H (ownI ++ ownY) (RetR fun v H' own' => v = .tuple #[] ∧ ∃ ownI' ownY', own' = ownI' ++ ownY' ∧ (J.Holds xs H' ownY' ∨ K H' ownY'))
section
variable {C : Ctx} {Q : Exit → St → Prop} {env : Env} {df : List Deferred} {H : Hp} {own : Own}

theorem XC.rangeFuncL {α β : Type} {g : Operand} {ps : List Tmp} {assign body : Code} {f : FuncId} {cap : List Value} {enc : α → β → List Value} {lend : α → β → Hp → Own → Prop} {xs : List α} {ownI own2 : Own}
    (hg : ev env g = some (.func (.func f) #[] cap.toArray)) (hseq : SeqL C.P f cap H ownI enc lend xs) (hps : ∀ x b, (enc x b).length = ps.length) (hpN : (ps.all fun p => Nat.blt p C.N) = true)
    (ho : own = ownI ++ own2) (I : List α → Hp → Own → Prop) (Kx : Code → Hp → Own → Prop) (hI : ∀ p H H' o, Le H H' → I p H o → I p H' o) (h0 : I [] H own2)
    (hround : C.r = none ∨ ∃ l0 r0, C.r = some l0 ∧ (l0, SObj.obj (.loop r0)) ∈ C.hid)
    (hbody : ∀ G l hd1 hd2, (∃ r0, (l, SObj.obj (.loop r0)) ∈ hd2) → ∀ pre x post, xs = pre ++ x :: post → ∀ bx H' ol own', Le H H' → I pre H' own' → lend x bx H' ol →
      XC ⟨C.P, G, C.N, some l, hd1⟩ assign (assignQ ⟨C.P, G, C.N, some l, hd2⟩ body (roundQ l (fun p H2 o => ∃ o3, o = ol ++ o3 ∧ I p H2 o3) Kx (pre ++ [x]))) ⟨bindP ps (enc x bx) env, [], H', ol ++ own'⟩)
    (hdone : ∀ H' own', Le H H' → I xs H' own' → Q .normal ⟨env, df, H', own'⟩)
    (hjump : ∀ c H' own', Le H H' → Kx c H' own' → XC C c Q ⟨env, df, H', own'⟩) : XC C (.rangeFunc g ps.toArray assign body) Q ⟨env, df, H, own⟩ := by
  intro a w hr
  refine wpIn_rangeFunc ?_
  intro fn hfn
  subst ho
  obtain ⟨l, mk, w₁, D, ms', hrun, hdf, hok₁⟩ := enter_loop (fn := fn) (ps := ps.toArray) (as := assign) (bd := body) hr hround
  have hga := hr.eval hg
  let rec0 : Loop := { state := .ready, pending := none, fn, tmps := a.tmps, params := ps.toArray, assign := assign, body := body, defers := D }
  let yv : Value := .func (.yield l) #[] #[]
  let J : JS α := ⟨fun pre H' ownY => ∃ own2', ownY = (l, .obj (.loop rec0)) :: own2' ∧ I pre H' own2', fun p H1 H2 o hle ⟨o2, e, h⟩ => ⟨o2, e, hI p H1 H2 o2 hle h⟩⟩
  let K : Hp → Own → Prop := fun H' ownY => ∃ own2' c, ownY = (l, .obj (.loop { rec0 with state := .done, pending := some c })) :: own2' ∧ Kx c H' own2'
  have hcall := hseq yv J K ((l, .obj (.loop rec0)) :: own2) (by
    rintro pre x post hxs bx H' ol ownY hle ⟨own2', rfl, hI⟩ hlend
    intro G rst w hok
    have hok' : Ok G H' ((l, .obj (.loop rec0)) :: ((ol ++ own2') ++ rst)) w := hok.perm (by
      simp only [List.append_assoc, List.cons_append]; exact List.perm_middle.symm)
    have hl := hok'.objAt
    refine ⟨{ target := .fn (.yield l) #[], args := #[] ++ (enc x bx).toArray }, .round l fn ((ps.toArray.zip (enc x bx).toArray).foldl (fun tmps (t, a) => tmps.setIfInBounds t a) a.tmps) assign body, w, rfl, ?_, ?_⟩
    · have := run_yield (P := C.P) (args := (enc x bx).toArray) hl (by simp [rec0, hps])
      show (Instr.yield l (#[] ++ (enc x bx).toArray)).run C.P w = _
      rw [Array.empty_append]
      exact this
    · refine roundIn_of_wpIn trivial ?_
      have hfold : ((ps.toArray.zip (enc x bx).toArray).foldl (fun tmps (t, a) => tmps.setIfInBounds t a) a.tmps) = ((ps.zip (enc x bx)).foldl (fun (tmps : Array Value) (x : Tmp × Value) => tmps.setIfInBounds x.1 x.2) a.tmps) := by
        rw [← Array.foldl_toList]; simp
      rw [hfold]
      obtain ⟨hsz, hget⟩ := bind_get ps (enc x bx) env a.tmps (by simp [hps]) (fun p hp => by
        have := List.all_eq_true.1 hpN p hp
        rw [hr.size]; simpa using this) hr.get
      have hX := hbody G l ((l, .obj (.loop rec0)) :: rst) ((l, .obj (.loop { rec0 with state := .busy })) :: rst) ⟨_, List.mem_cons_self⟩ pre x post hxs bx H' ol own2' hle hI hlend
      have hrel : Rel ⟨C.P, G, C.N, some l, (l, .obj (.loop rec0)) :: rst⟩ ⟨bindP ps (enc x bx) env, [], H', ol ++ own2'⟩ { tmps := ((ps.zip (enc x bx)).foldl (fun (tmps : Array Value) (x : Tmp × Value) => tmps.setIfInBounds x.1 x.2) a.tmps), defers := [] } w :=
        ⟨by rw [← hr.size]; exact hsz, hget, [], rfl, hok'.perm (by simp only [List.map_nil, List.nil_append]; exact List.perm_middle)⟩
      refine Go.wpIn_mono (hX _ _ hrel) ?_
      rintro e a₁ w₁ ⟨σ, hr₁, hle₁, hq⟩
      cases e with
      | normal =>
        obtain ⟨ms₁, hd₁, hok₁⟩ := hr₁.ok
        have hok₂ : Ok G σ.H ((l, .obj (.loop rec0)) :: (σ.own ++ (ms₁.map hid ++ rst))) w₁ := hok₁.perm (by
          rw [← List.append_assoc, ← List.append_assoc]; exact List.perm_middle.symm)
        have hbeg := run_beginRound (P := C.P) hok₂.objAt rfl
        refine ⟨_, hbeg, ?_⟩
        have hok₃ := hok₂.putObj (o' := .loop { rec0 with state := .busy })
        have hrel₂ : Rel ⟨C.P, G, C.N, some l, (l, .obj (.loop { rec0 with state := .busy })) :: rst⟩ σ a₁ (w₁.putObj l (.loop { rec0 with state := .busy })) :=
          ⟨hr₁.size, hr₁.get, ms₁, hd₁, hok₃.perm (by rw [← List.append_assoc, ← List.append_assoc]; exact List.perm_middle)⟩
        refine Go.wpIn_mono (hq _ _ hrel₂) ?_
        rintro e a₂ w₂ ⟨τ, hr₂, hle₂, hq₂⟩
        obtain ⟨ms₂, hd₂, hok₄⟩ := hr₂.ok
        have hok₅ : Ok G τ.H ((l, .obj (.loop { rec0 with state := .busy })) :: (τ.own ++ (ms₂.map hid ++ rst))) w₂ := hok₄.perm (by
          rw [← List.append_assoc, ← List.append_assoc]; exact List.perm_middle.symm)
        have hend := fun j => run_endRound (P := C.P) j hok₅.objAt
        have leave : ∀ (c : Code), (∃ o, o.Sublist τ.own ∧ Kx c τ.H o) → ∃ v w', (Instr.endRound l (some c)).run C.P w₂ = .ok v w' ∧ (Ending.returned v ≠ .outgrown ∧ ∃ H'' own'', Le H' H'' ∧ Ok G H'' (own'' ++ rst) w' ∧ RetR (fun v H'' own'' => (v = .bool true ∧ ∃ own3, own'' = ol ++ own3 ∧ J.Holds (pre ++ [x]) H'' own3) ∨ (v = .bool false ∧ K H'' own'')) (.returned v) H'' own'') := by
          rintro c ⟨o, hs, hk⟩
          refine ⟨_, _, hend (some c), by simp, τ.H, (l, .obj (.loop { rec0 with state := .done, pending := some c })) :: o, hle₁.trans hle₂, ?_, .inr ⟨rfl, o, c, rfl, hk⟩⟩
          refine (hok₅.putObj (o' := .loop { rec0 with state := .done, pending := some c })).shrink (Le.refl _) ?_
          exact List.Sublist.cons_cons _ (hs.append (List.sublist_append_right _ _))
        cases e with
        | normal =>
          obtain ⟨_, o, hs, o3, rfl, hI'⟩ := hq₂
          refine ⟨_, _, hend none, by simp, τ.H, ol ++ (l, .obj (.loop rec0)) :: o3, hle₁.trans hle₂, ?_, .inl ⟨rfl, _, rfl, o3, rfl, hI'⟩⟩
          have hk := (hok₅.putObj (o' := .loop rec0)).shrink (Le.refl _) (List.Sublist.cons_cons _ (hs.append (List.sublist_append_right _ _)) : ((l, SObj.obj (.loop rec0)) :: ((ol ++ o3) ++ rst)).Sublist _)
          refine hk.perm ?_
          simp only [List.append_assoc, List.cons_append]; exact List.perm_middle
        | exit id => exact leave _ hq₂.2
        | goto t => exact leave _ hq₂.2
        | ret => exact leave _ hq₂.2
        | panic ch => exact hq₂.elim
        | outgrown => exact hq₂.elim
      | exit id => exact hq.elim
      | goto t => exact hq.elim
      | ret => exact hq.elim
      | panic ch => exact hq.elim
      | outgrown => exact hq.elim) ⟨own2, rfl, h0⟩
  refine ⟨l, mk, w₁, { target := .fn (.func f) cap.toArray, args := #[] ++ #[yv] }, w₁, f, (yv :: cap).toArray, w₁, hrun, ?_, fun _ _ => trivial, ?_, fun h => (by cases h), ?_⟩
  · have hm : Array.map a.eval #[Operand.const (Value.func (Fn.yield l) #[] #[])] = #[yv] := by simp [Act.eval, yv]
    simp only [resolve, rangeCall, hga, hm]
    rfl
  · have := hcall.1 (yv :: cap).toArray w₁
    show (callFunc f ((#[] ++ #[yv]) ++ cap.toArray)).run C.P w₁ = _
    have e : (#[] ++ #[yv] ++ cap.toArray : Array Value) = (yv :: cap).toArray := by simp
    rw [e]
    exact this
  · have hok₂ : Ok C.G H ((ownI ++ (l, .obj (.loop rec0)) :: own2) ++ (ms'.map hid ++ C.hid)) w₁ := hok₁.perm (by
      simp only [List.append_assoc, List.cons_append]; exact List.perm_middle)
    have hc : CallsIn Fence.wide (0 - 1) C.P f (yv :: cap).toArray w₁ _ := callsIn_wide.2 (hcall.2 C.G _ w₁ hok₂)
    have hc2 : CallsIn (Fr C.r) (0 - 1) C.P f (yv :: cap).toArray w₁ _ := hc
    refine ⟨hc2.1, fun cs hcs => ?_⟩
    obtain ⟨e, w₃, fr, ⟨hne, H', own', hle, hok₃, hR⟩, hx⟩ := hc2.2 cs hcs
    refine ⟨e, w₃, fr, ?_, hx⟩
    cases e with
    | outgrown => exact absurd rfl hne
    | panicked ch => exact hR.elim
    | returned v =>
      obtain ⟨_, ownI', ownY', rfl, hJK⟩ := hR
      have key : ∀ (r : Loop) (o : Own), ownY' = (l, .obj (.loop r)) :: o → r.state ≠ .busy → (Instr.endLoop l).run C.P w₃ = .ok r.pending (w₃.putObj l (.loop { r with state := .exhausted })) ∧
          Rel C ⟨env, df, H', o⟩ { a with defers := mk ++ a.defers } (w₃.putObj l (.loop { r with state := .exhausted })) := by
        rintro r o rfl hb
        have hok₄ : Ok C.G H' ((l, .obj (.loop r)) :: (ownI' ++ (o ++ (ms'.map hid ++ C.hid)))) w₃ := hok₃.perm (by
          simp only [List.append_assoc, List.cons_append]; exact List.perm_middle.symm)
        refine ⟨run_endLoop hok₄.objAt hb, hr.size, hr.get, ms', hdf, ?_⟩
        exact (hok₄.putObj (o' := .loop { r with state := .exhausted })).shrink (Le.refl _) (.cons _ (List.sublist_append_right _ _))
      rcases hJK with ⟨o, ho, hI⟩ | ⟨o, c, ho, hk⟩
      · obtain ⟨h1, h2⟩ := key rec0 o ho (by simp [rec0])
        exact ⟨none, _, h1, ⟨_, h2, hle, hdone H' o hle hI⟩⟩
      · obtain ⟨h1, h2⟩ := key { rec0 with state := .done, pending := some c } o ho (by simp)
        exact ⟨some c, _, h1, Go.wpIn_mono (hjump c H' o hle hk _ _ h2) fun _ _ _ lf => lift_mono lf hle fun _ _ q => q⟩
end

theorem RowsR.take {α : Type} {ρ : Rep α} {H : Hp} : ∀ {l : List α} {cs : List Value} (k : Nat), RowsR ρ H cs l → ∃ c1 c2, cs = c1 ++ c2 ∧ RowsR ρ H c1 (l.take k)
  | l, cs, 0, h => ⟨[], cs, rfl, by simp [RowsR]⟩
  | [], cs, k + 1, h => ⟨cs, [], by simp, h⟩
  | x :: l, cs, k + 1, ⟨c1, c2, e, h1, h2⟩ => by
    obtain ⟨d1, d2, e2, h3⟩ := RowsR.take k h2
    exact ⟨c1 ++ d1, d2, by rw [e, e2, List.append_assoc], c1, d1, rfl, h1, h3⟩
theorem Acc.take {α : Type} {ρ : Rep α} {T : TypeId} {H : Hp} {p : Nat × SObj} {a : Option Addr} {c : Nat} {l : List α} (h : Acc ρ T H p a c l) (k : Nat) :
    ∃ s', Acc ρ T H (p.1, s') a c (l.take k) ∧ (∀ o, p.2.Is o → s'.Is o) ∧ p.2.some = s'.some := by
  rcases h with ⟨h1, h2, h3, h4⟩ | ⟨xs, h1, h2, h3, h4⟩
  · subst h3
    exact ⟨p.2, .inl ⟨h1, h2, by simp, h4⟩, fun _ h => h, rfl⟩
  · obtain ⟨c1, c2, e, h5⟩ := h3.take k
    refine ⟨.row T (c * ρ.sz) c1, .inr ⟨c1, h1, rfl, h5, ?_⟩, ?_, by rw [h2]; rfl⟩
    · rw [List.length_take]; omega
    · rw [h2]
      rintro o ⟨d, h6, h7⟩
      subst e
      exact ⟨c2 ++ d, by rw [h6, List.append_assoc], by rw [← h7, List.append_assoc]⟩
theorem Ok.weak {G : World} {H : Hp} {pre post : Own} {w : World} {b : Nat} {s s' : SObj} (h : Ok G H (pre ++ (b, s) :: post) w) (hs : ∀ o, s.Is o → s'.Is o) (hk : s.some = s'.some) : Ok G H (pre ++ (b, s') :: post) w := by
  unfold Ok at h ⊢
  rw [live_append] at h ⊢
  cases hb : s.some with
  | false =>
    have e1 : live ((b, s) :: post) = live post := by simp [live, hb]
    have e2 : live ((b, s') :: post) = live post := by simp [live, ← hk, hb]
    rw [e1] at h; rw [e2]; exact h
  | true =>
    rw [live_cons hb] at h
    rw [live_cons (by rw [← hk]; exact hb)]
    refine ⟨h.os, h.tape, h.out, h.pub, fun p hp => ?_, ?_⟩
    · rcases List.mem_append.1 hp with hp | hp
      · exact h.mine p (by simp [hp])
      · rcases List.mem_cons.1 hp with rfl | hp
        · obtain ⟨⟨o, h1, h2⟩, h3⟩ := h.mine (b, s) (by simp)
          exact ⟨⟨o, hs _ h1, h2⟩, h3⟩
        · exact h.mine p (by simp [hp])
    · have := h.nd
      simpa using this
section
variable {C : Ctx} {ops : Array Oper} {Q : Exit → St → Prop} {rest : List Oper} {env : Env} {df : List Deferred} {H : Hp} {own : Own} {dst : Option Tmp} {ty : TypeId} {pos : String} {af : Array Edge}
theorem XO.weakAt (i : Nat) {p : Nat × SObj} {s' : SObj} (ho : Own.at own i = some p) (hs : ∀ o, p.2.Is o → s'.Is o) (hk : p.2.some = s'.some) (h : XO C ops Q rest ⟨env, df, H, Own.set2 own i (p.1, s')⟩) : XO C ops Q rest ⟨env, df, H, own⟩ := by
  obtain ⟨pre, post, rfl, rfl⟩ := Own.at_split ho
  rw [Own.set2_split] at h
  intro a w hr
  obtain ⟨ms, hdf, hok⟩ := hr.ok
  refine h a w ⟨hr.size, hr.get, ms, hdf, ?_⟩
  rw [List.append_assoc, List.cons_append] at hok ⊢
  exact Ok.weak (s := p.2) hok hs hk
/-- l[:n] of an own slice -/
theorem XO.sliceA (i : Nat) {α : Type} {ρ : Rep α} {t e : TypeId} {x y : Operand} {k : IntKind} {p : Nat × SObj} {a : Option Addr} {c : Nat} {l : List α} {agg : Bool} {n : Nat} (hx : ev env x = some (.slice a l.length c)) (hy : ev env y = some (.int k n)) (ho : Own.at own i = some p) (hacc : Acc ρ e H p a c l)
    (hn : n ≤ l.length) (ht : C.P.underlying t = some (.slice e)) (he : tyF C.P e ρ.sz agg = true) (hd : dstOk C.N dst = true)
    (h : ∀ p', Acc ρ e H p' a c (l.take n) → XO C ops Q rest ⟨putE dst (.slice a (l.take n).length c) env, df, H, Own.set2 own i p'⟩) :
    XO C ops Q (⟨dst, .slice t x none (some y) none, ty, pos, af, none⟩ :: rest) ⟨env, df, H, own⟩ := by
  obtain ⟨s', h1, h2, h3⟩ := hacc.take n
  refine XO.weakAt i ho h2 h3 ?_
  have hle := hacc.le
  refine XO.pure rfl rfl hd (fun ρ' ha w => ?_) (h _ h1)
  have hb : (Instr.sliceBounds true l.length c none (some (ρ' y)) none).run C.P w = .ok (0, n, c) w := by
    have b1 : ∀ (code : BoundsCode) (w : World), (Instr.sliceBound (ρ' y) c code).run C.P w = .ok n w := by
      intro code w
      rw [ha _ _ hy]; have := run_bound (P := C.P) (w := w) (k := k) (x := (n : Int)) (y := c) (code := code) (by omega) (by omega); rwa [Int.toNat_natCast] at this
    unfold Instr.sliceBounds
    simp only [Option.map_none, Option.map_some, Sem.run_bind]; simp only [Pure.pure, Sem.run, Result.andThen, Sem.run_bind, if_true, b1, Int.toNat_natCast, Int.toNat_zero]
  have hadd : (if c = 0 then a else a.map (·.add (0 * ρ.sz))) = a := by
    split
    · rfl
    · rcases hacc with ⟨g1, g2, g3, g4⟩ | ⟨xs, g1, g2, g3, g4⟩
      · subst g1; rfl
      · subst g1; simp [Addr.add]
  have hr : (Instr.sliceAt t (.slice a l.length c) none (some (ρ' y)) none).run C.P w = .ok (.slice a n c) w := by
    unfold Instr.sliceAt
    rw [Sem.run_bind, run_underlying ht]
    simp only [Result.andThen, Instr.slice]
    rw [Sem.run_bind, run_underlying ht]
    simp only [Result.andThen, Sem.run_bind, hb, run_sizeOf he]
    rw [hadd]; rfl
  have hlen : (l.take n).length = n := by rw [List.length_take]; omega
  simp only [execOp, ha _ _ hx, Sem.run_bind, Option.map_none, Option.map_some, hr, Result.andThen, hlen]
  rfl
theorem XO.makeCap {α : Type} {ρ : Rep α} {t e : TypeId} {x y : Operand} {k k' : IntKind} {n : Nat} {zs : List Value} {agg : Bool} (hx : ev env x = some (.int k (0 : Nat))) (hy : ev env y = some (.int k' n)) (ht : C.P.underlying t = some (.slice e)) (he : tyF C.P e ρ.sz agg = true) (hz : zeroC C.P e = some zs)
    (hzl : (Nat.blt 0 ρ.sz && Nat.beq zs.length ρ.sz) = true) (hby : Nat.ble (C.P.bytesOf e) 4096 = true) (hn : n ≤ 1073741824) (hd : dstOk C.N dst = true)
    (h : ∀ p, Acc ρ e H p (some ⟨p.1, 0, none⟩) n ([] : List α) → XO C ops Q rest ⟨putE dst (.slice (some ⟨p.1, 0, none⟩) 0 n) env, df, H, p :: own⟩) :
    XO C ops Q (⟨dst, .makeSlice t x y, ty, pos, af, none⟩ :: rest) ⟨env, df, H, own⟩ := by
  refine XO.op rfl rfl hd fun ρ' w fr ha hok => ?_
  simp only [Bool.and_eq_true] at hzl
  have h0 : 0 < ρ.sz := by simpa using hzl.1
  have hzl := Nat.eq_of_beq_eq_true hzl.2
  have hby := Nat.le_of_ble_eq_true hby
  obtain ⟨_, inf, hi, hsz⟩ := tyF_run he
  have hby' : inf.bytes ≤ 4096 := by simpa [Program.bytesOf, hi] using hby
  have hmul : inf.bytes * n ≤ 4398046511104 := Nat.le_trans (Nat.mul_le_mul hby' hn) (by decide)
  obtain ⟨z, hzr, hzc⟩ := run_zero (w := w) hz
  have hcells : (Array.map (fun x => zs.toArray[x % zs.toArray.size]!) (Array.range (n * ρ.sz))) = (repL zs n).toArray := by
    rw [← hzl]; exact zeros_eq zs (by omega) n
  have hacc : Acc ρ e H (w.heap.size, SObj.row e (n * ρ.sz) []) (some ⟨w.heap.size, 0, none⟩) n ([] : List α) := .inr ⟨[], rfl, rfl, rfl, by simp⟩
  refine ⟨.value (.slice (some ⟨w.heap.size, 0, none⟩) 0 n), _, { w with heap := w.heap.push (.cells (repL zs n).toArray e (0, 0)) }, H, _, ?_, .inl rfl, Le.refl _, hok.new (s := .row e (n * ρ.sz) []) ⟨repL zs n, by simp, by simp [repL_length, hzl]⟩, h _ hacc⟩
  have hb : (Instr.makeSlice t (.int k (0 : Nat)) (.int k' n)).run C.P w = .ok (.slice (some ⟨w.heap.size, 0, none⟩) 0 n) { w with heap := w.heap.push (.cells (repL zs n).toArray e (0, 0)) } := by
    have hw : IntKind.i64.wrap (n : Int) = n := wrap_i64 (by omega) (by omega)
    have hw0 : IntKind.i64.wrap ((0 : Nat) : Int) = (0 : Nat) := wrap_i64 (by omega) (by omega)
    unfold Instr.makeSlice
    rw [Sem.run_bind, run_underlying ht]
    simp only [Result.andThen, asInt, asIntOf, Sem.run_bind]
    have hti : (typeInfo e).run C.P w = .ok inf w := by simp [typeInfo, program, hi, Sem.run, Pure.pure, bind, Sem.bind]
    simp only [Pure.pure, Sem.run, Result.andThen, Sem.run_bind, hti, hw, hw0]
    have hcond : ((decide ((n : Int) < 0) || decide (((inf.bytes : Nat) : Int) * (n : Int) > 2 ^ 48) || decide (((0 : Nat) : Int) < 0)) || decide (((0 : Nat) : Int) > n)) = false := by
      have hc : ((inf.bytes : Nat) : Int) * (n : Int) ≤ 4398046511104 := by rw [← Int.natCast_mul]; exact Int.ofNat_le.2 hmul
      have h1 : ¬ ((n : Int) < 0) := by omega
      have h2 : ¬ (((inf.bytes : Nat) : Int) * (n : Int) > 2 ^ 48) := by omega
      have h3 : ¬ (((0 : Nat) : Int) > n) := by omega
      rw [decide_eq_false h1, decide_eq_false h2, decide_eq_false h3]
      rfl
    simp only [hcond, Bool.false_eq_true, if_false, Int.toNat_natCast, run_sizeOf he, Sem.run_bind]
    have hroom : ∀ w : World, (askRoom (n * inf.bytes)).run C.P w = .ok () w := by
      intro w; unfold askRoom; split <;> rfl
    rw [hroom]
    simp only [Result.andThen]
    by_cases hn0 : n * ρ.sz = 0
    · have hn1 : n = 0 := by rcases Nat.mul_eq_zero.1 hn0 with h | h; exact h; omega
      subst hn1
      have e1 : ∀ g : Nat → Value, Array.map g (Array.range 0) = #[] := by intro g; simp
      simp only [Nat.zero_mul, if_true, e1]
      simp [newRow, newObj, Sem.run, bind, Sem.bind, Pure.pure, repL, Result.andThen, Sem.run_bind]
    · rw [if_neg hn0]
      simp only [Sem.run_bind, hzr, Result.andThen]
      simp only [Pure.pure, Sem.run, Result.andThen, hzc, hcells]
      simp [newRow, newObj, Sem.run, bind, Sem.bind, Pure.pure]
  simp only [execOp, ha _ _ hx, ha _ _ hy, Sem.run_bind, hb, Result.andThen]
  rfl

theorem XO.eqlNil {x : Operand} {t e : TypeId} {a : Option Addr} {n c n' c' : Nat} (hx : ev env x = some (.slice a n c)) (ht : C.P.underlying t = some (.slice e)) (hd : dstOk C.N dst = true) (h : XO C ops Q rest ⟨putE dst (.bool a.isNone) env, df, H, own⟩) {yt : TypeId} :
    XO C ops Q (⟨dst, .binOp .eql t x (.const (.slice none n' c')) yt, ty, pos, af, none⟩ :: rest) ⟨env, df, H, own⟩ := by
  refine XO.pure rfl rfl hd (fun ρ ha w => ?_) h
  have hy : ρ (.const (.slice none n' c')) = .slice none n' c' := ha (.const (.slice none n' c')) _ rfl
  have hgd : ∀ w, (eqGuard .eql t x (.const (.slice none n' c')) (.slice a n c) (.slice none n' c')).run C.P w = .ok () w := fun w => rfl
  have hb : (binOp .eql t (.slice a n c) (.slice none n' c')).run C.P w = .ok (.bool a.isNone) w := by
    have e1 : binOp .eql t (.slice a n c) (.slice none n' c') = (do Pure.pure (Value.bool (← Op.equal t (.slice a n c) (.slice none n' c'))) : Sem Value) := rfl
    have e2 : Op.equal t (.slice a n c) (.slice none n' c') = Op.equalIn (9999 + 1) t (.slice a n c) (.slice none n' c') := rfl
    rw [e1, Sem.run_bind, e2, Go.Lib.run_equalIn_slice_nil w 9999 t e a n c n' c' ht]
    rfl
  simp only [execOp, ha _ _ hx, hy, Sem.run_bind, hgd]
  simp only [Result.andThen, hb]
  rfl
end
end Go.XL
