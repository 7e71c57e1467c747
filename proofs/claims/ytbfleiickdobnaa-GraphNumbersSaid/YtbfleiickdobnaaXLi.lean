/- The logic's rule for a loop over a function. No statement of the program stands here. -/
import Derived.Test.YtbfleiickdobnaaXLh
import Derived.RangeFuncRecord
set_option autoImplicit false
set_option linter.unusedSimpArgs false
set_option linter.unusedVariables false
set_option linter.unnecessarySimpa false
namespace Go.XL

def assignQ (C : Ctx) (body : Code) (Q : Exit → St → Prop) : Exit → St → Prop
  | .normal, σ => XC C body Q σ
  | _, _ => False
theorem assignN {C : Ctx} {body : Code} {Q : Exit → St → Prop} {σ : St} (h : XC C body Q σ) : assignQ C body Q .normal σ := h

theorem bind_get : ∀ (ps : List Tmp) (vs : List Value) (env : Env) (tmps : Array Value), ps.length = vs.length → (∀ p ∈ ps, p < tmps.size) → (∀ t v, env.get t = some v → tmps.getD t undef = v) →
    (((ps.zip vs).foldl (fun (tmps : Array Value) (x : Tmp × Value) => tmps.setIfInBounds x.1 x.2) tmps).size = tmps.size) ∧
    ∀ t v, (bindP ps vs env).get t = some v → ((ps.zip vs).foldl (fun (tmps : Array Value) (x : Tmp × Value) => tmps.setIfInBounds x.1 x.2) tmps).getD t undef = v
  | [], vs, env, tmps, hl, _, h => by
    cases vs with
    | nil => exact ⟨rfl, h⟩
    | cons v vs => simp at hl
  | p :: ps, vs, env, tmps, hl, hp, h => by
    cases vs with
    | nil => simp at hl
    | cons v vs =>
      simp only [List.zip_cons_cons, List.foldl_cons, bindP]
      have := bind_get ps vs ((p, v) :: env) (tmps.setIfInBounds p v) (by simpa using hl) (fun q hq => by simpa using hp q (by simp [hq])) (by
        intro t u hg
        simp only [Env.get] at hg
        cases hb : Nat.beq p t with
        | true =>
          rw [hb] at hg; simp at hg; subst hg
          obtain rfl := Nat.eq_of_beq_eq_true hb
          simp [Array.getD_eq_getD_getElem?, hp p (by simp)]
        | false =>
          rw [hb] at hg
          have hne : p ≠ t := fun e => by rw [e] at hb; simp at hb
          have h1 := h t u hg
          rw [Array.getD_eq_getD_getElem?] at h1 ⊢
          rw [Array.getElem?_setIfInBounds_ne hne]
          exact h1)
      exact ⟨by simpa using this.1, this.2⟩

theorem enter_loop {C : Ctx} {env : Env} {df : List Deferred} {H : Hp} {own : Own} {a : Act} {w : World} {fn : FuncId} {ps : Array Tmp} {as bd : Code} (hr : Rel C ⟨env, df, H, own⟩ a w) (hround : C.r = none ∨ ∃ l0 r0, C.r = some l0 ∧ (l0, SObj.obj (.loop r0)) ∈ C.hid) :
    ∃ l mk w₁ D, ∃ ms' : List Nat, (Instr.enterLoop fn a.tmps ps as bd C.r).run C.P w = .ok (l, mk) w₁ ∧ mk ++ a.defers = ms'.map mark ++ df ∧
      Ok C.G H (((l, .obj (.loop { state := .ready, pending := none, fn, tmps := a.tmps, params := ps, assign := as, body := bd, defers := D })) :: own) ++ (ms'.map hid ++ C.hid)) w₁ := by
  obtain ⟨ms, hd, hok⟩ := hr.ok
  rcases hround with hn | ⟨l0, r0, hs, hm⟩
  · rw [hn]
    refine ⟨_, _, _, w.heap.size, w.heap.size :: ms, run_enterLoop_outer fn a.tmps ps as bd, ?_, ?_⟩
    · rw [hd]; rfl
    · have h1 : Ok C.G H (hid w.heap.size :: (own ++ (ms.map hid ++ C.hid))) (w.alloc (.deferred (some []))) := hok.new (s := .obj (.deferred (some []))) rfl
      have h2 := h1.new (s := .obj (.loop { state := .ready, pending := none, fn, tmps := a.tmps, params := ps, assign := as, body := bd, defers := w.heap.size })) rfl
      refine (show Ok C.G H _ _ from h2).perm ?_
      simp only [World.size_alloc, List.map_cons, List.cons_append]
      exact List.Perm.cons _ List.perm_middle
  · rw [hs]
    have hl0 : w.heap[l0]? = some (.loop r0) := by
      obtain ⟨⟨o, ho, hw⟩, _⟩ := hok.at (p := (l0, SObj.obj (.loop r0))) (by simp [hm]) rfl
      simp only [SObj.Is] at ho
      subst ho; exact hw
    refine ⟨w.heap.size, [], w.alloc (.loop { state := .ready, pending := none, fn, tmps := a.tmps, params := ps, assign := as, body := bd, defers := r0.defers }), r0.defers, ms, ?_, by simpa using hd, ?_⟩
    · unfold Instr.enterLoop
      simp only [Sem.run_bind, run_getLoop hl0, Result.andThen, Sem.run_pure, run_newObj_alloc]
    · exact hok.new (s := .obj (.loop { state := .ready, pending := none, fn, tmps := a.tmps, params := ps, assign := as, body := bd, defers := r0.defers })) rfl

theorem Ok.putObj {G : World} {H : Hp} {own : Own} {w : World} {l : Nat} {o o' : Obj} (h : Ok G H ((l, .obj o) :: own) w) : Ok G H ((l, .obj o') :: own) (w.putObj l o') := by
  have h' : Ok G H ([] ++ (l, SObj.obj o) :: own) w := h
  obtain ⟨⟨o1, ho1, hw1⟩, _⟩ := h.at (p := (l, .obj o)) (by simp) rfl
  exact h'.write (s' := .obj o') rfl rfl rfl rfl rfl (World.putObj_heap_same (heap_lt hw1)) (fun k hk => World.putObj_heap_other hk)

theorem Ok.objAt {G : World} {H : Hp} {own : Own} {w : World} {l : Nat} {o : Obj} (h : Ok G H ((l, .obj o) :: own) w) : w.heap[l]? = some o := by
  obtain ⟨⟨o1, ho1, hw1⟩, _⟩ := h.at (p := (l, .obj o)) (by simp) rfl
  simp only [SObj.Is] at ho1
  subst ho1
  exact hw1

section
variable {C : Ctx} {Q : Exit → St → Prop} {env : Env} {df : List Deferred} {H : Hp} {own : Own}

theorem XC.rangeFunc {α : Type} {g : Operand} {ps : List Tmp} {assign body : Code} {f : FuncId} {cap : List Value} {enc : α → List Value} {xs : List α} {ownI own2 : Own}
    (hg : ev env g = some (.func (.func f) #[] cap.toArray)) (hseq : SeqC C.P f cap H ownI enc xs) (hps : ∀ x, (enc x).length = ps.length) (hpN : (ps.all fun p => Nat.blt p C.N) = true)
    (ho : own = ownI ++ own2) (I : List α → Hp → Own → Prop) (Kx : Code → Hp → Own → Prop) (h0 : I [] H own2)
    (hround : C.r = none ∨ ∃ l0 r0, C.r = some l0 ∧ (l0, SObj.obj (.loop r0)) ∈ C.hid)
    (hbody : ∀ G l hd1 hd2, (∃ r0, (l, SObj.obj (.loop r0)) ∈ hd2) → ∀ pre x post, xs = pre ++ x :: post → ∀ H' own', Le H H' → I pre H' own' →
      XC ⟨C.P, G, C.N, some l, hd1⟩ assign (assignQ ⟨C.P, G, C.N, some l, hd2⟩ body (roundQ l I Kx (pre ++ [x]))) ⟨bindP ps (enc x) env, [], H', own'⟩)
    (hdone : ∀ H' own', Le H H' → I xs H' own' → Q .normal ⟨env, df, H', own'⟩)
    (hjump : ∀ c H' own', Le H H' → Kx c H' own' → XC C c Q ⟨env, df, H', own'⟩) : XC C (.rangeFunc g ps.toArray assign body) Q ⟨env, df, H, own⟩ := by
  intro a w hr
  refine wpIn_rangeFunc ?_
  intro fn hfn
  subst ho
  obtain ⟨l, mk, w₁, D, ms', hrun, hdf, hok₁⟩ := enter_loop (fn := fn) (ps := ps.toArray) (as := assign) (bd := body) hr hround
  have hga := hr.eval hg
  let rec0 : Loop := { state := .ready, pending := none, fn, tmps := a.tmps, params := ps.toArray, assign := assign, body := body, defers := D }
  let yv : Value := .func (.yield l) #[] #[]
  let J : List α → Hp → Own → Prop := fun pre H' ownY => ∃ own2', ownY = (l, .obj (.loop rec0)) :: own2' ∧ I pre H' own2'
  let K : Hp → Own → Prop := fun H' ownY => ∃ own2' c, ownY = (l, .obj (.loop { rec0 with state := .done, pending := some c })) :: own2' ∧ Kx c H' own2'
  have hcall := hseq yv J K ((l, .obj (.loop rec0)) :: own2) (by
    rintro pre x post hxs H' ownY hle ⟨own2', rfl, hI⟩
    intro G rst w hok
    have hok' : Ok G H' ((l, .obj (.loop rec0)) :: (own2' ++ rst)) w := hok
    have hl := hok'.objAt
    refine ⟨{ target := .fn (.yield l) #[], args := #[] ++ (enc x).toArray }, .round l fn ((ps.toArray.zip (enc x).toArray).foldl (fun tmps (t, a) => tmps.setIfInBounds t a) a.tmps) assign body, w, rfl, ?_, ?_⟩
    · have := run_yield (P := C.P) (args := (enc x).toArray) hl (by simp [rec0, hps])
      show (Instr.yield l (#[] ++ (enc x).toArray)).run C.P w = _
      rw [Array.empty_append]
      exact this
    · refine roundIn_of_wpIn trivial ?_
      have hfold : ((ps.toArray.zip (enc x).toArray).foldl (fun tmps (t, a) => tmps.setIfInBounds t a) a.tmps) = ((ps.zip (enc x)).foldl (fun (tmps : Array Value) (x : Tmp × Value) => tmps.setIfInBounds x.1 x.2) a.tmps) := by
        rw [← Array.foldl_toList]; simp
      rw [hfold]
      obtain ⟨hsz, hget⟩ := bind_get ps (enc x) env a.tmps (by simp [hps]) (fun p hp => by
        have := List.all_eq_true.1 hpN p hp
        rw [hr.size]; simpa using this) hr.get
      have hX := hbody G l ((l, .obj (.loop rec0)) :: rst) ((l, .obj (.loop { rec0 with state := .busy })) :: rst) ⟨_, List.mem_cons_self⟩ pre x post hxs H' own2' hle hI
      have hrel : Rel ⟨C.P, G, C.N, some l, (l, .obj (.loop rec0)) :: rst⟩ ⟨bindP ps (enc x) env, [], H', own2'⟩ { tmps := ((ps.zip (enc x)).foldl (fun (tmps : Array Value) (x : Tmp × Value) => tmps.setIfInBounds x.1 x.2) a.tmps), defers := [] } w :=
        ⟨by rw [← hr.size]; exact hsz, hget, [], rfl, hok'.perm (by simpa using List.perm_middle)⟩
      refine Go.wpIn_mono (hX _ _ hrel) ?_
      rintro e a₁ w₁ ⟨σ, hr₁, hle₁, hq⟩
      cases e with
      | normal =>
        obtain ⟨ms₁, hd₁, hok₁⟩ := hr₁.ok
        have hok₂ : Ok G σ.H ((l, .obj (.loop rec0)) :: (σ.own ++ (ms₁.map hid ++ rst))) w₁ := hok₁.perm (by
          rw [← List.append_assoc, ← List.append_assoc]; exact List.perm_middle.symm)
        have hbeg := run_beginRound (P := C.P) hok₂.objAt rfl
        refine ⟨_, hbeg, ?_⟩
        have hok₃ := hok₂.putObj (o' := .loop { rec0 with state := .busy })
        have hrel₂ : Rel ⟨C.P, G, C.N, some l, (l, .obj (.loop { rec0 with state := .busy })) :: rst⟩ σ a₁ (w₁.putObj l (.loop { rec0 with state := .busy })) :=
          ⟨hr₁.size, hr₁.get, ms₁, hd₁, hok₃.perm (by rw [← List.append_assoc, ← List.append_assoc]; exact List.perm_middle)⟩
        refine Go.wpIn_mono (hq _ _ hrel₂) ?_
        rintro e a₂ w₂ ⟨τ, hr₂, hle₂, hq₂⟩
        obtain ⟨ms₂, hd₂, hok₄⟩ := hr₂.ok
        have hok₅ : Ok G τ.H ((l, .obj (.loop { rec0 with state := .busy })) :: (τ.own ++ (ms₂.map hid ++ rst))) w₂ := hok₄.perm (by
          rw [← List.append_assoc, ← List.append_assoc]; exact List.perm_middle.symm)
        have hend := fun j => run_endRound (P := C.P) j hok₅.objAt
        have leave : ∀ (c : Code), (∃ o, o.Sublist τ.own ∧ Kx c τ.H o) → ∃ v w', (Instr.endRound l (some c)).run C.P w₂ = .ok v w' ∧ (Ending.returned v ≠ .outgrown ∧ ∃ H'' own'', Le H' H'' ∧ Ok G H'' (own'' ++ rst) w' ∧ RetR (fun v H'' own'' => (v = .bool true ∧ J (pre ++ [x]) H'' own'') ∨ (v = .bool false ∧ K H'' own'')) (.returned v) H'' own'') := by
          rintro c ⟨o, hs, hk⟩
          refine ⟨_, _, hend (some c), by simp, τ.H, (l, .obj (.loop { rec0 with state := .done, pending := some c })) :: o, hle₁.trans hle₂, ?_, .inr ⟨rfl, o, c, rfl, hk⟩⟩
          refine (hok₅.putObj (o' := .loop { rec0 with state := .done, pending := some c })).shrink (Le.refl _) ?_
          exact List.Sublist.cons_cons _ (hs.append (List.sublist_append_right _ _))
        cases e with
        | normal =>
          obtain ⟨_, o, hs, hI'⟩ := hq₂
          refine ⟨_, _, hend none, by simp, τ.H, (l, .obj (.loop rec0)) :: o, hle₁.trans hle₂, ?_, .inl ⟨rfl, o, rfl, hI'⟩⟩
          refine (hok₅.putObj (o' := .loop rec0)).shrink (Le.refl _) ?_
          exact List.Sublist.cons_cons _ (hs.append (List.sublist_append_right _ _))
        | exit id => exact leave _ hq₂.2
        | goto t => exact leave _ hq₂.2
        | ret => exact leave _ hq₂.2
        | panic ch => exact hq₂.elim
        | outgrown => exact hq₂.elim
      | exit id => exact hq.elim
      | goto t => exact hq.elim
      | ret => exact hq.elim
      | panic ch => exact hq.elim
      | outgrown => exact hq.elim) ⟨own2, rfl, h0⟩
  refine ⟨l, mk, w₁, { target := .fn (.func f) cap.toArray, args := #[] ++ #[yv] }, w₁, f, (yv :: cap).toArray, w₁, hrun, ?_, fun _ _ => trivial, ?_, fun h => (by cases h), ?_⟩
  · have hm : Array.map a.eval #[Operand.const (Value.func (Fn.yield l) #[] #[])] = #[yv] := by simp [Act.eval, yv]
    simp only [resolve, rangeCall, hga, hm]
    rfl
  · have := hcall.1 (yv :: cap).toArray w₁
    show (callFunc f ((#[] ++ #[yv]) ++ cap.toArray)).run C.P w₁ = _
    have e : (#[] ++ #[yv] ++ cap.toArray : Array Value) = (yv :: cap).toArray := by simp
    rw [e]
    exact this
  · have hok₂ : Ok C.G H ((ownI ++ (l, .obj (.loop rec0)) :: own2) ++ (ms'.map hid ++ C.hid)) w₁ := hok₁.perm (by
      simp only [List.append_assoc, List.cons_append]; exact List.perm_middle)
    have hc : CallsIn Fence.wide (0 - 1) C.P f (yv :: cap).toArray w₁ _ := callsIn_wide.2 (hcall.2 C.G _ w₁ hok₂)
    have hc2 : CallsIn (Fr C.r) (0 - 1) C.P f (yv :: cap).toArray w₁ _ := hc
    refine ⟨hc2.1, fun cs hcs => ?_⟩
    obtain ⟨e, w₃, fr, ⟨hne, H', own', hle, hok₃, hR⟩, hx⟩ := hc2.2 cs hcs
    refine ⟨e, w₃, fr, ?_, hx⟩
    cases e with
    | outgrown => exact absurd rfl hne
    | panicked ch => exact hR.elim
    | returned v =>
      obtain ⟨_, ownI', ownY', rfl, hJK⟩ := hR
      have key : ∀ (r : Loop) (o : Own), ownY' = (l, .obj (.loop r)) :: o → r.state ≠ .busy → (Instr.endLoop l).run C.P w₃ = .ok r.pending (w₃.putObj l (.loop { r with state := .exhausted })) ∧
          Rel C ⟨env, df, H', o⟩ { a with defers := mk ++ a.defers } (w₃.putObj l (.loop { r with state := .exhausted })) := by
        rintro r o rfl hb
        have hok₄ : Ok C.G H' ((l, .obj (.loop r)) :: (ownI' ++ (o ++ (ms'.map hid ++ C.hid)))) w₃ := hok₃.perm (by
          simp only [List.append_assoc, List.cons_append]; exact List.perm_middle.symm)
        refine ⟨run_endLoop hok₄.objAt hb, hr.size, hr.get, ms', hdf, ?_⟩
        exact (hok₄.putObj (o' := .loop { r with state := .exhausted })).shrink (Le.refl _) (.cons _ (List.sublist_append_right _ _))
      rcases hJK with ⟨o, ho, hI⟩ | ⟨o, c, ho, hk⟩
      · obtain ⟨h1, h2⟩ := key rec0 o ho (by simp [rec0])
        exact ⟨none, _, h1, ⟨_, h2, hle, hdone H' o hle hI⟩⟩
      · obtain ⟨h1, h2⟩ := key { rec0 with state := .done, pending := some c } o ho (by simp)
        exact ⟨some c, _, h1, Go.wpIn_mono (hjump c H' o hle hk _ _ h2) fun _ _ _ lf => lift_mono lf hle fun _ _ q => q⟩
end
end Go.XL
