/- The logic's rules for single operations and for calls. No statement of the program stands here. -/
import Derived.Test.YtbfleiickdobnaaXLa
set_option autoImplicit false
set_option linter.unusedSimpArgs false
namespace Go.XL

def notDefer : Op → Bool | .defer _ => false | _ => true
def dstOk (N : Nat) : Option Tmp → Bool | none => true | some t => Nat.blt t N
theorem dstOk_lt {N : Nat} {d : Option Tmp} (h : dstOk N d = true) : ∀ t, d = some t → t < N := by
  intro t e; subst e; simpa [dstOk] using h

/-! ### Function contracts -/
def Callable (P : Program) (f : FuncId) : Prop := ∀ args w, (callFunc f args).run P w = .ok (.enter f args) w

/-- 'f', called with these values where H is published and 'own' is handed over, comes back as R says; whatever else lies in memory stays. -/
def FnC (P : Program) (f : FuncId) (args : Array Value) (H : Hp) (own : Own) (R : Ending → Hp → Own → Prop) : Prop :=
  Callable P f ∧ ∀ G rest w, Ok G H (own ++ rest) w → Calls P f args w fun e w' => e ≠ .outgrown ∧ ∃ H' own', Le H H' ∧ Ok G H' (own' ++ rest) w' ∧ R e H' own'

theorem FnC.mono {P : Program} {f : FuncId} {args : Array Value} {H : Hp} {own : Own} {R R' : Ending → Hp → Own → Prop} (h : FnC P f args H own R) (hr : ∀ e H' own', Le H H' → R e H' own' → R' e H' own') : FnC P f args H own R' :=
  ⟨h.1, fun G rest w ok => (h.2 G rest w ok).mono fun _ _ ⟨h0, H', own', h1, h2, h3⟩ => ⟨h0, H', own', h1, h2, hr _ _ _ h1 h3⟩⟩

def Env.init : Nat → List Value → Option Env
  | _, [] => some []
  | i, v :: vs => match Env.init (i + 1) vs with | some e => some ((i, v) :: e) | none => none

theorem Env.init_get {vs : List Value} {i : Nat} {e : Env} (h : Env.init i vs = some e) {t : Nat} {v : Value} (hg : Env.get e t = some v) : i ≤ t ∧ vs[t - i]? = some v := by
  induction vs generalizing i e with
  | nil => cases h; cases hg
  | cons u us ih =>
    simp only [Env.init] at h
    split at h
    · rename_i e' he
      cases h
      simp only [Env.get] at hg
      cases hb : Nat.beq i t with
      | true =>
        rw [hb] at hg; simp at hg; subst hg
        obtain rfl := Nat.eq_of_beq_eq_true hb
        simp
      | false =>
        rw [hb] at hg
        obtain ⟨h1, h2⟩ := ih he hg
        refine ⟨by omega, ?_⟩
        rw [show t - i = (t - (i + 1)) + 1 by omega]
        simpa using h2
    · cases h

/-- Values of a function's result slots. -/
def resE (e : Env) : List ResultVar → Option (List Value)
  | [] => some []
  | .tmp t :: r => match e.get t with
    | some v => match resE e r with | some vs => some (v :: vs) | none => none
    | none => none
  | .cell .. :: _ => none
def resV : List Value → Value | [v] => v | vs => .tuple vs.toArray

theorem results_run {C : Ctx} {σ : St} {a : Act} {w w' : World} (hr : Rel C σ a w) {fn : Func} {rs : List ResultVar} (hf : fn.results = rs.toArray) {vs : List Value} (h : resE σ.env rs = some vs) :
    (results fn a.tmps).run C.P w' = .ok (resV vs) w' := by
  have key : ∀ (g : ResultVar → Sem Value), (∀ t, g (.tmp t) = pure (a.tmps.getD t undef)) → ∀ (rs : List ResultVar) (vs : List Value), resE σ.env rs = some vs →
      (rs.mapM g).run C.P w' = .ok vs w' := by
    intro g hg rs
    induction rs with
    | nil => intro vs h; cases h; rfl
    | cons r rs ih =>
      intro vs h
      cases r with
      | cell b t => cases h
      | tmp t =>
        simp only [resE] at h
        split at h
        · rename_i v hv
          split at h
          · rename_i us hus
            cases h
            have h1 := hr.get t v hv
            have h2 := ih us hus
            rw [List.mapM_cons]
            simp only [Sem.run_bind, hg, h1]
            show (Result.ok v w').andThen _ = _
            show (Sem.run C.P (List.mapM g rs) w').andThen _ = _
            rw [h2]
            rfl
          · cases h
        · cases h
  unfold results
  rw [hf, List.mapM_toArray]
  simp only [Sem.run_bind, Sem.run_map]
  rw [key _ (fun _ => rfl) rs vs h]
  cases vs with
  | nil => rfl
  | cons v vs => cases vs <;> rfl

def bodyQ (rs : List ResultVar) (R : Ending → Hp → Own → Prop) (rest : Own) : Exit → St → Prop
  | .normal, σ | .ret, σ => σ.df = [] ∧ ∃ vs own', resE σ.env rs = some vs ∧ (own' ++ rest).Sublist σ.own ∧ R (.returned (resV vs)) σ.H own'
  | .panic chain, σ => σ.df = [] ∧ ∃ own', (own' ++ rest).Sublist σ.own ∧ R (.panicked chain) σ.H own'
  | _, _ => False

section
variable {C : Ctx} {y : Code} {Q : Exit → St → Prop} {σ : St} {id id' : Nat}
theorem seqX_ret (h : Q .ret σ) : seqQ C y Q .ret σ := h
theorem seqX_exit (h : Q (.exit id) σ) : seqQ C y Q (.exit id) σ := h
theorem seqX_panic {ch : List PanicEntry} (h : Q (.panic ch) σ) : seqQ C y Q (.panic ch) σ := h
theorem blockN (h : Q .normal σ) : blockQ id Q .normal σ := h
theorem blockR (h : Q .ret σ) : blockQ id Q .ret σ := h
theorem blockP {ch : List PanicEntry} (h : Q (.panic ch) σ) : blockQ id Q (.panic ch) σ := h
theorem blockHit (hb : Nat.beq id' id = true) (h : Q .normal σ) : blockQ id Q (.exit id') σ := by simp only [blockQ, hb]; exact h
theorem blockMiss (hb : Nat.beq id' id = false) (h : Q (.exit id') σ) : blockQ id Q (.exit id') σ := by simp only [blockQ, hb]; exact h
theorem loopX_ret {ι : Type} {I : ι → St → Prop} {μ : ι → Nat} {i : ι} (h : Q .ret σ) : loopQ I μ i Q .ret σ := h
theorem loopX_exit {ι : Type} {I : ι → St → Prop} {μ : ι → Nat} {i : ι} (h : Q (.exit id) σ) : loopQ I μ i Q (.exit id) σ := h
theorem loopX_panic {ch : List PanicEntry} {ι : Type} {I : ι → St → Prop} {μ : ι → Nat} {i : ι} (h : Q (.panic ch) σ) : loopQ I μ i Q (.panic ch) σ := h
end

theorem leavesM {P : Program} {fn : Func} {tmps : Array Value} {G : World} {H : Hp} {u : FrameMode} (hu : u ≠ .run) {R : Ending → World → Prop} : ∀ (ms : List Nat) (own : Own) (w : World),
    Ok G H (own ++ ms.map hid) w → (∀ w', Ok G H own w' → LeavesIn Fence.wide 0 P fn tmps R [] u w') → LeavesInM Fence.wide 0 P fn tmps R (ms.map mark) u w
  | [], own, w, ok, h => by simpa [LeavesInM] using h w (by simpa using ok)
  | r :: ms, own, w, ok, h => by
    have hm : (hid r) ∈ own ++ (r :: ms).map hid := by simp
    obtain ⟨⟨o, ho, hw⟩, _⟩ := ok.at hm rfl
    simp only [hid, SObj.Is] at ho
    subst ho
    have hw' : w.heap[r]? = some (.deferred (some [])) := hw
    refine ⟨hu, .inl ⟨r, { w with heap := w.heap.setIfInBounds r (.deferred none) }, rfl, ?_, ?_⟩⟩
    · have hw2 := hw'
      simp [Instr.takeDeferred, getObj, setObj, Sem.run_bind, Sem.run, Result.andThen, hw2, bind, Sem.bind, pure]
    · refine leavesM hu ms own _ ?_ h
      have ok' : Ok G H (own ++ ((r, SObj.obj (.deferred (some []))) :: ms.map hid)) w := ok
      have := ok'.write (b := r) (s' := .obj (.deferred none)) (o' := .deferred none) (w' := { w with heap := w.heap.setIfInBounds r (.deferred none) }) rfl rfl rfl rfl rfl
        (by have := heap_lt hw'; simp [this]) (fun k hk => by simp [Array.getElem?_setIfInBounds, Ne.symm hk])
      exact this.shrink (Le.refl _) (List.Sublist.append_left (List.sublist_cons_self _ _) _)

theorem FnC.intro {P : Program} {f : FuncId} {fn : Func} {c : Code} {args : List Value} {H : Hp} {own : Own} {R : Ending → Hp → Own → Prop} {N : Nat} {env : Env} {rs : List ResultVar}
    (hf : P.funcs[f]? = some fn) (hb : fn.body = some c) (hn : (fn.name == "runtime.NumGoroutine") = false) (hN : fn.ntmps = N) (hrs : fn.results = rs.toArray) (hlt : Nat.ble args.length N = true)
    (hi : Env.init 0 args = some env)
    (h : ∀ G rest, XC ⟨P, G, N, none, []⟩ c (bodyQ rs R rest) ⟨env, [], H, own ++ rest⟩) : FnC P f args.toArray H own R := by
  refine ⟨fun as w => ?_, fun G rest w ok => ?_⟩
  · have hn' : fn.name ≠ "runtime.NumGoroutine" := by simpa using hn
    simp [callFunc, program, Sem.run_bind, Sem.run, Result.andThen, hf, hn', hb, bind, Sem.bind, pure]
  · refine callsIn_wide.1 (callsIn_of_wp_marks (n := 0) hf hb trivial ?_)
    have hrel : Rel ⟨P, G, N, none, []⟩ ⟨env, [], H, own ++ rest⟩ { tmps := args.toArray ++ Array.replicate (fn.ntmps - args.toArray.size) undef, defers := [] } w := by
      have hle : args.length ≤ N := Nat.le_of_ble_eq_true hlt
      refine ⟨by simp [hN]; omega, ?_, [], rfl, by simpa using ok⟩
      intro t v hg
      obtain ⟨_, h2⟩ := Env.init_get hi hg
      simp only [Nat.sub_zero] at h2
      have hlt : t < args.length := by
        rcases Nat.lt_or_ge t args.length with h | h
        · exact h
        · rw [List.getElem?_eq_none h] at h2; cases h2
      rw [Array.getD_eq_getD_getElem?, Array.getElem?_append_left (by simpa using hlt)]
      simp [h2]
    refine Go.wpIn_mono (h G rest _ w hrel) ?_
    intro e a w' hl
    obtain ⟨τ, hr, hle, hq⟩ := hl
    have hR : ∀ e own', e ≠ .outgrown → (own' ++ rest).Sublist τ.own → R e τ.H own' → ∀ w'', Ok G τ.H τ.own w'' → (e ≠ .outgrown ∧ ∃ H' own', Le H H' ∧ Ok G H' (own' ++ rest) w'' ∧ R e H' own') :=
      fun e own' he hs hr w'' ok => ⟨he, τ.H, own', hle, ok.shrink (Le.refl _) hs, hr⟩
    have fin : ∀ vs own', τ.df = [] → resE τ.env rs = some vs → (own' ++ rest).Sublist τ.own → R (.returned (resV vs)) τ.H own' → LeavesInM Fence.wide 0 P fn a.tmps (fun e w' => e ≠ .outgrown ∧ ∃ H' own', Le H H' ∧ Ok G H' (own' ++ rest) w' ∧ R e H' own') a.defers .returning w' := by
      intro vs own' hd hres hs hRR
      obtain ⟨ms, hdf, hok⟩ := hr.ok
      rw [hdf, hd, List.append_nil]
      refine leavesM (by simp) ms τ.own w' (by simpa using hok) ?_
      intro w'' ok''
      exact ⟨_, results_run hr hrs hres, hR _ own' (by simp) hs hRR w'' ok''⟩
    cases e with
    | normal => obtain ⟨hd, vs, own', hres, hs, hRR⟩ := hq; exact fin vs own' hd hres hs hRR
    | ret => obtain ⟨hd, vs, own', hres, hs, hRR⟩ := hq; exact fin vs own' hd hres hs hRR
    | panic chain =>
      obtain ⟨hd, own', hs, hRR⟩ := hq
      obtain ⟨ms, hdf, hok⟩ := hr.ok
      show LeavesInM Fence.wide 0 P fn a.tmps _ a.defers (.panicking chain) w'
      rw [hdf, hd, List.append_nil]
      refine leavesM (by simp) ms τ.own w' (by simpa using hok) ?_
      intro w'' ok''
      exact hR _ own' (by simp) hs hRR w'' ok''
    | exit _ => exact hq.elim
    | goto _ => exact hq.elim
    | outgrown => exact hq.elim

end Go.XL
