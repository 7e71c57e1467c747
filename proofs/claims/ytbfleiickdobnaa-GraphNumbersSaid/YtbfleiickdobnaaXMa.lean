/- Places where the ways through a function meet again; the greatest of two numbers. No statement of the program stands here. -/
import Derived.Test.YtbfleiickdobnaaXLz
set_option autoImplicit false
set_option linter.unusedSimpArgs false
set_option linter.unusedVariables false
namespace Go.XL
def joinQ (base : Env) {ι : Type} (H0 : Hp) (df : List Deferred) (U : ι → Env) (B : ι → Hp → Own → Prop) (Q : Exit → St → Prop) : Exit → St → Prop
  | .normal, σ => ∃ i, LoopI base H0 df U B i σ
  | e, σ => Q e σ
section
variable {C : Ctx} {Q : Exit → St → Prop} {env : Env} {df : List Deferred} {H : Hp} {own : Own} {ι : Type} {base : Env} {H0 : Hp} {U : ι → Env} {B : ι → Hp → Own → Prop} {σ : St}
/-- 'x' is left in one of the states that U and B describe; from there 'y' goes on. -/
theorem XC.join {x y : Code} (base : Env) (U : ι → Env) (B : ι → Hp → Own → Prop) (hb : Prov env base) (h1 : Le H H → XC C x (joinQ base H df U B Q) ⟨env, df, H, own⟩)
    (h2 : ∀ i H' own', Le H H' → B i H' own' → XC C y Q ⟨U i ++ base, df, H', own'⟩) : XC C (.seq x y) Q ⟨env, df, H, own⟩ := by
  refine XC.seq ((h1 (Le.refl _)).mono ?_)
  intro e τ hle q
  cases e with
  | normal =>
    obtain ⟨i, own1, hB, hp, ho, hd, hle2⟩ := q
    obtain ⟨env', df', H', own'⟩ := τ
    cases hd
    exact fun a w hr => h2 i _ own1 hle2 hB a w (hr.weaken hp (Le.refl _) ho)
  | exit _ => exact q
  | goto _ => exact q
  | ret => exact q
  | panic _ => exact q
  | outgrown => exact q
theorem join_next {env : Env} {H' : Hp} {own' : Own} (j : ι) {own1 : Own} (hp : Prov env (U j ++ base)) (hB : B j H' own1) (ho : own1.Sublist own') (hle : Le H0 H') : joinQ base H0 df U B Q .normal ⟨env, df, H', own'⟩ :=
  ⟨j, own1, hB, hp, ho, rfl, hle⟩
theorem joinX_ret (h : Q .ret σ) : joinQ base H0 df U B Q .ret σ := h
theorem joinX_exit {id : Nat} (h : Q (.exit id) σ) : joinQ base H0 df U B Q (.exit id) σ := h
theorem joinX_panic {ch : List PanicEntry} (h : Q (.panic ch) σ) : joinQ base H0 df U B Q (.panic ch) σ := h
end
end Go.XL
