/- Calls that are handed a block of the call's own, and give it back changed. No statement of the program stands here. -/
import Derived.Test.YtbfleiickdobnaaXLv
set_option autoImplicit false
set_option linter.unusedSimpArgs false
set_option linter.unusedVariables false
namespace Go.XL
theorem set2_perm : ∀ (own : Own) (i : Nat) (p p' : Nat × SObj), Own.at own i = some p → (Own.set2 own i p').Perm (p' :: own.eraseIdx i)
  | [], _, _, _, h => by cases h
  | q :: r, 0, p, p', h => List.Perm.refl _
  | q :: r, i + 1, p, p', h => by
    have := set2_perm r i p p' h
    rw [List.eraseIdx_cons_succ]
    exact (this.cons q).trans (List.Perm.swap _ _ _)
section
variable {C : Ctx} {ops : Array Oper} {Q : Exit → St → Prop} {rest : List Oper} {env : Env} {df : List Deferred} {H : Hp} {own : Own} {dst : Option Tmp} {ty : TypeId} {pos : String} {af : Array Edge}
theorem XO.perm {own' : Own} (hp : own.Perm own') (h : XO C ops Q rest ⟨env, df, H, own'⟩) : XO C ops Q rest ⟨env, df, H, own⟩ := by
  intro a w hr
  obtain ⟨ms, hdf, hok⟩ := hr.ok
  exact h a w ⟨hr.size, hr.get, ms, hdf, hok.perm (hp.symm.append_right _)⟩
theorem XO.callF (i : Nat) {f : FuncId} {xs : List Operand} {ts : Array TypeId} {vs : List Value} {p : Nat × SObj} {K : Value → Hp → Own → Prop} (hxs : evs env xs = some vs) (hf : FnC C.P f vs.toArray H [p] (RetR K)) (hd : dstOk C.N dst = true) (ho : Own.at own i = some p)
    (h : ∀ v H' own', Le H H' → K v H' own' → ∃ p', own' = [p'] ∧ XO C ops Q rest ⟨putE dst v env, df, H', Own.set2 own i p'⟩) :
    XO C ops Q (⟨dst, .call { callee := .value (.func f), args := xs.toArray, argTypes := ts }, ty, pos, af, none⟩ :: rest) ⟨env, df, H, own⟩ := by
  refine XO.perm (at_perm own i p ho) ?_
  refine XO.call0 hxs hf hd (rst := own.eraseIdx i) rfl (fun v H' own' hle hR => ?_) (fun _ _ _ _ hR => hR.elim)
  obtain ⟨p', rfl, hk⟩ := h v H' own' hle hR
  exact ⟨H', [p'] ++ own.eraseIdx i, hle, Le.refl _, List.Sublist.refl _, XO.perm (set2_perm own i p p' ho).symm hk⟩
end
end Go.XL
