/- The examples of the chapter. -/
import Derived.Test.YtbfleiickdobnaaRcQ
set_option autoImplicit false
set_option linter.unusedVariables false
set_option linter.unusedSimpArgs false
namespace Go.Proofs
open Go.XL
theorem dropOwn {P : Program} {f : FuncId} {args : Array Value} {H : Hp} {R : Value → Hp → Prop} (h : FnC P f args H [] (RetR fun v H2 own => own = [] ∧ R v H2)) : FnC P f args H [] (RetR fun v H2 _ => R v H2) :=
  h.mono fun e _ _ _ hr => by
    cases e with
    | returned v => exact hr.2
    | panicked _ => exact hr.elim
    | outgrown => exact hr.elim
abbrev tbAll : Tb := [[true, true], [true, true]]
abbrev tbTwo : Tb := [[true, false], [false, true]]
abbrev tbStar : Tb := [[true, true, false], [true, false, false], [true, false, true]]
theorem TreeR.ex {m : Tb} {H : Hp} {v : Value} (h : TreeR m H v) (l : List (Int × Int)) (b : Bool) (h0 : chkG m = 0) (hl : (finG m []).l = l) (hb : decide ((finG m []).p ≤ 1) = b) : ∃ a c, SlR pairR H a c l ∧ v = .tuple #[.slice a l.length c, .bool b, .int .i64 0] := by
  subst hl; subst hb; exact h.2 h0
theorem CutR.no {m : Tb} {H : Hp} {v : Value} (h : CutR m H v) (h0 : chkG m = 0) (hp : (finG m []).p ≤ 1) : v = .tuple #[.slice none 0 0, .slice none 0 0, .bool false, .int .i64 0] := h.2.1 h0 hp
theorem CutR.ex {m : Tb} {H : Hp} {v : Value} (h : CutR m H v) (l k : List Int) (h0 : chkG m = 0) (hp : ¬ (finG m []).p ≤ 1) (hl : someL (finG m []).Pl 0 m.length = l) (hk : someL (finG m []).Pl m.length (wideM m) = k) :
    ∃ a c b d, SlR (intR .i64) H a c l ∧ SlR (intR .i64) H b d k ∧ v = .tuple #[.slice a l.length c, .slice b k.length d, .bool true, .int .i64 0] := by
  subst hl; subst hk; exact h.2.2 h0 hp
theorem ResR.ex {m : Tb} {T : Nat} {H : Hp} {v : Value} (h : ResR m T H v) (o : List Int) (h0 : chkG m = 0) (hT : T ≤ 3) (hf : (allL (wideM m) (T + 1)).find? (badB m) = some o) : ∃ a c, SlR (intR .i64) H a c o ∧ v = .tuple #[.slice a o.length c, .bool true, .int .i64 0] := (h.2.2 T rfl h0 hT).1 o hf
theorem ResR.no {m : Tb} {T : Nat} {H : Hp} {v : Value} (h : ResR m T H v) (h0 : chkG m = 0) (hT : T ≤ 3) (hf : (allL (wideM m) (T + 1)).find? (badB m) = none) : v = .tuple #[.slice none 0 0, .bool false, .int .i64 0] := (h.2.2 T rfl h0 hT).2 hf
end Go.Proofs
