/-
  NARROWER THAN 'FOR EVERY INPUT', by the rows' own cells (each row's printed sentence says how): RepairRefutesSpec: loops · RepairEither: loops.
  DERIVED. THE GIVEN ROWS OF THIS SEAT. 6 by the template 'for every input the law returns true; each argument reads behind the call as it read before'; 0 by the template 'total and deterministic' (their statements: YtnckfcgnmhplnaaTotals.lean).
  GIVEN WITH THE SEED: the statements are not yours to turn. If you find one false, say at which input.
  Laid BY PROGRAM, IN A SANDBOX (cutbox-rows.mjs): the forced cells as the released guide's own fill.sh prints them over the translation 27acb924b0b318cd… (all of the seat's roots in one cut). By AI agents, Wed Nov 11 2026. No macro, syntax, notation, axiom, sorry.
-/
import Derived.Test.YtnckfcgnmhplnaaChecked
import GoSem.Claim
import GoSem.ClaimJoined
import GoSem.ClaimMapViews
import Derived.JoinedTies
import Derived.KernelRfl
namespace Go.Proofs.Ytnckfcgnmhplnaa
/- THE CELL 'sum', in the pinned program and in every row, IS THE sha256 OF THE DUMP (.gsa) THAT YtnckfcgnmhplnaaProg.lean LOADS. Nothing in Lean hashes anything: it is a label: what it is worth is what the hold of that sum in a sandbox is worth. -/
noncomputable def Try.pinned : Pinned := { name := "ytnckfcgnmhplnaa", sum := "27acb924b0b318cdf07be41050e232a77b85916a24a4a3853ad7b354e0110f54", checked := Try.checked }
namespace Rows
def none {H : Type} : Left H := { results := [], args := [] }

/-- 'podiumlaw30.RepairSpec': WHATEVER THE INPUT: true; the input reads as it did. -/
def repairSpecSpec : ChangeSpec := { name := "repairSpec", fn := fun _ => fun
  | [d1, d2, d3, d4] => { results := [.lit (.bool true)], args := [d1, d2, d3, d4] }
  | _ => none }
def repairSpecRow : OpenClaim := { program := "ytnckfcgnmhplnaa", sum := "27acb924b0b318cdf07be41050e232a77b85916a24a4a3853ad7b354e0110f54", func := "podium/podiumlaw30.RepairSpec", spec := "repairSpec", unfollowed := true, recurses := true, apart := false }
def RepairSpecSaid : Prop := repairSpecRow.holds Try.pinned (OpenSpec.ofChange repairSpecSpec)

/-- ITS FALSE NEIGHBOUR: 'it returns false'. Refute it at one input. -/
def repairSpecWrong : ChangeSpec := { name := "repairSpec", fn := fun _ => fun
  | [d1, d2, d3, d4] => { results := [.lit (.bool false)], args := [d1, d2, d3, d4] }
  | _ => none }
def RepairSpecWrongFalsely : Prop := repairSpecRow.holds Try.pinned (OpenSpec.ofChange repairSpecWrong)

/-- 'podiumlaw30.RepairRefutesSpec': WHATEVER THE INPUT: true; the input reads as it did. -/
def repairRefutesSpecSpec : ChangeSpec := { name := "repairRefutesSpec", fn := fun _ => fun
  | [d1, d2, d3, d4, d5] => { results := [.lit (.bool true)], args := [d1, d2, d3, d4, d5] }
  | _ => none }
def repairRefutesSpecRow : OpenClaim := { program := "ytnckfcgnmhplnaa", sum := "27acb924b0b318cdf07be41050e232a77b85916a24a4a3853ad7b354e0110f54", func := "podium/podiumlaw30.RepairRefutesSpec", spec := "repairRefutesSpec", unfollowed := true, recurses := true, loops := true, apart := false }
def RepairRefutesSpecSaid : Prop := repairRefutesSpecRow.holds Try.pinned (OpenSpec.ofChange repairRefutesSpecSpec)

/-- ITS FALSE NEIGHBOUR: 'it returns false'. Refute it at one input. -/
def repairRefutesSpecWrong : ChangeSpec := { name := "repairRefutesSpec", fn := fun _ => fun
  | [d1, d2, d3, d4, d5] => { results := [.lit (.bool false)], args := [d1, d2, d3, d4, d5] }
  | _ => none }
def RepairRefutesSpecWrongFalsely : Prop := repairRefutesSpecRow.holds Try.pinned (OpenSpec.ofChange repairRefutesSpecWrong)

/-- 'podiumlaw30.RepairFewest': WHATEVER THE INPUT: true; the input reads as it did. -/
def repairFewestSpec : ChangeSpec := { name := "repairFewest", fn := fun _ => fun
  | [d1, d2, d3, d4] => { results := [.lit (.bool true)], args := [d1, d2, d3, d4] }
  | _ => none }
def repairFewestRow : OpenClaim := { program := "ytnckfcgnmhplnaa", sum := "27acb924b0b318cdf07be41050e232a77b85916a24a4a3853ad7b354e0110f54", func := "podium/podiumlaw30.RepairFewest", spec := "repairFewest", unfollowed := true, recurses := true, apart := false }
def RepairFewestSaid : Prop := repairFewestRow.holds Try.pinned (OpenSpec.ofChange repairFewestSpec)

/-- ITS FALSE NEIGHBOUR: 'it returns false'. Refute it at one input. -/
def repairFewestWrong : ChangeSpec := { name := "repairFewest", fn := fun _ => fun
  | [d1, d2, d3, d4] => { results := [.lit (.bool false)], args := [d1, d2, d3, d4] }
  | _ => none }
def RepairFewestWrongFalsely : Prop := repairFewestRow.holds Try.pinned (OpenSpec.ofChange repairFewestWrong)

/-- 'podiumlaw30.RepairEither': WHATEVER THE INPUT: true; the input reads as it did. -/
def repairEitherSpec : ChangeSpec := { name := "repairEither", fn := fun _ => fun
  | [d1, d2, d3, d4, d5] => { results := [.lit (.bool true)], args := [d1, d2, d3, d4, d5] }
  | _ => none }
def repairEitherRow : OpenClaim := { program := "ytnckfcgnmhplnaa", sum := "27acb924b0b318cdf07be41050e232a77b85916a24a4a3853ad7b354e0110f54", func := "podium/podiumlaw30.RepairEither", spec := "repairEither", unfollowed := true, recurses := true, loops := true, apart := false }
def RepairEitherSaid : Prop := repairEitherRow.holds Try.pinned (OpenSpec.ofChange repairEitherSpec)

/-- ITS FALSE NEIGHBOUR: 'it returns false'. Refute it at one input. -/
def repairEitherWrong : ChangeSpec := { name := "repairEither", fn := fun _ => fun
  | [d1, d2, d3, d4, d5] => { results := [.lit (.bool false)], args := [d1, d2, d3, d4, d5] }
  | _ => none }
def RepairEitherWrongFalsely : Prop := repairEitherRow.holds Try.pinned (OpenSpec.ofChange repairEitherWrong)

/-- 'podiumlaw30.RepairNothing': WHATEVER THE INPUT: true; the input reads as it did. -/
def repairNothingSpec : ChangeSpec := { name := "repairNothing", fn := fun _ => fun
  | [d1, d2, d3] => { results := [.lit (.bool true)], args := [d1, d2, d3] }
  | _ => none }
def repairNothingRow : OpenClaim := { program := "ytnckfcgnmhplnaa", sum := "27acb924b0b318cdf07be41050e232a77b85916a24a4a3853ad7b354e0110f54", func := "podium/podiumlaw30.RepairNothing", spec := "repairNothing", unfollowed := true, recurses := true, apart := false }
def RepairNothingSaid : Prop := repairNothingRow.holds Try.pinned (OpenSpec.ofChange repairNothingSpec)

/-- ITS FALSE NEIGHBOUR: 'it returns false'. Refute it at one input. -/
def repairNothingWrong : ChangeSpec := { name := "repairNothing", fn := fun _ => fun
  | [d1, d2, d3] => { results := [.lit (.bool false)], args := [d1, d2, d3] }
  | _ => none }
def RepairNothingWrongFalsely : Prop := repairNothingRow.holds Try.pinned (OpenSpec.ofChange repairNothingWrong)

/-- 'podiumlaw30.RepairLimits': WHATEVER THE INPUT: true; the input reads as it did. -/
def repairLimitsSpec : ChangeSpec := { name := "repairLimits", fn := fun _ => fun
  | [d1, d2, d3, d4] => { results := [.lit (.bool true)], args := [d1, d2, d3, d4] }
  | _ => none }
def repairLimitsRow : OpenClaim := { program := "ytnckfcgnmhplnaa", sum := "27acb924b0b318cdf07be41050e232a77b85916a24a4a3853ad7b354e0110f54", func := "podium/podiumlaw30.RepairLimits", spec := "repairLimits", unfollowed := true, recurses := true, apart := false }
def RepairLimitsSaid : Prop := repairLimitsRow.holds Try.pinned (OpenSpec.ofChange repairLimitsSpec)

/-- ITS FALSE NEIGHBOUR: 'it returns false'. Refute it at one input. -/
def repairLimitsWrong : ChangeSpec := { name := "repairLimits", fn := fun _ => fun
  | [d1, d2, d3, d4] => { results := [.lit (.bool false)], args := [d1, d2, d3, d4] }
  | _ => none }
def RepairLimitsWrongFalsely : Prop := repairLimitsRow.holds Try.pinned (OpenSpec.ofChange repairLimitsWrong)

/- THE SECOND FORM. 'bulk': how many values and letters a reading holds, each counted each time it is reached (what is shared counts as often as it is met; a slice's spare places count too). A statement '..UptoSaid' is the law's where the arguments, and the package variables that the reading takes, are together of bulk at most 1048576: NARROWER than '..Said'. Prove '..Said' where nothing that the law and all that it calls make is longer than what came in: it says more and counts as full. Else prove '..UptoSaid'. A law counts once. -/
mutual
def uptoBulk {H : Type} : DataW H → Nat
  | .lit (.string bytes) => bytes.length + 1
  | .lit _ => 1
  | .nil => 1
  | .ptr d => uptoBulk d + 1
  | .slice elems spare => uptoBulkAll elems + uptoBulkAll spare + 1
  | .agg parts => uptoBulkAll parts + 1
  | .iface _ d => uptoBulk d + 1
  | .map entries => uptoBulkEntries entries + 1
  | .held _ => 1
def uptoBulkAll {H : Type} : List (DataW H) → Nat
  | [] => 0
  | d :: r => uptoBulk d + uptoBulkAll r
def uptoBulkEntries {H : Type} : List (Lit × DataW H) → Nat
  | [] => 0
  | x :: r => uptoBulkEntry x + uptoBulkEntries r
def uptoBulkEntry {H : Type} : Lit × DataW H → Nat
  | (.string bytes, d) => bytes.length + uptoBulk d + 1
  | (_, d) => uptoBulk d + 1
 end
def uptoSmall : (H : Type) → List (DataW H) → Bool := fun _ ds => decide (uptoBulkAll ds ≤ 1048576)
def OpenSpec.upto (s : _root_.Go.ChangeSpec) : _root_.Go.OpenSpec := { _root_.Go.OpenSpec.ofChange s with cond := some uptoSmall }

/-- 'podiumlaw30.RepairSpec', WHERE WHAT IT READS IS OF BULK AT MOST 1048576: true; the input reads as it did. -/
def repairSpecUptoRow : OpenClaim := { program := "ytnckfcgnmhplnaa", sum := "27acb924b0b318cdf07be41050e232a77b85916a24a4a3853ad7b354e0110f54", func := "podium/podiumlaw30.RepairSpec", spec := "repairSpec", unfollowed := true, recurses := true, apart := false, narrowed := true }
def RepairSpecUptoSaid : Prop := repairSpecUptoRow.holds Try.pinned (OpenSpec.upto repairSpecSpec)

/-- 'podiumlaw30.RepairRefutesSpec', WHERE WHAT IT READS IS OF BULK AT MOST 1048576: true; the input reads as it did. -/
def repairRefutesSpecUptoRow : OpenClaim := { program := "ytnckfcgnmhplnaa", sum := "27acb924b0b318cdf07be41050e232a77b85916a24a4a3853ad7b354e0110f54", func := "podium/podiumlaw30.RepairRefutesSpec", spec := "repairRefutesSpec", unfollowed := true, recurses := true, loops := true, apart := false, narrowed := true }
def RepairRefutesSpecUptoSaid : Prop := repairRefutesSpecUptoRow.holds Try.pinned (OpenSpec.upto repairRefutesSpecSpec)

/-- 'podiumlaw30.RepairFewest', WHERE WHAT IT READS IS OF BULK AT MOST 1048576: true; the input reads as it did. -/
def repairFewestUptoRow : OpenClaim := { program := "ytnckfcgnmhplnaa", sum := "27acb924b0b318cdf07be41050e232a77b85916a24a4a3853ad7b354e0110f54", func := "podium/podiumlaw30.RepairFewest", spec := "repairFewest", unfollowed := true, recurses := true, apart := false, narrowed := true }
def RepairFewestUptoSaid : Prop := repairFewestUptoRow.holds Try.pinned (OpenSpec.upto repairFewestSpec)

/-- 'podiumlaw30.RepairEither', WHERE WHAT IT READS IS OF BULK AT MOST 1048576: true; the input reads as it did. -/
def repairEitherUptoRow : OpenClaim := { program := "ytnckfcgnmhplnaa", sum := "27acb924b0b318cdf07be41050e232a77b85916a24a4a3853ad7b354e0110f54", func := "podium/podiumlaw30.RepairEither", spec := "repairEither", unfollowed := true, recurses := true, loops := true, apart := false, narrowed := true }
def RepairEitherUptoSaid : Prop := repairEitherUptoRow.holds Try.pinned (OpenSpec.upto repairEitherSpec)

/-- 'podiumlaw30.RepairNothing', WHERE WHAT IT READS IS OF BULK AT MOST 1048576: true; the input reads as it did. -/
def repairNothingUptoRow : OpenClaim := { program := "ytnckfcgnmhplnaa", sum := "27acb924b0b318cdf07be41050e232a77b85916a24a4a3853ad7b354e0110f54", func := "podium/podiumlaw30.RepairNothing", spec := "repairNothing", unfollowed := true, recurses := true, apart := false, narrowed := true }
def RepairNothingUptoSaid : Prop := repairNothingUptoRow.holds Try.pinned (OpenSpec.upto repairNothingSpec)

/-- 'podiumlaw30.RepairLimits', WHERE WHAT IT READS IS OF BULK AT MOST 1048576: true; the input reads as it did. -/
def repairLimitsUptoRow : OpenClaim := { program := "ytnckfcgnmhplnaa", sum := "27acb924b0b318cdf07be41050e232a77b85916a24a4a3853ad7b354e0110f54", func := "podium/podiumlaw30.RepairLimits", spec := "repairLimits", unfollowed := true, recurses := true, apart := false, narrowed := true }
def RepairLimitsUptoSaid : Prop := repairLimitsUptoRow.holds Try.pinned (OpenSpec.upto repairLimitsSpec)

end Rows
end Go.Proofs.Ytnckfcgnmhplnaa
