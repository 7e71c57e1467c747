/-
  No cell of these rows narrows 'for every input' (looked for: loops, veiled, ifaces, maps, wideKeys, modest, calm, conditions, laid).
  DERIVED. THE GIVEN ROWS OF THIS SEAT. 7 by the template 'for every input the law returns true; each argument reads behind the call as it read before'; 0 by the template 'total and deterministic' (their statements: YtapacjfkgiigiaaTotals.lean).
  GIVEN WITH THE SEED: the statements are not yours to turn. If you find one false, say at which input.
  Laid BY PROGRAM, IN A SANDBOX (cutbox-rows.mjs): the forced cells as the released guide's own fill.sh prints them over the translation e8c8cc7f386b2392… (all of the seat's roots in one cut). By AI agents, Wed Nov 11 2026. No macro, syntax, notation, axiom, sorry.
-/
import Derived.Test.YtapacjfkgiigiaaChecked
import GoSem.Claim
import GoSem.ClaimJoined
import GoSem.ClaimMapViews
import Derived.JoinedTies
import Derived.KernelRfl
namespace Go.Proofs.Ytapacjfkgiigiaa
/- THE CELL 'sum', in the pinned program and in every row, IS THE sha256 OF THE DUMP (.gsa) THAT YtapacjfkgiigiaaProg.lean LOADS. Nothing in Lean hashes anything: it is a label: what it is worth is what the hold of that sum in a sandbox is worth. -/
noncomputable def Try.pinned : Pinned := { name := "ytapacjfkgiigiaa", sum := "e8c8cc7f386b2392a798621590025176d255983efddfa3a09b8c1f0ccedf2ba4", checked := Try.checked }
namespace Rows
def none {H : Type} : Left H := { results := [], args := [] }

/-- 'podiumlaw27.ConflictsSpec': WHATEVER THE INPUT: true; the input reads as it did. -/
def conflictsSpecSpec : ChangeSpec := { name := "conflictsSpec", fn := fun _ => fun
  | [d1, d2, d3, d4, d5] => { results := [.lit (.bool true)], args := [d1, d2, d3, d4, d5] }
  | _ => none }
def conflictsSpecRow : OpenClaim := { program := "ytapacjfkgiigiaa", sum := "e8c8cc7f386b2392a798621590025176d255983efddfa3a09b8c1f0ccedf2ba4", func := "podium/podiumlaw27.ConflictsSpec", spec := "conflictsSpec", unfollowed := true, recurses := true, apart := false }
def ConflictsSpecSaid : Prop := conflictsSpecRow.holds Try.pinned (OpenSpec.ofChange conflictsSpecSpec)

/-- ITS FALSE NEIGHBOUR: 'it returns false'. Refute it at one input. -/
def conflictsSpecWrong : ChangeSpec := { name := "conflictsSpec", fn := fun _ => fun
  | [d1, d2, d3, d4, d5] => { results := [.lit (.bool false)], args := [d1, d2, d3, d4, d5] }
  | _ => none }
def ConflictsSpecWrongFalsely : Prop := conflictsSpecRow.holds Try.pinned (OpenSpec.ofChange conflictsSpecWrong)

/-- 'podiumlaw27.ConflictsProvesSpec': WHATEVER THE INPUT: true; the input reads as it did. -/
def conflictsProvesSpecSpec : ChangeSpec := { name := "conflictsProvesSpec", fn := fun _ => fun
  | [d1, d2, d3, d4, d5, d6, d7, d8] => { results := [.lit (.bool true)], args := [d1, d2, d3, d4, d5, d6, d7, d8] }
  | _ => none }
def conflictsProvesSpecRow : OpenClaim := { program := "ytapacjfkgiigiaa", sum := "e8c8cc7f386b2392a798621590025176d255983efddfa3a09b8c1f0ccedf2ba4", func := "podium/podiumlaw27.ConflictsProvesSpec", spec := "conflictsProvesSpec", unfollowed := true, recurses := true, apart := false }
def ConflictsProvesSpecSaid : Prop := conflictsProvesSpecRow.holds Try.pinned (OpenSpec.ofChange conflictsProvesSpecSpec)

/-- ITS FALSE NEIGHBOUR: 'it returns false'. Refute it at one input. -/
def conflictsProvesSpecWrong : ChangeSpec := { name := "conflictsProvesSpec", fn := fun _ => fun
  | [d1, d2, d3, d4, d5, d6, d7, d8] => { results := [.lit (.bool false)], args := [d1, d2, d3, d4, d5, d6, d7, d8] }
  | _ => none }
def ConflictsProvesSpecWrongFalsely : Prop := conflictsProvesSpecRow.holds Try.pinned (OpenSpec.ofChange conflictsProvesSpecWrong)

/-- 'podiumlaw27.ConflictsEither': WHATEVER THE INPUT: true; the input reads as it did. -/
def conflictsEitherSpec : ChangeSpec := { name := "conflictsEither", fn := fun _ => fun
  | [d1, d2, d3, d4, d5, d6] => { results := [.lit (.bool true)], args := [d1, d2, d3, d4, d5, d6] }
  | _ => none }
def conflictsEitherRow : OpenClaim := { program := "ytapacjfkgiigiaa", sum := "e8c8cc7f386b2392a798621590025176d255983efddfa3a09b8c1f0ccedf2ba4", func := "podium/podiumlaw27.ConflictsEither", spec := "conflictsEither", unfollowed := true, recurses := true, apart := false }
def ConflictsEitherSaid : Prop := conflictsEitherRow.holds Try.pinned (OpenSpec.ofChange conflictsEitherSpec)

/-- ITS FALSE NEIGHBOUR: 'it returns false'. Refute it at one input. -/
def conflictsEitherWrong : ChangeSpec := { name := "conflictsEither", fn := fun _ => fun
  | [d1, d2, d3, d4, d5, d6] => { results := [.lit (.bool false)], args := [d1, d2, d3, d4, d5, d6] }
  | _ => none }
def ConflictsEitherWrongFalsely : Prop := conflictsEitherRow.holds Try.pinned (OpenSpec.ofChange conflictsEitherWrong)

/-- 'podiumlaw27.ConflictsTurned': WHATEVER THE INPUT: true; the input reads as it did. -/
def conflictsTurnedSpec : ChangeSpec := { name := "conflictsTurned", fn := fun _ => fun
  | [d1, d2, d3, d4, d5] => { results := [.lit (.bool true)], args := [d1, d2, d3, d4, d5] }
  | _ => none }
def conflictsTurnedRow : OpenClaim := { program := "ytapacjfkgiigiaa", sum := "e8c8cc7f386b2392a798621590025176d255983efddfa3a09b8c1f0ccedf2ba4", func := "podium/podiumlaw27.ConflictsTurned", spec := "conflictsTurned", unfollowed := true, recurses := true, apart := false }
def ConflictsTurnedSaid : Prop := conflictsTurnedRow.holds Try.pinned (OpenSpec.ofChange conflictsTurnedSpec)

/-- ITS FALSE NEIGHBOUR: 'it returns false'. Refute it at one input. -/
def conflictsTurnedWrong : ChangeSpec := { name := "conflictsTurned", fn := fun _ => fun
  | [d1, d2, d3, d4, d5] => { results := [.lit (.bool false)], args := [d1, d2, d3, d4, d5] }
  | _ => none }
def ConflictsTurnedWrongFalsely : Prop := conflictsTurnedRow.holds Try.pinned (OpenSpec.ofChange conflictsTurnedWrong)

/-- 'podiumlaw27.ConflictsFamily': WHATEVER THE INPUT: true; the input reads as it did. -/
def conflictsFamilySpec : ChangeSpec := { name := "conflictsFamily", fn := fun _ => fun
  | [d1, d2, d3, d4, d5, d6] => { results := [.lit (.bool true)], args := [d1, d2, d3, d4, d5, d6] }
  | _ => none }
def conflictsFamilyRow : OpenClaim := { program := "ytapacjfkgiigiaa", sum := "e8c8cc7f386b2392a798621590025176d255983efddfa3a09b8c1f0ccedf2ba4", func := "podium/podiumlaw27.ConflictsFamily", spec := "conflictsFamily", unfollowed := true, recurses := true, apart := false }
def ConflictsFamilySaid : Prop := conflictsFamilyRow.holds Try.pinned (OpenSpec.ofChange conflictsFamilySpec)

/-- ITS FALSE NEIGHBOUR: 'it returns false'. Refute it at one input. -/
def conflictsFamilyWrong : ChangeSpec := { name := "conflictsFamily", fn := fun _ => fun
  | [d1, d2, d3, d4, d5, d6] => { results := [.lit (.bool false)], args := [d1, d2, d3, d4, d5, d6] }
  | _ => none }
def ConflictsFamilyWrongFalsely : Prop := conflictsFamilyRow.holds Try.pinned (OpenSpec.ofChange conflictsFamilyWrong)

/-- 'podiumlaw27.ConflictsClock': WHATEVER THE INPUT: true; the input reads as it did. -/
def conflictsClockSpec : ChangeSpec := { name := "conflictsClock", fn := fun _ => fun
  | [d1, d2, d3, d4, d5, d6] => { results := [.lit (.bool true)], args := [d1, d2, d3, d4, d5, d6] }
  | _ => none }
def conflictsClockRow : OpenClaim := { program := "ytapacjfkgiigiaa", sum := "e8c8cc7f386b2392a798621590025176d255983efddfa3a09b8c1f0ccedf2ba4", func := "podium/podiumlaw27.ConflictsClock", spec := "conflictsClock", unfollowed := true, recurses := true, apart := false }
def ConflictsClockSaid : Prop := conflictsClockRow.holds Try.pinned (OpenSpec.ofChange conflictsClockSpec)

/-- ITS FALSE NEIGHBOUR: 'it returns false'. Refute it at one input. -/
def conflictsClockWrong : ChangeSpec := { name := "conflictsClock", fn := fun _ => fun
  | [d1, d2, d3, d4, d5, d6] => { results := [.lit (.bool false)], args := [d1, d2, d3, d4, d5, d6] }
  | _ => none }
def ConflictsClockWrongFalsely : Prop := conflictsClockRow.holds Try.pinned (OpenSpec.ofChange conflictsClockWrong)

/-- 'podiumlaw27.ConflictsTable': WHATEVER THE INPUT: true; the input reads as it did. -/
def conflictsTableSpec : ChangeSpec := { name := "conflictsTable", fn := fun _ => fun
  | [d1, d2, d3, d4, d5] => { results := [.lit (.bool true)], args := [d1, d2, d3, d4, d5] }
  | _ => none }
def conflictsTableRow : OpenClaim := { program := "ytapacjfkgiigiaa", sum := "e8c8cc7f386b2392a798621590025176d255983efddfa3a09b8c1f0ccedf2ba4", func := "podium/podiumlaw27.ConflictsTable", spec := "conflictsTable", unfollowed := true, recurses := true, apart := false }
def ConflictsTableSaid : Prop := conflictsTableRow.holds Try.pinned (OpenSpec.ofChange conflictsTableSpec)

/-- ITS FALSE NEIGHBOUR: 'it returns false'. Refute it at one input. -/
def conflictsTableWrong : ChangeSpec := { name := "conflictsTable", fn := fun _ => fun
  | [d1, d2, d3, d4, d5] => { results := [.lit (.bool false)], args := [d1, d2, d3, d4, d5] }
  | _ => none }
def ConflictsTableWrongFalsely : Prop := conflictsTableRow.holds Try.pinned (OpenSpec.ofChange conflictsTableWrong)

/- THE SECOND FORM. 'bulk': how many values and letters a reading holds, each counted each time it is reached (what is shared counts as often as it is met; a slice's spare places count too). A statement '..UptoSaid' is the law's where the arguments, and the package variables that the reading takes, are together of bulk at most 1048576: NARROWER than '..Said'. Prove '..Said' where nothing that the law and all that it calls make is longer than what came in: it says more and counts as full. Else prove '..UptoSaid'. A law counts once. -/
mutual
def uptoBulk {H : Type} : DataW H → Nat
  | .lit (.string bytes) => bytes.length + 1
  | .lit _ => 1
  | .nil => 1
  | .ptr d => uptoBulk d + 1
  | .slice elems spare => uptoBulkAll elems + uptoBulkAll spare + 1
  | .agg parts => uptoBulkAll parts + 1
  | .iface _ d => uptoBulk d + 1
  | .map entries => uptoBulkEntries entries + 1
  | .held _ => 1
def uptoBulkAll {H : Type} : List (DataW H) → Nat
  | [] => 0
  | d :: r => uptoBulk d + uptoBulkAll r
def uptoBulkEntries {H : Type} : List (Lit × DataW H) → Nat
  | [] => 0
  | x :: r => uptoBulkEntry x + uptoBulkEntries r
def uptoBulkEntry {H : Type} : Lit × DataW H → Nat
  | (.string bytes, d) => bytes.length + uptoBulk d + 1
  | (_, d) => uptoBulk d + 1
 end
def uptoSmall : (H : Type) → List (DataW H) → Bool := fun _ ds => decide (uptoBulkAll ds ≤ 1048576)
def OpenSpec.upto (s : _root_.Go.ChangeSpec) : _root_.Go.OpenSpec := { _root_.Go.OpenSpec.ofChange s with cond := some uptoSmall }

/-- 'podiumlaw27.ConflictsSpec', WHERE WHAT IT READS IS OF BULK AT MOST 1048576: true; the input reads as it did. -/
def conflictsSpecUptoRow : OpenClaim := { program := "ytapacjfkgiigiaa", sum := "e8c8cc7f386b2392a798621590025176d255983efddfa3a09b8c1f0ccedf2ba4", func := "podium/podiumlaw27.ConflictsSpec", spec := "conflictsSpec", unfollowed := true, recurses := true, apart := false, narrowed := true }
def ConflictsSpecUptoSaid : Prop := conflictsSpecUptoRow.holds Try.pinned (OpenSpec.upto conflictsSpecSpec)

/-- 'podiumlaw27.ConflictsProvesSpec', WHERE WHAT IT READS IS OF BULK AT MOST 1048576: true; the input reads as it did. -/
def conflictsProvesSpecUptoRow : OpenClaim := { program := "ytapacjfkgiigiaa", sum := "e8c8cc7f386b2392a798621590025176d255983efddfa3a09b8c1f0ccedf2ba4", func := "podium/podiumlaw27.ConflictsProvesSpec", spec := "conflictsProvesSpec", unfollowed := true, recurses := true, apart := false, narrowed := true }
def ConflictsProvesSpecUptoSaid : Prop := conflictsProvesSpecUptoRow.holds Try.pinned (OpenSpec.upto conflictsProvesSpecSpec)

/-- 'podiumlaw27.ConflictsEither', WHERE WHAT IT READS IS OF BULK AT MOST 1048576: true; the input reads as it did. -/
def conflictsEitherUptoRow : OpenClaim := { program := "ytapacjfkgiigiaa", sum := "e8c8cc7f386b2392a798621590025176d255983efddfa3a09b8c1f0ccedf2ba4", func := "podium/podiumlaw27.ConflictsEither", spec := "conflictsEither", unfollowed := true, recurses := true, apart := false, narrowed := true }
def ConflictsEitherUptoSaid : Prop := conflictsEitherUptoRow.holds Try.pinned (OpenSpec.upto conflictsEitherSpec)

/-- 'podiumlaw27.ConflictsTurned', WHERE WHAT IT READS IS OF BULK AT MOST 1048576: true; the input reads as it did. -/
def conflictsTurnedUptoRow : OpenClaim := { program := "ytapacjfkgiigiaa", sum := "e8c8cc7f386b2392a798621590025176d255983efddfa3a09b8c1f0ccedf2ba4", func := "podium/podiumlaw27.ConflictsTurned", spec := "conflictsTurned", unfollowed := true, recurses := true, apart := false, narrowed := true }
def ConflictsTurnedUptoSaid : Prop := conflictsTurnedUptoRow.holds Try.pinned (OpenSpec.upto conflictsTurnedSpec)

/-- 'podiumlaw27.ConflictsFamily', WHERE WHAT IT READS IS OF BULK AT MOST 1048576: true; the input reads as it did. -/
def conflictsFamilyUptoRow : OpenClaim := { program := "ytapacjfkgiigiaa", sum := "e8c8cc7f386b2392a798621590025176d255983efddfa3a09b8c1f0ccedf2ba4", func := "podium/podiumlaw27.ConflictsFamily", spec := "conflictsFamily", unfollowed := true, recurses := true, apart := false, narrowed := true }
def ConflictsFamilyUptoSaid : Prop := conflictsFamilyUptoRow.holds Try.pinned (OpenSpec.upto conflictsFamilySpec)

/-- 'podiumlaw27.ConflictsClock', WHERE WHAT IT READS IS OF BULK AT MOST 1048576: true; the input reads as it did. -/
def conflictsClockUptoRow : OpenClaim := { program := "ytapacjfkgiigiaa", sum := "e8c8cc7f386b2392a798621590025176d255983efddfa3a09b8c1f0ccedf2ba4", func := "podium/podiumlaw27.ConflictsClock", spec := "conflictsClock", unfollowed := true, recurses := true, apart := false, narrowed := true }
def ConflictsClockUptoSaid : Prop := conflictsClockUptoRow.holds Try.pinned (OpenSpec.upto conflictsClockSpec)

/-- 'podiumlaw27.ConflictsTable', WHERE WHAT IT READS IS OF BULK AT MOST 1048576: true; the input reads as it did. -/
def conflictsTableUptoRow : OpenClaim := { program := "ytapacjfkgiigiaa", sum := "e8c8cc7f386b2392a798621590025176d255983efddfa3a09b8c1f0ccedf2ba4", func := "podium/podiumlaw27.ConflictsTable", spec := "conflictsTable", unfollowed := true, recurses := true, apart := false, narrowed := true }
def ConflictsTableUptoSaid : Prop := conflictsTableUptoRow.holds Try.pinned (OpenSpec.upto conflictsTableSpec)

end Rows
end Go.Proofs.Ytapacjfkgiigiaa
