/-
  No cell of these rows narrows 'for every input' (looked for: loops, veiled, ifaces, maps, wideKeys, modest, calm, conditions, laid).
  DERIVED. THE GIVEN ROWS OF THIS SEAT. 5 by the template 'for every input the law returns true; each argument reads behind the call as it read before'; 0 by the template 'total and deterministic' (their statements: YtamnnngilmgbgaaTotals.lean).
  GIVEN WITH THE SEED: the statements are not yours to turn. If you find one false, say at which input.
  Laid BY PROGRAM, IN A SANDBOX (cutbox-rows.mjs): the forced cells as the released guide's own fill.sh prints them over the translation 9d7b0d27757ad5da… (all of the seat's roots in one cut). By AI agents, Wed Nov 11 2026. No macro, syntax, notation, axiom, sorry.
-/
import Derived.Test.YtamnnngilmgbgaaChecked
import GoSem.Claim
import GoSem.ClaimJoined
import GoSem.ClaimMapViews
import Derived.JoinedTies
import Derived.KernelRfl
namespace Go.Proofs.Ytamnnngilmgbgaa
/- THE CELL 'sum', in the pinned program and in every row, IS THE sha256 OF THE DUMP (.gsa) THAT YtamnnngilmgbgaaProg.lean LOADS. Nothing in Lean hashes anything: it is a label: what it is worth is what the hold of that sum in a sandbox is worth. -/
noncomputable def Try.pinned : Pinned := { name := "ytamnnngilmgbgaa", sum := "9d7b0d27757ad5da4ba8a2a872e1ffa4f49980f2c21fe65012cc0ecf2ed3efd3", checked := Try.checked }
namespace Rows
def none {H : Type} : Left H := { results := [], args := [] }

/-- 'podiumlaw35.BoxesSpec': WHATEVER THE INPUT: true; the input reads as it did. -/
def boxesSpecSpec : ChangeSpec := { name := "boxesSpec", fn := fun _ => fun
  | [d1, d2] => { results := [.lit (.bool true)], args := [d1, d2] }
  | _ => none }
def boxesSpecRow : OpenClaim := { program := "ytamnnngilmgbgaa", sum := "9d7b0d27757ad5da4ba8a2a872e1ffa4f49980f2c21fe65012cc0ecf2ed3efd3", func := "podium/podiumlaw35.BoxesSpec", spec := "boxesSpec", inPlace := ["internal/bytealg.Compare"], unfollowed := true, recurses := true, apart := false }
def BoxesSpecSaid : Prop := boxesSpecRow.holds Try.pinned (OpenSpec.ofChange boxesSpecSpec)

/-- ITS FALSE NEIGHBOUR: 'it returns false'. Refute it at one input. -/
def boxesSpecWrong : ChangeSpec := { name := "boxesSpec", fn := fun _ => fun
  | [d1, d2] => { results := [.lit (.bool false)], args := [d1, d2] }
  | _ => none }
def BoxesSpecWrongFalsely : Prop := boxesSpecRow.holds Try.pinned (OpenSpec.ofChange boxesSpecWrong)

/-- 'podiumlaw35.BoxesMergeSpec': WHATEVER THE INPUT: true; the input reads as it did. -/
def boxesMergeSpecSpec : ChangeSpec := { name := "boxesMergeSpec", fn := fun _ => fun
  | [d1, d2, d3, d4, d5] => { results := [.lit (.bool true)], args := [d1, d2, d3, d4, d5] }
  | _ => none }
def boxesMergeSpecRow : OpenClaim := { program := "ytamnnngilmgbgaa", sum := "9d7b0d27757ad5da4ba8a2a872e1ffa4f49980f2c21fe65012cc0ecf2ed3efd3", func := "podium/podiumlaw35.BoxesMergeSpec", spec := "boxesMergeSpec", inPlace := ["internal/bytealg.Compare"], unfollowed := true, recurses := true, apart := false }
def BoxesMergeSpecSaid : Prop := boxesMergeSpecRow.holds Try.pinned (OpenSpec.ofChange boxesMergeSpecSpec)

/-- ITS FALSE NEIGHBOUR: 'it returns false'. Refute it at one input. -/
def boxesMergeSpecWrong : ChangeSpec := { name := "boxesMergeSpec", fn := fun _ => fun
  | [d1, d2, d3, d4, d5] => { results := [.lit (.bool false)], args := [d1, d2, d3, d4, d5] }
  | _ => none }
def BoxesMergeSpecWrongFalsely : Prop := boxesMergeSpecRow.holds Try.pinned (OpenSpec.ofChange boxesMergeSpecWrong)

/-- 'podiumlaw35.BoxesJoin': WHATEVER THE INPUT: true; the input reads as it did. -/
def boxesJoinSpec : ChangeSpec := { name := "boxesJoin", fn := fun _ => fun
  | [d1, d2, d3] => { results := [.lit (.bool true)], args := [d1, d2, d3] }
  | _ => none }
def boxesJoinRow : OpenClaim := { program := "ytamnnngilmgbgaa", sum := "9d7b0d27757ad5da4ba8a2a872e1ffa4f49980f2c21fe65012cc0ecf2ed3efd3", func := "podium/podiumlaw35.BoxesJoin", spec := "boxesJoin", inPlace := ["internal/bytealg.Compare"], unfollowed := true, recurses := true, apart := false }
def BoxesJoinSaid : Prop := boxesJoinRow.holds Try.pinned (OpenSpec.ofChange boxesJoinSpec)

/-- ITS FALSE NEIGHBOUR: 'it returns false'. Refute it at one input. -/
def boxesJoinWrong : ChangeSpec := { name := "boxesJoin", fn := fun _ => fun
  | [d1, d2, d3] => { results := [.lit (.bool false)], args := [d1, d2, d3] }
  | _ => none }
def BoxesJoinWrongFalsely : Prop := boxesJoinRow.holds Try.pinned (OpenSpec.ofChange boxesJoinWrong)

/-- 'podiumlaw35.BoxesGiven': WHATEVER THE INPUT: true; the input reads as it did. -/
def boxesGivenSpec : ChangeSpec := { name := "boxesGiven", fn := fun _ => fun
  | [d1, d2, d3] => { results := [.lit (.bool true)], args := [d1, d2, d3] }
  | _ => none }
def boxesGivenRow : OpenClaim := { program := "ytamnnngilmgbgaa", sum := "9d7b0d27757ad5da4ba8a2a872e1ffa4f49980f2c21fe65012cc0ecf2ed3efd3", func := "podium/podiumlaw35.BoxesGiven", spec := "boxesGiven", inPlace := ["internal/bytealg.Compare"], unfollowed := true, recurses := true, apart := false }
def BoxesGivenSaid : Prop := boxesGivenRow.holds Try.pinned (OpenSpec.ofChange boxesGivenSpec)

/-- ITS FALSE NEIGHBOUR: 'it returns false'. Refute it at one input. -/
def boxesGivenWrong : ChangeSpec := { name := "boxesGiven", fn := fun _ => fun
  | [d1, d2, d3] => { results := [.lit (.bool false)], args := [d1, d2, d3] }
  | _ => none }
def BoxesGivenWrongFalsely : Prop := boxesGivenRow.holds Try.pinned (OpenSpec.ofChange boxesGivenWrong)

/-- 'podiumlaw35.BoxesOne': WHATEVER THE INPUT: true; the input reads as it did. -/
def boxesOneSpec : ChangeSpec := { name := "boxesOne", fn := fun _ => fun
  | [d1, d2] => { results := [.lit (.bool true)], args := [d1, d2] }
  | _ => none }
def boxesOneRow : OpenClaim := { program := "ytamnnngilmgbgaa", sum := "9d7b0d27757ad5da4ba8a2a872e1ffa4f49980f2c21fe65012cc0ecf2ed3efd3", func := "podium/podiumlaw35.BoxesOne", spec := "boxesOne", inPlace := ["internal/bytealg.Compare"], unfollowed := true, recurses := true, apart := false }
def BoxesOneSaid : Prop := boxesOneRow.holds Try.pinned (OpenSpec.ofChange boxesOneSpec)

/-- ITS FALSE NEIGHBOUR: 'it returns false'. Refute it at one input. -/
def boxesOneWrong : ChangeSpec := { name := "boxesOne", fn := fun _ => fun
  | [d1, d2] => { results := [.lit (.bool false)], args := [d1, d2] }
  | _ => none }
def BoxesOneWrongFalsely : Prop := boxesOneRow.holds Try.pinned (OpenSpec.ofChange boxesOneWrong)

/- THE SECOND FORM. 'bulk': how many values and letters a reading holds, each counted each time it is reached (what is shared counts as often as it is met; a slice's spare places count too). A statement '..UptoSaid' is the law's where the arguments, and the package variables that the reading takes, are together of bulk at most 1048576: NARROWER than '..Said'. Prove '..Said' where nothing that the law and all that it calls make is longer than what came in: it says more and counts as full. Else prove '..UptoSaid'. A law counts once. -/
mutual
def uptoBulk {H : Type} : DataW H → Nat
  | .lit (.string bytes) => bytes.length + 1
  | .lit _ => 1
  | .nil => 1
  | .ptr d => uptoBulk d + 1
  | .slice elems spare => uptoBulkAll elems + uptoBulkAll spare + 1
  | .agg parts => uptoBulkAll parts + 1
  | .iface _ d => uptoBulk d + 1
  | .map entries => uptoBulkEntries entries + 1
  | .held _ => 1
def uptoBulkAll {H : Type} : List (DataW H) → Nat
  | [] => 0
  | d :: r => uptoBulk d + uptoBulkAll r
def uptoBulkEntries {H : Type} : List (Lit × DataW H) → Nat
  | [] => 0
  | x :: r => uptoBulkEntry x + uptoBulkEntries r
def uptoBulkEntry {H : Type} : Lit × DataW H → Nat
  | (.string bytes, d) => bytes.length + uptoBulk d + 1
  | (_, d) => uptoBulk d + 1
 end
def uptoSmall : (H : Type) → List (DataW H) → Bool := fun _ ds => decide (uptoBulkAll ds ≤ 1048576)
def OpenSpec.upto (s : _root_.Go.ChangeSpec) : _root_.Go.OpenSpec := { _root_.Go.OpenSpec.ofChange s with cond := some uptoSmall }

/-- 'podiumlaw35.BoxesSpec', WHERE WHAT IT READS IS OF BULK AT MOST 1048576: true; the input reads as it did. -/
def boxesSpecUptoRow : OpenClaim := { program := "ytamnnngilmgbgaa", sum := "9d7b0d27757ad5da4ba8a2a872e1ffa4f49980f2c21fe65012cc0ecf2ed3efd3", func := "podium/podiumlaw35.BoxesSpec", spec := "boxesSpec", inPlace := ["internal/bytealg.Compare"], unfollowed := true, recurses := true, apart := false, narrowed := true }
def BoxesSpecUptoSaid : Prop := boxesSpecUptoRow.holds Try.pinned (OpenSpec.upto boxesSpecSpec)

/-- 'podiumlaw35.BoxesMergeSpec', WHERE WHAT IT READS IS OF BULK AT MOST 1048576: true; the input reads as it did. -/
def boxesMergeSpecUptoRow : OpenClaim := { program := "ytamnnngilmgbgaa", sum := "9d7b0d27757ad5da4ba8a2a872e1ffa4f49980f2c21fe65012cc0ecf2ed3efd3", func := "podium/podiumlaw35.BoxesMergeSpec", spec := "boxesMergeSpec", inPlace := ["internal/bytealg.Compare"], unfollowed := true, recurses := true, apart := false, narrowed := true }
def BoxesMergeSpecUptoSaid : Prop := boxesMergeSpecUptoRow.holds Try.pinned (OpenSpec.upto boxesMergeSpecSpec)

/-- 'podiumlaw35.BoxesJoin', WHERE WHAT IT READS IS OF BULK AT MOST 1048576: true; the input reads as it did. -/
def boxesJoinUptoRow : OpenClaim := { program := "ytamnnngilmgbgaa", sum := "9d7b0d27757ad5da4ba8a2a872e1ffa4f49980f2c21fe65012cc0ecf2ed3efd3", func := "podium/podiumlaw35.BoxesJoin", spec := "boxesJoin", inPlace := ["internal/bytealg.Compare"], unfollowed := true, recurses := true, apart := false, narrowed := true }
def BoxesJoinUptoSaid : Prop := boxesJoinUptoRow.holds Try.pinned (OpenSpec.upto boxesJoinSpec)

/-- 'podiumlaw35.BoxesGiven', WHERE WHAT IT READS IS OF BULK AT MOST 1048576: true; the input reads as it did. -/
def boxesGivenUptoRow : OpenClaim := { program := "ytamnnngilmgbgaa", sum := "9d7b0d27757ad5da4ba8a2a872e1ffa4f49980f2c21fe65012cc0ecf2ed3efd3", func := "podium/podiumlaw35.BoxesGiven", spec := "boxesGiven", inPlace := ["internal/bytealg.Compare"], unfollowed := true, recurses := true, apart := false, narrowed := true }
def BoxesGivenUptoSaid : Prop := boxesGivenUptoRow.holds Try.pinned (OpenSpec.upto boxesGivenSpec)

/-- 'podiumlaw35.BoxesOne', WHERE WHAT IT READS IS OF BULK AT MOST 1048576: true; the input reads as it did. -/
def boxesOneUptoRow : OpenClaim := { program := "ytamnnngilmgbgaa", sum := "9d7b0d27757ad5da4ba8a2a872e1ffa4f49980f2c21fe65012cc0ecf2ed3efd3", func := "podium/podiumlaw35.BoxesOne", spec := "boxesOne", inPlace := ["internal/bytealg.Compare"], unfollowed := true, recurses := true, apart := false, narrowed := true }
def BoxesOneUptoSaid : Prop := boxesOneUptoRow.holds Try.pinned (OpenSpec.upto boxesOneSpec)

end Rows
end Go.Proofs.Ytamnnngilmgbgaa
