/-
  No cell of these rows narrows 'for every input' (looked for: loops, veiled, ifaces, maps, wideKeys, modest, calm, conditions, laid).
  DERIVED. THE GIVEN ROWS OF THIS SEAT. 11 by the template 'for every input the law returns true; each argument reads behind the call as it read before'; 0 by the template 'total and deterministic' (their statements: YtdiknopliedddaaTotals.lean).
  GIVEN WITH THE SEED: the statements are not yours to turn. If you find one false, say at which input.
  Laid BY PROGRAM, IN A SANDBOX (cutbox-rows.mjs): the forced cells as the released guide's own fill.sh prints them over the translation c15bca575b5a12c4… (all of the seat's roots in one cut). By AI agents, Wed Nov 11 2026. No macro, syntax, notation, axiom, sorry.
-/
import Derived.Test.YtdiknopliedddaaChecked
import GoSem.Claim
import GoSem.ClaimJoined
import GoSem.ClaimMapViews
import Derived.JoinedTies
import Derived.KernelRfl
namespace Go.Proofs.Ytdiknopliedddaa
/- THE CELL 'sum', in the pinned program and in every row, IS THE sha256 OF THE DUMP (.gsa) THAT YtdiknopliedddaaProg.lean LOADS. Nothing in Lean hashes anything: it is a label: what it is worth is what the hold of that sum in a sandbox is worth. -/
noncomputable def Try.pinned : Pinned := { name := "ytdiknopliedddaa", sum := "c15bca575b5a12c4cc24634bbe3fe0fc11b2d3032a193bf8362166d213ab4a9d", checked := Try.checked }
namespace Rows
def none {H : Type} : Left H := { results := [], args := [] }

/-- 'podiumlaw12.FieldSpec': WHATEVER THE INPUT: true; the input reads as it did. -/
def fieldSpecSpec : ChangeSpec := { name := "fieldSpec", fn := fun _ => fun
  | [d1, d2] => { results := [.lit (.bool true)], args := [d1, d2] }
  | _ => none }
def fieldSpecRow : OpenClaim := { program := "ytdiknopliedddaa", sum := "c15bca575b5a12c4cc24634bbe3fe0fc11b2d3032a193bf8362166d213ab4a9d", func := "podium/podiumlaw12.FieldSpec", spec := "fieldSpec", unfollowed := true, recurses := true, apart := false }
def FieldSpecSaid : Prop := fieldSpecRow.holds Try.pinned (OpenSpec.ofChange fieldSpecSpec)

/-- ITS FALSE NEIGHBOUR: 'it returns false'. Refute it at one input. -/
def fieldSpecWrong : ChangeSpec := { name := "fieldSpec", fn := fun _ => fun
  | [d1, d2] => { results := [.lit (.bool false)], args := [d1, d2] }
  | _ => none }
def FieldSpecWrongFalsely : Prop := fieldSpecRow.holds Try.pinned (OpenSpec.ofChange fieldSpecWrong)

/-- 'podiumlaw12.FieldPolySpec': WHATEVER THE INPUT: true; the input reads as it did. -/
def fieldPolySpecSpec : ChangeSpec := { name := "fieldPolySpec", fn := fun _ => fun
  | [d1, d2, d3] => { results := [.lit (.bool true)], args := [d1, d2, d3] }
  | _ => none }
def fieldPolySpecRow : OpenClaim := { program := "ytdiknopliedddaa", sum := "c15bca575b5a12c4cc24634bbe3fe0fc11b2d3032a193bf8362166d213ab4a9d", func := "podium/podiumlaw12.FieldPolySpec", spec := "fieldPolySpec", unfollowed := true, recurses := true, apart := false }
def FieldPolySpecSaid : Prop := fieldPolySpecRow.holds Try.pinned (OpenSpec.ofChange fieldPolySpecSpec)

/-- ITS FALSE NEIGHBOUR: 'it returns false'. Refute it at one input. -/
def fieldPolySpecWrong : ChangeSpec := { name := "fieldPolySpec", fn := fun _ => fun
  | [d1, d2, d3] => { results := [.lit (.bool false)], args := [d1, d2, d3] }
  | _ => none }
def FieldPolySpecWrongFalsely : Prop := fieldPolySpecRow.holds Try.pinned (OpenSpec.ofChange fieldPolySpecWrong)

/-- 'podiumlaw12.FieldLaws': WHATEVER THE INPUT: true; the input reads as it did. -/
def fieldLawsSpec : ChangeSpec := { name := "fieldLaws", fn := fun _ => fun
  | [d1, d2, d3] => { results := [.lit (.bool true)], args := [d1, d2, d3] }
  | _ => none }
def fieldLawsRow : OpenClaim := { program := "ytdiknopliedddaa", sum := "c15bca575b5a12c4cc24634bbe3fe0fc11b2d3032a193bf8362166d213ab4a9d", func := "podium/podiumlaw12.FieldLaws", spec := "fieldLaws", unfollowed := true, recurses := true, apart := false }
def FieldLawsSaid : Prop := fieldLawsRow.holds Try.pinned (OpenSpec.ofChange fieldLawsSpec)

/-- ITS FALSE NEIGHBOUR: 'it returns false'. Refute it at one input. -/
def fieldLawsWrong : ChangeSpec := { name := "fieldLaws", fn := fun _ => fun
  | [d1, d2, d3] => { results := [.lit (.bool false)], args := [d1, d2, d3] }
  | _ => none }
def FieldLawsWrongFalsely : Prop := fieldLawsRow.holds Try.pinned (OpenSpec.ofChange fieldLawsWrong)

/-- 'podiumlaw12.FieldThrough': WHATEVER THE INPUT: true; the input reads as it did. -/
def fieldThroughSpec : ChangeSpec := { name := "fieldThrough", fn := fun _ => fun
  | [d1, d2, d3] => { results := [.lit (.bool true)], args := [d1, d2, d3] }
  | _ => none }
def fieldThroughRow : OpenClaim := { program := "ytdiknopliedddaa", sum := "c15bca575b5a12c4cc24634bbe3fe0fc11b2d3032a193bf8362166d213ab4a9d", func := "podium/podiumlaw12.FieldThrough", spec := "fieldThrough", unfollowed := true, recurses := true, apart := false }
def FieldThroughSaid : Prop := fieldThroughRow.holds Try.pinned (OpenSpec.ofChange fieldThroughSpec)

/-- ITS FALSE NEIGHBOUR: 'it returns false'. Refute it at one input. -/
def fieldThroughWrong : ChangeSpec := { name := "fieldThrough", fn := fun _ => fun
  | [d1, d2, d3] => { results := [.lit (.bool false)], args := [d1, d2, d3] }
  | _ => none }
def FieldThroughWrongFalsely : Prop := fieldThroughRow.holds Try.pinned (OpenSpec.ofChange fieldThroughWrong)

/-- 'podiumlaw12.FieldOrder': WHATEVER THE INPUT: true; the input reads as it did. -/
def fieldOrderSpec : ChangeSpec := { name := "fieldOrder", fn := fun _ => fun
  | [d1, d2, d3, d4] => { results := [.lit (.bool true)], args := [d1, d2, d3, d4] }
  | _ => none }
def fieldOrderRow : OpenClaim := { program := "ytdiknopliedddaa", sum := "c15bca575b5a12c4cc24634bbe3fe0fc11b2d3032a193bf8362166d213ab4a9d", func := "podium/podiumlaw12.FieldOrder", spec := "fieldOrder", unfollowed := true, recurses := true, apart := false }
def FieldOrderSaid : Prop := fieldOrderRow.holds Try.pinned (OpenSpec.ofChange fieldOrderSpec)

/-- ITS FALSE NEIGHBOUR: 'it returns false'. Refute it at one input. -/
def fieldOrderWrong : ChangeSpec := { name := "fieldOrder", fn := fun _ => fun
  | [d1, d2, d3, d4] => { results := [.lit (.bool false)], args := [d1, d2, d3, d4] }
  | _ => none }
def FieldOrderWrongFalsely : Prop := fieldOrderRow.holds Try.pinned (OpenSpec.ofChange fieldOrderWrong)

/-- 'podiumlaw12.FieldSums': WHATEVER THE INPUT: true; the input reads as it did. -/
def fieldSumsSpec : ChangeSpec := { name := "fieldSums", fn := fun _ => fun
  | [d1, d2, d3, d4] => { results := [.lit (.bool true)], args := [d1, d2, d3, d4] }
  | _ => none }
def fieldSumsRow : OpenClaim := { program := "ytdiknopliedddaa", sum := "c15bca575b5a12c4cc24634bbe3fe0fc11b2d3032a193bf8362166d213ab4a9d", func := "podium/podiumlaw12.FieldSums", spec := "fieldSums", unfollowed := true, recurses := true, apart := false }
def FieldSumsSaid : Prop := fieldSumsRow.holds Try.pinned (OpenSpec.ofChange fieldSumsSpec)

/-- ITS FALSE NEIGHBOUR: 'it returns false'. Refute it at one input. -/
def fieldSumsWrong : ChangeSpec := { name := "fieldSums", fn := fun _ => fun
  | [d1, d2, d3, d4] => { results := [.lit (.bool false)], args := [d1, d2, d3, d4] }
  | _ => none }
def FieldSumsWrongFalsely : Prop := fieldSumsRow.holds Try.pinned (OpenSpec.ofChange fieldSumsWrong)

/-- 'podiumlaw33.SharesSpec': WHATEVER THE INPUT: true; the input reads as it did. -/
def sharesSpecSpec : ChangeSpec := { name := "sharesSpec", fn := fun _ => fun
  | [d1, d2, d3, d4] => { results := [.lit (.bool true)], args := [d1, d2, d3, d4] }
  | _ => none }
def sharesSpecRow : OpenClaim := { program := "ytdiknopliedddaa", sum := "c15bca575b5a12c4cc24634bbe3fe0fc11b2d3032a193bf8362166d213ab4a9d", func := "podium/podiumlaw33.SharesSpec", spec := "sharesSpec", unfollowed := true, recurses := true, apart := false }
def SharesSpecSaid : Prop := sharesSpecRow.holds Try.pinned (OpenSpec.ofChange sharesSpecSpec)

/-- ITS FALSE NEIGHBOUR: 'it returns false'. Refute it at one input. -/
def sharesSpecWrong : ChangeSpec := { name := "sharesSpec", fn := fun _ => fun
  | [d1, d2, d3, d4] => { results := [.lit (.bool false)], args := [d1, d2, d3, d4] }
  | _ => none }
def SharesSpecWrongFalsely : Prop := sharesSpecRow.holds Try.pinned (OpenSpec.ofChange sharesSpecWrong)

/-- 'podiumlaw33.SharesEnough': WHATEVER THE INPUT: true; the input reads as it did. -/
def sharesEnoughSpec : ChangeSpec := { name := "sharesEnough", fn := fun _ => fun
  | [d1, d2, d3, d4, d5] => { results := [.lit (.bool true)], args := [d1, d2, d3, d4, d5] }
  | _ => none }
def sharesEnoughRow : OpenClaim := { program := "ytdiknopliedddaa", sum := "c15bca575b5a12c4cc24634bbe3fe0fc11b2d3032a193bf8362166d213ab4a9d", func := "podium/podiumlaw33.SharesEnough", spec := "sharesEnough", unfollowed := true, recurses := true, apart := false }
def SharesEnoughSaid : Prop := sharesEnoughRow.holds Try.pinned (OpenSpec.ofChange sharesEnoughSpec)

/-- ITS FALSE NEIGHBOUR: 'it returns false'. Refute it at one input. -/
def sharesEnoughWrong : ChangeSpec := { name := "sharesEnough", fn := fun _ => fun
  | [d1, d2, d3, d4, d5] => { results := [.lit (.bool false)], args := [d1, d2, d3, d4, d5] }
  | _ => none }
def SharesEnoughWrongFalsely : Prop := sharesEnoughRow.holds Try.pinned (OpenSpec.ofChange sharesEnoughWrong)

/-- 'podiumlaw33.SharesHidden': WHATEVER THE INPUT: true; the input reads as it did. -/
def sharesHiddenSpec : ChangeSpec := { name := "sharesHidden", fn := fun _ => fun
  | [d1, d2, d3, d4, d5] => { results := [.lit (.bool true)], args := [d1, d2, d3, d4, d5] }
  | _ => none }
def sharesHiddenRow : OpenClaim := { program := "ytdiknopliedddaa", sum := "c15bca575b5a12c4cc24634bbe3fe0fc11b2d3032a193bf8362166d213ab4a9d", func := "podium/podiumlaw33.SharesHidden", spec := "sharesHidden", unfollowed := true, recurses := true, apart := false }
def SharesHiddenSaid : Prop := sharesHiddenRow.holds Try.pinned (OpenSpec.ofChange sharesHiddenSpec)

/-- ITS FALSE NEIGHBOUR: 'it returns false'. Refute it at one input. -/
def sharesHiddenWrong : ChangeSpec := { name := "sharesHidden", fn := fun _ => fun
  | [d1, d2, d3, d4, d5] => { results := [.lit (.bool false)], args := [d1, d2, d3, d4, d5] }
  | _ => none }
def SharesHiddenWrongFalsely : Prop := sharesHiddenRow.holds Try.pinned (OpenSpec.ofChange sharesHiddenWrong)

/-- 'podiumlaw33.SharesAltered': WHATEVER THE INPUT: true; the input reads as it did. -/
def sharesAlteredSpec : ChangeSpec := { name := "sharesAltered", fn := fun _ => fun
  | [d1, d2, d3, d4] => { results := [.lit (.bool true)], args := [d1, d2, d3, d4] }
  | _ => none }
def sharesAlteredRow : OpenClaim := { program := "ytdiknopliedddaa", sum := "c15bca575b5a12c4cc24634bbe3fe0fc11b2d3032a193bf8362166d213ab4a9d", func := "podium/podiumlaw33.SharesAltered", spec := "sharesAltered", unfollowed := true, recurses := true, apart := false }
def SharesAlteredSaid : Prop := sharesAlteredRow.holds Try.pinned (OpenSpec.ofChange sharesAlteredSpec)

/-- ITS FALSE NEIGHBOUR: 'it returns false'. Refute it at one input. -/
def sharesAlteredWrong : ChangeSpec := { name := "sharesAltered", fn := fun _ => fun
  | [d1, d2, d3, d4] => { results := [.lit (.bool false)], args := [d1, d2, d3, d4] }
  | _ => none }
def SharesAlteredWrongFalsely : Prop := sharesAlteredRow.holds Try.pinned (OpenSpec.ofChange sharesAlteredWrong)

/-- 'podiumlaw33.SharesSum': WHATEVER THE INPUT: true; the input reads as it did. -/
def sharesSumSpec : ChangeSpec := { name := "sharesSum", fn := fun _ => fun
  | [d1, d2, d3, d4, d5] => { results := [.lit (.bool true)], args := [d1, d2, d3, d4, d5] }
  | _ => none }
def sharesSumRow : OpenClaim := { program := "ytdiknopliedddaa", sum := "c15bca575b5a12c4cc24634bbe3fe0fc11b2d3032a193bf8362166d213ab4a9d", func := "podium/podiumlaw33.SharesSum", spec := "sharesSum", unfollowed := true, recurses := true, apart := false }
def SharesSumSaid : Prop := sharesSumRow.holds Try.pinned (OpenSpec.ofChange sharesSumSpec)

/-- ITS FALSE NEIGHBOUR: 'it returns false'. Refute it at one input. -/
def sharesSumWrong : ChangeSpec := { name := "sharesSum", fn := fun _ => fun
  | [d1, d2, d3, d4, d5] => { results := [.lit (.bool false)], args := [d1, d2, d3, d4, d5] }
  | _ => none }
def SharesSumWrongFalsely : Prop := sharesSumRow.holds Try.pinned (OpenSpec.ofChange sharesSumWrong)

/- THE SECOND FORM. 'bulk': how many values and letters a reading holds, each counted each time it is reached (what is shared counts as often as it is met; a slice's spare places count too). A statement '..UptoSaid' is the law's where the arguments, and the package variables that the reading takes, are together of bulk at most 1048576: NARROWER than '..Said'. Prove '..Said' where nothing that the law and all that it calls make is longer than what came in: it says more and counts as full. Else prove '..UptoSaid'. A law counts once. -/
mutual
def uptoBulk {H : Type} : DataW H → Nat
  | .lit (.string bytes) => bytes.length + 1
  | .lit _ => 1
  | .nil => 1
  | .ptr d => uptoBulk d + 1
  | .slice elems spare => uptoBulkAll elems + uptoBulkAll spare + 1
  | .agg parts => uptoBulkAll parts + 1
  | .iface _ d => uptoBulk d + 1
  | .map entries => uptoBulkEntries entries + 1
  | .held _ => 1
def uptoBulkAll {H : Type} : List (DataW H) → Nat
  | [] => 0
  | d :: r => uptoBulk d + uptoBulkAll r
def uptoBulkEntries {H : Type} : List (Lit × DataW H) → Nat
  | [] => 0
  | x :: r => uptoBulkEntry x + uptoBulkEntries r
def uptoBulkEntry {H : Type} : Lit × DataW H → Nat
  | (.string bytes, d) => bytes.length + uptoBulk d + 1
  | (_, d) => uptoBulk d + 1
 end
def uptoSmall : (H : Type) → List (DataW H) → Bool := fun _ ds => decide (uptoBulkAll ds ≤ 1048576)
def OpenSpec.upto (s : _root_.Go.ChangeSpec) : _root_.Go.OpenSpec := { _root_.Go.OpenSpec.ofChange s with cond := some uptoSmall }

/-- 'podiumlaw12.FieldSpec', WHERE WHAT IT READS IS OF BULK AT MOST 1048576: true; the input reads as it did. -/
def fieldSpecUptoRow : OpenClaim := { program := "ytdiknopliedddaa", sum := "c15bca575b5a12c4cc24634bbe3fe0fc11b2d3032a193bf8362166d213ab4a9d", func := "podium/podiumlaw12.FieldSpec", spec := "fieldSpec", unfollowed := true, recurses := true, apart := false, narrowed := true }
def FieldSpecUptoSaid : Prop := fieldSpecUptoRow.holds Try.pinned (OpenSpec.upto fieldSpecSpec)

/-- 'podiumlaw12.FieldPolySpec', WHERE WHAT IT READS IS OF BULK AT MOST 1048576: true; the input reads as it did. -/
def fieldPolySpecUptoRow : OpenClaim := { program := "ytdiknopliedddaa", sum := "c15bca575b5a12c4cc24634bbe3fe0fc11b2d3032a193bf8362166d213ab4a9d", func := "podium/podiumlaw12.FieldPolySpec", spec := "fieldPolySpec", unfollowed := true, recurses := true, apart := false, narrowed := true }
def FieldPolySpecUptoSaid : Prop := fieldPolySpecUptoRow.holds Try.pinned (OpenSpec.upto fieldPolySpecSpec)

/-- 'podiumlaw12.FieldLaws', WHERE WHAT IT READS IS OF BULK AT MOST 1048576: true; the input reads as it did. -/
def fieldLawsUptoRow : OpenClaim := { program := "ytdiknopliedddaa", sum := "c15bca575b5a12c4cc24634bbe3fe0fc11b2d3032a193bf8362166d213ab4a9d", func := "podium/podiumlaw12.FieldLaws", spec := "fieldLaws", unfollowed := true, recurses := true, apart := false, narrowed := true }
def FieldLawsUptoSaid : Prop := fieldLawsUptoRow.holds Try.pinned (OpenSpec.upto fieldLawsSpec)

/-- 'podiumlaw12.FieldThrough', WHERE WHAT IT READS IS OF BULK AT MOST 1048576: true; the input reads as it did. -/
def fieldThroughUptoRow : OpenClaim := { program := "ytdiknopliedddaa", sum := "c15bca575b5a12c4cc24634bbe3fe0fc11b2d3032a193bf8362166d213ab4a9d", func := "podium/podiumlaw12.FieldThrough", spec := "fieldThrough", unfollowed := true, recurses := true, apart := false, narrowed := true }
def FieldThroughUptoSaid : Prop := fieldThroughUptoRow.holds Try.pinned (OpenSpec.upto fieldThroughSpec)

/-- 'podiumlaw12.FieldOrder', WHERE WHAT IT READS IS OF BULK AT MOST 1048576: true; the input reads as it did. -/
def fieldOrderUptoRow : OpenClaim := { program := "ytdiknopliedddaa", sum := "c15bca575b5a12c4cc24634bbe3fe0fc11b2d3032a193bf8362166d213ab4a9d", func := "podium/podiumlaw12.FieldOrder", spec := "fieldOrder", unfollowed := true, recurses := true, apart := false, narrowed := true }
def FieldOrderUptoSaid : Prop := fieldOrderUptoRow.holds Try.pinned (OpenSpec.upto fieldOrderSpec)

/-- 'podiumlaw12.FieldSums', WHERE WHAT IT READS IS OF BULK AT MOST 1048576: true; the input reads as it did. -/
def fieldSumsUptoRow : OpenClaim := { program := "ytdiknopliedddaa", sum := "c15bca575b5a12c4cc24634bbe3fe0fc11b2d3032a193bf8362166d213ab4a9d", func := "podium/podiumlaw12.FieldSums", spec := "fieldSums", unfollowed := true, recurses := true, apart := false, narrowed := true }
def FieldSumsUptoSaid : Prop := fieldSumsUptoRow.holds Try.pinned (OpenSpec.upto fieldSumsSpec)

/-- 'podiumlaw33.SharesSpec', WHERE WHAT IT READS IS OF BULK AT MOST 1048576: true; the input reads as it did. -/
def sharesSpecUptoRow : OpenClaim := { program := "ytdiknopliedddaa", sum := "c15bca575b5a12c4cc24634bbe3fe0fc11b2d3032a193bf8362166d213ab4a9d", func := "podium/podiumlaw33.SharesSpec", spec := "sharesSpec", unfollowed := true, recurses := true, apart := false, narrowed := true }
def SharesSpecUptoSaid : Prop := sharesSpecUptoRow.holds Try.pinned (OpenSpec.upto sharesSpecSpec)

/-- 'podiumlaw33.SharesEnough', WHERE WHAT IT READS IS OF BULK AT MOST 1048576: true; the input reads as it did. -/
def sharesEnoughUptoRow : OpenClaim := { program := "ytdiknopliedddaa", sum := "c15bca575b5a12c4cc24634bbe3fe0fc11b2d3032a193bf8362166d213ab4a9d", func := "podium/podiumlaw33.SharesEnough", spec := "sharesEnough", unfollowed := true, recurses := true, apart := false, narrowed := true }
def SharesEnoughUptoSaid : Prop := sharesEnoughUptoRow.holds Try.pinned (OpenSpec.upto sharesEnoughSpec)

/-- 'podiumlaw33.SharesHidden', WHERE WHAT IT READS IS OF BULK AT MOST 1048576: true; the input reads as it did. -/
def sharesHiddenUptoRow : OpenClaim := { program := "ytdiknopliedddaa", sum := "c15bca575b5a12c4cc24634bbe3fe0fc11b2d3032a193bf8362166d213ab4a9d", func := "podium/podiumlaw33.SharesHidden", spec := "sharesHidden", unfollowed := true, recurses := true, apart := false, narrowed := true }
def SharesHiddenUptoSaid : Prop := sharesHiddenUptoRow.holds Try.pinned (OpenSpec.upto sharesHiddenSpec)

/-- 'podiumlaw33.SharesAltered', WHERE WHAT IT READS IS OF BULK AT MOST 1048576: true; the input reads as it did. -/
def sharesAlteredUptoRow : OpenClaim := { program := "ytdiknopliedddaa", sum := "c15bca575b5a12c4cc24634bbe3fe0fc11b2d3032a193bf8362166d213ab4a9d", func := "podium/podiumlaw33.SharesAltered", spec := "sharesAltered", unfollowed := true, recurses := true, apart := false, narrowed := true }
def SharesAlteredUptoSaid : Prop := sharesAlteredUptoRow.holds Try.pinned (OpenSpec.upto sharesAlteredSpec)

/-- 'podiumlaw33.SharesSum', WHERE WHAT IT READS IS OF BULK AT MOST 1048576: true; the input reads as it did. -/
def sharesSumUptoRow : OpenClaim := { program := "ytdiknopliedddaa", sum := "c15bca575b5a12c4cc24634bbe3fe0fc11b2d3032a193bf8362166d213ab4a9d", func := "podium/podiumlaw33.SharesSum", spec := "sharesSum", unfollowed := true, recurses := true, apart := false, narrowed := true }
def SharesSumUptoSaid : Prop := sharesSumUptoRow.holds Try.pinned (OpenSpec.upto sharesSumSpec)

end Rows
end Go.Proofs.Ytdiknopliedddaa
