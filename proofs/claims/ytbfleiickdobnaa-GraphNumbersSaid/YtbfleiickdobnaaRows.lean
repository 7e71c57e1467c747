/-
  No cell of these rows narrows 'for every input' (looked for: loops, veiled, ifaces, maps, wideKeys, modest, calm, conditions, laid).
  DERIVED. THE GIVEN ROWS OF THIS SEAT. 7 by the template 'for every input the law returns true; each argument reads behind the call as it read before'; 0 by the template 'total and deterministic' (their statements: YtbfleiickdobnaaTotals.lean).
  GIVEN WITH THE SEED: the statements are not yours to turn. If you find one false, say at which input.
  Laid BY PROGRAM, IN A SANDBOX (cutbox-rows.mjs): the forced cells as the released guide's own fill.sh prints them over the translation ef60cab85d30229f… (all of the seat's roots in one cut). By AI agents, Wed Nov 11 2026. No macro, syntax, notation, axiom, sorry.
-/
import Derived.Test.YtbfleiickdobnaaChecked
import GoSem.Claim
import GoSem.ClaimJoined
import GoSem.ClaimMapViews
import Derived.JoinedTies
import Derived.KernelRfl
namespace Go.Proofs.Ytbfleiickdobnaa
/- THE CELL 'sum', in the pinned program and in every row, IS THE sha256 OF THE DUMP (.gsa) THAT YtbfleiickdobnaaProg.lean LOADS. Nothing in Lean hashes anything: it is a label: what it is worth is what the hold of that sum in a sandbox is worth. -/
noncomputable def Try.pinned : Pinned := { name := "ytbfleiickdobnaa", sum := "ef60cab85d30229fa4e49c9ccec9fc45c67647487b6414662624be4b719e2126", checked := Try.checked }
namespace Rows
def none {H : Type} : Left H := { results := [], args := [] }

/-- 'podiumlaw37.GraphSpec': WHATEVER THE INPUT: true; the input reads as it did. -/
def graphSpecSpec : ChangeSpec := { name := "graphSpec", fn := fun _ => fun
  | [d] => { results := [.lit (.bool true)], args := [d] }
  | _ => none }
def graphSpecRow : OpenClaim := { program := "ytbfleiickdobnaa", sum := "ef60cab85d30229fa4e49c9ccec9fc45c67647487b6414662624be4b719e2126", func := "podium/podiumlaw37.GraphSpec", spec := "graphSpec", unfollowed := true, recurses := true, apart := false }
def GraphSpecSaid : Prop := graphSpecRow.holds Try.pinned (OpenSpec.ofChange graphSpecSpec)

/-- ITS FALSE NEIGHBOUR: 'it returns false'. Refute it at one input. -/
def graphSpecWrong : ChangeSpec := { name := "graphSpec", fn := fun _ => fun
  | [d] => { results := [.lit (.bool false)], args := [d] }
  | _ => none }
def GraphSpecWrongFalsely : Prop := graphSpecRow.holds Try.pinned (OpenSpec.ofChange graphSpecWrong)

/-- 'podiumlaw37.GraphResistSpec': WHATEVER THE INPUT: true; the input reads as it did. -/
def graphResistSpecSpec : ChangeSpec := { name := "graphResistSpec", fn := fun _ => fun
  | [d1, d2] => { results := [.lit (.bool true)], args := [d1, d2] }
  | _ => none }
def graphResistSpecRow : OpenClaim := { program := "ytbfleiickdobnaa", sum := "ef60cab85d30229fa4e49c9ccec9fc45c67647487b6414662624be4b719e2126", func := "podium/podiumlaw37.GraphResistSpec", spec := "graphResistSpec", unfollowed := true, recurses := true, apart := false }
def GraphResistSpecSaid : Prop := graphResistSpecRow.holds Try.pinned (OpenSpec.ofChange graphResistSpecSpec)

/-- ITS FALSE NEIGHBOUR: 'it returns false'. Refute it at one input. -/
def graphResistSpecWrong : ChangeSpec := { name := "graphResistSpec", fn := fun _ => fun
  | [d1, d2] => { results := [.lit (.bool false)], args := [d1, d2] }
  | _ => none }
def GraphResistSpecWrongFalsely : Prop := graphResistSpecRow.holds Try.pinned (OpenSpec.ofChange graphResistSpecWrong)

/-- 'podiumlaw37.GraphOne': WHATEVER THE INPUT: true; the input reads as it did. -/
def graphOneSpec : ChangeSpec := { name := "graphOne", fn := fun _ => fun
  | [d] => { results := [.lit (.bool true)], args := [d] }
  | _ => none }
def graphOneRow : OpenClaim := { program := "ytbfleiickdobnaa", sum := "ef60cab85d30229fa4e49c9ccec9fc45c67647487b6414662624be4b719e2126", func := "podium/podiumlaw37.GraphOne", spec := "graphOne", unfollowed := true, recurses := true, apart := false }
def GraphOneSaid : Prop := graphOneRow.holds Try.pinned (OpenSpec.ofChange graphOneSpec)

/-- ITS FALSE NEIGHBOUR: 'it returns false'. Refute it at one input. -/
def graphOneWrong : ChangeSpec := { name := "graphOne", fn := fun _ => fun
  | [d] => { results := [.lit (.bool false)], args := [d] }
  | _ => none }
def GraphOneWrongFalsely : Prop := graphOneRow.holds Try.pinned (OpenSpec.ofChange graphOneWrong)

/-- 'podiumlaw37.GraphTree': WHATEVER THE INPUT: true; the input reads as it did. -/
def graphTreeSpec : ChangeSpec := { name := "graphTree", fn := fun _ => fun
  | [d1, d2] => { results := [.lit (.bool true)], args := [d1, d2] }
  | _ => none }
def graphTreeRow : OpenClaim := { program := "ytbfleiickdobnaa", sum := "ef60cab85d30229fa4e49c9ccec9fc45c67647487b6414662624be4b719e2126", func := "podium/podiumlaw37.GraphTree", spec := "graphTree", unfollowed := true, recurses := true, apart := false }
def GraphTreeSaid : Prop := graphTreeRow.holds Try.pinned (OpenSpec.ofChange graphTreeSpec)

/-- ITS FALSE NEIGHBOUR: 'it returns false'. Refute it at one input. -/
def graphTreeWrong : ChangeSpec := { name := "graphTree", fn := fun _ => fun
  | [d1, d2] => { results := [.lit (.bool false)], args := [d1, d2] }
  | _ => none }
def GraphTreeWrongFalsely : Prop := graphTreeRow.holds Try.pinned (OpenSpec.ofChange graphTreeWrong)

/-- 'podiumlaw37.GraphMore': WHATEVER THE INPUT: true; the input reads as it did. -/
def graphMoreSpec : ChangeSpec := { name := "graphMore", fn := fun _ => fun
  | [d1, d2, d3, d4] => { results := [.lit (.bool true)], args := [d1, d2, d3, d4] }
  | _ => none }
def graphMoreRow : OpenClaim := { program := "ytbfleiickdobnaa", sum := "ef60cab85d30229fa4e49c9ccec9fc45c67647487b6414662624be4b719e2126", func := "podium/podiumlaw37.GraphMore", spec := "graphMore", unfollowed := true, recurses := true, apart := false }
def GraphMoreSaid : Prop := graphMoreRow.holds Try.pinned (OpenSpec.ofChange graphMoreSpec)

/-- ITS FALSE NEIGHBOUR: 'it returns false'. Refute it at one input. -/
def graphMoreWrong : ChangeSpec := { name := "graphMore", fn := fun _ => fun
  | [d1, d2, d3, d4] => { results := [.lit (.bool false)], args := [d1, d2, d3, d4] }
  | _ => none }
def GraphMoreWrongFalsely : Prop := graphMoreRow.holds Try.pinned (OpenSpec.ofChange graphMoreWrong)

/-- 'podiumlaw37.GraphNumbers': WHATEVER THE INPUT: true; the input reads as it did. -/
def graphNumbersSpec : ChangeSpec := { name := "graphNumbers", fn := fun _ => fun
  | [d1, d2, d3, d4, d5, d6] => { results := [.lit (.bool true)], args := [d1, d2, d3, d4, d5, d6] }
  | _ => none }
def graphNumbersRow : OpenClaim := { program := "ytbfleiickdobnaa", sum := "ef60cab85d30229fa4e49c9ccec9fc45c67647487b6414662624be4b719e2126", func := "podium/podiumlaw37.GraphNumbers", spec := "graphNumbers", unfollowed := true, recurses := true, apart := false }
def GraphNumbersSaid : Prop := graphNumbersRow.holds Try.pinned (OpenSpec.ofChange graphNumbersSpec)

/-- ITS FALSE NEIGHBOUR: 'it returns false'. Refute it at one input. -/
def graphNumbersWrong : ChangeSpec := { name := "graphNumbers", fn := fun _ => fun
  | [d1, d2, d3, d4, d5, d6] => { results := [.lit (.bool false)], args := [d1, d2, d3, d4, d5, d6] }
  | _ => none }
def GraphNumbersWrongFalsely : Prop := graphNumbersRow.holds Try.pinned (OpenSpec.ofChange graphNumbersWrong)

/-- 'podiumlaw37.GraphResist': WHATEVER THE INPUT: true; the input reads as it did. -/
def graphResistSpec : ChangeSpec := { name := "graphResist", fn := fun _ => fun
  | [d1, d2, d3] => { results := [.lit (.bool true)], args := [d1, d2, d3] }
  | _ => none }
def graphResistRow : OpenClaim := { program := "ytbfleiickdobnaa", sum := "ef60cab85d30229fa4e49c9ccec9fc45c67647487b6414662624be4b719e2126", func := "podium/podiumlaw37.GraphResist", spec := "graphResist", unfollowed := true, recurses := true, apart := false }
def GraphResistSaid : Prop := graphResistRow.holds Try.pinned (OpenSpec.ofChange graphResistSpec)

/-- ITS FALSE NEIGHBOUR: 'it returns false'. Refute it at one input. -/
def graphResistWrong : ChangeSpec := { name := "graphResist", fn := fun _ => fun
  | [d1, d2, d3] => { results := [.lit (.bool false)], args := [d1, d2, d3] }
  | _ => none }
def GraphResistWrongFalsely : Prop := graphResistRow.holds Try.pinned (OpenSpec.ofChange graphResistWrong)

/- THE SECOND FORM. 'bulk': how many values and letters a reading holds, each counted each time it is reached (what is shared counts as often as it is met; a slice's spare places count too). A statement '..UptoSaid' is the law's where the arguments, and the package variables that the reading takes, are together of bulk at most 1048576: NARROWER than '..Said'. Prove '..Said' where nothing that the law and all that it calls make is longer than what came in: it says more and counts as full. Else prove '..UptoSaid'. A law counts once. -/
mutual
def uptoBulk {H : Type} : DataW H → Nat
  | .lit (.string bytes) => bytes.length + 1
  | .lit _ => 1
  | .nil => 1
  | .ptr d => uptoBulk d + 1
  | .slice elems spare => uptoBulkAll elems + uptoBulkAll spare + 1
  | .agg parts => uptoBulkAll parts + 1
  | .iface _ d => uptoBulk d + 1
  | .map entries => uptoBulkEntries entries + 1
  | .held _ => 1
def uptoBulkAll {H : Type} : List (DataW H) → Nat
  | [] => 0
  | d :: r => uptoBulk d + uptoBulkAll r
def uptoBulkEntries {H : Type} : List (Lit × DataW H) → Nat
  | [] => 0
  | x :: r => uptoBulkEntry x + uptoBulkEntries r
def uptoBulkEntry {H : Type} : Lit × DataW H → Nat
  | (.string bytes, d) => bytes.length + uptoBulk d + 1
  | (_, d) => uptoBulk d + 1
 end
def uptoSmall : (H : Type) → List (DataW H) → Bool := fun _ ds => decide (uptoBulkAll ds ≤ 1048576)
def OpenSpec.upto (s : _root_.Go.ChangeSpec) : _root_.Go.OpenSpec := { _root_.Go.OpenSpec.ofChange s with cond := some uptoSmall }

/-- 'podiumlaw37.GraphSpec', WHERE WHAT IT READS IS OF BULK AT MOST 1048576: true; the input reads as it did. -/
def graphSpecUptoRow : OpenClaim := { program := "ytbfleiickdobnaa", sum := "ef60cab85d30229fa4e49c9ccec9fc45c67647487b6414662624be4b719e2126", func := "podium/podiumlaw37.GraphSpec", spec := "graphSpec", unfollowed := true, recurses := true, apart := false, narrowed := true }
def GraphSpecUptoSaid : Prop := graphSpecUptoRow.holds Try.pinned (OpenSpec.upto graphSpecSpec)

/-- 'podiumlaw37.GraphResistSpec', WHERE WHAT IT READS IS OF BULK AT MOST 1048576: true; the input reads as it did. -/
def graphResistSpecUptoRow : OpenClaim := { program := "ytbfleiickdobnaa", sum := "ef60cab85d30229fa4e49c9ccec9fc45c67647487b6414662624be4b719e2126", func := "podium/podiumlaw37.GraphResistSpec", spec := "graphResistSpec", unfollowed := true, recurses := true, apart := false, narrowed := true }
def GraphResistSpecUptoSaid : Prop := graphResistSpecUptoRow.holds Try.pinned (OpenSpec.upto graphResistSpecSpec)

/-- 'podiumlaw37.GraphOne', WHERE WHAT IT READS IS OF BULK AT MOST 1048576: true; the input reads as it did. -/
def graphOneUptoRow : OpenClaim := { program := "ytbfleiickdobnaa", sum := "ef60cab85d30229fa4e49c9ccec9fc45c67647487b6414662624be4b719e2126", func := "podium/podiumlaw37.GraphOne", spec := "graphOne", unfollowed := true, recurses := true, apart := false, narrowed := true }
def GraphOneUptoSaid : Prop := graphOneUptoRow.holds Try.pinned (OpenSpec.upto graphOneSpec)

/-- 'podiumlaw37.GraphTree', WHERE WHAT IT READS IS OF BULK AT MOST 1048576: true; the input reads as it did. -/
def graphTreeUptoRow : OpenClaim := { program := "ytbfleiickdobnaa", sum := "ef60cab85d30229fa4e49c9ccec9fc45c67647487b6414662624be4b719e2126", func := "podium/podiumlaw37.GraphTree", spec := "graphTree", unfollowed := true, recurses := true, apart := false, narrowed := true }
def GraphTreeUptoSaid : Prop := graphTreeUptoRow.holds Try.pinned (OpenSpec.upto graphTreeSpec)

/-- 'podiumlaw37.GraphMore', WHERE WHAT IT READS IS OF BULK AT MOST 1048576: true; the input reads as it did. -/
def graphMoreUptoRow : OpenClaim := { program := "ytbfleiickdobnaa", sum := "ef60cab85d30229fa4e49c9ccec9fc45c67647487b6414662624be4b719e2126", func := "podium/podiumlaw37.GraphMore", spec := "graphMore", unfollowed := true, recurses := true, apart := false, narrowed := true }
def GraphMoreUptoSaid : Prop := graphMoreUptoRow.holds Try.pinned (OpenSpec.upto graphMoreSpec)

/-- 'podiumlaw37.GraphNumbers', WHERE WHAT IT READS IS OF BULK AT MOST 1048576: true; the input reads as it did. -/
def graphNumbersUptoRow : OpenClaim := { program := "ytbfleiickdobnaa", sum := "ef60cab85d30229fa4e49c9ccec9fc45c67647487b6414662624be4b719e2126", func := "podium/podiumlaw37.GraphNumbers", spec := "graphNumbers", unfollowed := true, recurses := true, apart := false, narrowed := true }
def GraphNumbersUptoSaid : Prop := graphNumbersUptoRow.holds Try.pinned (OpenSpec.upto graphNumbersSpec)

/-- 'podiumlaw37.GraphResist', WHERE WHAT IT READS IS OF BULK AT MOST 1048576: true; the input reads as it did. -/
def graphResistUptoRow : OpenClaim := { program := "ytbfleiickdobnaa", sum := "ef60cab85d30229fa4e49c9ccec9fc45c67647487b6414662624be4b719e2126", func := "podium/podiumlaw37.GraphResist", spec := "graphResist", unfollowed := true, recurses := true, apart := false, narrowed := true }
def GraphResistUptoSaid : Prop := graphResistUptoRow.holds Try.pinned (OpenSpec.upto graphResistSpec)

end Rows
end Go.Proofs.Ytbfleiickdobnaa
