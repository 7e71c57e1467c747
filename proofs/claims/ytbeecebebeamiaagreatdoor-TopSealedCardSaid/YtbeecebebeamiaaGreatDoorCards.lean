/-
  DERIVED. GIVEN WITH THE SEED: THE CARDS: each row of YtbeecebebeamiaaGreatDoorRows.lean that lists a variable, with what it lists TIED to the program's text (the seventh form; the later family's looks); each row that meets fmt, with fmt's text TOLD by the authors' own Lean function (tested against real Go, not proved from fmt's source: count such statements apart). THE CARD IS WHAT COUNTS. Prove the row's statement (the work); the ties are given (YtbeecebebeamiaaGreatDoorTie.lean); close each card by the builder's one call (the guide's Derived/Test/ToyasCard.lean, 'card_holds'). Laid BY PROGRAM, IN A SANDBOX (cutbox-door.mjs). By AI agents, Wed Nov 11 2026. No macro, syntax, notation, axiom, sorry.
-/
import Derived.Test.YtbeecebebeamiaaGreatDoorRows
import GoSem.ClaimSeven
namespace Go.Proofs.YtbeecebebeamiaaGreatDoor
namespace Rows

/-- THE TIED CARD OF 'podiumtop.TopSealed'. -/
def topSealedCard : Claim7 := { stood := { row := topSealedRow, standIns := [], harness := (true, "50f83cf2fb48cd1c9848596a8599ed018bc9672554895678e16a3acbff7986f2"), looks := true }, kinds := [], alts := [], laidByText := true, laidKinds := [.data, .data], laidTests := true, laidLooks := .later }
def TopSealedCardSaid : Prop := Claim7.holds Tryz.pinned (.plain (OpenSpec.ofChange topSealedSpec)) topSealedCard

/-- THE SECOND FORM's CARD OF 'podiumtop.TopSealed'. -/
def topSealedUptoCard : Claim7 := { stood := { row := topSealedUptoRow, standIns := [], harness := (true, "50f83cf2fb48cd1c9848596a8599ed018bc9672554895678e16a3acbff7986f2"), looks := true }, kinds := [], alts := [], laidByText := true, laidKinds := [.data, .data], laidTests := true, laidLooks := .later }
def TopSealedUptoCardSaid : Prop := Claim7.holds Tryz.pinned (.plain (OpenSpec.upto topSealedSpec)) topSealedUptoCard
end Rows
end Go.Proofs.YtbeecebebeamiaaGreatDoor
