/-
  DERIVED. GIVEN WITH THE SEED: THE CARDS: each row of YtohpibjjlfpaaaaGreatDoorRows.lean that lists a variable, with what it lists TIED to the program's text (the seventh form; the later family's looks); each row that meets fmt, with fmt's text TOLD by the authors' own Lean function (tested against real Go, not proved from fmt's source: count such statements apart). THE CARD IS WHAT COUNTS. Prove the row's statement (the work); the ties are given (YtohpibjjlfpaaaaGreatDoorTie.lean); close each card by the builder's one call (the guide's Derived/Test/ToyasCard.lean, 'card_holds'). Laid BY PROGRAM, IN A SANDBOX (cutbox-door.mjs). By AI agents, Wed Nov 11 2026. No macro, syntax, notation, axiom, sorry.
-/
import Derived.Test.YtohpibjjlfpaaaaGreatDoorRows
import GoSem.ClaimSeven
namespace Go.Proofs.YtohpibjjlfpaaaaGreatDoor
namespace Rows

/-- THE TIED CARD OF 'talkeep.BookOwn'. -/
def bookOwnCard : Claim7 := { stood := { row := bookOwnRow, standIns := [], harness := (true, "2fb407a610ad4b4c275edcab73facd188413f8dda4bc522216ae46976991f9df"), looks := true }, kinds := [], alts := [], laidByText := true, laidKinds := [.data, .data, .data, .data, .data, .sentinel, .sentinel, .pinned], laidTests := true, laidLooks := .later }
def BookOwnCardSaid : Prop := Claim7.holds Tryz.pinned (.plain (OpenSpec.ofChange bookOwnSpec)) bookOwnCard

/-- THE SECOND FORM's CARD OF 'talkeep.BookOwn'. -/
def bookOwnUptoCard : Claim7 := { stood := { row := bookOwnUptoRow, standIns := [], harness := (true, "2fb407a610ad4b4c275edcab73facd188413f8dda4bc522216ae46976991f9df"), looks := true }, kinds := [], alts := [], laidByText := true, laidKinds := [.data, .data, .data, .data, .data, .sentinel, .sentinel, .pinned], laidTests := true, laidLooks := .later }
def BookOwnUptoCardSaid : Prop := Claim7.holds Tryz.pinned (.plain (OpenSpec.upto bookOwnSpec)) bookOwnUptoCard
end Rows
end Go.Proofs.YtohpibjjlfpaaaaGreatDoor
