/-
  DERIVED. GIVEN WITH THE SEED: THE CARDS: each row of YtahegjhjonodlaaDoorRows.lean that lists a variable, with what it lists TIED to the program's text (the seventh form; the later family's looks); each row that meets fmt, with fmt's text TOLD by the authors' own Lean function (tested against real Go, not proved from fmt's source: count such statements apart). THE CARD IS WHAT COUNTS. Prove the row's statement (the work); the ties are given (YtahegjhjonodlaaDoorTie.lean); close each card by the builder's one call (the guide's Derived/Test/ToyasCard.lean, 'card_holds'). Laid BY PROGRAM, IN A SANDBOX (cutbox-door.mjs). By AI agents, Wed Nov 11 2026. No macro, syntax, notation, axiom, sorry.
-/
import Derived.Test.YtahegjhjonodlaaDoorRows
import GoSem.ClaimSeven
namespace Go.Proofs.YtahegjhjonodlaaDoor
namespace Rows

/-- THE TIED CARD OF 'talkeep.NumbersOwn'. -/
def numbersOwnCard : Claim7 := { stood := { row := numbersOwnRow, standIns := [], harness := (true, "d4e4e8a8cb005599eb9abd2d4404a9e74a29a0d3b63a528604ad07098427f121"), looks := false }, kinds := [], alts := [], laidByText := true, laidKinds := [.data], laidTests := true, laidLooks := .later }
def NumbersOwnCardSaid : Prop := Claim7.holds Tryd.pinned (.plain (OpenSpec.ofChange numbersOwnSpec)) numbersOwnCard

/-- THE TIED CARD OF 'talkeep.ItemsOwn'. -/
def itemsOwnCard : Claim7 := { stood := { row := itemsOwnRow, standIns := [], harness := (true, "d4e4e8a8cb005599eb9abd2d4404a9e74a29a0d3b63a528604ad07098427f121"), looks := false }, kinds := [], alts := [], laidByText := true, laidKinds := [.data], laidTests := true, laidLooks := .later }
def ItemsOwnCardSaid : Prop := Claim7.holds Tryd.pinned (.plain (OpenSpec.ofChange itemsOwnSpec)) itemsOwnCard

/-- THE SECOND FORM's CARD OF 'talkeep.NumbersOwn'. -/
def numbersOwnUptoCard : Claim7 := { stood := { row := numbersOwnUptoRow, standIns := [], harness := (true, "d4e4e8a8cb005599eb9abd2d4404a9e74a29a0d3b63a528604ad07098427f121"), looks := false }, kinds := [], alts := [], laidByText := true, laidKinds := [.data], laidTests := true, laidLooks := .later }
def NumbersOwnUptoCardSaid : Prop := Claim7.holds Tryd.pinned (.plain (OpenSpec.upto numbersOwnSpec)) numbersOwnUptoCard

/-- THE SECOND FORM's CARD OF 'talkeep.ItemsOwn'. -/
def itemsOwnUptoCard : Claim7 := { stood := { row := itemsOwnUptoRow, standIns := [], harness := (true, "d4e4e8a8cb005599eb9abd2d4404a9e74a29a0d3b63a528604ad07098427f121"), looks := false }, kinds := [], alts := [], laidByText := true, laidKinds := [.data], laidTests := true, laidLooks := .later }
def ItemsOwnUptoCardSaid : Prop := Claim7.holds Tryd.pinned (.plain (OpenSpec.upto itemsOwnSpec)) itemsOwnUptoCard
end Rows
end Go.Proofs.YtahegjhjonodlaaDoor
