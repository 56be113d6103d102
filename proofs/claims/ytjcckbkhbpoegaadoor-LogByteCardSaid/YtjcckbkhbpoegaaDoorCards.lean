/-
  DERIVED. GIVEN WITH THE SEED: THE CARDS: each row of YtjcckbkhbpoegaaDoorRows.lean that lists a variable, with what it lists TIED to the program's text (the seventh form; the later family's looks); each row that meets fmt, with fmt's text TOLD by the authors' own Lean function (tested against real Go, not proved from fmt's source: count such statements apart). THE CARD IS WHAT COUNTS. Prove the row's statement (the work); the ties are given (YtjcckbkhbpoegaaDoorTie.lean); close each card by the builder's one call (the guide's Derived/Test/ToyasCard.lean, 'card_holds'). Laid BY PROGRAM, IN A SANDBOX (cutbox-door.mjs). By AI agents, Wed Nov 11 2026. No macro, syntax, notation, axiom, sorry.
-/
import Derived.Test.YtjcckbkhbpoegaaDoorRows
import GoSem.ClaimSeven
namespace Go.Proofs.YtjcckbkhbpoegaaDoor
namespace Rows

/-- THE TIED CARD OF 'talkeep.LogOne'. -/
def logOneCard : Claim7 := { stood := { row := logOneRow, standIns := [], harness := (true, "b15ad3cee6af0722c0bc0d15763a6a61ab942ec2caec66b56cd9751775801d6d"), looks := true }, kinds := [], alts := [], laidByText := true, laidKinds := [.data, .data, .data, .data, .sentinel, .sentinel, .pinned], laidTests := true, laidLooks := .later }
def LogOneCardSaid : Prop := Claim7.holds Tryd.pinned (.plain (OpenSpec.ofChange logOneSpec)) logOneCard

/-- THE TIED CARD OF 'talkeep.LogByte'. -/
def logByteCard : Claim7 := { stood := { row := logByteRow, standIns := [], harness := (true, "b15ad3cee6af0722c0bc0d15763a6a61ab942ec2caec66b56cd9751775801d6d"), looks := true }, kinds := [], alts := [], laidByText := true, laidKinds := [.data, .data, .data, .data, .sentinel, .sentinel, .pinned], laidTests := true, laidLooks := .later }
def LogByteCardSaid : Prop := Claim7.holds Tryd.pinned (.plain (OpenSpec.ofChange logByteSpec)) logByteCard

/-- THE TIED CARD OF 'talkeep.LogBack'. -/
def logBackCard : Claim7 := { stood := { row := logBackRow, standIns := [], harness := (true, "b15ad3cee6af0722c0bc0d15763a6a61ab942ec2caec66b56cd9751775801d6d"), looks := true }, kinds := [], alts := [], laidByText := true, laidKinds := [.data, .data, .data, .data, .sentinel, .sentinel, .pinned], laidTests := true, laidLooks := .later }
def LogBackCardSaid : Prop := Claim7.holds Tryd.pinned (.plain (OpenSpec.ofChange logBackSpec)) logBackCard

/-- THE SECOND FORM's CARD OF 'talkeep.LogOne'. -/
def logOneUptoCard : Claim7 := { stood := { row := logOneUptoRow, standIns := [], harness := (true, "b15ad3cee6af0722c0bc0d15763a6a61ab942ec2caec66b56cd9751775801d6d"), looks := true }, kinds := [], alts := [], laidByText := true, laidKinds := [.data, .data, .data, .data, .sentinel, .sentinel, .pinned], laidTests := true, laidLooks := .later }
def LogOneUptoCardSaid : Prop := Claim7.holds Tryd.pinned (.plain (OpenSpec.upto logOneSpec)) logOneUptoCard

/-- THE SECOND FORM's CARD OF 'talkeep.LogByte'. -/
def logByteUptoCard : Claim7 := { stood := { row := logByteUptoRow, standIns := [], harness := (true, "b15ad3cee6af0722c0bc0d15763a6a61ab942ec2caec66b56cd9751775801d6d"), looks := true }, kinds := [], alts := [], laidByText := true, laidKinds := [.data, .data, .data, .data, .sentinel, .sentinel, .pinned], laidTests := true, laidLooks := .later }
def LogByteUptoCardSaid : Prop := Claim7.holds Tryd.pinned (.plain (OpenSpec.upto logByteSpec)) logByteUptoCard

/-- THE SECOND FORM's CARD OF 'talkeep.LogBack'. -/
def logBackUptoCard : Claim7 := { stood := { row := logBackUptoRow, standIns := [], harness := (true, "b15ad3cee6af0722c0bc0d15763a6a61ab942ec2caec66b56cd9751775801d6d"), looks := true }, kinds := [], alts := [], laidByText := true, laidKinds := [.data, .data, .data, .data, .sentinel, .sentinel, .pinned], laidTests := true, laidLooks := .later }
def LogBackUptoCardSaid : Prop := Claim7.holds Tryd.pinned (.plain (OpenSpec.upto logBackSpec)) logBackUptoCard
end Rows
end Go.Proofs.YtjcckbkhbpoegaaDoor
