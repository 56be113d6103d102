/-
  DERIVED. GIVEN WITH THE SEED: THE CARDS: each row of YtnlbhaajpkpemaaGreatDoorRows.lean that lists a variable, with what it lists TIED to the program's text (the seventh form; the later family's looks); each row that meets fmt, with fmt's text TOLD by the authors' own Lean function (tested against real Go, not proved from fmt's source: count such statements apart). THE CARD IS WHAT COUNTS. Prove the row's statement (the work); the ties are given (YtnlbhaajpkpemaaGreatDoorTie.lean); close each card by the builder's one call (the guide's Derived/Test/ToyasCard.lean, 'card_holds'). Laid BY PROGRAM, IN A SANDBOX (cutbox-door.mjs). By AI agents, Wed Nov 11 2026. No macro, syntax, notation, axiom, sorry.
-/
import Derived.Test.YtnlbhaajpkpemaaGreatDoorRows
import GoSem.ClaimSeven
namespace Go.Proofs.YtnlbhaajpkpemaaGreatDoor
namespace Rows

/-- THE TIED CARD OF 'talkeep.LogReplayed'. -/
def logReplayedCard : Claim7 := { stood := { row := logReplayedRow, standIns := [], harness := (true, "7c4aa2c9885b0b2c39c0239a64d4166a69b88645cfcb19bacfc9b3b2358edb11"), looks := true }, kinds := [], alts := [], laidByText := true, laidKinds := [.data, .data, .data, .data, .sentinel, .sentinel, .pinned], laidTests := true, laidLooks := .later }
def LogReplayedCardSaid : Prop := Claim7.holds Tryz.pinned (.plain (OpenSpec.ofChange logReplayedSpec)) logReplayedCard

/-- THE TIED CARD OF 'talkeep.LogTorn'. -/
def logTornCard : Claim7 := { stood := { row := logTornRow, standIns := [], harness := (true, "7c4aa2c9885b0b2c39c0239a64d4166a69b88645cfcb19bacfc9b3b2358edb11"), looks := true }, kinds := [], alts := [], laidByText := true, laidKinds := [.data, .data, .data, .data, .sentinel, .sentinel, .pinned], laidTests := true, laidLooks := .later }
def LogTornCardSaid : Prop := Claim7.holds Tryz.pinned (.plain (OpenSpec.ofChange logTornSpec)) logTornCard

/-- THE TIED CARD OF 'taltop.TopCrash'. -/
def topCrashCard : Claim7 := { stood := { row := topCrashRow, standIns := [], harness := (true, "7c4aa2c9885b0b2c39c0239a64d4166a69b88645cfcb19bacfc9b3b2358edb11"), looks := true }, kinds := [], alts := [], laidByText := true, laidKinds := [.data, .data, .data, .data, .data, .sentinel, .sentinel, .pinned], laidTests := true, laidLooks := .later }
def TopCrashCardSaid : Prop := Claim7.holds Tryz.pinned (.plain (OpenSpec.ofChange topCrashSpec)) topCrashCard

/-- THE SECOND FORM's CARD OF 'talkeep.LogReplayed'. -/
def logReplayedUptoCard : Claim7 := { stood := { row := logReplayedUptoRow, standIns := [], harness := (true, "7c4aa2c9885b0b2c39c0239a64d4166a69b88645cfcb19bacfc9b3b2358edb11"), looks := true }, kinds := [], alts := [], laidByText := true, laidKinds := [.data, .data, .data, .data, .sentinel, .sentinel, .pinned], laidTests := true, laidLooks := .later }
def LogReplayedUptoCardSaid : Prop := Claim7.holds Tryz.pinned (.plain (OpenSpec.upto logReplayedSpec)) logReplayedUptoCard

/-- THE SECOND FORM's CARD OF 'talkeep.LogTorn'. -/
def logTornUptoCard : Claim7 := { stood := { row := logTornUptoRow, standIns := [], harness := (true, "7c4aa2c9885b0b2c39c0239a64d4166a69b88645cfcb19bacfc9b3b2358edb11"), looks := true }, kinds := [], alts := [], laidByText := true, laidKinds := [.data, .data, .data, .data, .sentinel, .sentinel, .pinned], laidTests := true, laidLooks := .later }
def LogTornUptoCardSaid : Prop := Claim7.holds Tryz.pinned (.plain (OpenSpec.upto logTornSpec)) logTornUptoCard

/-- THE SECOND FORM's CARD OF 'taltop.TopCrash'. -/
def topCrashUptoCard : Claim7 := { stood := { row := topCrashUptoRow, standIns := [], harness := (true, "7c4aa2c9885b0b2c39c0239a64d4166a69b88645cfcb19bacfc9b3b2358edb11"), looks := true }, kinds := [], alts := [], laidByText := true, laidKinds := [.data, .data, .data, .data, .data, .sentinel, .sentinel, .pinned], laidTests := true, laidLooks := .later }
def TopCrashUptoCardSaid : Prop := Claim7.holds Tryz.pinned (.plain (OpenSpec.upto topCrashSpec)) topCrashUptoCard
end Rows
end Go.Proofs.YtnlbhaajpkpemaaGreatDoor
