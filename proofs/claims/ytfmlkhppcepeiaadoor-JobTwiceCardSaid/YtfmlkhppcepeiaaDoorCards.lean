/-
  DERIVED. GIVEN WITH THE SEED: THE CARDS: each row of YtfmlkhppcepeiaaDoorRows.lean that lists a variable, with what it lists TIED to the program's text (the seventh form; the later family's looks); each row that meets fmt, with fmt's text TOLD by the authors' own Lean function (tested against real Go, not proved from fmt's source: count such statements apart). THE CARD IS WHAT COUNTS. Prove the row's statement (the work); the ties are given (YtfmlkhppcepeiaaDoorTie.lean); close each card by the builder's one call (the guide's Derived/Test/ToyasCard.lean, 'card_holds'). Laid BY PROGRAM, IN A SANDBOX (cutbox-door.mjs). By AI agents, Wed Nov 11 2026. No macro, syntax, notation, axiom, sorry.
-/
import Derived.Test.YtfmlkhppcepeiaaDoorRows
import GoSem.ClaimSeven
namespace Go.Proofs.YtfmlkhppcepeiaaDoor
namespace Rows

/-- THE TIED CARD OF 'talkeep.JobGrows'. -/
def jobGrowsCard : Claim7 := { stood := { row := jobGrowsRow, standIns := [], harness := (true, "845491c82e63f09645ab0f364bbcbf779717e180461f971eb27b77612ab399b2"), looks := false }, kinds := [], alts := [], laidByText := true, laidKinds := [.data], laidTests := true, laidLooks := .later }
def JobGrowsCardSaid : Prop := Claim7.holds Tryd.pinned (.plain (OpenSpec.ofChange jobGrowsSpec)) jobGrowsCard

/-- THE TIED CARD OF 'talkeep.JobApart'. -/
def jobApartCard : Claim7 := { stood := { row := jobApartRow, standIns := [], harness := (true, "845491c82e63f09645ab0f364bbcbf779717e180461f971eb27b77612ab399b2"), looks := false }, kinds := [], alts := [], laidByText := true, laidKinds := [.data], laidTests := true, laidLooks := .later }
def JobApartCardSaid : Prop := Claim7.holds Tryd.pinned (.plain (OpenSpec.ofChange jobApartSpec)) jobApartCard

/-- THE TIED CARD OF 'talkeep.JobAll'. -/
def jobAllCard : Claim7 := { stood := { row := jobAllRow, standIns := [], harness := (true, "845491c82e63f09645ab0f364bbcbf779717e180461f971eb27b77612ab399b2"), looks := false }, kinds := [], alts := [], laidByText := true, laidKinds := [.data], laidTests := true, laidLooks := .later }
def JobAllCardSaid : Prop := Claim7.holds Tryd.pinned (.plain (OpenSpec.ofChange jobAllSpec)) jobAllCard

/-- THE TIED CARD OF 'talkeep.JobTwice'. -/
def jobTwiceCard : Claim7 := { stood := { row := jobTwiceRow, standIns := [], harness := (true, "845491c82e63f09645ab0f364bbcbf779717e180461f971eb27b77612ab399b2"), looks := false }, kinds := [], alts := [], laidByText := true, laidKinds := [.data], laidTests := true, laidLooks := .later }
def JobTwiceCardSaid : Prop := Claim7.holds Tryd.pinned (.plain (OpenSpec.ofChange jobTwiceSpec)) jobTwiceCard

/-- THE SECOND FORM's CARD OF 'talkeep.JobGrows'. -/
def jobGrowsUptoCard : Claim7 := { stood := { row := jobGrowsUptoRow, standIns := [], harness := (true, "845491c82e63f09645ab0f364bbcbf779717e180461f971eb27b77612ab399b2"), looks := false }, kinds := [], alts := [], laidByText := true, laidKinds := [.data], laidTests := true, laidLooks := .later }
def JobGrowsUptoCardSaid : Prop := Claim7.holds Tryd.pinned (.plain (OpenSpec.upto jobGrowsSpec)) jobGrowsUptoCard

/-- THE SECOND FORM's CARD OF 'talkeep.JobApart'. -/
def jobApartUptoCard : Claim7 := { stood := { row := jobApartUptoRow, standIns := [], harness := (true, "845491c82e63f09645ab0f364bbcbf779717e180461f971eb27b77612ab399b2"), looks := false }, kinds := [], alts := [], laidByText := true, laidKinds := [.data], laidTests := true, laidLooks := .later }
def JobApartUptoCardSaid : Prop := Claim7.holds Tryd.pinned (.plain (OpenSpec.upto jobApartSpec)) jobApartUptoCard

/-- THE SECOND FORM's CARD OF 'talkeep.JobAll'. -/
def jobAllUptoCard : Claim7 := { stood := { row := jobAllUptoRow, standIns := [], harness := (true, "845491c82e63f09645ab0f364bbcbf779717e180461f971eb27b77612ab399b2"), looks := false }, kinds := [], alts := [], laidByText := true, laidKinds := [.data], laidTests := true, laidLooks := .later }
def JobAllUptoCardSaid : Prop := Claim7.holds Tryd.pinned (.plain (OpenSpec.upto jobAllSpec)) jobAllUptoCard

/-- THE SECOND FORM's CARD OF 'talkeep.JobTwice'. -/
def jobTwiceUptoCard : Claim7 := { stood := { row := jobTwiceUptoRow, standIns := [], harness := (true, "845491c82e63f09645ab0f364bbcbf779717e180461f971eb27b77612ab399b2"), looks := false }, kinds := [], alts := [], laidByText := true, laidKinds := [.data], laidTests := true, laidLooks := .later }
def JobTwiceUptoCardSaid : Prop := Claim7.holds Tryd.pinned (.plain (OpenSpec.upto jobTwiceSpec)) jobTwiceUptoCard
end Rows
end Go.Proofs.YtfmlkhppcepeiaaDoor
