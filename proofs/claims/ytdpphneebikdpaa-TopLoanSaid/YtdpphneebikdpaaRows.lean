/-
  No cell of these rows narrows 'for every input' (looked for: loops, veiled, ifaces, maps, wideKeys, modest, calm, conditions, laid).
  DERIVED. THE GIVEN ROWS OF THIS SEAT. 5 by the template 'for every input the law returns true; each argument reads behind the call as it read before'; 0 by the template 'total and deterministic' (their statements: YtdpphneebikdpaaTotals.lean).
  GIVEN WITH THE SEED: the statements are not yours to turn. If you find one false, say at which input.
  Laid BY PROGRAM, IN A SANDBOX (cutbox-rows.mjs): the forced cells as the released guide's own fill.sh prints them over the translation 87b6204885965d1d… (all of the seat's roots in one cut). By AI agents, Wed Nov 11 2026. No macro, syntax, notation, axiom, sorry.
-/
import Derived.Test.YtdpphneebikdpaaChecked
import GoSem.Claim
import GoSem.ClaimJoined
import GoSem.ClaimMapViews
import Derived.JoinedTies
import Derived.KernelRfl
namespace Go.Proofs.Ytdpphneebikdpaa
/- THE CELL 'sum', in the pinned program and in every row, IS THE sha256 OF THE DUMP (.gsa) THAT YtdpphneebikdpaaProg.lean LOADS. Nothing in Lean hashes anything: it is a label: what it is worth is what the hold of that sum in a sandbox is worth. -/
noncomputable def Try.pinned : Pinned := { name := "ytdpphneebikdpaa", sum := "87b6204885965d1d39df1bf171a1870bb748b17582eb22221cc3c50cce53e0b5", checked := Try.checked }
namespace Rows
def none {H : Type} : Left H := { results := [], args := [] }

/-- 'talkeep.UnitsSum': WHATEVER THE INPUT: true; the input reads as it did. -/
def unitsSumSpec : ChangeSpec := { name := "unitsSum", fn := fun _ => fun
  | [d1, d2, d3, d4, d5, d6] => { results := [.lit (.bool true)], args := [d1, d2, d3, d4, d5, d6] }
  | _ => none }
def unitsSumRow : OpenClaim := { program := "ytdpphneebikdpaa", sum := "87b6204885965d1d39df1bf171a1870bb748b17582eb22221cc3c50cce53e0b5", func := "tallage/talkeep.UnitsSum", spec := "unitsSum", inPlace := ["slices.overlaps[int]"], apart := false }
def UnitsSumSaid : Prop := unitsSumRow.holds Try.pinned (OpenSpec.ofChange unitsSumSpec)

/-- ITS FALSE NEIGHBOUR: 'it returns false'. Refute it at one input. -/
def unitsSumWrong : ChangeSpec := { name := "unitsSum", fn := fun _ => fun
  | [d1, d2, d3, d4, d5, d6] => { results := [.lit (.bool false)], args := [d1, d2, d3, d4, d5, d6] }
  | _ => none }
def UnitsSumWrongFalsely : Prop := unitsSumRow.holds Try.pinned (OpenSpec.ofChange unitsSumWrong)

/-- 'taltop.TopStock': WHATEVER THE INPUT: true; the input reads as it did. -/
def topStockSpec : ChangeSpec := { name := "topStock", fn := fun _ => fun
  | [d] => { results := [.lit (.bool true)], args := [d] }
  | _ => none }
def topStockRow : OpenClaim := { program := "ytdpphneebikdpaa", sum := "87b6204885965d1d39df1bf171a1870bb748b17582eb22221cc3c50cce53e0b5", func := "tallage/taltop.TopStock", spec := "topStock", inPlace := ["internal/bytealg.abigen_runtime_cmpstring", "slices.overlaps[tallage/api.Entry]"], unfollowed := true, recurses := true, apart := false }
def TopStockSaid : Prop := topStockRow.holds Try.pinned (OpenSpec.ofChange topStockSpec)

/-- ITS FALSE NEIGHBOUR: 'it returns false'. Refute it at one input. -/
def topStockWrong : ChangeSpec := { name := "topStock", fn := fun _ => fun
  | [d] => { results := [.lit (.bool false)], args := [d] }
  | _ => none }
def TopStockWrongFalsely : Prop := topStockRow.holds Try.pinned (OpenSpec.ofChange topStockWrong)

/-- 'taltop.TopLoan': WHATEVER THE INPUT: true; the input reads as it did. -/
def topLoanSpec : ChangeSpec := { name := "topLoan", fn := fun _ => fun
  | [d1, d2, d3] => { results := [.lit (.bool true)], args := [d1, d2, d3] }
  | _ => none }
def topLoanRow : OpenClaim := { program := "ytdpphneebikdpaa", sum := "87b6204885965d1d39df1bf171a1870bb748b17582eb22221cc3c50cce53e0b5", func := "tallage/taltop.TopLoan", spec := "topLoan", inPlace := ["internal/bytealg.abigen_runtime_cmpstring", "slices.overlaps[tallage/api.Entry]"], unfollowed := true, recurses := true, apart := false }
def TopLoanSaid : Prop := topLoanRow.holds Try.pinned (OpenSpec.ofChange topLoanSpec)

/-- ITS FALSE NEIGHBOUR: 'it returns false'. Refute it at one input. -/
def topLoanWrong : ChangeSpec := { name := "topLoan", fn := fun _ => fun
  | [d1, d2, d3] => { results := [.lit (.bool false)], args := [d1, d2, d3] }
  | _ => none }
def TopLoanWrongFalsely : Prop := topLoanRow.holds Try.pinned (OpenSpec.ofChange topLoanWrong)

/-- 'taltop.TopOwed': WHATEVER THE INPUT: true; the input reads as it did. -/
def topOwedSpec : ChangeSpec := { name := "topOwed", fn := fun _ => fun
  | [d1, d2] => { results := [.lit (.bool true)], args := [d1, d2] }
  | _ => none }
def topOwedRow : OpenClaim := { program := "ytdpphneebikdpaa", sum := "87b6204885965d1d39df1bf171a1870bb748b17582eb22221cc3c50cce53e0b5", func := "tallage/taltop.TopOwed", spec := "topOwed", inPlace := ["internal/bytealg.abigen_runtime_cmpstring", "slices.overlaps[tallage/api.Entry]"], unfollowed := true, recurses := true, apart := false }
def TopOwedSaid : Prop := topOwedRow.holds Try.pinned (OpenSpec.ofChange topOwedSpec)

/-- ITS FALSE NEIGHBOUR: 'it returns false'. Refute it at one input. -/
def topOwedWrong : ChangeSpec := { name := "topOwed", fn := fun _ => fun
  | [d1, d2] => { results := [.lit (.bool false)], args := [d1, d2] }
  | _ => none }
def TopOwedWrongFalsely : Prop := topOwedRow.holds Try.pinned (OpenSpec.ofChange topOwedWrong)

/-- 'taltop.TopSeats': WHATEVER THE INPUT: true; the input reads as it did. -/
def topSeatsSpec : ChangeSpec := { name := "topSeats", fn := fun _ => fun
  | [d1, d2] => { results := [.lit (.bool true)], args := [d1, d2] }
  | _ => none }
def topSeatsRow : OpenClaim := { program := "ytdpphneebikdpaa", sum := "87b6204885965d1d39df1bf171a1870bb748b17582eb22221cc3c50cce53e0b5", func := "tallage/taltop.TopSeats", spec := "topSeats", inPlace := ["internal/bytealg.abigen_runtime_cmpstring", "slices.overlaps[tallage/api.Entry]"], unfollowed := true, recurses := true, apart := false }
def TopSeatsSaid : Prop := topSeatsRow.holds Try.pinned (OpenSpec.ofChange topSeatsSpec)

/-- ITS FALSE NEIGHBOUR: 'it returns false'. Refute it at one input. -/
def topSeatsWrong : ChangeSpec := { name := "topSeats", fn := fun _ => fun
  | [d1, d2] => { results := [.lit (.bool false)], args := [d1, d2] }
  | _ => none }
def TopSeatsWrongFalsely : Prop := topSeatsRow.holds Try.pinned (OpenSpec.ofChange topSeatsWrong)

/- THE SECOND FORM. 'bulk': how many values and letters a reading holds, each counted each time it is reached (what is shared counts as often as it is met; a slice's spare places count too). A statement '..UptoSaid' is the law's where the arguments, and the package variables that the reading takes, are together of bulk at most 1048576: NARROWER than '..Said'. Prove '..Said' where nothing that the law and all that it calls make is longer than what came in: it says more and counts as full. Else prove '..UptoSaid'. A law counts once. -/
mutual
def uptoBulk {H : Type} : DataW H → Nat
  | .lit (.string bytes) => bytes.length + 1
  | .lit _ => 1
  | .nil => 1
  | .ptr d => uptoBulk d + 1
  | .slice elems spare => uptoBulkAll elems + uptoBulkAll spare + 1
  | .agg parts => uptoBulkAll parts + 1
  | .iface _ d => uptoBulk d + 1
  | .map entries => uptoBulkEntries entries + 1
  | .held _ => 1
def uptoBulkAll {H : Type} : List (DataW H) → Nat
  | [] => 0
  | d :: r => uptoBulk d + uptoBulkAll r
def uptoBulkEntries {H : Type} : List (Lit × DataW H) → Nat
  | [] => 0
  | x :: r => uptoBulkEntry x + uptoBulkEntries r
def uptoBulkEntry {H : Type} : Lit × DataW H → Nat
  | (.string bytes, d) => bytes.length + uptoBulk d + 1
  | (_, d) => uptoBulk d + 1
 end
def uptoSmall : (H : Type) → List (DataW H) → Bool := fun _ ds => decide (uptoBulkAll ds ≤ 1048576)
def OpenSpec.upto (s : _root_.Go.ChangeSpec) : _root_.Go.OpenSpec := { _root_.Go.OpenSpec.ofChange s with cond := some uptoSmall }

/-- 'talkeep.UnitsSum', WHERE WHAT IT READS IS OF BULK AT MOST 1048576: true; the input reads as it did. -/
def unitsSumUptoRow : OpenClaim := { program := "ytdpphneebikdpaa", sum := "87b6204885965d1d39df1bf171a1870bb748b17582eb22221cc3c50cce53e0b5", func := "tallage/talkeep.UnitsSum", spec := "unitsSum", inPlace := ["slices.overlaps[int]"], apart := false, narrowed := true }
def UnitsSumUptoSaid : Prop := unitsSumUptoRow.holds Try.pinned (OpenSpec.upto unitsSumSpec)

/-- 'taltop.TopStock', WHERE WHAT IT READS IS OF BULK AT MOST 1048576: true; the input reads as it did. -/
def topStockUptoRow : OpenClaim := { program := "ytdpphneebikdpaa", sum := "87b6204885965d1d39df1bf171a1870bb748b17582eb22221cc3c50cce53e0b5", func := "tallage/taltop.TopStock", spec := "topStock", inPlace := ["internal/bytealg.abigen_runtime_cmpstring", "slices.overlaps[tallage/api.Entry]"], unfollowed := true, recurses := true, apart := false, narrowed := true }
def TopStockUptoSaid : Prop := topStockUptoRow.holds Try.pinned (OpenSpec.upto topStockSpec)

/-- 'taltop.TopLoan', WHERE WHAT IT READS IS OF BULK AT MOST 1048576: true; the input reads as it did. -/
def topLoanUptoRow : OpenClaim := { program := "ytdpphneebikdpaa", sum := "87b6204885965d1d39df1bf171a1870bb748b17582eb22221cc3c50cce53e0b5", func := "tallage/taltop.TopLoan", spec := "topLoan", inPlace := ["internal/bytealg.abigen_runtime_cmpstring", "slices.overlaps[tallage/api.Entry]"], unfollowed := true, recurses := true, apart := false, narrowed := true }
def TopLoanUptoSaid : Prop := topLoanUptoRow.holds Try.pinned (OpenSpec.upto topLoanSpec)

/-- 'taltop.TopOwed', WHERE WHAT IT READS IS OF BULK AT MOST 1048576: true; the input reads as it did. -/
def topOwedUptoRow : OpenClaim := { program := "ytdpphneebikdpaa", sum := "87b6204885965d1d39df1bf171a1870bb748b17582eb22221cc3c50cce53e0b5", func := "tallage/taltop.TopOwed", spec := "topOwed", inPlace := ["internal/bytealg.abigen_runtime_cmpstring", "slices.overlaps[tallage/api.Entry]"], unfollowed := true, recurses := true, apart := false, narrowed := true }
def TopOwedUptoSaid : Prop := topOwedUptoRow.holds Try.pinned (OpenSpec.upto topOwedSpec)

/-- 'taltop.TopSeats', WHERE WHAT IT READS IS OF BULK AT MOST 1048576: true; the input reads as it did. -/
def topSeatsUptoRow : OpenClaim := { program := "ytdpphneebikdpaa", sum := "87b6204885965d1d39df1bf171a1870bb748b17582eb22221cc3c50cce53e0b5", func := "tallage/taltop.TopSeats", spec := "topSeats", inPlace := ["internal/bytealg.abigen_runtime_cmpstring", "slices.overlaps[tallage/api.Entry]"], unfollowed := true, recurses := true, apart := false, narrowed := true }
def TopSeatsUptoSaid : Prop := topSeatsUptoRow.holds Try.pinned (OpenSpec.upto topSeatsSpec)

end Rows
end Go.Proofs.Ytdpphneebikdpaa
