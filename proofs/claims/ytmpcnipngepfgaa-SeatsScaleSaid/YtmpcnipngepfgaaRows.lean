/-
  No cell of these rows narrows 'for every input' (looked for: loops, veiled, ifaces, maps, wideKeys, modest, calm, conditions, laid).
  DERIVED. THE GIVEN ROWS OF THIS SEAT. 12 by the template 'for every input the law returns true; each argument reads behind the call as it read before'; 0 by the template 'total and deterministic' (their statements: YtmpcnipngepfgaaTotals.lean).
  GIVEN WITH THE SEED: the statements are not yours to turn. If you find one false, say at which input.
  Laid BY PROGRAM, IN A SANDBOX (cutbox-rows.mjs): the forced cells as the released guide's own fill.sh prints them over the translation 222e99043b346353… (all of the seat's roots in one cut). By AI agents, Wed Nov 11 2026. No macro, syntax, notation, axiom, sorry.
-/
import Derived.Test.YtmpcnipngepfgaaChecked
import GoSem.Claim
import GoSem.ClaimJoined
import GoSem.ClaimMapViews
import Derived.JoinedTies
import Derived.KernelRfl
namespace Go.Proofs.Ytmpcnipngepfgaa
/- THE CELL 'sum', in the pinned program and in every row, IS THE sha256 OF THE DUMP (.gsa) THAT YtmpcnipngepfgaaProg.lean LOADS. Nothing in Lean hashes anything: it is a label: what it is worth is what the hold of that sum in a sandbox is worth. -/
noncomputable def Try.pinned : Pinned := { name := "ytmpcnipngepfgaa", sum := "222e99043b346353aef9c03aa0a497fa46e9942d2ccfb8363e37f83cb1d79ac2", checked := Try.checked }
namespace Rows
def none {H : Type} : Left H := { results := [], args := [] }

/-- 'talkeep.SeatsSum': WHATEVER THE INPUT: true; the input reads as it did. -/
def seatsSumSpec : ChangeSpec := { name := "seatsSum", fn := fun _ => fun
  | [d1, d2, d3] => { results := [.lit (.bool true)], args := [d1, d2, d3] }
  | _ => none }
def seatsSumRow : OpenClaim := { program := "ytmpcnipngepfgaa", sum := "222e99043b346353aef9c03aa0a497fa46e9942d2ccfb8363e37f83cb1d79ac2", func := "tallage/talkeep.SeatsSum", spec := "seatsSum", apart := false }
def SeatsSumSaid : Prop := seatsSumRow.holds Try.pinned (OpenSpec.ofChange seatsSumSpec)

/-- ITS FALSE NEIGHBOUR: 'it returns false'. Refute it at one input. -/
def seatsSumWrong : ChangeSpec := { name := "seatsSum", fn := fun _ => fun
  | [d1, d2, d3] => { results := [.lit (.bool false)], args := [d1, d2, d3] }
  | _ => none }
def SeatsSumWrongFalsely : Prop := seatsSumRow.holds Try.pinned (OpenSpec.ofChange seatsSumWrong)

/-- 'talkeep.SeatsHouse': WHATEVER THE INPUT: true; the input reads as it did. -/
def seatsHouseSpec : ChangeSpec := { name := "seatsHouse", fn := fun _ => fun
  | [d1, d2, d3] => { results := [.lit (.bool true)], args := [d1, d2, d3] }
  | _ => none }
def seatsHouseRow : OpenClaim := { program := "ytmpcnipngepfgaa", sum := "222e99043b346353aef9c03aa0a497fa46e9942d2ccfb8363e37f83cb1d79ac2", func := "tallage/talkeep.SeatsHouse", spec := "seatsHouse", apart := false }
def SeatsHouseSaid : Prop := seatsHouseRow.holds Try.pinned (OpenSpec.ofChange seatsHouseSpec)

/-- ITS FALSE NEIGHBOUR: 'it returns false'. Refute it at one input. -/
def seatsHouseWrong : ChangeSpec := { name := "seatsHouse", fn := fun _ => fun
  | [d1, d2, d3] => { results := [.lit (.bool false)], args := [d1, d2, d3] }
  | _ => none }
def SeatsHouseWrongFalsely : Prop := seatsHouseRow.holds Try.pinned (OpenSpec.ofChange seatsHouseWrong)

/-- 'talkeep.SeatsFair': WHATEVER THE INPUT: true; the input reads as it did. -/
def seatsFairSpec : ChangeSpec := { name := "seatsFair", fn := fun _ => fun
  | [d1, d2, d3] => { results := [.lit (.bool true)], args := [d1, d2, d3] }
  | _ => none }
def seatsFairRow : OpenClaim := { program := "ytmpcnipngepfgaa", sum := "222e99043b346353aef9c03aa0a497fa46e9942d2ccfb8363e37f83cb1d79ac2", func := "tallage/talkeep.SeatsFair", spec := "seatsFair", unfollowed := true, recurses := true, apart := false }
def SeatsFairSaid : Prop := seatsFairRow.holds Try.pinned (OpenSpec.ofChange seatsFairSpec)

/-- ITS FALSE NEIGHBOUR: 'it returns false'. Refute it at one input. -/
def seatsFairWrong : ChangeSpec := { name := "seatsFair", fn := fun _ => fun
  | [d1, d2, d3] => { results := [.lit (.bool false)], args := [d1, d2, d3] }
  | _ => none }
def SeatsFairWrongFalsely : Prop := seatsFairRow.holds Try.pinned (OpenSpec.ofChange seatsFairWrong)

/-- 'talkeep.SeatsTwo': WHATEVER THE INPUT: true; the input reads as it did. -/
def seatsTwoSpec : ChangeSpec := { name := "seatsTwo", fn := fun _ => fun
  | [d1, d2, d3] => { results := [.lit (.bool true)], args := [d1, d2, d3] }
  | _ => none }
def seatsTwoRow : OpenClaim := { program := "ytmpcnipngepfgaa", sum := "222e99043b346353aef9c03aa0a497fa46e9942d2ccfb8363e37f83cb1d79ac2", func := "tallage/talkeep.SeatsTwo", spec := "seatsTwo", apart := false }
def SeatsTwoSaid : Prop := seatsTwoRow.holds Try.pinned (OpenSpec.ofChange seatsTwoSpec)

/-- ITS FALSE NEIGHBOUR: 'it returns false'. Refute it at one input. -/
def seatsTwoWrong : ChangeSpec := { name := "seatsTwo", fn := fun _ => fun
  | [d1, d2, d3] => { results := [.lit (.bool false)], args := [d1, d2, d3] }
  | _ => none }
def SeatsTwoWrongFalsely : Prop := seatsTwoRow.holds Try.pinned (OpenSpec.ofChange seatsTwoWrong)

/-- 'talkeep.SeatsVotes': WHATEVER THE INPUT: true; the input reads as it did. -/
def seatsVotesSpec : ChangeSpec := { name := "seatsVotes", fn := fun _ => fun
  | [d1, d2, d3, d4, d5] => { results := [.lit (.bool true)], args := [d1, d2, d3, d4, d5] }
  | _ => none }
def seatsVotesRow : OpenClaim := { program := "ytmpcnipngepfgaa", sum := "222e99043b346353aef9c03aa0a497fa46e9942d2ccfb8363e37f83cb1d79ac2", func := "tallage/talkeep.SeatsVotes", spec := "seatsVotes", apart := false }
def SeatsVotesSaid : Prop := seatsVotesRow.holds Try.pinned (OpenSpec.ofChange seatsVotesSpec)

/-- ITS FALSE NEIGHBOUR: 'it returns false'. Refute it at one input. -/
def seatsVotesWrong : ChangeSpec := { name := "seatsVotes", fn := fun _ => fun
  | [d1, d2, d3, d4, d5] => { results := [.lit (.bool false)], args := [d1, d2, d3, d4, d5] }
  | _ => none }
def SeatsVotesWrongFalsely : Prop := seatsVotesRow.holds Try.pinned (OpenSpec.ofChange seatsVotesWrong)

/-- 'talkeep.SeatsJoin': WHATEVER THE INPUT: true; the input reads as it did. -/
def seatsJoinSpec : ChangeSpec := { name := "seatsJoin", fn := fun _ => fun
  | [d1, d2, d3, d4] => { results := [.lit (.bool true)], args := [d1, d2, d3, d4] }
  | _ => none }
def seatsJoinRow : OpenClaim := { program := "ytmpcnipngepfgaa", sum := "222e99043b346353aef9c03aa0a497fa46e9942d2ccfb8363e37f83cb1d79ac2", func := "tallage/talkeep.SeatsJoin", spec := "seatsJoin", apart := false }
def SeatsJoinSaid : Prop := seatsJoinRow.holds Try.pinned (OpenSpec.ofChange seatsJoinSpec)

/-- ITS FALSE NEIGHBOUR: 'it returns false'. Refute it at one input. -/
def seatsJoinWrong : ChangeSpec := { name := "seatsJoin", fn := fun _ => fun
  | [d1, d2, d3, d4] => { results := [.lit (.bool false)], args := [d1, d2, d3, d4] }
  | _ => none }
def SeatsJoinWrongFalsely : Prop := seatsJoinRow.holds Try.pinned (OpenSpec.ofChange seatsJoinWrong)

/-- 'talkeep.SeatsQuota': WHATEVER THE INPUT: true; the input reads as it did. -/
def seatsQuotaSpec : ChangeSpec := { name := "seatsQuota", fn := fun _ => fun
  | [d1, d2] => { results := [.lit (.bool true)], args := [d1, d2] }
  | _ => none }
def seatsQuotaRow : OpenClaim := { program := "ytmpcnipngepfgaa", sum := "222e99043b346353aef9c03aa0a497fa46e9942d2ccfb8363e37f83cb1d79ac2", func := "tallage/talkeep.SeatsQuota", spec := "seatsQuota", apart := false }
def SeatsQuotaSaid : Prop := seatsQuotaRow.holds Try.pinned (OpenSpec.ofChange seatsQuotaSpec)

/-- ITS FALSE NEIGHBOUR: 'it returns false'. Refute it at one input. -/
def seatsQuotaWrong : ChangeSpec := { name := "seatsQuota", fn := fun _ => fun
  | [d1, d2] => { results := [.lit (.bool false)], args := [d1, d2] }
  | _ => none }
def SeatsQuotaWrongFalsely : Prop := seatsQuotaRow.holds Try.pinned (OpenSpec.ofChange seatsQuotaWrong)

/-- 'talkeep.SeatsScale': WHATEVER THE INPUT: true; the input reads as it did. -/
def seatsScaleSpec : ChangeSpec := { name := "seatsScale", fn := fun _ => fun
  | [d1, d2, d3, d4] => { results := [.lit (.bool true)], args := [d1, d2, d3, d4] }
  | _ => none }
def seatsScaleRow : OpenClaim := { program := "ytmpcnipngepfgaa", sum := "222e99043b346353aef9c03aa0a497fa46e9942d2ccfb8363e37f83cb1d79ac2", func := "tallage/talkeep.SeatsScale", spec := "seatsScale", apart := false }
def SeatsScaleSaid : Prop := seatsScaleRow.holds Try.pinned (OpenSpec.ofChange seatsScaleSpec)

/-- ITS FALSE NEIGHBOUR: 'it returns false'. Refute it at one input. -/
def seatsScaleWrong : ChangeSpec := { name := "seatsScale", fn := fun _ => fun
  | [d1, d2, d3, d4] => { results := [.lit (.bool false)], args := [d1, d2, d3, d4] }
  | _ => none }
def SeatsScaleWrongFalsely : Prop := seatsScaleRow.holds Try.pinned (OpenSpec.ofChange seatsScaleWrong)

/-- 'talkeep.StockAll': WHATEVER THE INPUT: true; the input reads as it did. -/
def stockAllSpec : ChangeSpec := { name := "stockAll", fn := fun _ => fun
  | [d] => { results := [.lit (.bool true)], args := [d] }
  | _ => none }
def stockAllRow : OpenClaim := { program := "ytmpcnipngepfgaa", sum := "222e99043b346353aef9c03aa0a497fa46e9942d2ccfb8363e37f83cb1d79ac2", func := "tallage/talkeep.StockAll", spec := "stockAll", apart := false }
def StockAllSaid : Prop := stockAllRow.holds Try.pinned (OpenSpec.ofChange stockAllSpec)

/-- ITS FALSE NEIGHBOUR: 'it returns false'. Refute it at one input. -/
def stockAllWrong : ChangeSpec := { name := "stockAll", fn := fun _ => fun
  | [d] => { results := [.lit (.bool false)], args := [d] }
  | _ => none }
def StockAllWrongFalsely : Prop := stockAllRow.holds Try.pinned (OpenSpec.ofChange stockAllWrong)

/-- 'talkeep.StockDear': WHATEVER THE INPUT: true; the input reads as it did. -/
def stockDearSpec : ChangeSpec := { name := "stockDear", fn := fun _ => fun
  | [d1, d2] => { results := [.lit (.bool true)], args := [d1, d2] }
  | _ => none }
def stockDearRow : OpenClaim := { program := "ytmpcnipngepfgaa", sum := "222e99043b346353aef9c03aa0a497fa46e9942d2ccfb8363e37f83cb1d79ac2", func := "tallage/talkeep.StockDear", spec := "stockDear", apart := false }
def StockDearSaid : Prop := stockDearRow.holds Try.pinned (OpenSpec.ofChange stockDearSpec)

/-- ITS FALSE NEIGHBOUR: 'it returns false'. Refute it at one input. -/
def stockDearWrong : ChangeSpec := { name := "stockDear", fn := fun _ => fun
  | [d1, d2] => { results := [.lit (.bool false)], args := [d1, d2] }
  | _ => none }
def StockDearWrongFalsely : Prop := stockDearRow.holds Try.pinned (OpenSpec.ofChange stockDearWrong)

/-- 'talkeep.StockOut': WHATEVER THE INPUT: true; the input reads as it did. -/
def stockOutSpec : ChangeSpec := { name := "stockOut", fn := fun _ => fun
  | [d1, d2, d3] => { results := [.lit (.bool true)], args := [d1, d2, d3] }
  | _ => none }
def stockOutRow : OpenClaim := { program := "ytmpcnipngepfgaa", sum := "222e99043b346353aef9c03aa0a497fa46e9942d2ccfb8363e37f83cb1d79ac2", func := "tallage/talkeep.StockOut", spec := "stockOut", apart := false }
def StockOutSaid : Prop := stockOutRow.holds Try.pinned (OpenSpec.ofChange stockOutSpec)

/-- ITS FALSE NEIGHBOUR: 'it returns false'. Refute it at one input. -/
def stockOutWrong : ChangeSpec := { name := "stockOut", fn := fun _ => fun
  | [d1, d2, d3] => { results := [.lit (.bool false)], args := [d1, d2, d3] }
  | _ => none }
def StockOutWrongFalsely : Prop := stockOutRow.holds Try.pinned (OpenSpec.ofChange stockOutWrong)

/-- 'talkeep.StockAhead': WHATEVER THE INPUT: true; the input reads as it did. -/
def stockAheadSpec : ChangeSpec := { name := "stockAhead", fn := fun _ => fun
  | [d1, d2] => { results := [.lit (.bool true)], args := [d1, d2] }
  | _ => none }
def stockAheadRow : OpenClaim := { program := "ytmpcnipngepfgaa", sum := "222e99043b346353aef9c03aa0a497fa46e9942d2ccfb8363e37f83cb1d79ac2", func := "tallage/talkeep.StockAhead", spec := "stockAhead", apart := false }
def StockAheadSaid : Prop := stockAheadRow.holds Try.pinned (OpenSpec.ofChange stockAheadSpec)

/-- ITS FALSE NEIGHBOUR: 'it returns false'. Refute it at one input. -/
def stockAheadWrong : ChangeSpec := { name := "stockAhead", fn := fun _ => fun
  | [d1, d2] => { results := [.lit (.bool false)], args := [d1, d2] }
  | _ => none }
def StockAheadWrongFalsely : Prop := stockAheadRow.holds Try.pinned (OpenSpec.ofChange stockAheadWrong)

/- THE SECOND FORM. 'bulk': how many values and letters a reading holds, each counted each time it is reached (what is shared counts as often as it is met; a slice's spare places count too). A statement '..UptoSaid' is the law's where the arguments, and the package variables that the reading takes, are together of bulk at most 1048576: NARROWER than '..Said'. Prove '..Said' where nothing that the law and all that it calls make is longer than what came in: it says more and counts as full. Else prove '..UptoSaid'. A law counts once. -/
mutual
def uptoBulk {H : Type} : DataW H → Nat
  | .lit (.string bytes) => bytes.length + 1
  | .lit _ => 1
  | .nil => 1
  | .ptr d => uptoBulk d + 1
  | .slice elems spare => uptoBulkAll elems + uptoBulkAll spare + 1
  | .agg parts => uptoBulkAll parts + 1
  | .iface _ d => uptoBulk d + 1
  | .map entries => uptoBulkEntries entries + 1
  | .held _ => 1
def uptoBulkAll {H : Type} : List (DataW H) → Nat
  | [] => 0
  | d :: r => uptoBulk d + uptoBulkAll r
def uptoBulkEntries {H : Type} : List (Lit × DataW H) → Nat
  | [] => 0
  | x :: r => uptoBulkEntry x + uptoBulkEntries r
def uptoBulkEntry {H : Type} : Lit × DataW H → Nat
  | (.string bytes, d) => bytes.length + uptoBulk d + 1
  | (_, d) => uptoBulk d + 1
 end
def uptoSmall : (H : Type) → List (DataW H) → Bool := fun _ ds => decide (uptoBulkAll ds ≤ 1048576)
def OpenSpec.upto (s : _root_.Go.ChangeSpec) : _root_.Go.OpenSpec := { _root_.Go.OpenSpec.ofChange s with cond := some uptoSmall }

/-- 'talkeep.SeatsSum', WHERE WHAT IT READS IS OF BULK AT MOST 1048576: true; the input reads as it did. -/
def seatsSumUptoRow : OpenClaim := { program := "ytmpcnipngepfgaa", sum := "222e99043b346353aef9c03aa0a497fa46e9942d2ccfb8363e37f83cb1d79ac2", func := "tallage/talkeep.SeatsSum", spec := "seatsSum", apart := false, narrowed := true }
def SeatsSumUptoSaid : Prop := seatsSumUptoRow.holds Try.pinned (OpenSpec.upto seatsSumSpec)

/-- 'talkeep.SeatsHouse', WHERE WHAT IT READS IS OF BULK AT MOST 1048576: true; the input reads as it did. -/
def seatsHouseUptoRow : OpenClaim := { program := "ytmpcnipngepfgaa", sum := "222e99043b346353aef9c03aa0a497fa46e9942d2ccfb8363e37f83cb1d79ac2", func := "tallage/talkeep.SeatsHouse", spec := "seatsHouse", apart := false, narrowed := true }
def SeatsHouseUptoSaid : Prop := seatsHouseUptoRow.holds Try.pinned (OpenSpec.upto seatsHouseSpec)

/-- 'talkeep.SeatsFair', WHERE WHAT IT READS IS OF BULK AT MOST 1048576: true; the input reads as it did. -/
def seatsFairUptoRow : OpenClaim := { program := "ytmpcnipngepfgaa", sum := "222e99043b346353aef9c03aa0a497fa46e9942d2ccfb8363e37f83cb1d79ac2", func := "tallage/talkeep.SeatsFair", spec := "seatsFair", unfollowed := true, recurses := true, apart := false, narrowed := true }
def SeatsFairUptoSaid : Prop := seatsFairUptoRow.holds Try.pinned (OpenSpec.upto seatsFairSpec)

/-- 'talkeep.SeatsTwo', WHERE WHAT IT READS IS OF BULK AT MOST 1048576: true; the input reads as it did. -/
def seatsTwoUptoRow : OpenClaim := { program := "ytmpcnipngepfgaa", sum := "222e99043b346353aef9c03aa0a497fa46e9942d2ccfb8363e37f83cb1d79ac2", func := "tallage/talkeep.SeatsTwo", spec := "seatsTwo", apart := false, narrowed := true }
def SeatsTwoUptoSaid : Prop := seatsTwoUptoRow.holds Try.pinned (OpenSpec.upto seatsTwoSpec)

/-- 'talkeep.SeatsVotes', WHERE WHAT IT READS IS OF BULK AT MOST 1048576: true; the input reads as it did. -/
def seatsVotesUptoRow : OpenClaim := { program := "ytmpcnipngepfgaa", sum := "222e99043b346353aef9c03aa0a497fa46e9942d2ccfb8363e37f83cb1d79ac2", func := "tallage/talkeep.SeatsVotes", spec := "seatsVotes", apart := false, narrowed := true }
def SeatsVotesUptoSaid : Prop := seatsVotesUptoRow.holds Try.pinned (OpenSpec.upto seatsVotesSpec)

/-- 'talkeep.SeatsJoin', WHERE WHAT IT READS IS OF BULK AT MOST 1048576: true; the input reads as it did. -/
def seatsJoinUptoRow : OpenClaim := { program := "ytmpcnipngepfgaa", sum := "222e99043b346353aef9c03aa0a497fa46e9942d2ccfb8363e37f83cb1d79ac2", func := "tallage/talkeep.SeatsJoin", spec := "seatsJoin", apart := false, narrowed := true }
def SeatsJoinUptoSaid : Prop := seatsJoinUptoRow.holds Try.pinned (OpenSpec.upto seatsJoinSpec)

/-- 'talkeep.SeatsQuota', WHERE WHAT IT READS IS OF BULK AT MOST 1048576: true; the input reads as it did. -/
def seatsQuotaUptoRow : OpenClaim := { program := "ytmpcnipngepfgaa", sum := "222e99043b346353aef9c03aa0a497fa46e9942d2ccfb8363e37f83cb1d79ac2", func := "tallage/talkeep.SeatsQuota", spec := "seatsQuota", apart := false, narrowed := true }
def SeatsQuotaUptoSaid : Prop := seatsQuotaUptoRow.holds Try.pinned (OpenSpec.upto seatsQuotaSpec)

/-- 'talkeep.SeatsScale', WHERE WHAT IT READS IS OF BULK AT MOST 1048576: true; the input reads as it did. -/
def seatsScaleUptoRow : OpenClaim := { program := "ytmpcnipngepfgaa", sum := "222e99043b346353aef9c03aa0a497fa46e9942d2ccfb8363e37f83cb1d79ac2", func := "tallage/talkeep.SeatsScale", spec := "seatsScale", apart := false, narrowed := true }
def SeatsScaleUptoSaid : Prop := seatsScaleUptoRow.holds Try.pinned (OpenSpec.upto seatsScaleSpec)

/-- 'talkeep.StockAll', WHERE WHAT IT READS IS OF BULK AT MOST 1048576: true; the input reads as it did. -/
def stockAllUptoRow : OpenClaim := { program := "ytmpcnipngepfgaa", sum := "222e99043b346353aef9c03aa0a497fa46e9942d2ccfb8363e37f83cb1d79ac2", func := "tallage/talkeep.StockAll", spec := "stockAll", apart := false, narrowed := true }
def StockAllUptoSaid : Prop := stockAllUptoRow.holds Try.pinned (OpenSpec.upto stockAllSpec)

/-- 'talkeep.StockDear', WHERE WHAT IT READS IS OF BULK AT MOST 1048576: true; the input reads as it did. -/
def stockDearUptoRow : OpenClaim := { program := "ytmpcnipngepfgaa", sum := "222e99043b346353aef9c03aa0a497fa46e9942d2ccfb8363e37f83cb1d79ac2", func := "tallage/talkeep.StockDear", spec := "stockDear", apart := false, narrowed := true }
def StockDearUptoSaid : Prop := stockDearUptoRow.holds Try.pinned (OpenSpec.upto stockDearSpec)

/-- 'talkeep.StockOut', WHERE WHAT IT READS IS OF BULK AT MOST 1048576: true; the input reads as it did. -/
def stockOutUptoRow : OpenClaim := { program := "ytmpcnipngepfgaa", sum := "222e99043b346353aef9c03aa0a497fa46e9942d2ccfb8363e37f83cb1d79ac2", func := "tallage/talkeep.StockOut", spec := "stockOut", apart := false, narrowed := true }
def StockOutUptoSaid : Prop := stockOutUptoRow.holds Try.pinned (OpenSpec.upto stockOutSpec)

/-- 'talkeep.StockAhead', WHERE WHAT IT READS IS OF BULK AT MOST 1048576: true; the input reads as it did. -/
def stockAheadUptoRow : OpenClaim := { program := "ytmpcnipngepfgaa", sum := "222e99043b346353aef9c03aa0a497fa46e9942d2ccfb8363e37f83cb1d79ac2", func := "tallage/talkeep.StockAhead", spec := "stockAhead", apart := false, narrowed := true }
def StockAheadUptoSaid : Prop := stockAheadUptoRow.holds Try.pinned (OpenSpec.upto stockAheadSpec)

end Rows
end Go.Proofs.Ytmpcnipngepfgaa
