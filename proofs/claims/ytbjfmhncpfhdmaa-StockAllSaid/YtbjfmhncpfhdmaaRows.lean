/-
  No cell of these rows narrows 'for every input' (looked for: loops, veiled, ifaces, maps, wideKeys, modest, calm, conditions, laid).
  DERIVED. THE GIVEN ROWS OF THIS SEAT. 7 by the template 'for every input the law returns true; each argument reads behind the call as it read before'; 0 by the template 'total and deterministic' (their statements: YtbjfmhncpfhdmaaTotals.lean).
  GIVEN WITH THE SEED: the statements are not yours to turn. If you find one false, say at which input.
  Laid BY PROGRAM, IN A SANDBOX (cutbox-rows.mjs): the forced cells as the released guide's own fill.sh prints them over the translation f3b0c9675917bb7a… (all of the seat's roots in one cut). By AI agents, Wed Nov 11 2026. No macro, syntax, notation, axiom, sorry.
-/
import Derived.Test.YtbjfmhncpfhdmaaChecked
import GoSem.Claim
import GoSem.ClaimJoined
import GoSem.ClaimMapViews
import Derived.JoinedTies
import Derived.KernelRfl
namespace Go.Proofs.Ytbjfmhncpfhdmaa
/- THE CELL 'sum', in the pinned program and in every row, IS THE sha256 OF THE DUMP (.gsa) THAT YtbjfmhncpfhdmaaProg.lean LOADS. Nothing in Lean hashes anything: it is a label: what it is worth is what the hold of that sum in a sandbox is worth. -/
noncomputable def Try.pinned : Pinned := { name := "ytbjfmhncpfhdmaa", sum := "f3b0c9675917bb7a39d45f7b7a9cd4f7df2c19130f4cfb2cb2998bf5c8db0c61", checked := Try.checked }
namespace Rows
def none {H : Type} : Left H := { results := [], args := [] }

/-- 'talkeep.MoneyParts': WHATEVER THE INPUT: true; the input reads as it did. -/
def moneyPartsSpec : ChangeSpec := { name := "moneyParts", fn := fun _ => fun
  | [d1, d2, d3, d4] => { results := [.lit (.bool true)], args := [d1, d2, d3, d4] }
  | _ => none }
def moneyPartsRow : OpenClaim := { program := "ytbjfmhncpfhdmaa", sum := "f3b0c9675917bb7a39d45f7b7a9cd4f7df2c19130f4cfb2cb2998bf5c8db0c61", func := "tallage/talkeep.MoneyParts", spec := "moneyParts", unfollowed := true, recurses := true, apart := false }
def MoneyPartsSaid : Prop := moneyPartsRow.holds Try.pinned (OpenSpec.ofChange moneyPartsSpec)

/-- ITS FALSE NEIGHBOUR: 'it returns false'. Refute it at one input. -/
def moneyPartsWrong : ChangeSpec := { name := "moneyParts", fn := fun _ => fun
  | [d1, d2, d3, d4] => { results := [.lit (.bool false)], args := [d1, d2, d3, d4] }
  | _ => none }
def MoneyPartsWrongFalsely : Prop := moneyPartsRow.holds Try.pinned (OpenSpec.ofChange moneyPartsWrong)

/-- 'talkeep.StockAll': WHATEVER THE INPUT: true; the input reads as it did. -/
def stockAllSpec : ChangeSpec := { name := "stockAll", fn := fun _ => fun
  | [d] => { results := [.lit (.bool true)], args := [d] }
  | _ => none }
def stockAllRow : OpenClaim := { program := "ytbjfmhncpfhdmaa", sum := "f3b0c9675917bb7a39d45f7b7a9cd4f7df2c19130f4cfb2cb2998bf5c8db0c61", func := "tallage/talkeep.StockAll", spec := "stockAll", apart := false }
def StockAllSaid : Prop := stockAllRow.holds Try.pinned (OpenSpec.ofChange stockAllSpec)

/-- ITS FALSE NEIGHBOUR: 'it returns false'. Refute it at one input. -/
def stockAllWrong : ChangeSpec := { name := "stockAll", fn := fun _ => fun
  | [d] => { results := [.lit (.bool false)], args := [d] }
  | _ => none }
def StockAllWrongFalsely : Prop := stockAllRow.holds Try.pinned (OpenSpec.ofChange stockAllWrong)

/-- 'talkeep.StockDear': WHATEVER THE INPUT: true; the input reads as it did. -/
def stockDearSpec : ChangeSpec := { name := "stockDear", fn := fun _ => fun
  | [d1, d2] => { results := [.lit (.bool true)], args := [d1, d2] }
  | _ => none }
def stockDearRow : OpenClaim := { program := "ytbjfmhncpfhdmaa", sum := "f3b0c9675917bb7a39d45f7b7a9cd4f7df2c19130f4cfb2cb2998bf5c8db0c61", func := "tallage/talkeep.StockDear", spec := "stockDear", apart := false }
def StockDearSaid : Prop := stockDearRow.holds Try.pinned (OpenSpec.ofChange stockDearSpec)

/-- ITS FALSE NEIGHBOUR: 'it returns false'. Refute it at one input. -/
def stockDearWrong : ChangeSpec := { name := "stockDear", fn := fun _ => fun
  | [d1, d2] => { results := [.lit (.bool false)], args := [d1, d2] }
  | _ => none }
def StockDearWrongFalsely : Prop := stockDearRow.holds Try.pinned (OpenSpec.ofChange stockDearWrong)

/-- 'talkeep.StockOut': WHATEVER THE INPUT: true; the input reads as it did. -/
def stockOutSpec : ChangeSpec := { name := "stockOut", fn := fun _ => fun
  | [d1, d2, d3] => { results := [.lit (.bool true)], args := [d1, d2, d3] }
  | _ => none }
def stockOutRow : OpenClaim := { program := "ytbjfmhncpfhdmaa", sum := "f3b0c9675917bb7a39d45f7b7a9cd4f7df2c19130f4cfb2cb2998bf5c8db0c61", func := "tallage/talkeep.StockOut", spec := "stockOut", apart := false }
def StockOutSaid : Prop := stockOutRow.holds Try.pinned (OpenSpec.ofChange stockOutSpec)

/-- ITS FALSE NEIGHBOUR: 'it returns false'. Refute it at one input. -/
def stockOutWrong : ChangeSpec := { name := "stockOut", fn := fun _ => fun
  | [d1, d2, d3] => { results := [.lit (.bool false)], args := [d1, d2, d3] }
  | _ => none }
def StockOutWrongFalsely : Prop := stockOutRow.holds Try.pinned (OpenSpec.ofChange stockOutWrong)

/-- 'talkeep.StockAhead': WHATEVER THE INPUT: true; the input reads as it did. -/
def stockAheadSpec : ChangeSpec := { name := "stockAhead", fn := fun _ => fun
  | [d1, d2] => { results := [.lit (.bool true)], args := [d1, d2] }
  | _ => none }
def stockAheadRow : OpenClaim := { program := "ytbjfmhncpfhdmaa", sum := "f3b0c9675917bb7a39d45f7b7a9cd4f7df2c19130f4cfb2cb2998bf5c8db0c61", func := "tallage/talkeep.StockAhead", spec := "stockAhead", apart := false }
def StockAheadSaid : Prop := stockAheadRow.holds Try.pinned (OpenSpec.ofChange stockAheadSpec)

/-- ITS FALSE NEIGHBOUR: 'it returns false'. Refute it at one input. -/
def stockAheadWrong : ChangeSpec := { name := "stockAhead", fn := fun _ => fun
  | [d1, d2] => { results := [.lit (.bool false)], args := [d1, d2] }
  | _ => none }
def StockAheadWrongFalsely : Prop := stockAheadRow.holds Try.pinned (OpenSpec.ofChange stockAheadWrong)

/-- 'talkeep.UnitsSum': WHATEVER THE INPUT: true; the input reads as it did. -/
def unitsSumSpec : ChangeSpec := { name := "unitsSum", fn := fun _ => fun
  | [d1, d2, d3, d4, d5, d6] => { results := [.lit (.bool true)], args := [d1, d2, d3, d4, d5, d6] }
  | _ => none }
def unitsSumRow : OpenClaim := { program := "ytbjfmhncpfhdmaa", sum := "f3b0c9675917bb7a39d45f7b7a9cd4f7df2c19130f4cfb2cb2998bf5c8db0c61", func := "tallage/talkeep.UnitsSum", spec := "unitsSum", inPlace := ["slices.overlaps[int]"], apart := false }
def UnitsSumSaid : Prop := unitsSumRow.holds Try.pinned (OpenSpec.ofChange unitsSumSpec)

/-- ITS FALSE NEIGHBOUR: 'it returns false'. Refute it at one input. -/
def unitsSumWrong : ChangeSpec := { name := "unitsSum", fn := fun _ => fun
  | [d1, d2, d3, d4, d5, d6] => { results := [.lit (.bool false)], args := [d1, d2, d3, d4, d5, d6] }
  | _ => none }
def UnitsSumWrongFalsely : Prop := unitsSumRow.holds Try.pinned (OpenSpec.ofChange unitsSumWrong)

/-- 'talkeep.AcctTree': WHATEVER THE INPUT: true; the input reads as it did. -/
def acctTreeSpec : ChangeSpec := { name := "acctTree", fn := fun _ => fun
  | [d1, d2] => { results := [.lit (.bool true)], args := [d1, d2] }
  | _ => none }
def acctTreeRow : OpenClaim := { program := "ytbjfmhncpfhdmaa", sum := "f3b0c9675917bb7a39d45f7b7a9cd4f7df2c19130f4cfb2cb2998bf5c8db0c61", func := "tallage/talkeep.AcctTree", spec := "acctTree", unfollowed := true, recurses := true, apart := false }
def AcctTreeSaid : Prop := acctTreeRow.holds Try.pinned (OpenSpec.ofChange acctTreeSpec)

/-- ITS FALSE NEIGHBOUR: 'it returns false'. Refute it at one input. -/
def acctTreeWrong : ChangeSpec := { name := "acctTree", fn := fun _ => fun
  | [d1, d2] => { results := [.lit (.bool false)], args := [d1, d2] }
  | _ => none }
def AcctTreeWrongFalsely : Prop := acctTreeRow.holds Try.pinned (OpenSpec.ofChange acctTreeWrong)

/- THE SECOND FORM. 'bulk': how many values and letters a reading holds, each counted each time it is reached (what is shared counts as often as it is met; a slice's spare places count too). A statement '..UptoSaid' is the law's where the arguments, and the package variables that the reading takes, are together of bulk at most 1048576: NARROWER than '..Said'. Prove '..Said' where nothing that the law and all that it calls make is longer than what came in: it says more and counts as full. Else prove '..UptoSaid'. A law counts once. -/
mutual
def uptoBulk {H : Type} : DataW H → Nat
  | .lit (.string bytes) => bytes.length + 1
  | .lit _ => 1
  | .nil => 1
  | .ptr d => uptoBulk d + 1
  | .slice elems spare => uptoBulkAll elems + uptoBulkAll spare + 1
  | .agg parts => uptoBulkAll parts + 1
  | .iface _ d => uptoBulk d + 1
  | .map entries => uptoBulkEntries entries + 1
  | .held _ => 1
def uptoBulkAll {H : Type} : List (DataW H) → Nat
  | [] => 0
  | d :: r => uptoBulk d + uptoBulkAll r
def uptoBulkEntries {H : Type} : List (Lit × DataW H) → Nat
  | [] => 0
  | x :: r => uptoBulkEntry x + uptoBulkEntries r
def uptoBulkEntry {H : Type} : Lit × DataW H → Nat
  | (.string bytes, d) => bytes.length + uptoBulk d + 1
  | (_, d) => uptoBulk d + 1
 end
def uptoSmall : (H : Type) → List (DataW H) → Bool := fun _ ds => decide (uptoBulkAll ds ≤ 1048576)
def OpenSpec.upto (s : _root_.Go.ChangeSpec) : _root_.Go.OpenSpec := { _root_.Go.OpenSpec.ofChange s with cond := some uptoSmall }

/-- 'talkeep.MoneyParts', WHERE WHAT IT READS IS OF BULK AT MOST 1048576: true; the input reads as it did. -/
def moneyPartsUptoRow : OpenClaim := { program := "ytbjfmhncpfhdmaa", sum := "f3b0c9675917bb7a39d45f7b7a9cd4f7df2c19130f4cfb2cb2998bf5c8db0c61", func := "tallage/talkeep.MoneyParts", spec := "moneyParts", unfollowed := true, recurses := true, apart := false, narrowed := true }
def MoneyPartsUptoSaid : Prop := moneyPartsUptoRow.holds Try.pinned (OpenSpec.upto moneyPartsSpec)

/-- 'talkeep.StockAll', WHERE WHAT IT READS IS OF BULK AT MOST 1048576: true; the input reads as it did. -/
def stockAllUptoRow : OpenClaim := { program := "ytbjfmhncpfhdmaa", sum := "f3b0c9675917bb7a39d45f7b7a9cd4f7df2c19130f4cfb2cb2998bf5c8db0c61", func := "tallage/talkeep.StockAll", spec := "stockAll", apart := false, narrowed := true }
def StockAllUptoSaid : Prop := stockAllUptoRow.holds Try.pinned (OpenSpec.upto stockAllSpec)

/-- 'talkeep.StockDear', WHERE WHAT IT READS IS OF BULK AT MOST 1048576: true; the input reads as it did. -/
def stockDearUptoRow : OpenClaim := { program := "ytbjfmhncpfhdmaa", sum := "f3b0c9675917bb7a39d45f7b7a9cd4f7df2c19130f4cfb2cb2998bf5c8db0c61", func := "tallage/talkeep.StockDear", spec := "stockDear", apart := false, narrowed := true }
def StockDearUptoSaid : Prop := stockDearUptoRow.holds Try.pinned (OpenSpec.upto stockDearSpec)

/-- 'talkeep.StockOut', WHERE WHAT IT READS IS OF BULK AT MOST 1048576: true; the input reads as it did. -/
def stockOutUptoRow : OpenClaim := { program := "ytbjfmhncpfhdmaa", sum := "f3b0c9675917bb7a39d45f7b7a9cd4f7df2c19130f4cfb2cb2998bf5c8db0c61", func := "tallage/talkeep.StockOut", spec := "stockOut", apart := false, narrowed := true }
def StockOutUptoSaid : Prop := stockOutUptoRow.holds Try.pinned (OpenSpec.upto stockOutSpec)

/-- 'talkeep.StockAhead', WHERE WHAT IT READS IS OF BULK AT MOST 1048576: true; the input reads as it did. -/
def stockAheadUptoRow : OpenClaim := { program := "ytbjfmhncpfhdmaa", sum := "f3b0c9675917bb7a39d45f7b7a9cd4f7df2c19130f4cfb2cb2998bf5c8db0c61", func := "tallage/talkeep.StockAhead", spec := "stockAhead", apart := false, narrowed := true }
def StockAheadUptoSaid : Prop := stockAheadUptoRow.holds Try.pinned (OpenSpec.upto stockAheadSpec)

/-- 'talkeep.UnitsSum', WHERE WHAT IT READS IS OF BULK AT MOST 1048576: true; the input reads as it did. -/
def unitsSumUptoRow : OpenClaim := { program := "ytbjfmhncpfhdmaa", sum := "f3b0c9675917bb7a39d45f7b7a9cd4f7df2c19130f4cfb2cb2998bf5c8db0c61", func := "tallage/talkeep.UnitsSum", spec := "unitsSum", inPlace := ["slices.overlaps[int]"], apart := false, narrowed := true }
def UnitsSumUptoSaid : Prop := unitsSumUptoRow.holds Try.pinned (OpenSpec.upto unitsSumSpec)

/-- 'talkeep.AcctTree', WHERE WHAT IT READS IS OF BULK AT MOST 1048576: true; the input reads as it did. -/
def acctTreeUptoRow : OpenClaim := { program := "ytbjfmhncpfhdmaa", sum := "f3b0c9675917bb7a39d45f7b7a9cd4f7df2c19130f4cfb2cb2998bf5c8db0c61", func := "tallage/talkeep.AcctTree", spec := "acctTree", unfollowed := true, recurses := true, apart := false, narrowed := true }
def AcctTreeUptoSaid : Prop := acctTreeUptoRow.holds Try.pinned (OpenSpec.upto acctTreeSpec)

end Rows
end Go.Proofs.Ytbjfmhncpfhdmaa
