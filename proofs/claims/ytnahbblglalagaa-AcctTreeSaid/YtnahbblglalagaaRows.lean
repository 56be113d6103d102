/-
  No cell of these rows narrows 'for every input' (looked for: loops, veiled, ifaces, maps, wideKeys, modest, calm, conditions, laid).
  DERIVED. THE GIVEN ROWS OF THIS SEAT. 3 by the template 'for every input the law returns true; each argument reads behind the call as it read before'; 0 by the template 'total and deterministic' (their statements: YtnahbblglalagaaTotals.lean).
  GIVEN WITH THE SEED: the statements are not yours to turn. If you find one false, say at which input.
  Laid BY PROGRAM, IN A SANDBOX (cutbox-rows.mjs): the forced cells as the released guide's own fill.sh prints them over the translation f46500af8d732e85… (all of the seat's roots in one cut). By AI agents, Wed Nov 11 2026. No macro, syntax, notation, axiom, sorry.
-/
import Derived.Test.YtnahbblglalagaaChecked
import GoSem.Claim
import GoSem.ClaimJoined
import GoSem.ClaimMapViews
import Derived.JoinedTies
import Derived.KernelRfl
namespace Go.Proofs.Ytnahbblglalagaa
/- THE CELL 'sum', in the pinned program and in every row, IS THE sha256 OF THE DUMP (.gsa) THAT YtnahbblglalagaaProg.lean LOADS. Nothing in Lean hashes anything: it is a label: what it is worth is what the hold of that sum in a sandbox is worth. -/
noncomputable def Try.pinned : Pinned := { name := "ytnahbblglalagaa", sum := "f46500af8d732e8562c8749be32fa913e977b44a9eb6407c42754c95747dbc59", checked := Try.checked }
namespace Rows
def none {H : Type} : Left H := { results := [], args := [] }

/-- 'talkeep.StockAhead': WHATEVER THE INPUT: true; the input reads as it did. -/
def stockAheadSpec : ChangeSpec := { name := "stockAhead", fn := fun _ => fun
  | [d1, d2] => { results := [.lit (.bool true)], args := [d1, d2] }
  | _ => none }
def stockAheadRow : OpenClaim := { program := "ytnahbblglalagaa", sum := "f46500af8d732e8562c8749be32fa913e977b44a9eb6407c42754c95747dbc59", func := "tallage/talkeep.StockAhead", spec := "stockAhead", apart := false }
def StockAheadSaid : Prop := stockAheadRow.holds Try.pinned (OpenSpec.ofChange stockAheadSpec)

/-- ITS FALSE NEIGHBOUR: 'it returns false'. Refute it at one input. -/
def stockAheadWrong : ChangeSpec := { name := "stockAhead", fn := fun _ => fun
  | [d1, d2] => { results := [.lit (.bool false)], args := [d1, d2] }
  | _ => none }
def StockAheadWrongFalsely : Prop := stockAheadRow.holds Try.pinned (OpenSpec.ofChange stockAheadWrong)

/-- 'talkeep.UnitsSum': WHATEVER THE INPUT: true; the input reads as it did. -/
def unitsSumSpec : ChangeSpec := { name := "unitsSum", fn := fun _ => fun
  | [d1, d2, d3, d4, d5, d6] => { results := [.lit (.bool true)], args := [d1, d2, d3, d4, d5, d6] }
  | _ => none }
def unitsSumRow : OpenClaim := { program := "ytnahbblglalagaa", sum := "f46500af8d732e8562c8749be32fa913e977b44a9eb6407c42754c95747dbc59", func := "tallage/talkeep.UnitsSum", spec := "unitsSum", inPlace := ["slices.overlaps[int]"], apart := false }
def UnitsSumSaid : Prop := unitsSumRow.holds Try.pinned (OpenSpec.ofChange unitsSumSpec)

/-- ITS FALSE NEIGHBOUR: 'it returns false'. Refute it at one input. -/
def unitsSumWrong : ChangeSpec := { name := "unitsSum", fn := fun _ => fun
  | [d1, d2, d3, d4, d5, d6] => { results := [.lit (.bool false)], args := [d1, d2, d3, d4, d5, d6] }
  | _ => none }
def UnitsSumWrongFalsely : Prop := unitsSumRow.holds Try.pinned (OpenSpec.ofChange unitsSumWrong)

/-- 'talkeep.AcctTree': WHATEVER THE INPUT: true; the input reads as it did. -/
def acctTreeSpec : ChangeSpec := { name := "acctTree", fn := fun _ => fun
  | [d1, d2] => { results := [.lit (.bool true)], args := [d1, d2] }
  | _ => none }
def acctTreeRow : OpenClaim := { program := "ytnahbblglalagaa", sum := "f46500af8d732e8562c8749be32fa913e977b44a9eb6407c42754c95747dbc59", func := "tallage/talkeep.AcctTree", spec := "acctTree", unfollowed := true, recurses := true, apart := false }
def AcctTreeSaid : Prop := acctTreeRow.holds Try.pinned (OpenSpec.ofChange acctTreeSpec)

/-- ITS FALSE NEIGHBOUR: 'it returns false'. Refute it at one input. -/
def acctTreeWrong : ChangeSpec := { name := "acctTree", fn := fun _ => fun
  | [d1, d2] => { results := [.lit (.bool false)], args := [d1, d2] }
  | _ => none }
def AcctTreeWrongFalsely : Prop := acctTreeRow.holds Try.pinned (OpenSpec.ofChange acctTreeWrong)

/- THE SECOND FORM. 'bulk': how many values and letters a reading holds, each counted each time it is reached (what is shared counts as often as it is met; a slice's spare places count too). A statement '..UptoSaid' is the law's where the arguments, and the package variables that the reading takes, are together of bulk at most 1048576: NARROWER than '..Said'. Prove '..Said' where nothing that the law and all that it calls make is longer than what came in: it says more and counts as full. Else prove '..UptoSaid'. A law counts once. -/
mutual
def uptoBulk {H : Type} : DataW H → Nat
  | .lit (.string bytes) => bytes.length + 1
  | .lit _ => 1
  | .nil => 1
  | .ptr d => uptoBulk d + 1
  | .slice elems spare => uptoBulkAll elems + uptoBulkAll spare + 1
  | .agg parts => uptoBulkAll parts + 1
  | .iface _ d => uptoBulk d + 1
  | .map entries => uptoBulkEntries entries + 1
  | .held _ => 1
def uptoBulkAll {H : Type} : List (DataW H) → Nat
  | [] => 0
  | d :: r => uptoBulk d + uptoBulkAll r
def uptoBulkEntries {H : Type} : List (Lit × DataW H) → Nat
  | [] => 0
  | x :: r => uptoBulkEntry x + uptoBulkEntries r
def uptoBulkEntry {H : Type} : Lit × DataW H → Nat
  | (.string bytes, d) => bytes.length + uptoBulk d + 1
  | (_, d) => uptoBulk d + 1
 end
def uptoSmall : (H : Type) → List (DataW H) → Bool := fun _ ds => decide (uptoBulkAll ds ≤ 1048576)
def OpenSpec.upto (s : _root_.Go.ChangeSpec) : _root_.Go.OpenSpec := { _root_.Go.OpenSpec.ofChange s with cond := some uptoSmall }

/-- 'talkeep.StockAhead', WHERE WHAT IT READS IS OF BULK AT MOST 1048576: true; the input reads as it did. -/
def stockAheadUptoRow : OpenClaim := { program := "ytnahbblglalagaa", sum := "f46500af8d732e8562c8749be32fa913e977b44a9eb6407c42754c95747dbc59", func := "tallage/talkeep.StockAhead", spec := "stockAhead", apart := false, narrowed := true }
def StockAheadUptoSaid : Prop := stockAheadUptoRow.holds Try.pinned (OpenSpec.upto stockAheadSpec)

/-- 'talkeep.UnitsSum', WHERE WHAT IT READS IS OF BULK AT MOST 1048576: true; the input reads as it did. -/
def unitsSumUptoRow : OpenClaim := { program := "ytnahbblglalagaa", sum := "f46500af8d732e8562c8749be32fa913e977b44a9eb6407c42754c95747dbc59", func := "tallage/talkeep.UnitsSum", spec := "unitsSum", inPlace := ["slices.overlaps[int]"], apart := false, narrowed := true }
def UnitsSumUptoSaid : Prop := unitsSumUptoRow.holds Try.pinned (OpenSpec.upto unitsSumSpec)

/-- 'talkeep.AcctTree', WHERE WHAT IT READS IS OF BULK AT MOST 1048576: true; the input reads as it did. -/
def acctTreeUptoRow : OpenClaim := { program := "ytnahbblglalagaa", sum := "f46500af8d732e8562c8749be32fa913e977b44a9eb6407c42754c95747dbc59", func := "tallage/talkeep.AcctTree", spec := "acctTree", unfollowed := true, recurses := true, apart := false, narrowed := true }
def AcctTreeUptoSaid : Prop := acctTreeUptoRow.holds Try.pinned (OpenSpec.upto acctTreeSpec)

end Rows
end Go.Proofs.Ytnahbblglalagaa
