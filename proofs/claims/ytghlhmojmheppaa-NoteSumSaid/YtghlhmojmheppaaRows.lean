/-
  No cell of these rows narrows 'for every input' (looked for: loops, veiled, ifaces, maps, wideKeys, modest, calm, conditions, laid).
  DERIVED. THE GIVEN ROWS OF THIS SEAT. 12 by the template 'for every input the law returns true; each argument reads behind the call as it read before'; 0 by the template 'total and deterministic' (their statements: YtghlhmojmheppaaTotals.lean).
  GIVEN WITH THE SEED: the statements are not yours to turn. If you find one false, say at which input.
  Laid BY PROGRAM, IN A SANDBOX (cutbox-rows.mjs): the forced cells as the released guide's own fill.sh prints them over the translation b2d173e71793e515… (all of the seat's roots in one cut). By AI agents, Wed Nov 11 2026. No macro, syntax, notation, axiom, sorry.
-/
import Derived.Test.YtghlhmojmheppaaChecked
import GoSem.Claim
import GoSem.ClaimJoined
import GoSem.ClaimMapViews
import Derived.JoinedTies
import Derived.KernelRfl
namespace Go.Proofs.Ytghlhmojmheppaa
/- THE CELL 'sum', in the pinned program and in every row, IS THE sha256 OF THE DUMP (.gsa) THAT YtghlhmojmheppaaProg.lean LOADS. Nothing in Lean hashes anything: it is a label: what it is worth is what the hold of that sum in a sandbox is worth. -/
noncomputable def Try.pinned : Pinned := { name := "ytghlhmojmheppaa", sum := "b2d173e71793e515513b3f13ddebdc295b52159dc6c73aceb8588c63071a1c64", checked := Try.checked }
namespace Rows
def none {H : Type} : Left H := { results := [], args := [] }

/-- 'talkeep.FallFaster': WHATEVER THE INPUT: true; the input reads as it did. -/
def fallFasterSpec : ChangeSpec := { name := "fallFaster", fn := fun _ => fun
  | [d1, d2, d3, d4, d5, d6, d7] => { results := [.lit (.bool true)], args := [d1, d2, d3, d4, d5, d6, d7] }
  | _ => none }
def fallFasterRow : OpenClaim := { program := "ytghlhmojmheppaa", sum := "b2d173e71793e515513b3f13ddebdc295b52159dc6c73aceb8588c63071a1c64", func := "tallage/talkeep.FallFaster", spec := "fallFaster", apart := false }
def FallFasterSaid : Prop := fallFasterRow.holds Try.pinned (OpenSpec.ofChange fallFasterSpec)

/-- ITS FALSE NEIGHBOUR: 'it returns false'. Refute it at one input. -/
def fallFasterWrong : ChangeSpec := { name := "fallFaster", fn := fun _ => fun
  | [d1, d2, d3, d4, d5, d6, d7] => { results := [.lit (.bool false)], args := [d1, d2, d3, d4, d5, d6, d7] }
  | _ => none }
def FallFasterWrongFalsely : Prop := fallFasterRow.holds Try.pinned (OpenSpec.ofChange fallFasterWrong)

/-- 'talkeep.FallFalls': WHATEVER THE INPUT: true; the input reads as it did. -/
def fallFallsSpec : ChangeSpec := { name := "fallFalls", fn := fun _ => fun
  | [d1, d2, d3, d4] => { results := [.lit (.bool true)], args := [d1, d2, d3, d4] }
  | _ => none }
def fallFallsRow : OpenClaim := { program := "ytghlhmojmheppaa", sum := "b2d173e71793e515513b3f13ddebdc295b52159dc6c73aceb8588c63071a1c64", func := "tallage/talkeep.FallFalls", spec := "fallFalls", apart := false }
def FallFallsSaid : Prop := fallFallsRow.holds Try.pinned (OpenSpec.ofChange fallFallsSpec)

/-- ITS FALSE NEIGHBOUR: 'it returns false'. Refute it at one input. -/
def fallFallsWrong : ChangeSpec := { name := "fallFalls", fn := fun _ => fun
  | [d1, d2, d3, d4] => { results := [.lit (.bool false)], args := [d1, d2, d3, d4] }
  | _ => none }
def FallFallsWrongFalsely : Prop := fallFallsRow.holds Try.pinned (OpenSpec.ofChange fallFallsWrong)

/-- 'talkeep.FallSum': WHATEVER THE INPUT: true; the input reads as it did. -/
def fallSumSpec : ChangeSpec := { name := "fallSum", fn := fun _ => fun
  | [d1, d2, d3, d4, d5] => { results := [.lit (.bool true)], args := [d1, d2, d3, d4, d5] }
  | _ => none }
def fallSumRow : OpenClaim := { program := "ytghlhmojmheppaa", sum := "b2d173e71793e515513b3f13ddebdc295b52159dc6c73aceb8588c63071a1c64", func := "tallage/talkeep.FallSum", spec := "fallSum", apart := false }
def FallSumSaid : Prop := fallSumRow.holds Try.pinned (OpenSpec.ofChange fallSumSpec)

/-- ITS FALSE NEIGHBOUR: 'it returns false'. Refute it at one input. -/
def fallSumWrong : ChangeSpec := { name := "fallSum", fn := fun _ => fun
  | [d1, d2, d3, d4, d5] => { results := [.lit (.bool false)], args := [d1, d2, d3, d4, d5] }
  | _ => none }
def FallSumWrongFalsely : Prop := fallSumRow.holds Try.pinned (OpenSpec.ofChange fallSumWrong)

/-- 'talkeep.UnitsSum': WHATEVER THE INPUT: true; the input reads as it did. -/
def unitsSumSpec : ChangeSpec := { name := "unitsSum", fn := fun _ => fun
  | [d1, d2, d3, d4, d5, d6] => { results := [.lit (.bool true)], args := [d1, d2, d3, d4, d5, d6] }
  | _ => none }
def unitsSumRow : OpenClaim := { program := "ytghlhmojmheppaa", sum := "b2d173e71793e515513b3f13ddebdc295b52159dc6c73aceb8588c63071a1c64", func := "tallage/talkeep.UnitsSum", spec := "unitsSum", inPlace := ["slices.overlaps[int]"], apart := false }
def UnitsSumSaid : Prop := unitsSumRow.holds Try.pinned (OpenSpec.ofChange unitsSumSpec)

/-- ITS FALSE NEIGHBOUR: 'it returns false'. Refute it at one input. -/
def unitsSumWrong : ChangeSpec := { name := "unitsSum", fn := fun _ => fun
  | [d1, d2, d3, d4, d5, d6] => { results := [.lit (.bool false)], args := [d1, d2, d3, d4, d5, d6] }
  | _ => none }
def UnitsSumWrongFalsely : Prop := unitsSumRow.holds Try.pinned (OpenSpec.ofChange unitsSumWrong)

/-- 'talkeep.NoteMore': WHATEVER THE INPUT: true; the input reads as it did. -/
def noteMoreSpec : ChangeSpec := { name := "noteMore", fn := fun _ => fun
  | [d1, d2, d3, d4, d5] => { results := [.lit (.bool true)], args := [d1, d2, d3, d4, d5] }
  | _ => none }
def noteMoreRow : OpenClaim := { program := "ytghlhmojmheppaa", sum := "b2d173e71793e515513b3f13ddebdc295b52159dc6c73aceb8588c63071a1c64", func := "tallage/talkeep.NoteMore", spec := "noteMore", apart := false }
def NoteMoreSaid : Prop := noteMoreRow.holds Try.pinned (OpenSpec.ofChange noteMoreSpec)

/-- ITS FALSE NEIGHBOUR: 'it returns false'. Refute it at one input. -/
def noteMoreWrong : ChangeSpec := { name := "noteMore", fn := fun _ => fun
  | [d1, d2, d3, d4, d5] => { results := [.lit (.bool false)], args := [d1, d2, d3, d4, d5] }
  | _ => none }
def NoteMoreWrongFalsely : Prop := noteMoreRow.holds Try.pinned (OpenSpec.ofChange noteMoreWrong)

/-- 'talkeep.NoteSum': WHATEVER THE INPUT: true; the input reads as it did. -/
def noteSumSpec : ChangeSpec := { name := "noteSum", fn := fun _ => fun
  | [d1, d2, d3] => { results := [.lit (.bool true)], args := [d1, d2, d3] }
  | _ => none }
def noteSumRow : OpenClaim := { program := "ytghlhmojmheppaa", sum := "b2d173e71793e515513b3f13ddebdc295b52159dc6c73aceb8588c63071a1c64", func := "tallage/talkeep.NoteSum", spec := "noteSum", apart := false }
def NoteSumSaid : Prop := noteSumRow.holds Try.pinned (OpenSpec.ofChange noteSumSpec)

/-- ITS FALSE NEIGHBOUR: 'it returns false'. Refute it at one input. -/
def noteSumWrong : ChangeSpec := { name := "noteSum", fn := fun _ => fun
  | [d1, d2, d3] => { results := [.lit (.bool false)], args := [d1, d2, d3] }
  | _ => none }
def NoteSumWrongFalsely : Prop := noteSumRow.holds Try.pinned (OpenSpec.ofChange noteSumWrong)

/-- 'talkeep.NoteGrows': WHATEVER THE INPUT: true; the input reads as it did. -/
def noteGrowsSpec : ChangeSpec := { name := "noteGrows", fn := fun _ => fun
  | [d1, d2, d3, d4, d5, d6] => { results := [.lit (.bool true)], args := [d1, d2, d3, d4, d5, d6] }
  | _ => none }
def noteGrowsRow : OpenClaim := { program := "ytghlhmojmheppaa", sum := "b2d173e71793e515513b3f13ddebdc295b52159dc6c73aceb8588c63071a1c64", func := "tallage/talkeep.NoteGrows", spec := "noteGrows", unfollowed := true, recurses := true, apart := false }
def NoteGrowsSaid : Prop := noteGrowsRow.holds Try.pinned (OpenSpec.ofChange noteGrowsSpec)

/-- ITS FALSE NEIGHBOUR: 'it returns false'. Refute it at one input. -/
def noteGrowsWrong : ChangeSpec := { name := "noteGrows", fn := fun _ => fun
  | [d1, d2, d3, d4, d5, d6] => { results := [.lit (.bool false)], args := [d1, d2, d3, d4, d5, d6] }
  | _ => none }
def NoteGrowsWrongFalsely : Prop := noteGrowsRow.holds Try.pinned (OpenSpec.ofChange noteGrowsWrong)

/-- 'talkeep.NoteLeast': WHATEVER THE INPUT: true; the input reads as it did. -/
def noteLeastSpec : ChangeSpec := { name := "noteLeast", fn := fun _ => fun
  | [d1, d2, d3] => { results := [.lit (.bool true)], args := [d1, d2, d3] }
  | _ => none }
def noteLeastRow : OpenClaim := { program := "ytghlhmojmheppaa", sum := "b2d173e71793e515513b3f13ddebdc295b52159dc6c73aceb8588c63071a1c64", func := "tallage/talkeep.NoteLeast", spec := "noteLeast", unfollowed := true, recurses := true, apart := false }
def NoteLeastSaid : Prop := noteLeastRow.holds Try.pinned (OpenSpec.ofChange noteLeastSpec)

/-- ITS FALSE NEIGHBOUR: 'it returns false'. Refute it at one input. -/
def noteLeastWrong : ChangeSpec := { name := "noteLeast", fn := fun _ => fun
  | [d1, d2, d3] => { results := [.lit (.bool false)], args := [d1, d2, d3] }
  | _ => none }
def NoteLeastWrongFalsely : Prop := noteLeastRow.holds Try.pinned (OpenSpec.ofChange noteLeastWrong)

/-- 'talkeep.NoteFree': WHATEVER THE INPUT: true; the input reads as it did. -/
def noteFreeSpec : ChangeSpec := { name := "noteFree", fn := fun _ => fun
  | [d1, d2, d3] => { results := [.lit (.bool true)], args := [d1, d2, d3] }
  | _ => none }
def noteFreeRow : OpenClaim := { program := "ytghlhmojmheppaa", sum := "b2d173e71793e515513b3f13ddebdc295b52159dc6c73aceb8588c63071a1c64", func := "tallage/talkeep.NoteFree", spec := "noteFree", unfollowed := true, recurses := true, apart := false }
def NoteFreeSaid : Prop := noteFreeRow.holds Try.pinned (OpenSpec.ofChange noteFreeSpec)

/-- ITS FALSE NEIGHBOUR: 'it returns false'. Refute it at one input. -/
def noteFreeWrong : ChangeSpec := { name := "noteFree", fn := fun _ => fun
  | [d1, d2, d3] => { results := [.lit (.bool false)], args := [d1, d2, d3] }
  | _ => none }
def NoteFreeWrongFalsely : Prop := noteFreeRow.holds Try.pinned (OpenSpec.ofChange noteFreeWrong)

/-- 'talkeep.EntryTurned': WHATEVER THE INPUT: true; the input reads as it did. -/
def entryTurnedSpec : ChangeSpec := { name := "entryTurned", fn := fun _ => fun
  | [d1, d2, d3] => { results := [.lit (.bool true)], args := [d1, d2, d3] }
  | _ => none }
def entryTurnedRow : OpenClaim := { program := "ytghlhmojmheppaa", sum := "b2d173e71793e515513b3f13ddebdc295b52159dc6c73aceb8588c63071a1c64", func := "tallage/talkeep.EntryTurned", spec := "entryTurned", unfollowed := true, recurses := true, apart := false }
def EntryTurnedSaid : Prop := entryTurnedRow.holds Try.pinned (OpenSpec.ofChange entryTurnedSpec)

/-- ITS FALSE NEIGHBOUR: 'it returns false'. Refute it at one input. -/
def entryTurnedWrong : ChangeSpec := { name := "entryTurned", fn := fun _ => fun
  | [d1, d2, d3] => { results := [.lit (.bool false)], args := [d1, d2, d3] }
  | _ => none }
def EntryTurnedWrongFalsely : Prop := entryTurnedRow.holds Try.pinned (OpenSpec.ofChange entryTurnedWrong)

/-- 'talkeep.EntryMoved': WHATEVER THE INPUT: true; the input reads as it did. -/
def entryMovedSpec : ChangeSpec := { name := "entryMoved", fn := fun _ => fun
  | [d1, d2, d3] => { results := [.lit (.bool true)], args := [d1, d2, d3] }
  | _ => none }
def entryMovedRow : OpenClaim := { program := "ytghlhmojmheppaa", sum := "b2d173e71793e515513b3f13ddebdc295b52159dc6c73aceb8588c63071a1c64", func := "tallage/talkeep.EntryMoved", spec := "entryMoved", unfollowed := true, recurses := true, apart := false }
def EntryMovedSaid : Prop := entryMovedRow.holds Try.pinned (OpenSpec.ofChange entryMovedSpec)

/-- ITS FALSE NEIGHBOUR: 'it returns false'. Refute it at one input. -/
def entryMovedWrong : ChangeSpec := { name := "entryMoved", fn := fun _ => fun
  | [d1, d2, d3] => { results := [.lit (.bool false)], args := [d1, d2, d3] }
  | _ => none }
def EntryMovedWrongFalsely : Prop := entryMovedRow.holds Try.pinned (OpenSpec.ofChange entryMovedWrong)

/-- 'talkeep.AcctTree': WHATEVER THE INPUT: true; the input reads as it did. -/
def acctTreeSpec : ChangeSpec := { name := "acctTree", fn := fun _ => fun
  | [d1, d2] => { results := [.lit (.bool true)], args := [d1, d2] }
  | _ => none }
def acctTreeRow : OpenClaim := { program := "ytghlhmojmheppaa", sum := "b2d173e71793e515513b3f13ddebdc295b52159dc6c73aceb8588c63071a1c64", func := "tallage/talkeep.AcctTree", spec := "acctTree", unfollowed := true, recurses := true, apart := false }
def AcctTreeSaid : Prop := acctTreeRow.holds Try.pinned (OpenSpec.ofChange acctTreeSpec)

/-- ITS FALSE NEIGHBOUR: 'it returns false'. Refute it at one input. -/
def acctTreeWrong : ChangeSpec := { name := "acctTree", fn := fun _ => fun
  | [d1, d2] => { results := [.lit (.bool false)], args := [d1, d2] }
  | _ => none }
def AcctTreeWrongFalsely : Prop := acctTreeRow.holds Try.pinned (OpenSpec.ofChange acctTreeWrong)

/- THE SECOND FORM. 'bulk': how many values and letters a reading holds, each counted each time it is reached (what is shared counts as often as it is met; a slice's spare places count too). A statement '..UptoSaid' is the law's where the arguments, and the package variables that the reading takes, are together of bulk at most 1048576: NARROWER than '..Said'. Prove '..Said' where nothing that the law and all that it calls make is longer than what came in: it says more and counts as full. Else prove '..UptoSaid'. A law counts once. -/
mutual
def uptoBulk {H : Type} : DataW H → Nat
  | .lit (.string bytes) => bytes.length + 1
  | .lit _ => 1
  | .nil => 1
  | .ptr d => uptoBulk d + 1
  | .slice elems spare => uptoBulkAll elems + uptoBulkAll spare + 1
  | .agg parts => uptoBulkAll parts + 1
  | .iface _ d => uptoBulk d + 1
  | .map entries => uptoBulkEntries entries + 1
  | .held _ => 1
def uptoBulkAll {H : Type} : List (DataW H) → Nat
  | [] => 0
  | d :: r => uptoBulk d + uptoBulkAll r
def uptoBulkEntries {H : Type} : List (Lit × DataW H) → Nat
  | [] => 0
  | x :: r => uptoBulkEntry x + uptoBulkEntries r
def uptoBulkEntry {H : Type} : Lit × DataW H → Nat
  | (.string bytes, d) => bytes.length + uptoBulk d + 1
  | (_, d) => uptoBulk d + 1
 end
def uptoSmall : (H : Type) → List (DataW H) → Bool := fun _ ds => decide (uptoBulkAll ds ≤ 1048576)
def OpenSpec.upto (s : _root_.Go.ChangeSpec) : _root_.Go.OpenSpec := { _root_.Go.OpenSpec.ofChange s with cond := some uptoSmall }

/-- 'talkeep.FallFaster', WHERE WHAT IT READS IS OF BULK AT MOST 1048576: true; the input reads as it did. -/
def fallFasterUptoRow : OpenClaim := { program := "ytghlhmojmheppaa", sum := "b2d173e71793e515513b3f13ddebdc295b52159dc6c73aceb8588c63071a1c64", func := "tallage/talkeep.FallFaster", spec := "fallFaster", apart := false, narrowed := true }
def FallFasterUptoSaid : Prop := fallFasterUptoRow.holds Try.pinned (OpenSpec.upto fallFasterSpec)

/-- 'talkeep.FallFalls', WHERE WHAT IT READS IS OF BULK AT MOST 1048576: true; the input reads as it did. -/
def fallFallsUptoRow : OpenClaim := { program := "ytghlhmojmheppaa", sum := "b2d173e71793e515513b3f13ddebdc295b52159dc6c73aceb8588c63071a1c64", func := "tallage/talkeep.FallFalls", spec := "fallFalls", apart := false, narrowed := true }
def FallFallsUptoSaid : Prop := fallFallsUptoRow.holds Try.pinned (OpenSpec.upto fallFallsSpec)

/-- 'talkeep.FallSum', WHERE WHAT IT READS IS OF BULK AT MOST 1048576: true; the input reads as it did. -/
def fallSumUptoRow : OpenClaim := { program := "ytghlhmojmheppaa", sum := "b2d173e71793e515513b3f13ddebdc295b52159dc6c73aceb8588c63071a1c64", func := "tallage/talkeep.FallSum", spec := "fallSum", apart := false, narrowed := true }
def FallSumUptoSaid : Prop := fallSumUptoRow.holds Try.pinned (OpenSpec.upto fallSumSpec)

/-- 'talkeep.UnitsSum', WHERE WHAT IT READS IS OF BULK AT MOST 1048576: true; the input reads as it did. -/
def unitsSumUptoRow : OpenClaim := { program := "ytghlhmojmheppaa", sum := "b2d173e71793e515513b3f13ddebdc295b52159dc6c73aceb8588c63071a1c64", func := "tallage/talkeep.UnitsSum", spec := "unitsSum", inPlace := ["slices.overlaps[int]"], apart := false, narrowed := true }
def UnitsSumUptoSaid : Prop := unitsSumUptoRow.holds Try.pinned (OpenSpec.upto unitsSumSpec)

/-- 'talkeep.NoteMore', WHERE WHAT IT READS IS OF BULK AT MOST 1048576: true; the input reads as it did. -/
def noteMoreUptoRow : OpenClaim := { program := "ytghlhmojmheppaa", sum := "b2d173e71793e515513b3f13ddebdc295b52159dc6c73aceb8588c63071a1c64", func := "tallage/talkeep.NoteMore", spec := "noteMore", apart := false, narrowed := true }
def NoteMoreUptoSaid : Prop := noteMoreUptoRow.holds Try.pinned (OpenSpec.upto noteMoreSpec)

/-- 'talkeep.NoteSum', WHERE WHAT IT READS IS OF BULK AT MOST 1048576: true; the input reads as it did. -/
def noteSumUptoRow : OpenClaim := { program := "ytghlhmojmheppaa", sum := "b2d173e71793e515513b3f13ddebdc295b52159dc6c73aceb8588c63071a1c64", func := "tallage/talkeep.NoteSum", spec := "noteSum", apart := false, narrowed := true }
def NoteSumUptoSaid : Prop := noteSumUptoRow.holds Try.pinned (OpenSpec.upto noteSumSpec)

/-- 'talkeep.NoteGrows', WHERE WHAT IT READS IS OF BULK AT MOST 1048576: true; the input reads as it did. -/
def noteGrowsUptoRow : OpenClaim := { program := "ytghlhmojmheppaa", sum := "b2d173e71793e515513b3f13ddebdc295b52159dc6c73aceb8588c63071a1c64", func := "tallage/talkeep.NoteGrows", spec := "noteGrows", unfollowed := true, recurses := true, apart := false, narrowed := true }
def NoteGrowsUptoSaid : Prop := noteGrowsUptoRow.holds Try.pinned (OpenSpec.upto noteGrowsSpec)

/-- 'talkeep.NoteLeast', WHERE WHAT IT READS IS OF BULK AT MOST 1048576: true; the input reads as it did. -/
def noteLeastUptoRow : OpenClaim := { program := "ytghlhmojmheppaa", sum := "b2d173e71793e515513b3f13ddebdc295b52159dc6c73aceb8588c63071a1c64", func := "tallage/talkeep.NoteLeast", spec := "noteLeast", unfollowed := true, recurses := true, apart := false, narrowed := true }
def NoteLeastUptoSaid : Prop := noteLeastUptoRow.holds Try.pinned (OpenSpec.upto noteLeastSpec)

/-- 'talkeep.NoteFree', WHERE WHAT IT READS IS OF BULK AT MOST 1048576: true; the input reads as it did. -/
def noteFreeUptoRow : OpenClaim := { program := "ytghlhmojmheppaa", sum := "b2d173e71793e515513b3f13ddebdc295b52159dc6c73aceb8588c63071a1c64", func := "tallage/talkeep.NoteFree", spec := "noteFree", unfollowed := true, recurses := true, apart := false, narrowed := true }
def NoteFreeUptoSaid : Prop := noteFreeUptoRow.holds Try.pinned (OpenSpec.upto noteFreeSpec)

/-- 'talkeep.EntryTurned', WHERE WHAT IT READS IS OF BULK AT MOST 1048576: true; the input reads as it did. -/
def entryTurnedUptoRow : OpenClaim := { program := "ytghlhmojmheppaa", sum := "b2d173e71793e515513b3f13ddebdc295b52159dc6c73aceb8588c63071a1c64", func := "tallage/talkeep.EntryTurned", spec := "entryTurned", unfollowed := true, recurses := true, apart := false, narrowed := true }
def EntryTurnedUptoSaid : Prop := entryTurnedUptoRow.holds Try.pinned (OpenSpec.upto entryTurnedSpec)

/-- 'talkeep.EntryMoved', WHERE WHAT IT READS IS OF BULK AT MOST 1048576: true; the input reads as it did. -/
def entryMovedUptoRow : OpenClaim := { program := "ytghlhmojmheppaa", sum := "b2d173e71793e515513b3f13ddebdc295b52159dc6c73aceb8588c63071a1c64", func := "tallage/talkeep.EntryMoved", spec := "entryMoved", unfollowed := true, recurses := true, apart := false, narrowed := true }
def EntryMovedUptoSaid : Prop := entryMovedUptoRow.holds Try.pinned (OpenSpec.upto entryMovedSpec)

/-- 'talkeep.AcctTree', WHERE WHAT IT READS IS OF BULK AT MOST 1048576: true; the input reads as it did. -/
def acctTreeUptoRow : OpenClaim := { program := "ytghlhmojmheppaa", sum := "b2d173e71793e515513b3f13ddebdc295b52159dc6c73aceb8588c63071a1c64", func := "tallage/talkeep.AcctTree", spec := "acctTree", unfollowed := true, recurses := true, apart := false, narrowed := true }
def AcctTreeUptoSaid : Prop := acctTreeUptoRow.holds Try.pinned (OpenSpec.upto acctTreeSpec)

end Rows
end Go.Proofs.Ytghlhmojmheppaa
