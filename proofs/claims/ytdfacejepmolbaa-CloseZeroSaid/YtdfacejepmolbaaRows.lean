/-
  No cell of these rows narrows 'for every input' (looked for: loops, veiled, ifaces, maps, wideKeys, modest, calm, conditions, laid).
  DERIVED. THE GIVEN ROWS OF THIS SEAT. 4 by the template 'for every input the law returns true; each argument reads behind the call as it read before'; 0 by the template 'total and deterministic' (their statements: YtdfacejepmolbaaTotals.lean).
  GIVEN WITH THE SEED: the statements are not yours to turn. If you find one false, say at which input.
  Laid BY PROGRAM, IN A SANDBOX (cutbox-rows.mjs): the forced cells as the released guide's own fill.sh prints them over the translation 07a376a0faa27639… (all of the seat's roots in one cut). By AI agents, Wed Nov 11 2026. No macro, syntax, notation, axiom, sorry.
-/
import Derived.Test.YtdfacejepmolbaaChecked
import GoSem.Claim
import GoSem.ClaimJoined
import GoSem.ClaimMapViews
import Derived.JoinedTies
import Derived.KernelRfl
namespace Go.Proofs.Ytdfacejepmolbaa
/- THE CELL 'sum', in the pinned program and in every row, IS THE sha256 OF THE DUMP (.gsa) THAT YtdfacejepmolbaaProg.lean LOADS. Nothing in Lean hashes anything: it is a label: what it is worth is what the hold of that sum in a sandbox is worth. -/
noncomputable def Try.pinned : Pinned := { name := "ytdfacejepmolbaa", sum := "07a376a0faa2763917f72462c631636d93e79fb27bc90b828b03245ec3c19a2d", checked := Try.checked }
namespace Rows
def none {H : Type} : Left H := { results := [], args := [] }

/-- 'talkeep.UndoZero': WHATEVER THE INPUT: true; the input reads as it did. -/
def undoZeroSpec : ChangeSpec := { name := "undoZero", fn := fun _ => fun
  | [d1, d2, d3, d4, d5, d6] => { results := [.lit (.bool true)], args := [d1, d2, d3, d4, d5, d6] }
  | _ => none }
def undoZeroRow : OpenClaim := { program := "ytdfacejepmolbaa", sum := "07a376a0faa2763917f72462c631636d93e79fb27bc90b828b03245ec3c19a2d", func := "tallage/talkeep.UndoZero", spec := "undoZero", inPlace := ["internal/bytealg.abigen_runtime_cmpstring", "slices.overlaps[tallage/api.Entry]"], unfollowed := true, recurses := true, apart := false }
def UndoZeroSaid : Prop := undoZeroRow.holds Try.pinned (OpenSpec.ofChange undoZeroSpec)

/-- ITS FALSE NEIGHBOUR: 'it returns false'. Refute it at one input. -/
def undoZeroWrong : ChangeSpec := { name := "undoZero", fn := fun _ => fun
  | [d1, d2, d3, d4, d5, d6] => { results := [.lit (.bool false)], args := [d1, d2, d3, d4, d5, d6] }
  | _ => none }
def UndoZeroWrongFalsely : Prop := undoZeroRow.holds Try.pinned (OpenSpec.ofChange undoZeroWrong)

/-- 'talkeep.UndoUndo': WHATEVER THE INPUT: true; the input reads as it did. -/
def undoUndoSpec : ChangeSpec := { name := "undoUndo", fn := fun _ => fun
  | [d1, d2, d3, d4] => { results := [.lit (.bool true)], args := [d1, d2, d3, d4] }
  | _ => none }
def undoUndoRow : OpenClaim := { program := "ytdfacejepmolbaa", sum := "07a376a0faa2763917f72462c631636d93e79fb27bc90b828b03245ec3c19a2d", func := "tallage/talkeep.UndoUndo", spec := "undoUndo", inPlace := ["internal/bytealg.abigen_runtime_cmpstring", "slices.overlaps[tallage/api.Entry]"], unfollowed := true, recurses := true, apart := false }
def UndoUndoSaid : Prop := undoUndoRow.holds Try.pinned (OpenSpec.ofChange undoUndoSpec)

/-- ITS FALSE NEIGHBOUR: 'it returns false'. Refute it at one input. -/
def undoUndoWrong : ChangeSpec := { name := "undoUndo", fn := fun _ => fun
  | [d1, d2, d3, d4] => { results := [.lit (.bool false)], args := [d1, d2, d3, d4] }
  | _ => none }
def UndoUndoWrongFalsely : Prop := undoUndoRow.holds Try.pinned (OpenSpec.ofChange undoUndoWrong)

/-- 'talkeep.CloseLeaves': WHATEVER THE INPUT: true; the input reads as it did. -/
def closeLeavesSpec : ChangeSpec := { name := "closeLeaves", fn := fun _ => fun
  | [d1, d2, d3, d4, d5, d6] => { results := [.lit (.bool true)], args := [d1, d2, d3, d4, d5, d6] }
  | _ => none }
def closeLeavesRow : OpenClaim := { program := "ytdfacejepmolbaa", sum := "07a376a0faa2763917f72462c631636d93e79fb27bc90b828b03245ec3c19a2d", func := "tallage/talkeep.CloseLeaves", spec := "closeLeaves", inPlace := ["internal/bytealg.abigen_runtime_cmpstring", "slices.overlaps[tallage/api.Entry]"], unfollowed := true, recurses := true, apart := false }
def CloseLeavesSaid : Prop := closeLeavesRow.holds Try.pinned (OpenSpec.ofChange closeLeavesSpec)

/-- ITS FALSE NEIGHBOUR: 'it returns false'. Refute it at one input. -/
def closeLeavesWrong : ChangeSpec := { name := "closeLeaves", fn := fun _ => fun
  | [d1, d2, d3, d4, d5, d6] => { results := [.lit (.bool false)], args := [d1, d2, d3, d4, d5, d6] }
  | _ => none }
def CloseLeavesWrongFalsely : Prop := closeLeavesRow.holds Try.pinned (OpenSpec.ofChange closeLeavesWrong)

/-- 'talkeep.CloseZero': WHATEVER THE INPUT: true; the input reads as it did. -/
def closeZeroSpec : ChangeSpec := { name := "closeZero", fn := fun _ => fun
  | [d1, d2, d3, d4] => { results := [.lit (.bool true)], args := [d1, d2, d3, d4] }
  | _ => none }
def closeZeroRow : OpenClaim := { program := "ytdfacejepmolbaa", sum := "07a376a0faa2763917f72462c631636d93e79fb27bc90b828b03245ec3c19a2d", func := "tallage/talkeep.CloseZero", spec := "closeZero", inPlace := ["internal/bytealg.abigen_runtime_cmpstring", "slices.overlaps[tallage/api.Entry]"], unfollowed := true, recurses := true, apart := false }
def CloseZeroSaid : Prop := closeZeroRow.holds Try.pinned (OpenSpec.ofChange closeZeroSpec)

/-- ITS FALSE NEIGHBOUR: 'it returns false'. Refute it at one input. -/
def closeZeroWrong : ChangeSpec := { name := "closeZero", fn := fun _ => fun
  | [d1, d2, d3, d4] => { results := [.lit (.bool false)], args := [d1, d2, d3, d4] }
  | _ => none }
def CloseZeroWrongFalsely : Prop := closeZeroRow.holds Try.pinned (OpenSpec.ofChange closeZeroWrong)

/- THE SECOND FORM. 'bulk': how many values and letters a reading holds, each counted each time it is reached (what is shared counts as often as it is met; a slice's spare places count too). A statement '..UptoSaid' is the law's where the arguments, and the package variables that the reading takes, are together of bulk at most 1048576: NARROWER than '..Said'. Prove '..Said' where nothing that the law and all that it calls make is longer than what came in: it says more and counts as full. Else prove '..UptoSaid'. A law counts once. -/
mutual
def uptoBulk {H : Type} : DataW H → Nat
  | .lit (.string bytes) => bytes.length + 1
  | .lit _ => 1
  | .nil => 1
  | .ptr d => uptoBulk d + 1
  | .slice elems spare => uptoBulkAll elems + uptoBulkAll spare + 1
  | .agg parts => uptoBulkAll parts + 1
  | .iface _ d => uptoBulk d + 1
  | .map entries => uptoBulkEntries entries + 1
  | .held _ => 1
def uptoBulkAll {H : Type} : List (DataW H) → Nat
  | [] => 0
  | d :: r => uptoBulk d + uptoBulkAll r
def uptoBulkEntries {H : Type} : List (Lit × DataW H) → Nat
  | [] => 0
  | x :: r => uptoBulkEntry x + uptoBulkEntries r
def uptoBulkEntry {H : Type} : Lit × DataW H → Nat
  | (.string bytes, d) => bytes.length + uptoBulk d + 1
  | (_, d) => uptoBulk d + 1
 end
def uptoSmall : (H : Type) → List (DataW H) → Bool := fun _ ds => decide (uptoBulkAll ds ≤ 1048576)
def OpenSpec.upto (s : _root_.Go.ChangeSpec) : _root_.Go.OpenSpec := { _root_.Go.OpenSpec.ofChange s with cond := some uptoSmall }

/-- 'talkeep.UndoZero', WHERE WHAT IT READS IS OF BULK AT MOST 1048576: true; the input reads as it did. -/
def undoZeroUptoRow : OpenClaim := { program := "ytdfacejepmolbaa", sum := "07a376a0faa2763917f72462c631636d93e79fb27bc90b828b03245ec3c19a2d", func := "tallage/talkeep.UndoZero", spec := "undoZero", inPlace := ["internal/bytealg.abigen_runtime_cmpstring", "slices.overlaps[tallage/api.Entry]"], unfollowed := true, recurses := true, apart := false, narrowed := true }
def UndoZeroUptoSaid : Prop := undoZeroUptoRow.holds Try.pinned (OpenSpec.upto undoZeroSpec)

/-- 'talkeep.UndoUndo', WHERE WHAT IT READS IS OF BULK AT MOST 1048576: true; the input reads as it did. -/
def undoUndoUptoRow : OpenClaim := { program := "ytdfacejepmolbaa", sum := "07a376a0faa2763917f72462c631636d93e79fb27bc90b828b03245ec3c19a2d", func := "tallage/talkeep.UndoUndo", spec := "undoUndo", inPlace := ["internal/bytealg.abigen_runtime_cmpstring", "slices.overlaps[tallage/api.Entry]"], unfollowed := true, recurses := true, apart := false, narrowed := true }
def UndoUndoUptoSaid : Prop := undoUndoUptoRow.holds Try.pinned (OpenSpec.upto undoUndoSpec)

/-- 'talkeep.CloseLeaves', WHERE WHAT IT READS IS OF BULK AT MOST 1048576: true; the input reads as it did. -/
def closeLeavesUptoRow : OpenClaim := { program := "ytdfacejepmolbaa", sum := "07a376a0faa2763917f72462c631636d93e79fb27bc90b828b03245ec3c19a2d", func := "tallage/talkeep.CloseLeaves", spec := "closeLeaves", inPlace := ["internal/bytealg.abigen_runtime_cmpstring", "slices.overlaps[tallage/api.Entry]"], unfollowed := true, recurses := true, apart := false, narrowed := true }
def CloseLeavesUptoSaid : Prop := closeLeavesUptoRow.holds Try.pinned (OpenSpec.upto closeLeavesSpec)

/-- 'talkeep.CloseZero', WHERE WHAT IT READS IS OF BULK AT MOST 1048576: true; the input reads as it did. -/
def closeZeroUptoRow : OpenClaim := { program := "ytdfacejepmolbaa", sum := "07a376a0faa2763917f72462c631636d93e79fb27bc90b828b03245ec3c19a2d", func := "tallage/talkeep.CloseZero", spec := "closeZero", inPlace := ["internal/bytealg.abigen_runtime_cmpstring", "slices.overlaps[tallage/api.Entry]"], unfollowed := true, recurses := true, apart := false, narrowed := true }
def CloseZeroUptoSaid : Prop := closeZeroUptoRow.holds Try.pinned (OpenSpec.upto closeZeroSpec)

end Rows
end Go.Proofs.Ytdfacejepmolbaa
