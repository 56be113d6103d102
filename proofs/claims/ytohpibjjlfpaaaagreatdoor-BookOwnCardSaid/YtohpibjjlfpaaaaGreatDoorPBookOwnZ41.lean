/- The walk of slices.Clone at []int. -/
import Derived.Test.YtohpibjjlfpaaaaGreatDoorPBookOwnZ1
import Derived.Test.YtohpibjjlfpaaaaGreatDoorPBookOwnZ11
import Derived.Test.YtohpibjjlfpaaaaGreatDoorPBookOwnZ35
import Derived.Test.YtohpibjjlfpaaaaGreatDoorPBookOwnZ40
import Derived.Test.YtohpibjjlfpaaaaGreatDoorRows
import Derived.BigQuiet
import Derived.Deep.OwnRows
import Derived.Deep.QuietTactic
import Derived.Handy
import Derived.Lib.Hide
import Derived.OpenShut
import Derived.Outline
import Derived.OwnWalk
import Derived.ProofKit
import Derived.RegionTactic
import Derived.WalkKit
import Derived.WalkSpells
namespace Go.Proofs.YtohpibjjlfpaaaaGreatDoor
open Go.ChangeShapes Go.WideShapes Go.ChangeAt Go.RowKit
set_option linter.unusedVariables false
set_option maxRecDepth 100000

@[go_sem] theorem eql_nil_int (w : World) (a : Option Addr) (n c : Nat) : (binOp .eql 125 (.slice a n c) (.slice none 0 0)).run Tryz.prog w = .ok (.bool a.isNone) w :=
  Lib.run_eql_slice_nil w _ 3 a n c 0 0 Tryz.underlying125
/-- an address is held against nil nowhere else -/
theorem Ri.lt {w : World} {x : Addr} {xs : List Int} (h : Ri w (some x) xs) : xs = [] ∨ (x.block < w.heap.size ∧ ∀ i, i < xs.length → w.cell? (x.add i) = some (.int .i64 (xs.getD i 0))) := by
  rcases h with h | ⟨y, e, hb, hc⟩
  · exact .inl h
  · injection e with e; subst e; exact .inr ⟨hb, hc⟩
end Go.Proofs.YtohpibjjlfpaaaaGreatDoor
