/- How an entry that came in reads: its key, its day, its lines. -/
import Derived.Test.YtahegjhjonodlaaDoorPItemsOwnZ1
import Derived.Test.YtahegjhjonodlaaDoorPItemsOwnZ3
import Derived.Test.YtahegjhjonodlaaDoorPItemsOwnZ23
import Derived.Test.YtahegjhjonodlaaDoorPItemsOwnZ24
import Derived.Test.YtahegjhjonodlaaDoorPItemsOwnZ25
import Derived.Test.YtahegjhjonodlaaDoorRows
import Derived.BigQuiet
import Derived.DataElems
import Derived.Deep.LoopGhost
import Derived.Deep.QuietTactic
import Derived.Deep.SlicePairs
import Derived.Handy
import Derived.Lib.Hide
import Derived.OpenShut
import Derived.Outline
import Derived.PlainAid
import Derived.ProofKit
import Derived.RegionTactic
import Derived.Shelf.Abstract
import Derived.WalkKit
namespace Go.Proofs.YtahegjhjonodlaaDoor
open Go.ChangeShapes Go.WideShapes Go.ChangeAt Go.RowKit Go.PlainAid
set_option linter.unusedVariables false
set_option maxRecDepth 100000

/-- what the walk is told of lines that came in -/
structure IsLn (w : World) (A : Option Addr) (len cap : Nat) (xs : List Ln) : Prop where
  si : Si w A xs
  length : xs.length = len
  le : len ≤ cap
  max : cap ≤ maxLen
  str : ∀ i, i < len → (cd xs i).size ≤ maxLen
  wf : ∀ i, i < len → (Lit.int .i64 (am xs i)).wf = true
  nil : A = none → len = 0
end Go.Proofs.YtahegjhjonodlaaDoor
