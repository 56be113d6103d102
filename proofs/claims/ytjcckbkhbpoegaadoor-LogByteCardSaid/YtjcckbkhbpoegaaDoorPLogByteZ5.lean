/- The walk of acct.Check. -/
import Derived.Test.YtjcckbkhbpoegaaDoorPLogByteZ1
import Derived.Test.YtjcckbkhbpoegaaDoorPLogByteZ2
import Derived.Test.YtjcckbkhbpoegaaDoorPLogByteZ3
import Derived.Test.YtjcckbkhbpoegaaDoorPLogByteZ4
import Derived.Test.YtjcckbkhbpoegaaDoorRows
import Derived.BigQuiet
import Derived.DataElems
import Derived.Deep.LoopGhost
import Derived.Deep.QuietTactic
import Derived.Handy
import Derived.Laws.Cover1
import Derived.Lib.Hide
import Derived.OpenShut
import Derived.Outline
import Derived.PlainAid
import Derived.ProofKit
import Derived.RegionTactic
import Derived.Shelf.Abstract
import Derived.WalkKit
namespace Go.Proofs.YtjcckbkhbpoegaaDoor
open Go.ChangeShapes Go.WideShapes Go.ChangeAt Go.RowKit Go.PlainAid
set_option linter.unusedVariables false

/-- one code ahead of another one -/
def ltB (a b : ByteArray) : Bool := Op.bytesLess a.toList b.toList
/-- what is wrong with the account i -/
def acAt (xs : List Ln) (i : Nat) : Int :=
  if codeB (cd xs i) = false then 3 else if am xs i < 0 ∨ 4 < am xs i then 1 else if 0 < i ∧ ltB (cd xs (i - 1)) (cd xs i) = false then 3 else 0
def acUp (xs : List Ln) : Nat → Int
  | 0 => 0
  | k + 1 => if acUp xs k ≠ 0 then acUp xs k else acAt xs k
/-- what is wrong with accounts -/
def acc (xs : List Ln) : Int := if 24 < xs.length then 2 else acUp xs xs.length

end Go.Proofs.YtjcckbkhbpoegaaDoor
