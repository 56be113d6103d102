/- The plain law of books: entries in order, what is posted, balances. No program in sight (but for the order of strings). -/
import Derived.Test.YtahegjhjonodlaaDoorPNumbersOwnZ1
import Derived.Test.YtahegjhjonodlaaDoorPNumbersOwnZ11
import Derived.Test.YtahegjhjonodlaaDoorPNumbersOwnZ12
import Derived.Test.YtahegjhjonodlaaDoorPNumbersOwnZ13
import Derived.Test.YtahegjhjonodlaaDoorRows
import Derived.BigQuiet
import Derived.DataElems
import Derived.Deep.LoopGhost
import Derived.Deep.QuietTactic
import Derived.Handy
import Derived.Laws.Cover1
import Derived.Lib.Bytealg
import Derived.Lib.Hide
import Derived.OpenShut
import Derived.Outline
import Derived.PlainAid
import Derived.ProofKit
import Derived.RegionTactic
import Derived.Shelf.Abstract
import Derived.Sort.Walk0
import Derived.WalkKit
namespace Go.Proofs.YtahegjhjonodlaaDoor
open Go Go.PlainAid
set_option linter.unusedVariables false
set_option maxRecDepth 100000

/-- an entry -/
structure En where
  key : ByteArray
  day : Int
  ls : List Ln
/-- a book -/
structure Bok where
  ac : List Ln
  en : List En
  shut : Int
theorem En.eq {x y : En} (h1 : x.key = y.key) (h2 : x.day = y.day) (h3 : x.ls = y.ls) : x = y := by
  cases x; cases y; simp at h1 h2 h3; subst h1 h2 h3; rfl
instance : DecidableEq En := fun x y => if h : x.key = y.key ∧ x.day = y.day ∧ x.ls = y.ls then isTrue (En.eq h.1 h.2.1 h.2.2) else isFalse (fun e => h (by subst e; exact ⟨rfl, rfl, rfl⟩))
def en0 : En := ⟨ByteArray.empty, 0, []⟩
def ne (es : List En) (i : Nat) : En := es.getD i en0
/- the order of strings -/
/-- an entry ahead of another one -/
def elt (x y : En) : Prop := x.day < y.day ∨ x.day = y.day ∧ ltB x.key y.key = true
instance (x y : En) : Decidable (elt x y) := by unfold elt; infer_instance
/- what may be -/
def enc (x : En) : Int := entc x.key x.day x.ls
/- what is posted -/
end Go.Proofs.YtahegjhjonodlaaDoor
