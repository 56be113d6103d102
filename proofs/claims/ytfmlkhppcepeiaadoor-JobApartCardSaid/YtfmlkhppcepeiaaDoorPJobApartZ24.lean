/- The walk of book.Check. -/
import Derived.Test.YtfmlkhppcepeiaaDoorPJobApartZ1
import Derived.Test.YtfmlkhppcepeiaaDoorPJobApartZ2
import Derived.Test.YtfmlkhppcepeiaaDoorPJobApartZ3
import Derived.Test.YtfmlkhppcepeiaaDoorPJobApartZ4
import Derived.Test.YtfmlkhppcepeiaaDoorPJobApartZ5
import Derived.Test.YtfmlkhppcepeiaaDoorPJobApartZ6
import Derived.Test.YtfmlkhppcepeiaaDoorPJobApartZ7
import Derived.Test.YtfmlkhppcepeiaaDoorPJobApartZ8
import Derived.Test.YtfmlkhppcepeiaaDoorPJobApartZ9
import Derived.Test.YtfmlkhppcepeiaaDoorPJobApartZ20
import Derived.Test.YtfmlkhppcepeiaaDoorPJobApartZ21
import Derived.Test.YtfmlkhppcepeiaaDoorRows
import Derived.BigQuiet
import Derived.BigRegion
import Derived.Carry
import Derived.DataElems
import Derived.Deep.LoopGhost
import Derived.Deep.QuietTactic
import Derived.Deep.RegionHeld3
import Derived.Deep.RegionWith
import Derived.Deep.SlicePairs
import Derived.Deep.Slices
import Derived.Deep.Strs
import Derived.Handy
import Derived.Laws.Cover1
import Derived.Lib.Bytealg
import Derived.Lib.Hide
import Derived.Maps.Own
import Derived.Maps.OwnSet
import Derived.Maps.Views
import Derived.OpenShut
import Derived.Outline
import Derived.OwnWalk
import Derived.PlainAid
import Derived.ProofKit
import Derived.RegionTactic
import Derived.Shelf.Abstract
import Derived.Sort.Walk0
import Derived.StringKeys
import Derived.WalkKit
namespace Go.Proofs.YtfmlkhppcepeiaaDoor
open Go.ChangeShapes Go.WideShapes Go.ChangeAt Go.RowKit Go.PlainAid
set_option linter.unusedVariables false

theorem Bk.grown {w w' : World} {g gm : Nat} {t : TypeId} {cs : Array Value} (h : Bk w g t cs) (hg : w.grownBy w' (some gm)) (hne : g ≠ gm) : Bk w' g t cs :=
  (hg.block g h.lt (fun e => by injection e with e; exact hne (by omega))).trans h

end Go.Proofs.YtfmlkhppcepeiaaDoor
