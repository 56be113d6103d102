/- Rows of one's own beside stores and appends. -/
import Derived.Test.YtdpphneebikdpaaPUnitsSumZ1
import Derived.Test.YtdpphneebikdpaaPUnitsSumZ3
import Derived.Test.YtdpphneebikdpaaPUnitsSumZ5
import Derived.Test.YtdpphneebikdpaaPUnitsSumZ6
import Derived.Test.YtdpphneebikdpaaPUnitsSumZ7
import Derived.Test.YtdpphneebikdpaaPUnitsSumZ8
import Derived.Test.YtdpphneebikdpaaPUnitsSumZ9
import Derived.Test.YtdpphneebikdpaaPUnitsSumZ10
import Derived.Test.YtdpphneebikdpaaPUnitsSumZ11
import Derived.Test.YtdpphneebikdpaaPUnitsSumZ12
import Derived.Test.YtdpphneebikdpaaRows
import Derived.BigQuiet
import Derived.DataElems
import Derived.Deep.LoopGhost
import Derived.Deep.QuietTactic
import Derived.Deep.RegionLaw
import Derived.Deep.SlicePairs
import Derived.Deep.Slices
import Derived.Deep.Strs
import Derived.Handy
import Derived.Laws.AppendOwn
import Derived.Laws.Cover1
import Derived.Lib.Bytealg
import Derived.Lib.Hide
import Derived.Lib.SliceRun
import Derived.Lib.Walk
import Derived.OpenShut
import Derived.Outline
import Derived.OwnWalk
import Derived.PlainAid
import Derived.ProofKit
import Derived.RegionTactic
import Derived.Shelf.Abstract
import Derived.Sort.Walk0
import Derived.WalkKit
import Derived.WalkSpells
namespace Go.Proofs.Ytdpphneebikdpaa
open Go.ChangeShapes Go.WideShapes Go.ChangeAt Go.RowKit Go.PlainAid
set_option linter.unusedVariables false
set_option maxRecDepth 100000

theorem own_step {w wr w1 : World} {T : TypeId} {s : Nat} {v : Value} {n : Nat} {xs : List Value} (hown : wr.ownsRow w.heap.size T s v n xs) (hnx : Mor w wr)
    (hgrow : wr.grownBy w1 v.ownBlock) : Mor w w1 := by
  refine Mor.of_below (hnx.below.grown hgrow hnx.below.size ?_)
  intro k hk
  obtain ⟨_, h | ⟨g, cap, cur, rfl, hg, _⟩⟩ := hown
  · rw [h.1] at hk; simp [Value.ownBlock] at hk
  · simp [Value.ownBlock] at hk; omega
end Go.Proofs.Ytdpphneebikdpaa
