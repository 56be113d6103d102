/- The walks of entry.lines and entry.Check. -/
import Derived.Test.YtahegjhjonodlaaDoorPItemsOwnZ1
import Derived.Test.YtahegjhjonodlaaDoorPItemsOwnZ3
import Derived.Test.YtahegjhjonodlaaDoorPItemsOwnZ23
import Derived.Test.YtahegjhjonodlaaDoorPItemsOwnZ24
import Derived.Test.YtahegjhjonodlaaDoorRows
import Derived.BigQuiet
import Derived.DataElems
import Derived.Deep.LoopGhost
import Derived.Deep.QuietTactic
import Derived.Handy
import Derived.Lib.Hide
import Derived.OpenShut
import Derived.Outline
import Derived.PlainAid
import Derived.ProofKit
import Derived.RegionTactic
import Derived.Shelf.Abstract
import Derived.WalkKit
namespace Go.Proofs.YtahegjhjonodlaaDoor
open Go.ChangeShapes Go.WideShapes Go.ChangeAt Go.RowKit Go.PlainAid
set_option linter.unusedVariables false
set_option maxRecDepth 100000


/-- the slice at A reads the pairs xs -/
def Si (w : World) (A : Option Addr) (xs : List Ln) : Prop :=
  xs = [] ∨ ∃ x, A = some x ∧ x.block < w.heap.size ∧ ∀ i, i < xs.length → w.cell? (x.add (i * 2)) = some (.string (cd xs i)) ∧ w.cell? ⟨(x.add (i * 2)).block, (x.add (i * 2)).off + 1, none⟩ = some (.int .i64 (am xs i))

theorem Si.mor {w w' : World} {A : Option Addr} {xs : List Ln} (h : Si w A xs) (hm : Mor w w') : Si w' A xs := by
  rcases h with h | ⟨x, e, hb, hc⟩
  · exact .inl h
  · have hB := hm.below
    exact .inr ⟨x, e, by have := hB.size; omega, fun i hi => ⟨(hB.cell (p := x.add (i * 2)) (by rw [addb]; exact hb)).trans (hc i hi).1, (hB.cell (p := ⟨(x.add (i * 2)).block, (x.add (i * 2)).off + 1, none⟩) (by rw [addb]; exact hb)).trans (hc i hi).2⟩⟩
theorem Si.at_ {w : World} {A : Option Addr} {xs : List Ln} (h : Si w A xs) (i : Nat) (hi : i < xs.length) :
    ∃ x, A = some x ∧ x.block < w.heap.size ∧ w.cell? (x.add (i * 2)) = some (.string (cd xs i)) ∧ w.cell? ⟨(x.add (i * 2)).block, (x.add (i * 2)).off + 1, none⟩ = some (.int .i64 (am xs i)) := by
  rcases h with h | ⟨x, e, hb, hc⟩
  · subst h; simp at hi
  · exact ⟨x, e, hb, hc i hi⟩

end Go.Proofs.YtahegjhjonodlaaDoor

/- The walks of entry.lines and entry.Check. -/
namespace Go.Proofs.YtahegjhjonodlaaDoor
open Go.ChangeShapes Go.WideShapes Go.ChangeAt Go.RowKit Go.PlainAid
set_option linter.unusedVariables false
set_option maxRecDepth 100000

theorem Si.alloc {w : World} {A : Option Addr} {xs : List Ln} {o : Obj} (h : Si w A xs) : Si (w.alloc o) A xs := h.mor ((Mor.refl _).alloc)
end Go.Proofs.YtahegjhjonodlaaDoor
