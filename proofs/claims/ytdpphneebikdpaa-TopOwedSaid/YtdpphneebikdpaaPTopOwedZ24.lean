/- Rows of integers in memory: what a slice reads as; sums; the walks of talkeep.sum and slices.Equal. -/
import Derived.Test.YtdpphneebikdpaaPTopOwedZ1
import Derived.Test.YtdpphneebikdpaaRows
import Derived.BigQuiet
import Derived.Deep.OwnRows
import Derived.Deep.QuietTactic
import Derived.Handy
import Derived.Lib.Hide
import Derived.OpenShut
import Derived.Outline
import Derived.ProofKit
import Derived.RegionTactic
import Derived.WalkKit
namespace Go.Proofs.Ytdpphneebikdpaa
open Go.ChangeShapes Go.WideShapes Go.ChangeAt Go.RowKit
set_option linter.unusedVariables false
set_option maxRecDepth 100000

/-- the cells of block b from o on read xs -/
def Row (w : World) (b o : Nat) (xs : List Int) : Prop := b < w.heap.size ∧ ∀ i, i < xs.length → w.cell? ⟨b, o + i, none⟩ = some (.int .i64 (xs.getD i 0))

theorem Row.more {w : World} {b o : Nat} {xs : List Int} {bs : List Obj} {k : Nat} (h : Row w b o xs) : Row (more w bs k) b o xs :=
  ⟨by rw [size_more]; have := h.1; omega, fun i hi => by rw [cell?_more _ _ _ _ _ h.1]; exact h.2 i hi⟩
theorem Row.drewN {w : World} {b o k : Nat} {xs : List Int} (h : Row w b o xs) : Row (w.drewN k) b o xs := h
theorem Row.drew {w : World} {b o : Nat} {xs : List Int} (h : Row w b o xs) : Row w.drew b o xs := h
theorem Row.alloc {w : World} {b o : Nat} {xs : List Int} {ob : Obj} (h : Row w b o xs) : Row (w.alloc ob) b o xs := by
  rw [alloc_more]; exact h.more
theorem Row.app {w : World} {b o : Nat} {xs : List Int} {bs cs : List Obj} {k n : Nat} (h : Row (Go.Proofs.Ytdpphneebikdpaa.more w bs k) b o xs) : Row (Go.Proofs.Ytdpphneebikdpaa.more w (bs ++ cs) n) b o xs := by
  rw [← more_more w bs cs k n]; exact h.more
theorem Row.draws {w : World} {b o : Nat} {xs : List Int} {bs : List Obj} {k n : Nat} (h : Row (Go.Proofs.Ytdpphneebikdpaa.more w bs k) b o xs) : Row (Go.Proofs.Ytdpphneebikdpaa.more w bs n) b o xs := h
/-- a part of a row -/
theorem Row.take {w : World} {b o k : Nat} {xs : List Int} (h : Row w b o xs) : Row w b o (xs.take k) := by
  refine ⟨h.1, fun i hi => ?_⟩
  rw [List.length_take] at hi
  rw [h.2 i (by omega)]
  rw [List.getD_eq_getElem?_getD, List.getD_eq_getElem?_getD, List.getElem?_take, if_pos (by omega)]
end Go.Proofs.Ytdpphneebikdpaa
