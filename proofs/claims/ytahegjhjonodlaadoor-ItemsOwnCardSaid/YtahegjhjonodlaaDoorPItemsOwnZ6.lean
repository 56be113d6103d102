/- Rows of integers in memory: what a slice reads as; sums; the walks of talkeep.sum and slices.Equal. -/
import Derived.Test.YtahegjhjonodlaaDoorPItemsOwnZ1
import Derived.Test.YtahegjhjonodlaaDoorRows
import Derived.BigQuiet
import Derived.Deep.OwnRows
import Derived.Deep.QuietTactic
import Derived.Handy
import Derived.Lib.Hide
import Derived.OpenShut
import Derived.Outline
import Derived.ProofKit
import Derived.RegionTactic
import Derived.WalkKit
namespace Go.Proofs.YtahegjhjonodlaaDoor
open Go.ChangeShapes Go.WideShapes Go.ChangeAt Go.RowKit
set_option linter.unusedVariables false
set_option maxRecDepth 100000

/-- the cells of block b from o on read xs -/
def Row (w : World) (b o : Nat) (xs : List Int) : Prop := b < w.heap.size ∧ ∀ i, i < xs.length → w.cell? ⟨b, o + i, none⟩ = some (.int .i64 (xs.getD i 0))

theorem Row.more {w : World} {b o : Nat} {xs : List Int} {bs : List Obj} {k : Nat} (h : Row w b o xs) : Row (more w bs k) b o xs :=
  ⟨by rw [size_more]; have := h.1; omega, fun i hi => by rw [cell?_more _ _ _ _ _ h.1]; exact h.2 i hi⟩
theorem Row.drewN {w : World} {b o k : Nat} {xs : List Int} (h : Row w b o xs) : Row (w.drewN k) b o xs := h
theorem Row.drew {w : World} {b o : Nat} {xs : List Int} (h : Row w b o xs) : Row w.drew b o xs := h
theorem Row.alloc {w : World} {b o : Nat} {xs : List Int} {ob : Obj} (h : Row w b o xs) : Row (w.alloc ob) b o xs := by
  rw [alloc_more]; exact h.more
theorem Row.app {w : World} {b o : Nat} {xs : List Int} {bs cs : List Obj} {k n : Nat} (h : Row (Go.Proofs.YtahegjhjonodlaaDoor.more w bs k) b o xs) : Row (Go.Proofs.YtahegjhjonodlaaDoor.more w (bs ++ cs) n) b o xs := by
  rw [← more_more w bs cs k n]; exact h.more
theorem Row.draws {w : World} {b o : Nat} {xs : List Int} {bs : List Obj} {k n : Nat} (h : Row (Go.Proofs.YtahegjhjonodlaaDoor.more w bs k) b o xs) : Row (Go.Proofs.YtahegjhjonodlaaDoor.more w bs n) b o xs := h
/-- a row that was just written out -/
theorem row_lit {w : World} {b : Nat} {C : Array Value} {T : TypeId} (xs : List Int) (hb : b = w.heap.size) (hC : C = (xs.map (Value.int .i64)).toArray) : Row (w.alloc (.cells C T)) b 0 xs := by
  subst hb; subst hC
  refine ⟨by show w.heap.size < (w.heap.push _).size; simp, fun i hi => ?_⟩
  rw [Nat.zero_add, World.cell?_alloc_new]
  simp [List.getD_eq_getElem?_getD, hi]
/-- a part of a row -/
theorem Row.take {w : World} {b o k : Nat} {xs : List Int} (h : Row w b o xs) : Row w b o (xs.take k) := by
  refine ⟨h.1, fun i hi => ?_⟩
  rw [List.length_take] at hi
  rw [h.2 i (by omega)]
  rw [List.getD_eq_getElem?_getD, List.getD_eq_getElem?_getD, List.getElem?_take, if_pos (by omega)]
theorem Row.get {w : World} {b o : Nat} {xs : List Int} (h : Row w b o xs) (i : Nat) (hi : i < xs.length) : w.cell? ⟨b, o + i, none⟩ = some (.int .i64 (xs.getD i 0)) := h.2 i hi

end Go.Proofs.YtahegjhjonodlaaDoor

/- A block of integers that a loop fills from the front. -/
namespace Go.Proofs.YtahegjhjonodlaaDoor
open Go.ChangeShapes Go.WideShapes Go.ChangeAt Go.RowKit
set_option linter.unusedVariables false
set_option maxRecDepth 100000

/-- the cells of the block after k rounds: f 0, .. f (k-1), then zeros -/
def fc (f : Nat → Int) (m k : Nat) : Array Value := ((List.range m).map (fun i => Value.int .i64 (if i < k then f i else 0))).toArray
theorem fc_size (f : Nat → Int) (m k : Nat) : (fc f m k).size = m := by simp [fc]
theorem fc_get (f : Nat → Int) (m k i : Nat) (h : i < m) : (fc f m k)[i]? = some (.int .i64 (if i < k then f i else 0)) := by simp [fc, h]
theorem fc_zero (f : Nat → Int) (m : Nat) : madeCells #[Value.int .i64 0] m = fc f m 0 := by
  apply Array.ext_getElem?
  intro i
  by_cases h : i < m
  · rw [fc_get _ _ _ _ h]; simp [madeCells, h, Nat.mod_one]
  · rw [Array.getElem?_eq_none (by rw [size_madeCells]; omega), Array.getElem?_eq_none (by rw [fc_size]; omega)]
theorem fc_step (f : Nat → Int) (m k : Nat) (hk : k < m) : (fc f m k).setIfInBounds k (.int .i64 (f k)) = fc f m (k + 1) := by
  apply Array.ext_getElem?
  intro i
  rw [Array.getElem?_setIfInBounds, fc_size]
  by_cases h : i < m
  · by_cases hi : k = i
    · subst hi; rw [if_pos rfl, if_pos hk, fc_get _ _ _ _ h, if_pos (by omega)]
    · rw [if_neg hi, fc_get _ _ _ _ h, fc_get _ _ _ _ h]
      by_cases hl : i < k
      · rw [if_pos hl, if_pos (by omega)]
      · rw [if_neg hl, if_neg (by omega)]
  · rw [if_neg (by omega), Array.getElem?_eq_none (by rw [fc_size]; omega), Array.getElem?_eq_none (by rw [fc_size]; omega)]
end Go.Proofs.YtahegjhjonodlaaDoor
