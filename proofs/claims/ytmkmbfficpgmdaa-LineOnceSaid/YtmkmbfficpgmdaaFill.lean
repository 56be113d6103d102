/- A block of integers that a loop fills from the front. -/
import Derived.Test.YtmkmbfficpgmdaaIntRows
namespace Go.Proofs.Ytmkmbfficpgmdaa
open Go.ChangeShapes Go.WideShapes Go.ChangeAt Go.RowKit
set_option linter.unusedVariables false

/-- the cells of the block after k rounds: f 0, .. f (k-1), then zeros -/
def fc (f : Nat → Int) (m k : Nat) : Array Value := ((List.range m).map (fun i => Value.int .i64 (if i < k then f i else 0))).toArray
theorem fc_size (f : Nat → Int) (m k : Nat) : (fc f m k).size = m := by simp [fc]
theorem fc_get (f : Nat → Int) (m k i : Nat) (h : i < m) : (fc f m k)[i]? = some (.int .i64 (if i < k then f i else 0)) := by simp [fc, h]
theorem fc_zero (f : Nat → Int) (m : Nat) : madeCells #[Value.int .i64 0] m = fc f m 0 := by
  apply Array.ext_getElem?
  intro i
  by_cases h : i < m
  · rw [fc_get _ _ _ _ h]; simp [madeCells, h, Nat.mod_one]
  · rw [Array.getElem?_eq_none (by rw [size_madeCells]; omega), Array.getElem?_eq_none (by rw [fc_size]; omega)]
theorem fc_step (f : Nat → Int) (m k : Nat) (hk : k < m) : (fc f m k).setIfInBounds k (.int .i64 (f k)) = fc f m (k + 1) := by
  apply Array.ext_getElem?
  intro i
  rw [Array.getElem?_setIfInBounds, fc_size]
  by_cases h : i < m
  · by_cases hi : k = i
    · subst hi; rw [if_pos rfl, if_pos hk, fc_get _ _ _ _ h, if_pos (by omega)]
    · rw [if_neg hi, fc_get _ _ _ _ h, fc_get _ _ _ _ h]
      by_cases hl : i < k
      · rw [if_pos hl, if_pos (by omega)]
      · rw [if_neg hl, if_neg (by omega)]
  · rw [if_neg (by omega), Array.getElem?_eq_none (by rw [fc_size]; omega), Array.getElem?_eq_none (by rw [fc_size]; omega)]
theorem fc_row (w : World) (f : Nat → Int) (m : Nat) (T : TypeId) (k : Nat) : Row ((w.alloc (.cells (fc f m m) T)).drewN k) w.heap.size 0 ((List.range m).map f) := by
  refine ⟨by show w.heap.size < (w.heap.push _).size; simp, fun i hi => ?_⟩
  simp only [List.length_map, List.length_range] at hi
  rw [World.cell?_drewN, Nat.zero_add, World.cell?_alloc_new, fc_get _ _ _ _ hi, if_pos hi]
  simp [List.getD_eq_getElem?_getD, hi]

end Go.Proofs.Ytmkmbfficpgmdaa
