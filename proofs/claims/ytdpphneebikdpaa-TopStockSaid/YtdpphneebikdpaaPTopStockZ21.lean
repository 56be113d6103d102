/- Rows of integers in memory: what a slice reads as; sums; the walks of talkeep.sum and slices.Equal. -/
import Derived.Test.YtdpphneebikdpaaPTopStockZ1
import Derived.Test.YtdpphneebikdpaaRows
import Derived.BigQuiet
import Derived.Deep.OwnRows
import Derived.Deep.QuietTactic
import Derived.Handy
import Derived.Lib.Hide
import Derived.OpenShut
import Derived.Outline
import Derived.ProofKit
import Derived.RegionTactic
import Derived.WalkKit
namespace Go.Proofs.Ytdpphneebikdpaa
open Go.ChangeShapes Go.WideShapes Go.ChangeAt Go.RowKit
set_option linter.unusedVariables false
set_option maxRecDepth 100000

/-- the cells of block b from o on read xs -/
def Row (w : World) (b o : Nat) (xs : List Int) : Prop := b < w.heap.size ∧ ∀ i, i < xs.length → w.cell? ⟨b, o + i, none⟩ = some (.int .i64 (xs.getD i 0))

theorem Row.more {w : World} {b o : Nat} {xs : List Int} {bs : List Obj} {k : Nat} (h : Row w b o xs) : Row (more w bs k) b o xs :=
  ⟨by rw [size_more]; have := h.1; omega, fun i hi => by rw [cell?_more _ _ _ _ _ h.1]; exact h.2 i hi⟩
theorem Row.drewN {w : World} {b o k : Nat} {xs : List Int} (h : Row w b o xs) : Row (w.drewN k) b o xs := h
theorem Row.drew {w : World} {b o : Nat} {xs : List Int} (h : Row w b o xs) : Row w.drew b o xs := h
theorem Row.alloc {w : World} {b o : Nat} {xs : List Int} {ob : Obj} (h : Row w b o xs) : Row (w.alloc ob) b o xs := by
  rw [alloc_more]; exact h.more
theorem Row.app {w : World} {b o : Nat} {xs : List Int} {bs cs : List Obj} {k n : Nat} (h : Row (Go.Proofs.Ytdpphneebikdpaa.more w bs k) b o xs) : Row (Go.Proofs.Ytdpphneebikdpaa.more w (bs ++ cs) n) b o xs := by
  rw [← more_more w bs cs k n]; exact h.more
theorem Row.draws {w : World} {b o : Nat} {xs : List Int} {bs : List Obj} {k n : Nat} (h : Row (Go.Proofs.Ytdpphneebikdpaa.more w bs k) b o xs) : Row (Go.Proofs.Ytdpphneebikdpaa.more w bs n) b o xs := h
/-- a part of a row -/
theorem Row.take {w : World} {b o k : Nat} {xs : List Int} (h : Row w b o xs) : Row w b o (xs.take k) := by
  refine ⟨h.1, fun i hi => ?_⟩
  rw [List.length_take] at hi
  rw [h.2 i (by omega)]
  rw [List.getD_eq_getElem?_getD, List.getD_eq_getElem?_getD, List.getElem?_take, if_pos (by omega)]
theorem sum_take_succ (xs : List Int) (k : Nat) (h : k < xs.length) : (xs.take (k + 1)).sum = (xs.take k).sum + xs.getD k 0 := by
  rw [List.take_succ_eq_append_getElem h, List.sum_append_int]
  simp [List.getD_eq_getElem?_getD, h]
theorem sum_bd (xs : List Int) (M : Int) (hM : 0 ≤ M) (h : ∀ x ∈ xs, -M ≤ x ∧ x ≤ M) : -(M * xs.length) ≤ xs.sum ∧ xs.sum ≤ M * xs.length := by
  induction xs with
  | nil => simp
  | cons x xs ih =>
    have a := h x (by simp)
    have b := ih (fun y hy => h y (by simp [hy]))
    simp only [List.sum_cons, List.length_cons]
    have : M * ((xs.length + 1 : Nat) : Int) = M * xs.length + M := by rw [Int.natCast_add, Int.mul_add]; simp
    omega
theorem sum_take_bd (xs : List Int) (k : Nat) (h : ∀ x ∈ xs, -1000000000000000 ≤ x ∧ x ≤ 1000000000000000) (hl : xs.length ≤ 1000) : -1000000000000000000 ≤ (xs.take k).sum ∧ (xs.take k).sum ≤ 1000000000000000000 := by
  have a := sum_bd (xs.take k) 1000000000000000 (by omega) (fun x hx => h x (List.mem_of_mem_take hx))
  have b : (xs.take k).length ≤ 1000 := by rw [List.length_take]; omega
  omega
theorem getD_bd (xs : List Int) (k : Nat) (M : Int) (hM : 0 ≤ M) (h : ∀ x ∈ xs, -M ≤ x ∧ x ≤ M) : -M ≤ xs.getD k 0 ∧ xs.getD k 0 ≤ M := by
  rw [List.getD_eq_getElem?_getD]
  by_cases hk : k < xs.length
  · rw [List.getElem?_eq_getElem hk]; exact h _ (List.getElem_mem hk)
  · rw [List.getElem?_eq_none (by omega)]; simp; omega

end Go.Proofs.Ytdpphneebikdpaa
