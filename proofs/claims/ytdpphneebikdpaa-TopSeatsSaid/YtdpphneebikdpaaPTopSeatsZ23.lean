/- Rows of integers in memory: what a slice reads as; sums; the walks of talkeep.sum and slices.Equal. -/
import Derived.Test.YtdpphneebikdpaaPTopSeatsZ1
import Derived.Test.YtdpphneebikdpaaRows
import Derived.BigQuiet
import Derived.Deep.OwnRows
import Derived.Deep.QuietTactic
import Derived.Handy
import Derived.Lib.Hide
import Derived.OpenShut
import Derived.Outline
import Derived.ProofKit
import Derived.RegionTactic
import Derived.WalkKit
namespace Go.Proofs.Ytdpphneebikdpaa
open Go.ChangeShapes Go.WideShapes Go.ChangeAt Go.RowKit
set_option linter.unusedVariables false
set_option maxRecDepth 100000

/-- the cells of block b from o on read xs -/
def Row (w : World) (b o : Nat) (xs : List Int) : Prop := b < w.heap.size ∧ ∀ i, i < xs.length → w.cell? ⟨b, o + i, none⟩ = some (.int .i64 (xs.getD i 0))

theorem Row.more {w : World} {b o : Nat} {xs : List Int} {bs : List Obj} {k : Nat} (h : Row w b o xs) : Row (more w bs k) b o xs :=
  ⟨by rw [size_more]; have := h.1; omega, fun i hi => by rw [cell?_more _ _ _ _ _ h.1]; exact h.2 i hi⟩
theorem Row.drewN {w : World} {b o k : Nat} {xs : List Int} (h : Row w b o xs) : Row (w.drewN k) b o xs := h
theorem Row.drew {w : World} {b o : Nat} {xs : List Int} (h : Row w b o xs) : Row w.drew b o xs := h
theorem Row.alloc {w : World} {b o : Nat} {xs : List Int} {ob : Obj} (h : Row w b o xs) : Row (w.alloc ob) b o xs := by
  rw [alloc_more]; exact h.more
theorem Row.app {w : World} {b o : Nat} {xs : List Int} {bs cs : List Obj} {k n : Nat} (h : Row (Go.Proofs.Ytdpphneebikdpaa.more w bs k) b o xs) : Row (Go.Proofs.Ytdpphneebikdpaa.more w (bs ++ cs) n) b o xs := by
  rw [← more_more w bs cs k n]; exact h.more
theorem Row.draws {w : World} {b o : Nat} {xs : List Int} {bs : List Obj} {k n : Nat} (h : Row (Go.Proofs.Ytdpphneebikdpaa.more w bs k) b o xs) : Row (Go.Proofs.Ytdpphneebikdpaa.more w bs n) b o xs := h
/-- a part of a row -/
theorem Row.take {w : World} {b o k : Nat} {xs : List Int} (h : Row w b o xs) : Row w b o (xs.take k) := by
  refine ⟨h.1, fun i hi => ?_⟩
  rw [List.length_take] at hi
  rw [h.2 i (by omega)]
  rw [List.getD_eq_getElem?_getD, List.getD_eq_getElem?_getD, List.getElem?_take, if_pos (by omega)]
theorem Row.get {w : World} {b o : Nat} {xs : List Int} (h : Row w b o xs) (i : Nat) (hi : i < xs.length) : w.cell? ⟨b, o + i, none⟩ = some (.int .i64 (xs.getD i 0)) := h.2 i hi

theorem sum_take_succ (xs : List Int) (k : Nat) (h : k < xs.length) : (xs.take (k + 1)).sum = (xs.take k).sum + xs.getD k 0 := by
  rw [List.take_succ_eq_append_getElem h, List.sum_append_int]
  simp [List.getD_eq_getElem?_getD, h]
theorem sum_bd (xs : List Int) (M : Int) (hM : 0 ≤ M) (h : ∀ x ∈ xs, -M ≤ x ∧ x ≤ M) : -(M * xs.length) ≤ xs.sum ∧ xs.sum ≤ M * xs.length := by
  induction xs with
  | nil => simp
  | cons x xs ih =>
    have a := h x (by simp)
    have b := ih (fun y hy => h y (by simp [hy]))
    simp only [List.sum_cons, List.length_cons]
    have : M * ((xs.length + 1 : Nat) : Int) = M * xs.length + M := by rw [Int.natCast_add, Int.mul_add]; simp
    omega
set_option maxHeartbeats 800000 in
theorem equal_yes (b o cap b' o' cap' n : Nat) (xs : List Int) (w : World) (hr : Row w b o xs) (hr' : Row w b' o' xs) (hn : xs.length = n) (hl : n ≤ 1000) :
    Calls Try.prog 9 #[.slice (some ⟨b, o, none⟩) n cap, .slice (some ⟨b', o', none⟩) n cap'] w fun e w' => e = .returned (.bool true) ∧ ∃ k, w' = w.drewN k := by
  have HR := Lib.hid hr.2
  have HR' := Lib.hid hr'.2
  have HN := Lib.hid hn
  clear hr hr' hn
  go_enter Try.func9, Try.ntmps9
  go_wp2
  go_loopw [13] (fun i wr => ∃ k m : Nat, k ≤ n ∧ i = .int .i64 k ∧ wr = w.drewN m) (fun i _ => n - (intOf i).toNat)
  case atStart => exact ⟨0, 0, Nat.zero_le _, rfl, rfl⟩
  case round =>
    obtain ⟨k, m, hk, rfl, rfl⟩ := hrel
    by_cases hlt : k < n
    · have c := HR.out k (by rw [HN.out]; exact hlt)
      have c' := HR'.out k (by rw [HN.out]; exact hlt)
      generalize xs.getD k 0 = x at *
      have hi : ((k : Nat) : Int) < (n : Int) := by omega
      go_wp2
      go_quiet (fail)
      go_wp2
      go_roundw
      case rel => exact ⟨k + 1, _, by omega, by go_num, rfl⟩
      case measure => simp [intOf]; omega
    · have e : k = n := by omega
      subst e
      go_wp2
      go_ret
      exact ⟨rfl, _, rfl⟩

end Go.Proofs.Ytdpphneebikdpaa
