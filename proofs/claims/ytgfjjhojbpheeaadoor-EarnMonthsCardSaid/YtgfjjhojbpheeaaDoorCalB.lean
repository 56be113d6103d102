/- The walks of the calendar: cal.years, leap, length, of, Plain, Is; where the table of lengths holds. -/
import Derived.Test.YtgfjjhojbpheeaaDoorCalA
import Derived.Test.YtgfjjhojbpheeaaDoorFracA
import Derived.Test.YtgfjjhojbpheeaaDoorMem
import Derived.Lib.LaidTab
namespace Go.Proofs.YtgfjjhojbpheeaaDoor
open Go.ChangeShapes Go.WideShapes Go.ChangeAt Go.RowKit
set_option linter.unusedVariables false

/-- the table of lengths holds -/
def Tab (w : World) : Prop := 0 < w.heap.size ∧ ∀ i : Nat, i < 13 → w.cell? ⟨0, i, none⟩ = some (.int .i64 (mtab.getD i 0))
theorem Tab.below {w w' : World} (h : Tab w) (hb : Below w.heap.size w w') : Tab w' := by
  refine ⟨by have := h.1; have := hb.size; omega, fun i hi => (hb.cell (p := ⟨_, i, none⟩) h.1).trans (h.2 i hi)⟩
theorem Tab.mor {w w' : World} (h : Tab w) (hm : Mor w w') : Tab w' := h.below hm.below
theorem Tab.alloc {w : World} {o : Obj} (h : Tab w) : Tab (w.alloc o) := h.mor (Mor.refl _).alloc
theorem Tab.drewN {w : World} {k : Nat} (h : Tab w) : Tab (w.drewN k) := h
theorem Tab.drew {w : World} (h : Tab w) : Tab w.drew := h
theorem Tab.more {w : World} {bs : List Obj} {k : Nat} (h : Tab w) : Tab (Go.Proofs.YtgfjjhojbpheeaaDoor.more w bs k) := h.mor (Mor.refl _).more
theorem Tab.set {w : World} {g i : Nat} {v : Value} (h : Tab w) (hg : g ≠ 0) : Tab (w.setCell ⟨g, i, none⟩ v) :=
  ⟨by show 0 < (w.setCell ⟨g, i, none⟩ v).heap.size; simp [World.setCell]; exact h.1, fun j hj => by
    rw [World.cell?_setCell_other _ _ _ _ (by intro e; injection e with e; exact hg (by first | exact e | exact e.symm))]; exact h.2 j hj⟩

set_option maxHeartbeats 400000 in
theorem years_any (y : Int) (w : World) (h1 : 1600 ≤ y) (h2 : y ≤ 2401) :
    Calls Tryd.prog 38 #[.int .i64 y] w fun e w' => e = .returned (.int .i64 (yrs y)) ∧ w = w' := by
  go_enter Tryd.func38, Tryd.ntmps38
  go_wp2
  go_ret
  exact ⟨ret_i (by unfold yrs; omega), rfl⟩

set_option maxHeartbeats 400000 in
theorem leap_any (y : Int) (w : World) (h1 : 1600 ≤ y) (h2 : y ≤ 2401) :
    Calls Tryd.prog 39 #[.int .i64 y] w fun e w' => e = .returned (.bool (lp y)) ∧ w = w' := by
  have hl : lp y = (decide (y % 4 = 0) && (!decide (y % 100 = 0) || decide (y % 400 = 0))) := rfl
  have HL := Lib.hid hl
  clear hl
  by_cases a : y % 4 = 0 <;> by_cases b : y % 100 = 0 <;> by_cases c : y % 400 = 0
  all_goals
    have H := HL.out
    simp only [a, b, c] at H
    simp at H
    have H' := Lib.hid H
    clear H HL
    go_enter Tryd.func39, Tryd.ntmps39
    go_wp2
    go_ret
    refine ⟨?_, rfl⟩
    rw [H'.out]
    simp [a, b, c]

set_option maxHeartbeats 800000 in
theorem length_any (y : Int) (m : Nat) (w : World) (h1 : 1600 ≤ y) (h2 : y ≤ 2401) (m1 : 1 ≤ m) (m2 : m ≤ 12) (ht : Tab w) :
    Calls Tryd.prog 32 #[.int .i64 y, .int .i64 m] w fun e w' => e = .returned (.int .i64 (mlen y m)) ∧ w = w' := by
  have c := ht.2 m (by omega)
  have HL := Lib.hid (fun w => leap_any y w h1 h2)
  have hz : (0 : Int) ≤ (m : Int) := by omega
  have hz2 : (m : Int) < 13 := by omega
  clear ht
  by_cases e : m = 2
  · subst e
    cases hp : lp y
    · rw [hp] at HL
      have HE := Lib.hid (show mlen y ((2 : Nat) : Int) = 28 by unfold mlen; rw [hp]; simp [mtab])
      clear hp
      go_enter Tryd.func32, Tryd.ntmps32
      go_wp2_with (go_at_call 39; (with_reducible refine (HL.out _).mono ?_); rintro e w1 ⟨rfl, rfl⟩)
      go_ret
      exact ⟨ret_i (by rw [HE.out]; rfl), rfl⟩
    · rw [hp] at HL
      have HE := Lib.hid (show mlen y ((2 : Nat) : Int) = 29 by unfold mlen; rw [hp]; simp)
      clear hp
      go_enter Tryd.func32, Tryd.ntmps32
      go_wp2_with (go_at_call 39; (with_reducible refine (HL.out _).mono ?_); rintro e w1 ⟨rfl, rfl⟩)
      go_ret
      exact ⟨ret_i (by rw [HE.out]), rfl⟩
  · have HE := Lib.hid (show mlen y (m : Int) = mtab.getD m 0 by unfold mlen; rw [if_neg (by omega)]; simp)
    have e2 : ((m : Int) = 2) = False := eq_false (by omega)
    generalize mtab.getD m 0 = v at *
    go_enter Tryd.func32, Tryd.ntmps32
    go_wp2_with fail
    go_ret
    exact ⟨ret_i (by rw [HE.out]), rfl⟩

set_option maxHeartbeats 400000 in
theorem is_any (n : Int) (w : World) :
    Calls Tryd.prog 30 #[.int .i64 n] w fun e w' => e = .returned (.bool (decide (0 ≤ n ∧ n ≤ 292193))) ∧ w = w' := by
  by_cases a : 0 ≤ n <;> by_cases b : n ≤ 292193
  all_goals
    go_enter Tryd.func30, Tryd.ntmps30
    go_wp2
    go_ret
    exact ⟨by simp [*], rfl⟩

end Go.Proofs.YtgfjjhojbpheeaaDoor
