/- The walk of talkeep.EarnDays. -/
import Derived.Test.YtmkmbfficpgmdaaEarnA
namespace Go.Proofs.Ytmkmbfficpgmdaa.earnDays
open Go.ChangeShapes Go.WideShapes Go.ChangeAt Go.RowKit
set_option linter.unusedVariables false

theorem by_begun (w : World) : Calls Try.prog 19 #[.int .i64 30, .int .i64 0, .int .i64 9, .int .i64 4] w fun e w' => e = .returned (.tuple #[.int .i64 15, .int .i64 0]) ∧ ∃ k, w' = w.drewN k :=
  By_ok 30 0 9 4 w (by omega) (by omega) (by omega) (by omega) (by omega) (by omega) (by omega)

set_option maxHeartbeats 1600000 in
theorem earnDays_walk (w : World) (n : Int) (wn : (Lit.int .i64 n).wf = true) (f : Int) (wf : (Lit.int .i64 f).wf = true) (l : Int) (wl : (Lit.int .i64 l).wf = true) (p : Int) (wp : (Lit.int .i64 p).wf = true) :
    Calls Try.prog 6 #[.int .i64 n, .int .i64 f, .int .i64 l, .int .i64 p] w fun e w' => e = .returned (.bool true) ∧ Below w.heap.size w w' := by
  clear wn wf wl wp
  have l1 := wi_lo f 290193 (by omega)
  have l2 := wi_hi f 290193 (by omega)
  have l3 := wi_lo l 1000 (by omega)
  have l4 := wi_hi l 1000 (by omega)
  have l5 := wi_lo n 1000000 (by omega)
  have l6 := wi_hi n 1000000 (by omega)
  have l7 := wi_lo p (1 + wi l 1000) (by omega)
  have l8 := wi_hi p (1 + wi l 1000) (by omega)
  obtain ⟨b1, b2⟩ := prod_bd (wi n 1000000) (1 + wi l 1000) 1000000 1000 (by omega) (by omega) (by omega) (by omega) (by omega)
  have e1 := ev_days (wi n 1000000) (wi f 290193) (1 + wi l 1000) (wi p (1 + wi l 1000)) (by omega) l7 l8
  have B := Lib.hid (fun w => By_ok (wi n 1000000 * (1 + wi l 1000)) (wi f 290193) (wi f 290193 + (1 + wi l 1000) - 1) (wi f 290193 + wi p (1 + wi l 1000)) w (by omega) (by omega) (by omega) (by omega) (by omega) (by omega) (by omega))
  obtain ⟨c1, c2⟩ := prod_bd (wi n 1000000) (wi p (1 + wi l 1000) + 1) 1000000 1000 (by omega) (by omega) (by omega) (by omega) (by omega)
  rw [e1] at B
  clear e1
  go_enter Try.func6, Try.ntmps6
  go_wp2_with (first | (go_at_call 19; (with_reducible refine (by_begun _).mono ?_); rintro e w1 ⟨rfl, k, rfl⟩) | (go_at_call 17; refine (within_any _ _ _ (by omega) (by omega)).mono ?_; rintro e w1 ⟨rfl, rfl⟩))
  refine (B.out _).mono ?_
  rintro e w1 ⟨rfl, k, rfl⟩
  go_wp2_with fail
  all_goals go_ret
  all_goals exact ⟨ret_b (by first | rfl | (simp; done) | (simp; omega)), bel_drewN _ _⟩

end Go.Proofs.Ytmkmbfficpgmdaa.earnDays
