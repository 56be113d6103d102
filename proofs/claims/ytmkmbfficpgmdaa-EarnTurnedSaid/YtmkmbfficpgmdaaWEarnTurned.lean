/- The walk of talkeep.EarnTurned. -/
import Derived.Test.YtmkmbfficpgmdaaEarnA
namespace Go.Proofs.Ytmkmbfficpgmdaa.earnTurned
open Go.ChangeShapes Go.WideShapes Go.ChangeAt Go.RowKit
set_option linter.unusedVariables false

theorem by_begun (w : World) : Calls Try.prog 19 #[.int .i64 (-3), .int .i64 0, .int .i64 1, .int .i64 0] w fun e w' => e = .returned (.tuple #[.int .i64 (-2), .int .i64 0]) ∧ ∃ k, w' = w.drewN k :=
  By_ok (-3) 0 1 0 w (by omega) (by omega) (by omega) (by omega) (by omega) (by omega) (by omega)

set_option maxHeartbeats 1600000 in
theorem earnTurned_walk (w : World) (a : Int) (wa : (Lit.int .i64 a).wf = true) (f : Int) (wf : (Lit.int .i64 f).wf = true) (t : Int) (wt : (Lit.int .i64 t).wf = true) (p : Int) (wp : (Lit.int .i64 p).wf = true) :
    Calls Try.prog 5 #[.int .i64 a, .int .i64 f, .int .i64 t, .int .i64 p] w fun e w' => e = .returned (.bool true) ∧ Below w.heap.size w w' := by
  clear wa wf wt wp
  have l1 := dy_lo f
  have l2 := dy_hi f
  have l3 := dy_lo t
  have l4 := dy_hi t
  have l5 := dy_lo p
  have l6 := dy_hi p
  have a1 := wi_lo a 2000000000001 (by omega)
  have a2 := wi_hi a 2000000000001 (by omega)
  have K1 := Lib.hid (fun h => ev_neg (wi a 2000000000001 - 1000000000000) (dy f) (dy t) (dy p) h)
  have K2 := Lib.hid (fun h => ev_neg (wi a 2000000000001 - 1000000000000) (dy t) (dy f) (dy p) h)
  have B1 := Lib.hid (fun h => ev_bd (wi a 2000000000001 - 1000000000000) (dy f) (dy t) (dy p) h (by omega) (by omega))
  have B2 := Lib.hid (fun h => ev_bd (wi a 2000000000001 - 1000000000000) (dy t) (dy f) (dy p) h (by omega) (by omega))
  rcases Int.lt_trichotomy (dy f) (dy t) with h | h | h
  · have e1 := K1.out (by omega)
    obtain ⟨b1, b2⟩ := B1.out (by omega)
    go_enter Try.func5, Try.ntmps5
    go_wp2_with (first | (go_at_call 19; (with_reducible refine (by_begun _).mono ?_); rintro e w1 ⟨rfl, k, rfl⟩) | (go_at_call 20; refine (day_any _ _).mono ?_; rintro e w1 ⟨rfl, rfl⟩) | (go_at_call 17; refine (within_any _ _ _ (by omega) (by omega)).mono ?_; rintro e w1 ⟨rfl, rfl⟩) | (go_at_call 19; refine (By_ok _ _ _ _ _ (by omega) (by omega) (by omega) (by omega) (by omega) (by omega) (by omega)).mono ?_; rintro e w1 ⟨rfl, k, rfl⟩))
    all_goals go_ret
    all_goals exact ⟨ret_b (by first | rfl | (simp; done) | (simp; omega)), bel_drewN _ _⟩
  · have e1 := K1.out (by omega)
    obtain ⟨b1, b2⟩ := B1.out (by omega)
    have hh := h.symm
    rw [hh] at e1 b1 b2
    clear h
    go_enter Try.func5, Try.ntmps5
    go_wp2_with (first | (go_at_call 19; (with_reducible refine (by_begun _).mono ?_); rintro e w1 ⟨rfl, k, rfl⟩) | (go_at_call 20; refine (day_any _ _).mono ?_; rintro e w1 ⟨rfl, rfl⟩) | (go_at_call 17; refine (within_any _ _ _ (by omega) (by omega)).mono ?_; rintro e w1 ⟨rfl, rfl⟩) | (go_at_call 19; refine (By_ok _ _ _ _ _ (by omega) (by omega) (by omega) (by omega) (by omega) (by omega) (by omega)).mono ?_; rintro e w1 ⟨rfl, k, rfl⟩))
    all_goals go_ret
    all_goals exact ⟨ret_b (by first | rfl | (simp; done) | (simp; omega)), bel_drewN _ _⟩
  · have e1 := K2.out (by omega)
    obtain ⟨b1, b2⟩ := B2.out (by omega)
    go_enter Try.func5, Try.ntmps5
    go_wp2_with (first | (go_at_call 19; (with_reducible refine (by_begun _).mono ?_); rintro e w1 ⟨rfl, k, rfl⟩) | (go_at_call 20; refine (day_any _ _).mono ?_; rintro e w1 ⟨rfl, rfl⟩) | (go_at_call 17; refine (within_any _ _ _ (by omega) (by omega)).mono ?_; rintro e w1 ⟨rfl, rfl⟩) | (go_at_call 19; refine (By_ok _ _ _ _ _ (by omega) (by omega) (by omega) (by omega) (by omega) (by omega) (by omega)).mono ?_; rintro e w1 ⟨rfl, k, rfl⟩))
    all_goals go_ret
    all_goals exact ⟨ret_b (by first | rfl | (simp; done) | (simp; omega)), bel_drewN _ _⟩

end Go.Proofs.Ytmkmbfficpgmdaa.earnTurned
