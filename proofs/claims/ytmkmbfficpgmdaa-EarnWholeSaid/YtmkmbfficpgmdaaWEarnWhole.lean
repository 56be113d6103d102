/- The walk of talkeep.EarnWhole. -/
import Derived.Test.YtmkmbfficpgmdaaEarnA
import Derived.Test.YtmkmbfficpgmdaaWEarnWhole1
import Derived.Test.YtmkmbfficpgmdaaWEarnWhole2
import Derived.Test.YtmkmbfficpgmdaaWEarnWhole3
namespace Go.Proofs.Ytmkmbfficpgmdaa.earnWhole
open Go.ChangeShapes Go.WideShapes Go.ChangeAt Go.RowKit
set_option linter.unusedVariables false

theorem by_begun (w : World) : Calls Try.prog 19 #[.int .i64 100, .int .i64 10, .int .i64 13, .int .i64 11] w fun e w' => e = .returned (.tuple #[.int .i64 50, .int .i64 0]) ∧ ∃ k, w' = w.drewN k :=
  By_ok 100 10 13 11 w (by omega) (by omega) (by omega) (by omega) (by omega) (by omega) (by omega)

theorem no_walk (w : World) (a f t p q : Int) (h : a < -1000000000000 ∨ 1000000000000 < a) :
    Calls Try.prog 4 #[.int .i64 a, .int .i64 f, .int .i64 t, .int .i64 p, .int .i64 q] w fun e w' => e = .returned (.bool true) ∧ Below w.heap.size w w' := by
  have H := Lib.hid h
  clear h
  go_enter Try.func4, Try.ntmps4
  go_wp2_with (first | (go_at_call 19; (with_reducible refine (by_begun _).mono ?_); rintro e w1 ⟨rfl, k, rfl⟩) | (go_at_call 20; refine (day_any _ _).mono ?_; rintro e w1 ⟨rfl, rfl⟩) | (go_at_call 19; refine (By_no _ _ _ _ _ H.out).mono ?_; rintro e w1 ⟨rfl, k, rfl⟩))
  all_goals go_ret
  all_goals exact ⟨rfl, bel_drewN _ _⟩

theorem earnWhole_walk (w : World) (a : Int) (wa : (Lit.int .i64 a).wf = true) (f : Int) (wf : (Lit.int .i64 f).wf = true) (t : Int) (wt : (Lit.int .i64 t).wf = true) (p : Int) (wp : (Lit.int .i64 p).wf = true) (q : Int) (wq : (Lit.int .i64 q).wf = true) :
    Calls Try.prog 4 #[.int .i64 a, .int .i64 f, .int .i64 t, .int .i64 p, .int .i64 q] w fun e w' => e = .returned (.bool true) ∧ Below w.heap.size w w' := by
  by_cases h : -1000000000000 ≤ a ∧ a ≤ 1000000000000
  · obtain ⟨h1, h2⟩ := h
    have l1 := dy_lo f
    have l2 := dy_hi f
    have l3 := dy_lo t
    have l4 := dy_hi t
    have l5 := dy_lo p
    have l6 := dy_hi p
    have l7 := dy_lo q
    have l8 := dy_hi q
    have Df := fun w => day_any f w
    have Dt := fun w => day_any t w
    have Dp := fun w => day_any p w
    have Dq := fun w => day_any q w
    rcases Int.lt_trichotomy (dy f) (dy t) with hf | hf | hf
    · rcases Int.lt_trichotomy (dy p) (dy q) with hp | hp | hp
      · exact C1.core11 w a f t p q _ _ _ _ _ _ hf hp  Df Dt Dp Dq (fun w => By_ok a (dy f) (dy t) (dy p) w h1 h2 (by omega) (by omega) (by omega) (by omega) (by omega)) (fun w => By_ok a (dy f) (dy t) (dy q) w h1 h2 (by omega) (by omega) (by omega) (by omega) (by omega)) (ev_facts a (dy f) (dy t) (dy p) (dy q) (by omega) (by omega))
      · rw [← hp] at Dq
        exact C1.core12 w a f t p q _ _ _ _ hf  Df Dt Dp Dq (fun w => By_ok a (dy f) (dy t) (dy p) w h1 h2 (by omega) (by omega) (by omega) (by omega) (by omega)) (fun w => By_ok a (dy f) (dy t) (dy p) w h1 h2 (by omega) (by omega) (by omega) (by omega) (by omega)) (ev_facts a (dy f) (dy t) (dy p) (dy p) (by omega) (by omega))
      · exact C1.core13 w a f t p q _ _ _ _ _ _ hf hp  Df Dt Dp Dq (fun w => By_ok a (dy f) (dy t) (dy q) w h1 h2 (by omega) (by omega) (by omega) (by omega) (by omega)) (fun w => By_ok a (dy f) (dy t) (dy p) w h1 h2 (by omega) (by omega) (by omega) (by omega) (by omega)) (ev_facts a (dy f) (dy t) (dy q) (dy p) (by omega) (by omega))
    · rw [← hf] at Dt
      rcases Int.lt_trichotomy (dy p) (dy q) with hp | hp | hp
      · exact C2.core21 w a f t p q _ _ _ _ _ hp  Df Dt Dp Dq (fun w => By_ok a (dy f) (dy f) (dy p) w h1 h2 (by omega) (by omega) (by omega) (by omega) (by omega)) (fun w => By_ok a (dy f) (dy f) (dy q) w h1 h2 (by omega) (by omega) (by omega) (by omega) (by omega)) (ev_facts a (dy f) (dy f) (dy p) (dy q) (by omega) (by omega))
      · rw [← hp] at Dq
        exact C2.core22 w a f t p q _ _ _  Df Dt Dp Dq (fun w => By_ok a (dy f) (dy f) (dy p) w h1 h2 (by omega) (by omega) (by omega) (by omega) (by omega)) (fun w => By_ok a (dy f) (dy f) (dy p) w h1 h2 (by omega) (by omega) (by omega) (by omega) (by omega)) (ev_facts a (dy f) (dy f) (dy p) (dy p) (by omega) (by omega))
      · exact C2.core23 w a f t p q _ _ _ _ _ hp  Df Dt Dp Dq (fun w => By_ok a (dy f) (dy f) (dy q) w h1 h2 (by omega) (by omega) (by omega) (by omega) (by omega)) (fun w => By_ok a (dy f) (dy f) (dy p) w h1 h2 (by omega) (by omega) (by omega) (by omega) (by omega)) (ev_facts a (dy f) (dy f) (dy q) (dy p) (by omega) (by omega))
    · rcases Int.lt_trichotomy (dy p) (dy q) with hp | hp | hp
      · exact C3.core31 w a f t p q _ _ _ _ _ _ hf hp  Df Dt Dp Dq (fun w => By_ok a (dy t) (dy f) (dy p) w h1 h2 (by omega) (by omega) (by omega) (by omega) (by omega)) (fun w => By_ok a (dy t) (dy f) (dy q) w h1 h2 (by omega) (by omega) (by omega) (by omega) (by omega)) (ev_facts a (dy t) (dy f) (dy p) (dy q) (by omega) (by omega))
      · rw [← hp] at Dq
        exact C3.core32 w a f t p q _ _ _ _ hf  Df Dt Dp Dq (fun w => By_ok a (dy t) (dy f) (dy p) w h1 h2 (by omega) (by omega) (by omega) (by omega) (by omega)) (fun w => By_ok a (dy t) (dy f) (dy p) w h1 h2 (by omega) (by omega) (by omega) (by omega) (by omega)) (ev_facts a (dy t) (dy f) (dy p) (dy p) (by omega) (by omega))
      · exact C3.core33 w a f t p q _ _ _ _ _ _ hf hp  Df Dt Dp Dq (fun w => By_ok a (dy t) (dy f) (dy q) w h1 h2 (by omega) (by omega) (by omega) (by omega) (by omega)) (fun w => By_ok a (dy t) (dy f) (dy p) w h1 h2 (by omega) (by omega) (by omega) (by omega) (by omega)) (ev_facts a (dy t) (dy f) (dy q) (dy p) (by omega) (by omega))
  · exact no_walk w a f t p q (by omega)

end Go.Proofs.Ytmkmbfficpgmdaa.earnWhole
