/- The walk of talkeep.EarnWhole1. -/
import Derived.Test.YtmkmbfficpgmdaaEarnA
namespace Go.Proofs.Ytmkmbfficpgmdaa.earnWhole
open Go.ChangeShapes Go.WideShapes Go.ChangeAt Go.RowKit
set_option linter.unusedVariables false

namespace C1
theorem by_begun (w : World) : Calls Try.prog 19 #[.int .i64 100, .int .i64 10, .int .i64 13, .int .i64 11] w fun e w' => e = .returned (.tuple #[.int .i64 50, .int .i64 0]) ∧ ∃ k, w' = w.drewN k :=
  By_ok 100 10 13 11 w (by omega) (by omega) (by omega) (by omega) (by omega) (by omega) (by omega)

set_option maxHeartbeats 1600000 in
theorem core11 (w : World) (a f t p q F T A B X Y : Int) (hFT : F < T) (hAB : A < B) 
    (Hf : Hid (∀ w, Calls Try.prog 20 #[.int .i64 f] w fun e w' => e = .returned (.int .i64 F) ∧ w = w')) (Ht : Hid (∀ w, Calls Try.prog 20 #[.int .i64 t] w fun e w' => e = .returned (.int .i64 T) ∧ w = w')) (Hp : Hid (∀ w, Calls Try.prog 20 #[.int .i64 p] w fun e w' => e = .returned (.int .i64 A) ∧ w = w')) (Hq : Hid (∀ w, Calls Try.prog 20 #[.int .i64 q] w fun e w' => e = .returned (.int .i64 B) ∧ w = w'))
    (HX : Hid (∀ w, Calls Try.prog 19 #[.int .i64 a, .int .i64 F, .int .i64 T, .int .i64 A] w fun e w' => e = .returned (.tuple #[.int .i64 X, .int .i64 0]) ∧ ∃ k, w' = w.drewN k)) (HY : Hid (∀ w, Calls Try.prog 19 #[.int .i64 a, .int .i64 F, .int .i64 T, .int .i64 B] w fun e w' => e = .returned (.tuple #[.int .i64 Y, .int .i64 0]) ∧ ∃ k, w' = w.drewN k))
    (K : Hid ((A < F → X = 0) ∧ (T ≤ B → Y = a) ∧ (0 ≤ a → 0 ≤ X ∧ X ≤ Y ∧ Y ≤ a) ∧ (a < 0 → Y ≤ X ∧ X ≤ 0 ∧ a ≤ Y))) :
    Calls Try.prog 4 #[.int .i64 a, .int .i64 f, .int .i64 t, .int .i64 p, .int .i64 q] w fun e w' => e = .returned (.bool true) ∧ Below w.heap.size w w' := by
  go_enter Try.func4, Try.ntmps4
  go_wp2_with (first | (go_at_call 19; (with_reducible refine (by_begun _).mono ?_); rintro e w1 ⟨rfl, k, rfl⟩) | (go_at_call 20; (with_reducible refine (Hf.out _).mono ?_); rintro e w1 ⟨rfl, rfl⟩) | (go_at_call 20; (with_reducible refine (Ht.out _).mono ?_); rintro e w1 ⟨rfl, rfl⟩) | (go_at_call 20; (with_reducible refine (Hp.out _).mono ?_); rintro e w1 ⟨rfl, rfl⟩) | (go_at_call 20; (with_reducible refine (Hq.out _).mono ?_); rintro e w1 ⟨rfl, rfl⟩) | (go_at_call 19; (with_reducible refine (HX.out _).mono ?_); rintro e w1 ⟨rfl, k, rfl⟩) | (go_at_call 19; (with_reducible refine (HY.out _).mono ?_); rintro e w1 ⟨rfl, k, rfl⟩))
  all_goals go_ret
  all_goals (have k := K.out; refine ⟨ret_b ?_, bel_drewN _ _⟩; first | rfl | (exfalso; omega) | (simp; omega) | (exfalso; simp only [bne_iff_ne, ne_eq, beq_iff_eq] at *; omega))

set_option maxHeartbeats 1600000 in
theorem core12 (w : World) (a f t p q F T A X : Int) (hFT : F < T) 
    (Hf : Hid (∀ w, Calls Try.prog 20 #[.int .i64 f] w fun e w' => e = .returned (.int .i64 F) ∧ w = w')) (Ht : Hid (∀ w, Calls Try.prog 20 #[.int .i64 t] w fun e w' => e = .returned (.int .i64 T) ∧ w = w')) (Hp : Hid (∀ w, Calls Try.prog 20 #[.int .i64 p] w fun e w' => e = .returned (.int .i64 A) ∧ w = w')) (Hq : Hid (∀ w, Calls Try.prog 20 #[.int .i64 q] w fun e w' => e = .returned (.int .i64 A) ∧ w = w'))
    (HX : Hid (∀ w, Calls Try.prog 19 #[.int .i64 a, .int .i64 F, .int .i64 T, .int .i64 A] w fun e w' => e = .returned (.tuple #[.int .i64 X, .int .i64 0]) ∧ ∃ k, w' = w.drewN k)) (HY : Hid (∀ w, Calls Try.prog 19 #[.int .i64 a, .int .i64 F, .int .i64 T, .int .i64 A] w fun e w' => e = .returned (.tuple #[.int .i64 X, .int .i64 0]) ∧ ∃ k, w' = w.drewN k))
    (K : Hid ((A < F → X = 0) ∧ (T ≤ A → X = a) ∧ (0 ≤ a → 0 ≤ X ∧ X ≤ X ∧ X ≤ a) ∧ (a < 0 → X ≤ X ∧ X ≤ 0 ∧ a ≤ X))) :
    Calls Try.prog 4 #[.int .i64 a, .int .i64 f, .int .i64 t, .int .i64 p, .int .i64 q] w fun e w' => e = .returned (.bool true) ∧ Below w.heap.size w w' := by
  go_enter Try.func4, Try.ntmps4
  go_wp2_with (first | (go_at_call 19; (with_reducible refine (by_begun _).mono ?_); rintro e w1 ⟨rfl, k, rfl⟩) | (go_at_call 20; (with_reducible refine (Hf.out _).mono ?_); rintro e w1 ⟨rfl, rfl⟩) | (go_at_call 20; (with_reducible refine (Ht.out _).mono ?_); rintro e w1 ⟨rfl, rfl⟩) | (go_at_call 20; (with_reducible refine (Hp.out _).mono ?_); rintro e w1 ⟨rfl, rfl⟩) | (go_at_call 20; (with_reducible refine (Hq.out _).mono ?_); rintro e w1 ⟨rfl, rfl⟩) | (go_at_call 19; (with_reducible refine (HX.out _).mono ?_); rintro e w1 ⟨rfl, k, rfl⟩) | (go_at_call 19; (with_reducible refine (HY.out _).mono ?_); rintro e w1 ⟨rfl, k, rfl⟩))
  all_goals go_ret
  all_goals (have k := K.out; refine ⟨ret_b ?_, bel_drewN _ _⟩; first | rfl | (exfalso; omega) | (simp; omega) | (exfalso; simp only [bne_iff_ne, ne_eq, beq_iff_eq] at *; omega))

set_option maxHeartbeats 1600000 in
theorem core13 (w : World) (a f t p q F T A B X Y : Int) (hFT : F < T) (hAB : A < B) 
    (Hf : Hid (∀ w, Calls Try.prog 20 #[.int .i64 f] w fun e w' => e = .returned (.int .i64 F) ∧ w = w')) (Ht : Hid (∀ w, Calls Try.prog 20 #[.int .i64 t] w fun e w' => e = .returned (.int .i64 T) ∧ w = w')) (Hp : Hid (∀ w, Calls Try.prog 20 #[.int .i64 p] w fun e w' => e = .returned (.int .i64 B) ∧ w = w')) (Hq : Hid (∀ w, Calls Try.prog 20 #[.int .i64 q] w fun e w' => e = .returned (.int .i64 A) ∧ w = w'))
    (HX : Hid (∀ w, Calls Try.prog 19 #[.int .i64 a, .int .i64 F, .int .i64 T, .int .i64 A] w fun e w' => e = .returned (.tuple #[.int .i64 X, .int .i64 0]) ∧ ∃ k, w' = w.drewN k)) (HY : Hid (∀ w, Calls Try.prog 19 #[.int .i64 a, .int .i64 F, .int .i64 T, .int .i64 B] w fun e w' => e = .returned (.tuple #[.int .i64 Y, .int .i64 0]) ∧ ∃ k, w' = w.drewN k))
    (K : Hid ((A < F → X = 0) ∧ (T ≤ B → Y = a) ∧ (0 ≤ a → 0 ≤ X ∧ X ≤ Y ∧ Y ≤ a) ∧ (a < 0 → Y ≤ X ∧ X ≤ 0 ∧ a ≤ Y))) :
    Calls Try.prog 4 #[.int .i64 a, .int .i64 f, .int .i64 t, .int .i64 p, .int .i64 q] w fun e w' => e = .returned (.bool true) ∧ Below w.heap.size w w' := by
  go_enter Try.func4, Try.ntmps4
  go_wp2_with (first | (go_at_call 19; (with_reducible refine (by_begun _).mono ?_); rintro e w1 ⟨rfl, k, rfl⟩) | (go_at_call 20; (with_reducible refine (Hf.out _).mono ?_); rintro e w1 ⟨rfl, rfl⟩) | (go_at_call 20; (with_reducible refine (Ht.out _).mono ?_); rintro e w1 ⟨rfl, rfl⟩) | (go_at_call 20; (with_reducible refine (Hp.out _).mono ?_); rintro e w1 ⟨rfl, rfl⟩) | (go_at_call 20; (with_reducible refine (Hq.out _).mono ?_); rintro e w1 ⟨rfl, rfl⟩) | (go_at_call 19; (with_reducible refine (HX.out _).mono ?_); rintro e w1 ⟨rfl, k, rfl⟩) | (go_at_call 19; (with_reducible refine (HY.out _).mono ?_); rintro e w1 ⟨rfl, k, rfl⟩))
  all_goals go_ret
  all_goals (have k := K.out; refine ⟨ret_b ?_, bel_drewN _ _⟩; first | rfl | (exfalso; omega) | (simp; omega) | (exfalso; simp only [bne_iff_ne, ne_eq, beq_iff_eq] at *; omega))

end C1

end Go.Proofs.Ytmkmbfficpgmdaa.earnWhole
