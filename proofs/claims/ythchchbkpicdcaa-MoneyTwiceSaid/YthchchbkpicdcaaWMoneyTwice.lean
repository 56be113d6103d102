/- The walk of talkeep.MoneyTwice. -/
import Derived.Test.YthchchbkpicdcaaMoneyA
namespace Go.Proofs.Ythchchbkpicdcaa.moneyTwice
open Go.ChangeShapes Go.WideShapes Go.ChangeAt Go.RowKit
set_option linter.unusedVariables false

theorem share_begun (w : World) : Calls Try.prog 24 #[.int .i64 (-5), .int .i64 500000, .int .i64 0] w fun e w' => e = .returned (.tuple #[.int .i64 (-3), .int .i64 0]) ∧ ∃ k, w' = w.drewN k :=
  share_ok (-5) 500000 0 w (by omega) (by omega) (by omega) (by omega) (by omega) (by omega)

set_option maxHeartbeats 400000 in
theorem moneyTwice_walk (w : World) (a0 : Int) (w0 : (Lit.int .i64 a0).wf = true) (a1 : Int) (w1 : (Lit.int .i64 a1).wf = true) (a2 : Int) (w2 : (Lit.int .i64 a2).wf = true) (a3 : Int) (w3 : (Lit.int .i64 a3).wf = true) :
    Calls Try.prog 11 #[.int .i64 a0, .int .i64 a1, .int .i64 a2, .int .i64 a3] w fun e w' => e = .returned (.bool true) ∧ Below w.heap.size w w' := by
  clear w0 w1 w2 w3
  have l0 := wi_lo a0 1000000000001 (by omega)
  have l1 := wi_hi a0 1000000000001 (by omega)
  have l2 := wi_lo a1 1000001 (by omega)
  have l3 := wi_hi a1 1000001 (by omega)
  have l4 := wi_lo a2 1000001 (by omega)
  have l5 := wi_hi a2 1000001 (by omega)
  have l6 := wi_lo a3 4 (by omega)
  have l7 := wi_hi a3 4 (by omega)
  obtain ⟨x0, x1⟩ := rnd_share (wi a0 1000000000001) (wi a1 1000001) (wi a3 4) l0 l2 (by omega)
  obtain ⟨y0, y1⟩ := rnd_share (wi a0 1000000000001 - rnd (wi a0 1000000000001 * wi a1 1000001) 1000000 (wi a3 4)) (wi a2 1000001) (wi a3 4) (by omega) l4 (by omega)
  go_enter Try.func11, Try.ntmps11
  go_wp2_with (first | (go_at_call 24; (with_reducible refine (share_begun _).mono ?_); rintro e w' ⟨rfl, k, rfl⟩) | (go_at_call 18; refine (within_any _ _ _ (by omega) (by omega)).mono ?_; rintro e w' ⟨rfl, rfl⟩) | (go_at_call 24; refine (share_ok _ _ _ _ (by omega) (by omega) (by omega) (by omega) (by omega) (by omega)).mono ?_; rintro e w' ⟨rfl, k, rfl⟩))
  go_ret
  exact ⟨ret_b (by simp; omega), bel_drewN _ _⟩

end Go.Proofs.Ythchchbkpicdcaa.moneyTwice
