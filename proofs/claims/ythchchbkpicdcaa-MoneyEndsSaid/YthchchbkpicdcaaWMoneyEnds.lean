/- The walk of talkeep.MoneyEnds. -/
import Derived.Test.YthchchbkpicdcaaMoneyA
namespace Go.Proofs.Ythchchbkpicdcaa.moneyEnds
open Go.ChangeShapes Go.WideShapes Go.ChangeAt Go.RowKit
set_option linter.unusedVariables false

theorem share_begun (w : World) : Calls Try.prog 24 #[.int .i64 7, .int .i64 1000000, .int .i64 0] w fun e w' => e = .returned (.tuple #[.int .i64 7, .int .i64 0]) ∧ ∃ k, w' = w.drewN k :=
  share_full 7 0 w (by omega) (by omega) (by omega) (by omega)

set_option maxHeartbeats 400000 in
theorem moneyEnds_walk (w : World) (a0 : Int) (w0 : (Lit.int .i64 a0).wf = true) (a1 : Int) (w1 : (Lit.int .i64 a1).wf = true) (a2 : Int) (w2 : (Lit.int .i64 a2).wf = true) :
    Calls Try.prog 10 #[.int .i64 a0, .int .i64 a1, .int .i64 a2] w fun e w' => e = .returned (.bool true) ∧ Below w.heap.size w w' := by
  clear w0 w1 w2
  have l0 := wi_lo a0 2000000000001 (by omega)
  have l1 := wi_hi a0 2000000000001 (by omega)
  have l2 := wi_lo a1 1000001 (by omega)
  have l3 := wi_hi a1 1000001 (by omega)
  have l6 := wi_lo a2 4 (by omega)
  have l7 := wi_hi a2 4 (by omega)
  have hup := rnd_neg_up ((wi a0 2000000000001 - 1000000000000) * wi a1 1000001) 1000000 (by omega)
  rw [← Int.neg_mul] at hup
  obtain ⟨b1, b2⟩ := prod_bd (wi a0 2000000000001 - 1000000000000) (wi a1 1000001) 1000000000000 1000000 (by omega) (by omega) l2 (by omega) (by omega)
  have c1 := rnd_le ((wi a0 2000000000001 - 1000000000000) * wi a1 1000001) 1000000 0 1000000000000 (by omega) (by omega)
  have c2 := le_rnd ((wi a0 2000000000001 - 1000000000000) * wi a1 1000001) 1000000 0 (-1000000000000) (by omega) (by omega)
  go_enter Try.func10, Try.ntmps10
  go_wp2_with (first | (go_at_call 24; (with_reducible refine (share_begun _).mono ?_); rintro e w' ⟨rfl, k, rfl⟩) | (go_at_call 18; refine (within_any _ _ _ (by omega) (by omega)).mono ?_; rintro e w' ⟨rfl, rfl⟩) | (go_at_call 24; (with_reducible refine (share_zero _ _ _ (by omega) (by omega) (by omega) (by omega)).mono ?_); rintro e w' ⟨rfl, k, rfl⟩) | (go_at_call 24; (with_reducible refine (share_full _ _ _ (by omega) (by omega) (by omega) (by omega)).mono ?_); rintro e w' ⟨rfl, k, rfl⟩) | (go_at_call 24; refine (share_ok _ _ _ _ (by omega) (by omega) (by omega) (by omega) (by omega) (by omega)).mono ?_; rintro e w' ⟨rfl, k, rfl⟩))
  go_ret
  exact ⟨ret_b (by first | rfl | (simp; done) | (simp; omega)), bel_drewN _ _⟩

end Go.Proofs.Ythchchbkpicdcaa.moneyEnds
