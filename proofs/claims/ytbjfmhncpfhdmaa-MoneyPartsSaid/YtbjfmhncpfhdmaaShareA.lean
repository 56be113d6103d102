/- The walk of money.Share. -/
import Derived.Test.YtbjfmhncpfhdmaaAmt2
import Derived.Test.YtbjfmhncpfhdmaaPlainF
import Derived.Test.YtbjfmhncpfhdmaaFracA
namespace Go.Proofs.Ytbjfmhncpfhdmaa
open Go.ChangeShapes Go.WideShapes Go.ChangeAt Go.RowKit

set_option maxHeartbeats 400000 in
theorem look_ok (a rate way : Int) (w : World) (h1 : -1000000000000 ≤ a) (h2 : a ≤ 1000000000000) (h3 : 0 ≤ rate) (h4 : rate ≤ 1000000) (h5 : 0 ≤ way) (h6 : way ≤ 3) :
    Calls Try.prog 32 #[.int .i64 a, .int .i64 rate, .int .i64 way] w fun e w' => e = .returned (.int .i64 0) ∧ w = w' := by
  go_enter Try.func32, Try.ntmps32
  go_wp2
  all_goals go_ret
  all_goals exact ⟨rfl, rfl⟩

set_option maxHeartbeats 400000 in
theorem share_ok (a rate way : Int) (w : World) (h1 : -1000000000000 ≤ a) (h2 : a ≤ 1000000000000) (h3 : 0 ≤ rate) (h4 : rate ≤ 1000000) (h5 : 0 ≤ way) (h6 : way ≤ 3) :
    Calls Try.prog 10 #[.int .i64 a, .int .i64 rate, .int .i64 way] w fun e w' => e = .returned (.tuple #[.int .i64 (rnd (a * rate) 1000000 way), .int .i64 0]) ∧ ∃ k, w' = w.drewN k := by
  obtain ⟨b1, b2⟩ := prod_bd a rate 1000000000000 1000000 h1 h2 h3 h4 (by omega)
  go_enter Try.func10, Try.ntmps10
  go_wp2_with (first | (go_at_call 32; refine (look_ok _ _ _ _ h1 h2 h3 h4 h5 h6).mono ?_; rintro e w' ⟨rfl, rfl⟩) | (go_at_call 33; refine (rounded_any _ _ _ _ (by omega) (by omega) (by omega) (by omega)).mono ?_; rintro e w' ⟨rfl, k, rfl⟩))
  go_ret2
  exact ⟨rfl, _, rfl⟩



end Go.Proofs.Ytbjfmhncpfhdmaa
