/- The walk of split.Money: may an amount be? -/
import Derived.Test.YtbjfmhncpfhdmaaBase
import Derived.Test.YtbjfmhncpfhdmaaRows
namespace Go.Proofs.Ytbjfmhncpfhdmaa
open Go.ChangeShapes Go.WideShapes Go.ChangeAt Go.RowKit

set_option maxHeartbeats 400000 in
theorem money_yes (a : Int) (w : World) (h1 : -1000000000000 ≤ a) (h2 : a ≤ 1000000000000) :
    Calls Try.prog 35 #[.int .i64 a] w fun e w' => e = .returned (.bool true) ∧ w = w' := by
  have hd : decide (a ≤ 1000000000000) = true := by simpa using h2
  go_enter Try.func35, Try.ntmps35
  go_wp2
  go_ret
  exact ⟨rfl, rfl⟩
set_option maxHeartbeats 400000 in
theorem money_no (a : Int) (w : World) (h : a < -1000000000000 ∨ 1000000000000 < a) :
    Calls Try.prog 35 #[.int .i64 a] w fun e w' => e = .returned (.bool false) ∧ w = w' := by
  rcases h with h | h
  · go_enter Try.func35, Try.ntmps35
    go_wp2
    go_ret
    exact ⟨rfl, rfl⟩
  · have hd : decide (a ≤ 1000000000000) = false := by simpa using h
    go_enter Try.func35, Try.ntmps35
    go_wp2
    all_goals go_ret
    all_goals exact ⟨rfl, rfl⟩

end Go.Proofs.Ytbjfmhncpfhdmaa
