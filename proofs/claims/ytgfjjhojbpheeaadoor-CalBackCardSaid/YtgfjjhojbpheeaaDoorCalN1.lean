/- The walk of cal.Of where there is no such date (1). -/
import Derived.Test.YtgfjjhojbpheeaaDoorCalD
namespace Go.Proofs.YtgfjjhojbpheeaaDoor
open Go.ChangeShapes Go.WideShapes Go.ChangeAt Go.RowKit
set_option linter.unusedVariables false

set_option maxHeartbeats 6400000 in
theorem ofday_no1 (y m d : Int) (w : World) (h1 : y < 1600) (ht : Tab w) :
    Calls Tryd.prog 19 #[.agg #[.int .i64 y, .int .i64 m, .int .i64 d]] w fun e w' => e = .returned (.tuple #[.int .i64 0, .int .i64 1]) ∧ Mor w w' := by
  have HT := Lib.hid ht
  clear ht
  go_enter Tryd.func19, Tryd.ntmps19
  go_wp2
  go_quiet (fail)
  go_wp2_with fail
  go_returns
  exact ⟨rfl, (by repeat (first | exact Mor.refl _ | apply Mor.alloc | apply Mor.more | apply Mor.drewN | apply Mor.drew))⟩

set_option maxHeartbeats 6400000 in
theorem ofday_no2 (y m d : Int) (w : World) (h1 : 1600 ≤ y) (h2 : 2399 < y) (ht : Tab w) :
    Calls Tryd.prog 19 #[.agg #[.int .i64 y, .int .i64 m, .int .i64 d]] w fun e w' => e = .returned (.tuple #[.int .i64 0, .int .i64 1]) ∧ Mor w w' := by
  have HT := Lib.hid ht
  clear ht
  go_enter Tryd.func19, Tryd.ntmps19
  go_wp2
  go_quiet (fail)
  go_wp2_with fail
  go_returns
  exact ⟨rfl, (by repeat (first | exact Mor.refl _ | apply Mor.alloc | apply Mor.more | apply Mor.drewN | apply Mor.drew))⟩

end Go.Proofs.YtgfjjhojbpheeaaDoor
