/- The walk of cal.Of where there is no such date (3). -/
import Derived.Test.YtgfjjhojbpheeaaDoorCalD
namespace Go.Proofs.YtgfjjhojbpheeaaDoor
open Go.ChangeShapes Go.WideShapes Go.ChangeAt Go.RowKit
set_option linter.unusedVariables false

set_option maxHeartbeats 6400000 in
theorem ofday_no5 (y m d : Int) (w : World) (h1 : 1600 ≤ y) (h2 : y ≤ 2399) (h3 : 1 ≤ m) (h4 : m ≤ 12) (h5 : d < 1) (ht : Tab w) :
    Calls Tryd.prog 19 #[.agg #[.int .i64 y, .int .i64 m, .int .i64 d]] w fun e w' => e = .returned (.tuple #[.int .i64 0, .int .i64 1]) ∧ Mor w w' := by
  have HT := Lib.hid ht
  clear ht
  go_enter Tryd.func19, Tryd.ntmps19
  go_wp2
  go_quiet (fail)
  go_wp2_with fail
  go_returns
  exact ⟨rfl, (by repeat (first | exact Mor.refl _ | apply Mor.alloc | apply Mor.more | apply Mor.drewN | apply Mor.drew))⟩

set_option maxHeartbeats 6400000 in
theorem ofday_no6 (y m d : Int) (w : World) (h1 : 1600 ≤ y) (h2 : y ≤ 2399) (h3 : 1 ≤ m) (h4 : m ≤ 12) (h5 : 1 ≤ d) (h6 : mlen y m < d) (ht : Tab w) :
    Calls Tryd.prog 19 #[.agg #[.int .i64 y, .int .i64 m, .int .i64 d]] w fun e w' => e = .returned (.tuple #[.int .i64 0, .int .i64 1]) ∧ Mor w w' := by
  have HT := Lib.hid ht
  clear ht
  have HL := Lib.hid (fun w h => length_int y m w h1 (by omega) h3 h4 h)
  generalize mlen y m = L at *
  go_enter Tryd.func19, Tryd.ntmps19
  go_wp2
  go_quiet ((go_at_call 32; (with_reducible exact quiet_eq (HL.out _ (by repeat (first | exact HT.out | apply Tab.alloc | apply Tab.more | apply Tab.drewN | apply Tab.drew | (refine Tab.set ?_ (by omega))))))))
  go_wp2_with fail
  go_returns
  exact ⟨rfl, (by repeat (first | exact Mor.refl _ | apply Mor.alloc | apply Mor.more | apply Mor.drewN | apply Mor.drew))⟩

end Go.Proofs.YtgfjjhojbpheeaaDoor
