/- The walk of cal.Of. -/
import Derived.Test.YtgfjjhojbpheeaaDoorCalD
namespace Go.Proofs.YtgfjjhojbpheeaaDoor
open Go.ChangeShapes Go.WideShapes Go.ChangeAt Go.RowKit
set_option linter.unusedVariables false

set_option maxHeartbeats 1600000 in
theorem ofday_yes (y m d : Int) (w : World) (h : okD y m d) (ht : Tab w) :
    Calls Tryd.prog 19 #[.agg #[.int .i64 y, .int .i64 m, .int .i64 d]] w fun e w' => e = .returned (.tuple #[.int .i64 (fst y m + d - 1), .int .i64 0]) ∧ Mor w w' := by
  obtain ⟨h1, h2, h3, h4, h5, h6⟩ := h
  have HT := Lib.hid ht
  clear ht
  have HL := Lib.hid (fun w h => length_int y m w h1 (by omega) h3 h4 h)
  have ⟨l1, l2⟩ := mlen_bd (y := y) h3 h4
  have HO := Lib.hid (fun w h => of_any y m d w h1 (by omega) h3 h4 (by omega) (by omega) h)
  generalize mlen y m = L at *
  generalize fst y m = F at *
  go_enter Tryd.func19, Tryd.ntmps19
  go_wp2
  go_quiet ((go_at_call 32; (with_reducible exact quiet_eq (HL.out _ (by repeat (first | exact HT.out | apply Tab.alloc | apply Tab.more | apply Tab.drewN | apply Tab.drew | (refine Tab.set ?_ (by omega))))))))
  go_wp2_with (go_at_call 33; (with_reducible refine (HO.out _ (by repeat (first | exact HT.out | apply Tab.alloc | apply Tab.more | apply Tab.drewN | apply Tab.drew | (refine Tab.set ?_ (by omega))))).mono ?_); rintro e w1 ⟨rfl, bs, k, rfl⟩)
  go_returns
  exact ⟨rfl, (by repeat (first | exact Mor.refl _ | apply Mor.alloc | apply Mor.more | apply Mor.drewN | apply Mor.drew))⟩

end Go.Proofs.YtgfjjhojbpheeaaDoor
