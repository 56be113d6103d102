/- The walk of talkeep.calBegun. -/
import Derived.Test.YtgfjjhojbpheeaaDoorCalO
import Derived.Test.YtgfjjhojbpheeaaDoorCalW
namespace Go.Proofs.YtgfjjhojbpheeaaDoor
open Go.ChangeShapes Go.WideShapes Go.ChangeAt Go.RowKit
set_option linter.unusedVariables false

set_option maxHeartbeats 800000 in
theorem begun_yes (w : World) (ht : Tab w) : Calls Tryd.prog 18 #[] w fun e w' => e = .returned (.bool true) ∧ Mor w w' := by
  have HO := Lib.hid (ofday_yes 1970 1 1 w ⟨by omega, by omega, by omega, by omega, by omega, by decide⟩ ht)
  rw [show fst 1970 1 + 1 - 1 = 135140 by decide] at HO
  have HW := Lib.hid (fun w => weekday_yes 135140 w (by omega) (by omega))
  clear ht
  go_enter Tryd.func18, Tryd.ntmps18
  go_wp2_with (first | (go_at_call 19; (with_reducible refine HO.out.mono ?_); rintro e w1 ⟨rfl, bs, k, rfl⟩) | (go_at_call 21; (with_reducible refine (HW.out _).mono ?_); rintro e w1 ⟨rfl, rfl⟩))
  go_ret
  exact ⟨rfl, by repeat (first | exact Mor.refl _ | apply Mor.alloc | apply Mor.more | apply Mor.drewN | apply Mor.drew)⟩

end Go.Proofs.YtgfjjhojbpheeaaDoor
