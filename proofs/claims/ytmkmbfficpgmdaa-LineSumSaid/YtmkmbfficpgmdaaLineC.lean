/- The walks of line.Straight and line.Digits where an argument may not be. -/
import Derived.Test.YtmkmbfficpgmdaaPlainL
namespace Go.Proofs.Ytmkmbfficpgmdaa
open Go.ChangeShapes Go.WideShapes Go.ChangeAt Go.RowKit
set_option linter.unusedVariables false

/-- may the numbers be? -/
def lineP (cost rest n : Int) : Prop := 0 ≤ cost ∧ cost ≤ 1000000000000 ∧ 0 ≤ rest ∧ rest ≤ cost ∧ 1 ≤ n ∧ n ≤ 40

set_option maxHeartbeats 400000 in
theorem lineLook_no (cost rest n : Int) (w : World) (h : ¬ lineP cost rest n) :
    Calls Try.prog 35 #[.int .i64 cost, .int .i64 rest, .int .i64 n] w fun e w' => e = .returned (.int .i64 1) ∧ w = w' := by
  have H := Lib.hid h
  clear h
  go_enter Try.func35, Try.ntmps35
  go_wp2
  all_goals go_ret
  all_goals first | exact ⟨rfl, rfl⟩ | (have h := H.out; exfalso; unfold lineP at h; omega)

set_option maxHeartbeats 400000 in
theorem straight_no (cost rest n : Int) (w : World) (h : ¬ lineP cost rest n) :
    Calls Try.prog 25 #[.int .i64 cost, .int .i64 rest, .int .i64 n] w fun e w' => e = .returned (.tuple #[.slice none 0 0, .int .i64 1]) ∧ Mor w w' := by
  have HL := Lib.hid (fun w => lineLook_no cost rest n w h)
  clear h
  go_enter Try.func25, Try.ntmps25
  go_wp2_with (first | (go_at_call 35; (with_reducible refine (HL.out _).mono ?_); rintro e w1 ⟨rfl, rfl⟩))
  go_returns
  exact ⟨rfl, by repeat (first | exact Mor.refl _ | apply Mor.alloc | apply Mor.more | apply Mor.drewN | apply Mor.drew)⟩
set_option maxHeartbeats 400000 in
theorem digits_no (cost rest n : Int) (w : World) (h : ¬ lineP cost rest n) :
    Calls Try.prog 26 #[.int .i64 cost, .int .i64 rest, .int .i64 n] w fun e w' => e = .returned (.tuple #[.slice none 0 0, .int .i64 1]) ∧ Mor w w' := by
  have HL := Lib.hid (fun w => lineLook_no cost rest n w h)
  clear h
  go_enter Try.func26, Try.ntmps26
  go_wp2_with (first | (go_at_call 35; (with_reducible refine (HL.out _).mono ?_); rintro e w1 ⟨rfl, rfl⟩))
  go_returns
  exact ⟨rfl, by repeat (first | exact Mor.refl _ | apply Mor.alloc | apply Mor.more | apply Mor.drewN | apply Mor.drew)⟩

end Go.Proofs.Ytmkmbfficpgmdaa
