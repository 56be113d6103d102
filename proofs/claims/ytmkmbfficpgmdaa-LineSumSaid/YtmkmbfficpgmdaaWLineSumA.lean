/- The walk of talkeep.LineSumA. -/
import Derived.Test.YtmkmbfficpgmdaaPlainM
import Derived.Test.YtmkmbfficpgmdaaLineC
import Derived.Test.YtmkmbfficpgmdaaMinRow
namespace Go.Proofs.Ytmkmbfficpgmdaa.lineSum
open Go.ChangeShapes Go.WideShapes Go.ChangeAt Go.RowKit
set_option linter.unusedVariables false

theorem straight_int (cost rest nI : Int) (n : Nat) (w : World) (hn : nI = n) (h1 : 0 ≤ cost) (h2 : cost ≤ 1000000000000) (h3 : 0 ≤ rest) (h4 : rest ≤ cost) (h5 : 1 ≤ n) (h6 : n ≤ 40) :
    Calls Try.prog 25 #[.int .i64 cost, .int .i64 rest, .int .i64 nI] w (LinePost w (difl (stB (cost - rest) n) n) n) := by
  subst hn; exact straight_ok cost rest n w h1 h2 h3 h4 h5 h6
theorem digits_int (cost rest nI : Int) (n : Nat) (w : World) (hn : nI = n) (h1 : 0 ≤ cost) (h2 : cost ≤ 1000000000000) (h3 : 0 ≤ rest) (h4 : rest ≤ cost) (h5 : 1 ≤ n) (h6 : n ≤ 40) :
    Calls Try.prog 26 #[.int .i64 cost, .int .i64 rest, .int .i64 nI] w (LinePost w (difl (dgB (cost - rest) n) n) n) := by
  subst hn; exact digits_ok cost rest n w h1 h2 h3 h4 h5 h6

set_option maxHeartbeats 1600000 in
theorem no_walk (w : World) (a b n : Int) (h : ¬ lineP a b n) :
    Calls Try.prog 12 #[.int .i64 a, .int .i64 b, .int .i64 n] w fun e w' => e = .returned (.bool true) ∧ Below w.heap.size w w' := by
  have CX := Lib.hid (fun w => straight_no a b n w h)
  have CY := Lib.hid (fun w => digits_no a b n w h)
  clear h
  go_enter Try.func12, Try.ntmps12
  go_wp2_with fail
  refine (straight_int 10 0 4 4 _ rfl (by omega) (by omega) (by omega) (by omega) (by omega) (by omega)).mono ?_
  rintro e w1 ⟨bs, k, b0, c0, rfl, rfl, _, _, hr⟩
  have HR := Lib.hid hr
  clear hr
  go_wp2_with fail
  refine (equal_yes _ _ _ _ _ _ 4 [3, 2, 3, 2] _ (HR.out.alloc) (row_lit [3, 2, 3, 2] (by simp) rfl) rfl (by omega)).mono ?_
  rintro e w1 ⟨rfl, m, rfl⟩
  clear HR
  go_wp2_with fail
  refine (digits_int 60 0 3 3 _ rfl (by omega) (by omega) (by omega) (by omega) (by omega) (by omega)).mono ?_
  rintro e w1 ⟨bs1, k1, b1, c1, rfl, rfl, _, _, hr⟩
  have HR := Lib.hid hr
  clear hr
  go_wp2_with fail
  refine (equal_yes _ _ _ _ _ _ 3 [30, 20, 10] _ (HR.out.alloc) (row_lit [30, 20, 10] (by simp) rfl) rfl (by omega)).mono ?_
  rintro e w1 ⟨rfl, m1, rfl⟩
  clear HR
  go_wp2_with fail
  refine (CX.out _).mono ?_
  rintro e w1 ⟨rfl, bs2, k2, rfl⟩
  go_wp2_with fail
  refine (CY.out _).mono ?_
  rintro e w1 ⟨rfl, bs3, k3, rfl⟩
  go_wp2_with fail
  go_ret
  exact ⟨ret_b (by first | rfl | (simp; done) | (simp; omega)), (Mor.below (by repeat (first | exact Mor.refl _ | apply Mor.alloc | apply Mor.more | apply Mor.drewN | apply Mor.drew)))⟩

end Go.Proofs.Ytmkmbfficpgmdaa.lineSum
