/- The walks of package earn: By. -/
import Derived.Test.YtgfjjhojbpheeaaDoorPlainE
import Derived.Test.YtgfjjhojbpheeaaDoorAmt
namespace Go.Proofs.YtgfjjhojbpheeaaDoor
open Go.ChangeShapes Go.WideShapes Go.ChangeAt Go.RowKit
set_option linter.unusedVariables false

/-- a day, by a number of any sort -/
def dy (n : Int) : Int := wi n 292194
theorem dy_lo (n : Int) : 0 ≤ dy n := wi_lo n _ (by omega)
theorem dy_hi (n : Int) : dy n ≤ 292193 := by have := wi_hi n 292194 (by omega); unfold dy; omega

set_option maxHeartbeats 400000 in
theorem day_any (n : Int) (w : World) : Calls Tryd.prog 16 #[.int .i64 n] w fun e w' => e = .returned (.int .i64 (dy n)) ∧ w = w' := by
  go_enter Tryd.func16, Tryd.ntmps16
  go_wp2_with (first | (go_at_call 20; refine (within_any _ _ _ (by omega) (by omega)).mono ?_; rintro e w1 ⟨rfl, rfl⟩))
  go_ret
  exact ⟨rfl, rfl⟩

set_option maxHeartbeats 400000 in
theorem is_yes (n : Int) (w : World) (h1 : 0 ≤ n) (h2 : n ≤ 292193) : Calls Tryd.prog 30 #[.int .i64 n] w fun e w' => e = .returned (.bool true) ∧ w = w' := by
  have hd : decide (n ≤ 292193) = true := by simpa using h2
  go_enter Tryd.func30, Tryd.ntmps30
  go_wp2
  go_ret
  exact ⟨rfl, rfl⟩

set_option maxHeartbeats 400000 in
theorem by_any (a F T A : Int) (w : World) (h1 : -1000000000000 ≤ a) (h2 : a ≤ 1000000000000) (h3 : 0 ≤ F) (h4 : F ≤ T) (h5 : T ≤ 292193) (h6 : 0 ≤ A) (h7 : A ≤ 292193) :
    Calls Tryd.prog 37 #[.int .i64 a, .int .i64 F, .int .i64 T, .int .i64 A] w fun e w' => e = .returned (.int .i64 (ev a F T A)) ∧ ∃ k, w' = w.drewN k := by
  obtain ⟨d1, d2⟩ := dd_bd F T A h4
  obtain ⟨p1, p2⟩ := prod_bd a (dd F T A) 1000000000000 292194 h1 h2 d1 (by omega) (by omega)
  have E := Lib.hid (show rnd (a * dd F T A) (T - F + 1) 2 = ev a F T A from rfl)
  by_cases c1 : A < F
  · have e : dd F T A = 0 := if_pos c1
    have e0 : rnd 0 (T - F + 1) 2 = ev a F T A := by rw [← E.out, e, Int.mul_zero]
    have E0 := Lib.hid e0
    clear e e0 p1 p2 d1 d2
    by_cases c3 : A < T
    · go_enter Tryd.func37, Tryd.ntmps37
      go_wp2_with (first | (go_at_call 52; refine (rounded_any _ _ _ _ (by omega) (by omega) (by omega) (by omega)).mono ?_; rintro e w1 ⟨rfl, k, rfl⟩))
      all_goals go_ret
      all_goals exact ⟨ret_i E0.out, _, rfl⟩
    · omega
  · by_cases c2 : A < T
    · have e : dd F T A = A - F + 1 := by unfold dd; rw [if_neg c1, if_pos (by omega)]
      rw [e] at E p1 p2
      clear e d1 d2
      go_enter Tryd.func37, Tryd.ntmps37
      go_wp2_with (first | (go_at_call 52; refine (rounded_any _ _ _ _ (by omega) (by omega) (by omega) (by omega)).mono ?_; rintro e w1 ⟨rfl, k, rfl⟩))
      all_goals go_ret
      all_goals exact ⟨ret_i E.out, _, rfl⟩
    · have e : dd F T A = T - F + 1 := dd_all F T A h4 (by omega)
      rw [e] at E p1 p2
      clear e d1 d2
      by_cases c4 : A = T
      · subst c4
        go_enter Tryd.func37, Tryd.ntmps37
        go_wp2_with (first | (go_at_call 52; refine (rounded_any _ _ _ _ (by omega) (by omega) (by omega) (by omega)).mono ?_; rintro e w1 ⟨rfl, k, rfl⟩))
        all_goals go_ret
        all_goals exact ⟨ret_i E.out, _, rfl⟩
      · have c5 : T < A := by omega
        clear c4
        go_enter Tryd.func37, Tryd.ntmps37
        go_wp2_with (first | (go_at_call 52; refine (rounded_any _ _ _ _ (by omega) (by omega) (by omega) (by omega)).mono ?_; rintro e w1 ⟨rfl, k, rfl⟩))
        all_goals go_ret
        all_goals exact ⟨ret_i E.out, _, rfl⟩

set_option maxHeartbeats 400000 in
theorem By_ok (a F T A : Int) (w : World) (h1 : -1000000000000 ≤ a) (h2 : a ≤ 1000000000000) (h3 : 0 ≤ F) (h4 : F ≤ T) (h5 : T ≤ 292193) (h6 : 0 ≤ A) (h7 : A ≤ 292193) :
    Calls Tryd.prog 29 #[.int .i64 a, .int .i64 F, .int .i64 T, .int .i64 A] w fun e w' => e = .returned (.tuple #[.int .i64 (ev a F T A), .int .i64 0]) ∧ ∃ k, w' = w.drewN k := by
  go_enter Tryd.func29, Tryd.ntmps29
  go_wp2_with (first | (go_at_call 51; refine (money_yes _ _ h1 h2).mono ?_; rintro e w1 ⟨rfl, rfl⟩) | (go_at_call 30; refine (is_yes _ _ (by omega) (by omega)).mono ?_; rintro e w1 ⟨rfl, rfl⟩) | (go_at_call 37; refine (by_any _ _ _ _ _ h1 h2 h3 h4 h5 h6 h7).mono ?_; rintro e w1 ⟨rfl, k, rfl⟩) | go_in)
  go_ret2
  exact ⟨rfl, _, rfl⟩
set_option maxHeartbeats 400000 in
theorem By_no (a F T A : Int) (w : World) (h : a < -1000000000000 ∨ 1000000000000 < a) :
    Calls Tryd.prog 29 #[.int .i64 a, .int .i64 F, .int .i64 T, .int .i64 A] w fun e w' => e = .returned (.tuple #[.int .i64 0, .int .i64 1]) ∧ ∃ k, w' = w.drewN k := by
  have H := Lib.hid h
  clear h
  go_enter Tryd.func29, Tryd.ntmps29
  go_wp2_with (first | (go_at_call 51; refine (money_no _ _ H.out).mono ?_; rintro e w1 ⟨rfl, rfl⟩) | go_in)
  go_ret2
  exact ⟨rfl, 0, rfl⟩

end Go.Proofs.YtgfjjhojbpheeaaDoor
