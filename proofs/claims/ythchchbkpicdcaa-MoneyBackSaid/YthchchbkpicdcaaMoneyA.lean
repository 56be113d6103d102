/- The walks of package money: Share, With, Within: what they compute. -/
import Derived.Test.YthchchbkpicdcaaPlainF
import Derived.Test.YthchchbkpicdcaaFracA
namespace Go.Proofs.Ythchchbkpicdcaa
open Go.ChangeShapes Go.WideShapes Go.ChangeAt Go.RowKit

/-- may the numbers be? -/
def lookP (a rate way : Int) : Prop := -1000000000000 ≤ a ∧ a ≤ 1000000000000 ∧ 0 ≤ rate ∧ rate ≤ 1000000 ∧ 0 ≤ way ∧ way ≤ 3

set_option maxHeartbeats 400000 in
theorem money_yes (a : Int) (w : World) (h1 : -1000000000000 ≤ a) (h2 : a ≤ 1000000000000) :
    Calls Try.prog 36 #[.int .i64 a] w fun e w' => e = .returned (.bool true) ∧ w = w' := by
  have hd : decide (a ≤ 1000000000000) = true := by simpa using h2
  go_enter Try.func36, Try.ntmps36
  go_wp2
  go_ret
  exact ⟨rfl, rfl⟩
set_option maxHeartbeats 400000 in
theorem money_no (a : Int) (w : World) (h : a < -1000000000000 ∨ 1000000000000 < a) :
    Calls Try.prog 36 #[.int .i64 a] w fun e w' => e = .returned (.bool false) ∧ w = w' := by
  rcases h with h | h
  · go_enter Try.func36, Try.ntmps36
    go_wp2
    go_ret
    exact ⟨rfl, rfl⟩
  · have hd : decide (a ≤ 1000000000000) = false := by simpa using h
    go_enter Try.func36, Try.ntmps36
    go_wp2
    all_goals go_ret
    all_goals exact ⟨rfl, rfl⟩

set_option maxHeartbeats 400000 in
theorem look_ok (a rate way : Int) (w : World) (h1 : -1000000000000 ≤ a) (h2 : a ≤ 1000000000000) (h3 : 0 ≤ rate) (h4 : rate ≤ 1000000) (h5 : 0 ≤ way) (h6 : way ≤ 3) :
    Calls Try.prog 35 #[.int .i64 a, .int .i64 rate, .int .i64 way] w fun e w' => e = .returned (.int .i64 0) ∧ w = w' := by
  go_enter Try.func35, Try.ntmps35
  go_wp2
  all_goals go_ret
  all_goals exact ⟨rfl, rfl⟩

set_option maxHeartbeats 400000 in
theorem look_no (a rate way : Int) (w : World) (h : ¬ lookP a rate way) :
    Calls Try.prog 35 #[.int .i64 a, .int .i64 rate, .int .i64 way] w fun e w' => e = .returned (.int .i64 1) ∧ w = w' := by
  have H := Lib.hid h
  clear h
  go_enter Try.func35, Try.ntmps35
  go_wp2
  all_goals go_ret
  all_goals first | exact ⟨rfl, rfl⟩ | (have h := H.out; exfalso; unfold lookP at h; omega)

set_option maxHeartbeats 400000 in
theorem share_ok (a rate way : Int) (w : World) (h1 : -1000000000000 ≤ a) (h2 : a ≤ 1000000000000) (h3 : 0 ≤ rate) (h4 : rate ≤ 1000000) (h5 : 0 ≤ way) (h6 : way ≤ 3) :
    Calls Try.prog 24 #[.int .i64 a, .int .i64 rate, .int .i64 way] w fun e w' => e = .returned (.tuple #[.int .i64 (rnd (a * rate) 1000000 way), .int .i64 0]) ∧ ∃ k, w' = w.drewN k := by
  obtain ⟨b1, b2⟩ := prod_bd a rate 1000000000000 1000000 h1 h2 h3 h4 (by omega)
  go_enter Try.func24, Try.ntmps24
  go_wp2_with (first | (go_at_call 35; refine (look_ok _ _ _ _ h1 h2 h3 h4 h5 h6).mono ?_; rintro e w' ⟨rfl, rfl⟩) | (go_at_call 30; refine (rounded_any _ _ _ _ (by omega) (by omega) (by omega) (by omega)).mono ?_; rintro e w' ⟨rfl, k, rfl⟩))
  go_ret2
  exact ⟨rfl, _, rfl⟩

set_option maxHeartbeats 400000 in
theorem share_no (a rate way : Int) (w : World) (h : ¬ lookP a rate way) :
    Calls Try.prog 24 #[.int .i64 a, .int .i64 rate, .int .i64 way] w fun e w' => e = .returned (.tuple #[.int .i64 0, .int .i64 1]) ∧ ∃ k, w' = w.drewN k := by
  have H := Lib.hid h
  clear h
  go_enter Try.func24, Try.ntmps24
  go_wp2_with (first | (go_at_call 35; refine (look_no _ _ _ _ H.out).mono ?_; rintro e w' ⟨rfl, rfl⟩))
  go_ret2
  exact ⟨rfl, 0, rfl⟩

set_option maxHeartbeats 400000 in
theorem mwithin_ok (a rate way : Int) (w : World) (h1 : -1000000000000 ≤ a) (h2 : a ≤ 1000000000000) (h3 : 0 ≤ rate) (h4 : rate ≤ 1000000) (h5 : 0 ≤ way) (h6 : way ≤ 3)
    (g1 : -2000000000000 ≤ rnd (a * 1000000) (1000000 + rate) way) (g2 : rnd (a * 1000000) (1000000 + rate) way ≤ 2000000000000) :
    Calls Try.prog 25 #[.int .i64 a, .int .i64 rate, .int .i64 way] w fun e w' => e = .returned (.tuple #[.int .i64 (rnd (a * 1000000) (1000000 + rate) way), .int .i64 (a - rnd (a * 1000000) (1000000 + rate) way), .int .i64 0]) ∧ ∃ k, w' = w.drewN k := by
  go_enter Try.func25, Try.ntmps25
  go_wp2_with (first | (go_at_call 35; refine (look_ok _ _ _ _ h1 h2 h3 h4 h5 h6).mono ?_; rintro e w' ⟨rfl, rfl⟩) | (go_at_call 30; refine (rounded_any _ _ _ _ (by omega) (by omega) (by omega) (by omega)).mono ?_; rintro e w' ⟨rfl, k, rfl⟩))
  go_ret3
  exact ⟨rfl, _, rfl⟩

theorem share_zero (a way : Int) (w : World) (h1 : -1000000000000 ≤ a) (h2 : a ≤ 1000000000000) (h5 : 0 ≤ way) (h6 : way ≤ 3) :
    Calls Try.prog 24 #[.int .i64 a, .int .i64 0, .int .i64 way] w fun e w' => e = .returned (.tuple #[.int .i64 0, .int .i64 0]) ∧ ∃ k, w' = w.drewN k := by
  have h := share_ok a 0 way w h1 h2 (by omega) (by omega) h5 h6
  rw [Int.mul_zero, show rnd 0 1000000 way = 0 from rnd_exact 1000000 way 0 (by omega)] at h
  exact h

theorem share_full (a way : Int) (w : World) (h1 : -1000000000000 ≤ a) (h2 : a ≤ 1000000000000) (h5 : 0 ≤ way) (h6 : way ≤ 3) :
    Calls Try.prog 24 #[.int .i64 a, .int .i64 1000000, .int .i64 way] w fun e w' => e = .returned (.tuple #[.int .i64 a, .int .i64 0]) ∧ ∃ k, w' = w.drewN k := by
  have h := share_ok a 1000000 way w h1 h2 (by omega) (by omega) h5 h6
  rw [Int.mul_comm, rnd_exact 1000000 way a (by omega)] at h
  exact h

set_option maxHeartbeats 400000 in
theorem with_no (a rate way : Int) (w : World) (h : ¬ lookP a rate way) :
    Calls Try.prog 26 #[.int .i64 a, .int .i64 rate, .int .i64 way] w fun e w' => e = .returned (.tuple #[.int .i64 0, .int .i64 0, .int .i64 1]) ∧ ∃ k, w' = w.drewN k := by
  have H := Lib.hid h
  clear h
  go_enter Try.func26, Try.ntmps26
  go_wp2_with (first | (go_at_call 24; refine (share_no _ _ _ _ H.out).mono ?_; rintro e w' ⟨rfl, k, rfl⟩))
  go_ret3
  exact ⟨rfl, _, rfl⟩

set_option maxHeartbeats 400000 in
theorem with_ok (a rate way t : Int) (w : World) (h1 : -1000000000000 ≤ a) (h2 : a ≤ 1000000000000) (h3 : 0 ≤ rate) (h4 : rate ≤ 1000000) (h5 : 0 ≤ way) (h6 : way ≤ 3)
    (ht : rnd (a * rate) 1000000 way = t) (g1 : -1000000000000 ≤ a + t) (g2 : a + t ≤ 1000000000000) :
    Calls Try.prog 26 #[.int .i64 a, .int .i64 rate, .int .i64 way] w fun e w' => e = .returned (.tuple #[.int .i64 (a + t), .int .i64 t, .int .i64 0]) ∧ ∃ k, w' = w.drewN k := by
  have hs := fun w => share_ok a rate way w h1 h2 h3 h4 h5 h6
  rw [ht] at hs
  have H := Lib.hid hs
  clear ht hs
  go_enter Try.func26, Try.ntmps26
  go_wp2_with (first | (go_at_call 24; refine (H.out _).mono ?_; rintro e w' ⟨rfl, k, rfl⟩) | (go_at_call 36; refine (money_yes _ _ g1 g2).mono ?_; rintro e w' ⟨rfl, rfl⟩))
  go_ret3
  exact ⟨rfl, _, rfl⟩

set_option maxHeartbeats 400000 in
theorem with_large (a rate way t : Int) (w : World) (h1 : -1000000000000 ≤ a) (h2 : a ≤ 1000000000000) (h3 : 0 ≤ rate) (h4 : rate ≤ 1000000) (h5 : 0 ≤ way) (h6 : way ≤ 3)
    (ht : rnd (a * rate) 1000000 way = t) (g1 : -2000000000000 ≤ a + t) (g2 : a + t ≤ 2000000000000) (g : a + t < -1000000000000 ∨ 1000000000000 < a + t) :
    Calls Try.prog 26 #[.int .i64 a, .int .i64 rate, .int .i64 way] w fun e w' => e = .returned (.tuple #[.int .i64 0, .int .i64 0, .int .i64 2]) ∧ ∃ k, w' = w.drewN k := by
  have hs := fun w => share_ok a rate way w h1 h2 h3 h4 h5 h6
  rw [ht] at hs
  have H := Lib.hid hs
  clear ht hs
  have G := Lib.hid g
  clear g
  go_enter Try.func26, Try.ntmps26
  go_wp2_with (first | (go_at_call 24; refine (H.out _).mono ?_; rintro e w' ⟨rfl, k, rfl⟩) | (go_at_call 36; refine (money_no _ _ G.out).mono ?_; rintro e w' ⟨rfl, rfl⟩))
  go_ret3
  exact ⟨rfl, _, rfl⟩

end Go.Proofs.Ythchchbkpicdcaa
