/- The walk of talkeep.FracWhole. -/
import Derived.Test.YthchchbkpicdcaaPlainG
import Derived.Test.YthchchbkpicdcaaSmall
namespace Go.Proofs.Ythchchbkpicdcaa.fracWhole
open Go.ChangeShapes Go.WideShapes Go.ChangeAt Go.RowKit
set_option linter.unusedVariables false

theorem round_begun (w : World) : Calls Try.prog 15 #[.agg #[.int .i64 3, .int .i64 2], .int .i64 3] w fun e w' => e = .returned (.tuple #[.int .i64 2, .int .i64 0]) ∧ Mor w w' :=
  round_ok 3 2 3 w (by unfold okF; omega) (by omega) (by omega)

theorem within_eq (k n v : Int) (w : World) (h1 : 1 ≤ n) (h2 : n ≤ 4000000000000) (h : wi k n = v) :
    Calls Try.prog 18 #[.int .i64 k, .int .i64 n] w fun e w' => e = .returned (.int .i64 v) ∧ w = w' := by
  have := within_any k n w h1 h2
  rw [h] at this
  exact this

theorem shift_div (n d k : Int) (h : 1 ≤ d) : (n + k * d) / d = n / d + k ∧ (n + k * d) % d = n % d :=
  ⟨Int.add_mul_ediv_right _ _ (by omega), Int.add_mul_emod_self_right _ _ _⟩
theorem shift_0 (n d k : Int) (h : 1 ≤ d) : rnd (n + k * d) d 0 = rnd n d 0 + k := by
  rw [rnd_0, rnd_0, (shift_div n d k h).1]
theorem shift_1 (n d k : Int) (h : 1 ≤ d) : rnd (n + k * d) d 1 = rnd n d 1 + k := by
  rw [rnd_1, rnd_1, (shift_div n d k h).1, (shift_div n d k h).2]; omega
theorem shift_3 (n d k : Int) (h : 1 ≤ d) : rnd (n + k * 2 * d) d 3 = rnd n d 3 + k * 2 := by
  rw [rnd_3, rnd_3, (shift_div n d (k * 2) h).1, (shift_div n d (k * 2) h).2]
  have : (n / d + k * 2) % 2 = n / d % 2 := by omega
  rw [this]; omega
theorem shift_2 (n d k : Int) (h : 1 ≤ d) (hk : 0 ≤ k) : rnd (n + k * d) d 2 = rnd n d 2 + k ∨
    (rnd (n + k * d) d 2 ≠ rnd n d 2 + k ∧ n < 0 ∧ 0 ≤ n + k * d ∧ (2 * n).tmod d = 0 ∧ ((2 * n).tdiv d).tmod 2 ≠ 0) := by
  obtain ⟨e1, e2⟩ := shift_div n d k h
  have e := div_mod n d
  have kd : 0 ≤ k * d := Int.mul_nonneg hk (by omega)
  rw [rnd_2, rnd_2, e1, e2]
  by_cases ht : 2 * (n % d) = d
  · by_cases hn : 0 < n
    · left; rw [if_pos (.inr ⟨ht, by omega⟩), if_pos (.inr ⟨ht, hn⟩)]; omega
    · by_cases hs : 0 < n + k * d
      · right
        have hn0 : n ≠ 0 := by intro h0; subst h0; simp at ht; omega
        have e3 : 2 * n = d * (2 * (n / d) + 1) := by rw [Int.mul_add]; have : d * (2 * (n / d)) = 2 * (d * (n / d)) := by ac_rfl
                                                      omega
        refine ⟨?_, by omega, by omega, ?_, ?_⟩
        · rw [if_pos (.inr ⟨ht, hs⟩), if_neg (by omega)]; omega
        · rw [e3]; exact Int.mul_tmod_right _ _
        · rw [e3, Int.mul_tdiv_cancel_left _ (by omega), Ne, tm2]; omega
      · left; rw [if_neg (by omega), if_neg (by omega)]; omega
  · left; split <;> split <;> omega

theorem ok_shift (n d k : Int) (h1 : -1000 ≤ n) (h2 : n ≤ 1000) (h3 : 1 ≤ d) (h4 : d ≤ 40) (h5 : 0 ≤ k) (h6 : k ≤ 2000) : okF (n + k * d) d ∧ 0 ≤ k * d ∧ k * d ≤ 80000 := by
  have := prod_bd k d 2000 40 (by omega) (by omega) (by omega) (by omega) (by omega)
  have : 0 ≤ k * d := Int.mul_nonneg h5 (by omega)
  unfold okF; omega

set_option maxHeartbeats 800000 in
theorem way_0 (w : World) (a b k y : Int) (hv : wi y 4 = 0) :
    Calls Try.prog 4 #[.int .i64 a, .int .i64 b, .int .i64 k, .int .i64 y] w fun e w' => e = .returned (.bool true) ∧ Below w.heap.size w w' := by
  have HV := Lib.hid (fun w => within_eq y 4 0 w (by omega) (by omega) hv)
  have k1 := wi_lo k 1000 (by omega)
  have k2 := wi_hi k 1000 (by omega)
  have n1 := smn_lo a
  have n2 := smn_hi a
  have d1 := smd_lo b
  have d2 := smd_hi b
  obtain ⟨o1, p1, p2⟩ := ok_shift (smn a) (smd b) (wi k 1000) n1 n2 d1 d2 (by omega) (by omega)
  have HR := Lib.hid (fun w => round_ok (smn a) (smd b) 0 w (sm_ok a b) (by omega) (by omega))
  have HS := Lib.hid (fun w => round_ok (smn a + (wi k 1000) * smd b) (smd b) 0 w o1 (by omega) (by omega))
  have r1 := rnd_le (smn a) (smd b) 0 1000 d1 (by have := Int.mul_le_mul_of_nonneg_right d1 (show (0:Int) ≤ 1000 by omega); omega)
  have r2 := le_rnd (smn a) (smd b) 0 (-1000) d1 (by have := Int.mul_le_mul_of_nonneg_right d1 (show (0:Int) ≤ 1000 by omega); rw [Int.mul_neg]; omega)
  rw [shift_0 _ _ _ d1] at HS
  clear hv o1
  generalize rnd (smn a) (smd b) 0 = X at *
  go_enter Try.func4, Try.ntmps4
  go_wp2_with (first | (go_at_call 15; (with_reducible refine (round_begun _).mono ?_); rintro e w1 ⟨rfl, bs, k, rfl⟩) | (go_at_call 17; (with_reducible refine (small_any _ _ _).mono ?_); rintro e w1 ⟨rfl, bs, k, rfl⟩) | (go_at_call 18; (with_reducible refine (HV.out _).mono ?_); rintro e w1 ⟨rfl, rfl⟩) | (go_at_call 18; refine (within_any _ _ _ (by omega) (by omega)).mono ?_; rintro e w1 ⟨rfl, rfl⟩) | (go_at_call 15; (with_reducible refine (HR.out _).mono ?_); rintro e w1 ⟨rfl, bs, k, rfl⟩) | (go_at_call 15; (with_reducible refine (HS.out _).mono ?_); rintro e w1 ⟨rfl, bs, k, rfl⟩))
  all_goals go_ret
  all_goals exact ⟨ret_b (by first | rfl | (simp; done) | (simp; omega)), (Mor.below (by repeat (first | exact Mor.refl _ | apply Mor.alloc | apply Mor.more | apply Mor.drewN | apply Mor.drew)))⟩

set_option maxHeartbeats 800000 in
theorem way_1 (w : World) (a b k y : Int) (hv : wi y 4 = 1) :
    Calls Try.prog 4 #[.int .i64 a, .int .i64 b, .int .i64 k, .int .i64 y] w fun e w' => e = .returned (.bool true) ∧ Below w.heap.size w w' := by
  have HV := Lib.hid (fun w => within_eq y 4 1 w (by omega) (by omega) hv)
  have k1 := wi_lo k 1000 (by omega)
  have k2 := wi_hi k 1000 (by omega)
  have n1 := smn_lo a
  have n2 := smn_hi a
  have d1 := smd_lo b
  have d2 := smd_hi b
  obtain ⟨o1, p1, p2⟩ := ok_shift (smn a) (smd b) (wi k 1000) n1 n2 d1 d2 (by omega) (by omega)
  have HR := Lib.hid (fun w => round_ok (smn a) (smd b) 1 w (sm_ok a b) (by omega) (by omega))
  have HS := Lib.hid (fun w => round_ok (smn a + (wi k 1000) * smd b) (smd b) 1 w o1 (by omega) (by omega))
  have r1 := rnd_le (smn a) (smd b) 1 1000 d1 (by have := Int.mul_le_mul_of_nonneg_right d1 (show (0:Int) ≤ 1000 by omega); omega)
  have r2 := le_rnd (smn a) (smd b) 1 (-1000) d1 (by have := Int.mul_le_mul_of_nonneg_right d1 (show (0:Int) ≤ 1000 by omega); rw [Int.mul_neg]; omega)
  rw [shift_1 _ _ _ d1] at HS
  clear hv o1
  generalize rnd (smn a) (smd b) 1 = X at *
  go_enter Try.func4, Try.ntmps4
  go_wp2_with (first | (go_at_call 15; (with_reducible refine (round_begun _).mono ?_); rintro e w1 ⟨rfl, bs, k, rfl⟩) | (go_at_call 17; (with_reducible refine (small_any _ _ _).mono ?_); rintro e w1 ⟨rfl, bs, k, rfl⟩) | (go_at_call 18; (with_reducible refine (HV.out _).mono ?_); rintro e w1 ⟨rfl, rfl⟩) | (go_at_call 18; refine (within_any _ _ _ (by omega) (by omega)).mono ?_; rintro e w1 ⟨rfl, rfl⟩) | (go_at_call 15; (with_reducible refine (HR.out _).mono ?_); rintro e w1 ⟨rfl, bs, k, rfl⟩) | (go_at_call 15; (with_reducible refine (HS.out _).mono ?_); rintro e w1 ⟨rfl, bs, k, rfl⟩))
  all_goals go_ret
  all_goals exact ⟨ret_b (by first | rfl | (simp; done) | (simp; omega)), (Mor.below (by repeat (first | exact Mor.refl _ | apply Mor.alloc | apply Mor.more | apply Mor.drewN | apply Mor.drew)))⟩

set_option maxHeartbeats 800000 in
theorem way_3 (w : World) (a b k y : Int) (hv : wi y 4 = 3) :
    Calls Try.prog 4 #[.int .i64 a, .int .i64 b, .int .i64 k, .int .i64 y] w fun e w' => e = .returned (.bool true) ∧ Below w.heap.size w w' := by
  have HV := Lib.hid (fun w => within_eq y 4 3 w (by omega) (by omega) hv)
  have k1 := wi_lo k 1000 (by omega)
  have k2 := wi_hi k 1000 (by omega)
  have n1 := smn_lo a
  have n2 := smn_hi a
  have d1 := smd_lo b
  have d2 := smd_hi b
  obtain ⟨o1, p1, p2⟩ := ok_shift (smn a) (smd b) (wi k 1000 * 2) n1 n2 d1 d2 (by omega) (by omega)
  have HR := Lib.hid (fun w => round_ok (smn a) (smd b) 3 w (sm_ok a b) (by omega) (by omega))
  have HS := Lib.hid (fun w => round_ok (smn a + (wi k 1000 * 2) * smd b) (smd b) 3 w o1 (by omega) (by omega))
  have r1 := rnd_le (smn a) (smd b) 3 1000 d1 (by have := Int.mul_le_mul_of_nonneg_right d1 (show (0:Int) ≤ 1000 by omega); omega)
  have r2 := le_rnd (smn a) (smd b) 3 (-1000) d1 (by have := Int.mul_le_mul_of_nonneg_right d1 (show (0:Int) ≤ 1000 by omega); rw [Int.mul_neg]; omega)
  rw [shift_3 _ _ _ d1] at HS
  clear hv o1
  generalize rnd (smn a) (smd b) 3 = X at *
  go_enter Try.func4, Try.ntmps4
  go_wp2_with (first | (go_at_call 15; (with_reducible refine (round_begun _).mono ?_); rintro e w1 ⟨rfl, bs, k, rfl⟩) | (go_at_call 17; (with_reducible refine (small_any _ _ _).mono ?_); rintro e w1 ⟨rfl, bs, k, rfl⟩) | (go_at_call 18; (with_reducible refine (HV.out _).mono ?_); rintro e w1 ⟨rfl, rfl⟩) | (go_at_call 18; refine (within_any _ _ _ (by omega) (by omega)).mono ?_; rintro e w1 ⟨rfl, rfl⟩) | (go_at_call 15; (with_reducible refine (HR.out _).mono ?_); rintro e w1 ⟨rfl, bs, k, rfl⟩) | (go_at_call 15; (with_reducible refine (HS.out _).mono ?_); rintro e w1 ⟨rfl, bs, k, rfl⟩))
  all_goals go_ret
  all_goals exact ⟨ret_b (by first | rfl | (simp; done) | (simp; omega)), (Mor.below (by repeat (first | exact Mor.refl _ | apply Mor.alloc | apply Mor.more | apply Mor.drewN | apply Mor.drew)))⟩

set_option maxHeartbeats 800000 in
theorem way_2 (w : World) (a b k y : Int) (hv : wi y 4 = 2) :
    Calls Try.prog 4 #[.int .i64 a, .int .i64 b, .int .i64 k, .int .i64 y] w fun e w' => e = .returned (.bool true) ∧ Below w.heap.size w w' := by
  have HV := Lib.hid (fun w => within_eq y 4 2 w (by omega) (by omega) hv)
  have k1 := wi_lo k 1000 (by omega)
  have k2 := wi_hi k 1000 (by omega)
  have n1 := smn_lo a
  have n2 := smn_hi a
  have d1 := smd_lo b
  have d2 := smd_hi b
  obtain ⟨o1, p1, p2⟩ := ok_shift (smn a) (smd b) (wi k 1000) n1 n2 d1 d2 (by omega) (by omega)
  have HR := Lib.hid (fun w => round_ok (smn a) (smd b) 2 w (sm_ok a b) (by omega) (by omega))
  have HS := Lib.hid (fun w => round_ok (smn a + (wi k 1000) * smd b) (smd b) 2 w o1 (by omega) (by omega))
  have r1 := rnd_le (smn a) (smd b) 2 1000 d1 (by have := Int.mul_le_mul_of_nonneg_right d1 (show (0:Int) ≤ 1000 by omega); omega)
  have r2 := le_rnd (smn a) (smd b) 2 (-1000) d1 (by have := Int.mul_le_mul_of_nonneg_right d1 (show (0:Int) ≤ 1000 by omega); rw [Int.mul_neg]; omega)
  rcases shift_2 (smn a) (smd b) (wi k 1000) d1 k1 with hs | ⟨s0, s1, s2, s3, s4⟩
  · rw [hs] at HS
    clear hv o1 hs
    generalize rnd (smn a) (smd b) 2 = X at *
    go_enter Try.func4, Try.ntmps4
    go_wp2_with (first | (go_at_call 15; (with_reducible refine (round_begun _).mono ?_); rintro e w1 ⟨rfl, bs, k, rfl⟩) | (go_at_call 17; (with_reducible refine (small_any _ _ _).mono ?_); rintro e w1 ⟨rfl, bs, k, rfl⟩) | (go_at_call 18; (with_reducible refine (HV.out _).mono ?_); rintro e w1 ⟨rfl, rfl⟩) | (go_at_call 18; refine (within_any _ _ _ (by omega) (by omega)).mono ?_; rintro e w1 ⟨rfl, rfl⟩) | (go_at_call 15; (with_reducible refine (HR.out _).mono ?_); rintro e w1 ⟨rfl, bs, k, rfl⟩) | (go_at_call 15; (with_reducible refine (HS.out _).mono ?_); rintro e w1 ⟨rfl, bs, k, rfl⟩))
    all_goals go_ret
    all_goals exact ⟨ret_b (by first | rfl | (simp; done) | (simp; omega)), (Mor.below (by repeat (first | exact Mor.refl _ | apply Mor.alloc | apply Mor.more | apply Mor.drewN | apply Mor.drew)))⟩
  · have g1 : (rnd (smn a + wi k 1000 * smd b) (smd b) 2 == rnd (smn a) (smd b) 2 + wi k 1000) = false := by simpa using s0
    have g2 : (((2 * smn a).tdiv (smd b)).tmod 2 != 0) = true := by simpa using s4
    have g3 : ((2 * smn a).tmod (smd b) == 0) = true := by simpa using s3
    clear hv o1 s0 s4 s3
    generalize rnd (smn a + wi k 1000 * smd b) (smd b) 2 = Y at *
    generalize rnd (smn a) (smd b) 2 = X at *
    go_enter Try.func4, Try.ntmps4
    go_wp2_with (first | (go_at_call 15; (with_reducible refine (round_begun _).mono ?_); rintro e w1 ⟨rfl, bs, k, rfl⟩) | (go_at_call 17; (with_reducible refine (small_any _ _ _).mono ?_); rintro e w1 ⟨rfl, bs, k, rfl⟩) | (go_at_call 18; (with_reducible refine (HV.out _).mono ?_); rintro e w1 ⟨rfl, rfl⟩) | (go_at_call 18; refine (within_any _ _ _ (by omega) (by omega)).mono ?_; rintro e w1 ⟨rfl, rfl⟩) | (go_at_call 15; (with_reducible refine (HR.out _).mono ?_); rintro e w1 ⟨rfl, bs, k, rfl⟩) | (go_at_call 15; (with_reducible refine (HS.out _).mono ?_); rintro e w1 ⟨rfl, bs, k, rfl⟩))
    all_goals go_ret
    all_goals exact ⟨ret_b (by first | rfl | (simp; done) | (simp; omega)), (Mor.below (by repeat (first | exact Mor.refl _ | apply Mor.alloc | apply Mor.more | apply Mor.drewN | apply Mor.drew)))⟩

theorem fracWhole_walk (w : World) (a : Int) (wa : (Lit.int .i64 a).wf = true) (b : Int) (wb : (Lit.int .i64 b).wf = true) (k : Int) (wk : (Lit.int .i64 k).wf = true) (y : Int) (wy : (Lit.int .i64 y).wf = true) :
    Calls Try.prog 4 #[.int .i64 a, .int .i64 b, .int .i64 k, .int .i64 y] w fun e w' => e = .returned (.bool true) ∧ Below w.heap.size w w' := by
  have v1 := wi_lo y 4 (by omega)
  have v2 := wi_hi y 4 (by omega)
  by_cases h0 : wi y 4 = 0
  · exact way_0 w a b k y h0
  · by_cases h1 : wi y 4 = 1
    · exact way_1 w a b k y h1
    · by_cases h2 : wi y 4 = 2
      · exact way_2 w a b k y h2
      · exact way_3 w a b k y (by omega)

end Go.Proofs.Ythchchbkpicdcaa.fracWhole
