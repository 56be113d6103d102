/- The walk of talkeep.FracNear. -/
import Derived.Test.YthchchbkpicdcaaPlainG
import Derived.Test.YthchchbkpicdcaaFracD
namespace Go.Proofs.Ythchchbkpicdcaa.fracNear
open Go.ChangeShapes Go.WideShapes Go.ChangeAt Go.RowKit
set_option linter.unusedVariables false

theorem begun_1 (w : World) : Calls Try.prog 15 #[.agg #[.int .i64 (-5), .int .i64 2], .int .i64 2] w fun e w' => e = .returned (.tuple #[.int .i64 (-3), .int .i64 0]) ∧ Mor w w' :=
  round_ok (-5) 2 2 w (by unfold okF; omega) (by omega) (by omega)
theorem begun_2 (w : World) : Calls Try.prog 15 #[.agg #[.int .i64 5, .int .i64 2], .int .i64 3] w fun e w' => e = .returned (.tuple #[.int .i64 2, .int .i64 0]) ∧ Mor w w' :=
  round_ok 5 2 3 w (by unfold okF; omega) (by omega) (by omega)

/-- twice the distance of x and n/d, times d -/
def farV (x n d : Int) : Int := if x * d ≤ n then 2 * (n - x * d) else 2 * (x * d - n)

set_option maxHeartbeats 400000 in
theorem far_any (x n d : Int) (b : Nat) (w : World) (c0 : w.cell? ⟨b, 0, none⟩ = some (.int .i64 n)) (c1 : w.cell? ⟨b, 1, none⟩ = some (.int .i64 d))
    (h1 : -1000000000000000000 ≤ x * d) (h2 : x * d ≤ 1000000000000000000) (h3 : -1000000000000 ≤ n) (h4 : n ≤ 1000000000000) :
    Calls Try.prog 16 #[.int .i64 x, .pointer (some ⟨b, 0, none⟩)] w fun e w' => e = .returned (.int .i64 (farV x n d)) ∧ w = w' := by
  rcases Int.lt_trichotomy (x * d) n with h | h | h
  · have E := Lib.hid (show farV x n d = 2 * (n - x * d) from if_pos (by omega))
    go_enter Try.func16, Try.ntmps16
    go_wp2
    go_ret
    exact ⟨ret_i (by rw [E.out]), rfl⟩
  · have E := Lib.hid (show farV x n d = 0 by unfold farV; rw [if_pos (by omega)]; omega)
    have l1 : x * d ≤ n := by omega
    have l2 : n ≤ x * d := by omega
    have H := Lib.hid h
    clear h
    go_enter Try.func16, Try.ntmps16
    go_wp2
    all_goals go_ret
    all_goals exact ⟨ret_i (by rw [E.out]; have := H.out; omega), rfl⟩
  · have E := Lib.hid (show farV x n d = 2 * (x * d - n) from if_neg (by omega))
    go_enter Try.func16, Try.ntmps16
    go_wp2
    go_ret
    exact ⟨ret_i (by rw [E.out]), rfl⟩

theorem far_le (x n d : Int) (h1 : 2 * (d * x - n) ≤ d) (h2 : 2 * (n - d * x) ≤ d) : farV x n d ≤ d := by
  rw [Int.mul_comm d x] at h1 h2
  unfold farV; split <;> omega
theorem even_or (n d : Int) (h : 1 ≤ d) : farV (rnd n d 3) n d < d ∨ rnd n d 3 % 2 = 0 := by
  have e := div_mod n d
  have r0 : 0 ≤ n % d := Int.emod_nonneg _ (by omega)
  have r1 : n % d < d := Int.emod_lt_of_pos _ (by omega)
  obtain ⟨x, y⟩ := rnd_half n d 3 h (.inr rfl)
  rw [Int.mul_comm d (rnd n d 3)] at x y
  by_cases ht : 2 * (n % d) = d
  · right; rw [rnd_3]; split <;> omega
  · left
    have hx : rnd n d 3 * d = d * (n / d) ∨ rnd n d 3 * d = d * (n / d) + d := by
      rw [rnd_3]; split
      · right; rw [Int.add_mul, Int.mul_comm]; omega
      · left; rw [Int.add_zero, Int.mul_comm]
    unfold farV
    rcases hx with hx | hx <;> rw [hx] at x y ⊢ <;> split <;> omega

/-- what the walk needs of the numbers -/
theorem facts (n d : Int) (h : okF n d) : rnd n d 0 * d ≤ n ∧ n < (rnd n d 0 + 1) * d ∧ rnd n d 0 ≤ rnd n d 1 ∧ rnd n d 1 ≤ rnd n d 0 + 1 := by
  obtain ⟨h1, h2, h3, h4⟩ := h
  have e := div_mod n d
  have r0 : 0 ≤ n % d := Int.emod_nonneg _ (by omega)
  have r1 : n % d < d := Int.emod_lt_of_pos _ (by omega)
  rw [rnd_0, rnd_1, Int.add_mul, Int.mul_comm]
  split <;> omega
theorem bounds (n d way : Int) (h : okF n d) : -1000000000000 ≤ rnd n d way ∧ rnd n d way ≤ 1000000000000 ∧ -1000000000000000000 ≤ rnd n d way * d ∧ rnd n d way * d ≤ 1000000000000000000 := by
  obtain ⟨h1, h2, h3, h4⟩ := h
  have p := Int.mul_le_mul_of_nonneg_right h1 (show (0:Int) ≤ 1000000000000 by omega)
  have a := rnd_le n d way 1000000000000 h1 (by omega)
  have b := le_rnd n d way (-1000000000000) h1 (by rw [Int.mul_neg]; omega)
  have c := prod_bd (rnd n d way) d 1000000000000 1000000 b a (by omega) h2 (by omega)
  omega

set_option maxHeartbeats 1600000 in
set_option maxRecDepth 100000 in
theorem fracNear_walk (w : World) (n : Int) (wn : (Lit.int .i64 n).wf = true) (d : Int) (wd : (Lit.int .i64 d).wf = true) :
    Calls Try.prog 3 #[.agg #[.int .i64 n, .int .i64 d]] w fun e w' => e = .returned (.bool true) ∧ Below w.heap.size w w' := by
  clear wn wd
  by_cases h1 : okF n d
  · have h2 : okF (-n) d := by unfold okF at *; omega
    have R0 := Lib.hid (fun w => round_ok n d 0 w h1 (by omega) (by omega))
    have R1 := Lib.hid (fun w => round_ok n d 1 w h1 (by omega) (by omega))
    have R2 := Lib.hid (fun w => round_ok n d 2 w h1 (by omega) (by omega))
    have R3 := Lib.hid (fun w => round_ok n d 3 w h1 (by omega) (by omega))
    have B1 := Lib.hid (fun w => round_ok (-n) d 1 w h2 (by omega) (by omega))
    have B2 := Lib.hid (fun w => round_ok (-n) d 2 w h2 (by omega) (by omega))
    have B3 := Lib.hid (fun w => round_ok (-n) d 3 w h2 (by omega) (by omega))
    rw [rnd_neg_up n d h1.1] at B1
    rw [rnd_neg_near n d h1.1] at B2
    rw [rnd_neg_even n d h1.1] at B3
    obtain ⟨f1, f2, f3, f4⟩ := facts n d h1
    obtain ⟨b1, b2, b3, b4⟩ := bounds n d 0 h1
    obtain ⟨c1, c2, c3, c4⟩ := bounds n d 2 h1
    obtain ⟨d1, d2, d3, d4⟩ := bounds n d 3 h1
    have g1 := rnd_half n d 2 h1.1 (.inl rfl)
    have g2 := rnd_half n d 3 h1.1 (.inr rfl)
    have l1 := far_le _ n d g1.1 g1.2
    have l2 := far_le _ n d g2.1 g2.2
    have l3 := even_or n d h1.1
    have hd1 := h1.1
    have hd2 := h1.2.1
    have hn1 := h1.2.2.1
    have hn2 := h1.2.2.2
    have F2 := Lib.hid (fun b w c0 c1 => far_any (rnd n d 2) n d b w c0 c1 c3 c4 hn1 hn2)
    have F3 := Lib.hid (fun b w c0 c1 => far_any (rnd n d 3) n d b w c0 c1 d3 d4 hn1 hn2)
    clear h1 h2 g1 g2
    generalize farV (rnd n d 2) n d = X at *
    generalize farV (rnd n d 3) n d = Y at *
    generalize rnd n d 0 = D at *
    generalize rnd n d 1 = U at *
    generalize rnd n d 2 = N at *
    generalize rnd n d 3 = E at *
    have f5 : -2000000000000000000 ≤ (D + 1) * d := by omega
    have f6 : (D + 1) * d ≤ 2000000000000000000 := by rw [Int.add_mul]; omega
    have k1 : decide (X ≤ d) = true := by simpa using l1
    have k2 : decide (Y ≤ d) = true := by simpa using l2
    by_cases hy : Y < d
    · have k3 : decide (Y < d) = true := by simpa using hy
      clear l3
      go_enter Try.func3, Try.ntmps3
      go_wp2_with (first | (go_at_call 15; (with_reducible refine (begun_1 _).mono ?_); rintro e w1 ⟨rfl, bs, k, rfl⟩) | (go_at_call 15; (with_reducible refine (begun_2 _).mono ?_); rintro e w1 ⟨rfl, bs, k, rfl⟩) | (go_at_call 15; (with_reducible refine (R0.out _).mono ?_); rintro e w1 ⟨rfl, bs, k, rfl⟩) | (go_at_call 15; (with_reducible refine (R1.out _).mono ?_); rintro e w1 ⟨rfl, bs, k, rfl⟩) | (go_at_call 15; (with_reducible refine (R2.out _).mono ?_); rintro e w1 ⟨rfl, bs, k, rfl⟩) | (go_at_call 15; (with_reducible refine (R3.out _).mono ?_); rintro e w1 ⟨rfl, bs, k, rfl⟩) | (go_at_call 15; (with_reducible refine (B1.out _).mono ?_); rintro e w1 ⟨rfl, bs, k, rfl⟩) | (go_at_call 15; (with_reducible refine (B2.out _).mono ?_); rintro e w1 ⟨rfl, bs, k, rfl⟩) | (go_at_call 15; (with_reducible refine (B3.out _).mono ?_); rintro e w1 ⟨rfl, bs, k, rfl⟩))
      go_quiet ((first | (go_at_call 16; (with_reducible refine quiet_eq (F2.out _ _ ?_ ?_)) <;> go_simp) | (go_at_call 16; (with_reducible refine quiet_eq (F3.out _ _ ?_ ?_)) <;> go_simp)))
      go_wp2_with fail
      go_ret
      exact ⟨ret_b (by first | rfl | (simp; done) | (simp; omega)), (Mor.below (by repeat (first | exact Mor.refl _ | apply Mor.alloc | apply Mor.more | apply Mor.drewN | apply Mor.drew)))⟩
    · have k3 : decide (Y < d) = false := by simpa using hy
      have k4 : (E.tmod 2 == 0) = true := by simpa [tm2] using l3.resolve_left hy
      clear l3
      go_enter Try.func3, Try.ntmps3
      go_wp2_with (first | (go_at_call 15; (with_reducible refine (begun_1 _).mono ?_); rintro e w1 ⟨rfl, bs, k, rfl⟩) | (go_at_call 15; (with_reducible refine (begun_2 _).mono ?_); rintro e w1 ⟨rfl, bs, k, rfl⟩) | (go_at_call 15; (with_reducible refine (R0.out _).mono ?_); rintro e w1 ⟨rfl, bs, k, rfl⟩) | (go_at_call 15; (with_reducible refine (R1.out _).mono ?_); rintro e w1 ⟨rfl, bs, k, rfl⟩) | (go_at_call 15; (with_reducible refine (R2.out _).mono ?_); rintro e w1 ⟨rfl, bs, k, rfl⟩) | (go_at_call 15; (with_reducible refine (R3.out _).mono ?_); rintro e w1 ⟨rfl, bs, k, rfl⟩) | (go_at_call 15; (with_reducible refine (B1.out _).mono ?_); rintro e w1 ⟨rfl, bs, k, rfl⟩) | (go_at_call 15; (with_reducible refine (B2.out _).mono ?_); rintro e w1 ⟨rfl, bs, k, rfl⟩) | (go_at_call 15; (with_reducible refine (B3.out _).mono ?_); rintro e w1 ⟨rfl, bs, k, rfl⟩))
      go_quiet ((first | (go_at_call 16; (with_reducible refine quiet_eq (F2.out _ _ ?_ ?_)) <;> go_simp) | (go_at_call 16; (with_reducible refine quiet_eq (F3.out _ _ ?_ ?_)) <;> go_simp)))
      go_wp2_with fail
      go_ret
      exact ⟨ret_b (by first | rfl | (simp; done) | (simp; omega)), (Mor.below (by repeat (first | exact Mor.refl _ | apply Mor.alloc | apply Mor.more | apply Mor.drewN | apply Mor.drew)))⟩
  · have l := chk_lo n d
    have R0 := Lib.hid (fun w => round_no n d 0 w h1)
    clear h1
    go_enter Try.func3, Try.ntmps3
    go_wp2_with (first | (go_at_call 15; (with_reducible refine (begun_1 _).mono ?_); rintro e w1 ⟨rfl, bs, k, rfl⟩) | (go_at_call 15; (with_reducible refine (begun_2 _).mono ?_); rintro e w1 ⟨rfl, bs, k, rfl⟩) | (go_at_call 15; (with_reducible refine (R0.out _).mono ?_); rintro e w1 ⟨rfl, bs, k, rfl⟩))
    go_ret
    exact ⟨ret_b (by first | rfl | (simp; done) | (simp; omega)), (Mor.below (by repeat (first | exact Mor.refl _ | apply Mor.alloc | apply Mor.more | apply Mor.drewN | apply Mor.drew)))⟩

end Go.Proofs.Ythchchbkpicdcaa.fracNear
