/- The walk of talkeep.FracNone. -/
import Derived.Test.YthchchbkpicdcaaPlainG
import Derived.Test.YthchchbkpicdcaaSmall
import Derived.Test.YthchchbkpicdcaaLong
namespace Go.Proofs.Ythchchbkpicdcaa.fracNone
open Go.ChangeShapes Go.WideShapes Go.ChangeAt Go.RowKit
set_option linter.unusedVariables false

theorem neg_sum (n d : Int) (h : 1 ≤ d) : fq n d + fq (-n) d = 0 := by
  rw [fq_add _ _ _ _ h h, Int.neg_mul, Int.add_right_neg]; exact Rat.zero_divInt _
theorem fq_one : fq 1 1 = 1 := rfl
theorem fq_zero : fq 0 1 = 0 := rfl
theorem half_two : fq 1 2 + fq 1 2 = 1 := by rw [fq_add _ _ _ _ (by omega) (by omega)]; rfl
theorem half_pos : (0 : Rat) < fq 1 2 := by decide
theorem mean_self (x : Rat) : (x + x) * fq 1 2 = x := by rw [Rat.add_mul, ← Rat.mul_add, half_two, Rat.mul_one]
theorem mean_lt_left (x y : Rat) : x < (x + y) * fq 1 2 ↔ x < y := by
  have h : x < (x + y) * fq 1 2 ↔ (x + x) * fq 1 2 < (x + y) * fq 1 2 := by rw [mean_self]
  rw [h, Rat.mul_lt_mul_right half_pos, Rat.add_lt_add_left]
theorem mean_gt_left (x y : Rat) : (x + y) * fq 1 2 < x ↔ y < x := by
  have h : (x + y) * fq 1 2 < x ↔ (x + y) * fq 1 2 < (x + x) * fq 1 2 := by rw [mean_self]
  rw [h, Rat.mul_lt_mul_right half_pos, Rat.add_lt_add_left]
theorem mean_lt_right (x y : Rat) : (x + y) * fq 1 2 < y ↔ x < y := by rw [Rat.add_comm, mean_gt_left]
theorem mean_gt_right (x y : Rat) : y < (x + y) * fq 1 2 ↔ y < x := by rw [Rat.add_comm, mean_lt_left]
theorem sg_iff (x y x' y' : Int) (h1 : x < y ↔ x' < y') (h2 : y < x ↔ y' < x') : sg x y = sg x' y' := by
  unfold sg; simp only [h1, h2]
/-- the order of a fraction and of a rational number in lowest terms -/
theorem sg_left (n d m c : Int) (h : 1 ≤ d) (k : 1 ≤ c) : sg (n * fd ((fq n d + fq m c) * fq 1 2)) (fn ((fq n d + fq m c) * fq 1 2) * d) = sg (n * c) (m * d) := by
  refine sg_iff _ _ _ _ ?_ ?_
  · rw [fq_lt _ _ _ _ h (fd_pos _), fq_self, mean_lt_left, fq_lt _ _ _ _ h k]
  · rw [fq_lt _ _ _ _ (fd_pos _) h, fq_self, mean_gt_left, fq_lt _ _ _ _ k h]
theorem sg_right (n d m c : Int) (h : 1 ≤ d) (k : 1 ≤ c) : sg (fn ((fq n d + fq m c) * fq 1 2) * c) (m * fd ((fq n d + fq m c) * fq 1 2)) = sg (n * c) (m * d) := by
  refine sg_iff _ _ _ _ ?_ ?_
  · rw [fq_lt _ _ _ _ (fd_pos _) k, fq_self, mean_lt_right, fq_lt _ _ _ _ h k]
  · rw [fq_lt _ _ _ _ k (fd_pos _), fq_self, mean_gt_right, fq_lt _ _ _ _ k h]

set_option maxRecDepth 100000 in
set_option maxHeartbeats 6400000 in
theorem fracNone_walk (w : World) (a : Int) (wa : (Lit.int .i64 a).wf = true) (b : Int) (wb : (Lit.int .i64 b).wf = true) (c : Int) (wc : (Lit.int .i64 c).wf = true) (d : Int) (wd : (Lit.int .i64 d).wf = true) :
    Calls Try.prog 9 #[.int .i64 a, .int .i64 b, .int .i64 c, .int .i64 d] w fun e w' => e = .returned (.bool true) ∧ Below w.heap.size w w' := by
  clear wa wb wc wd
  have X := sm_bq a b
  have Y := sm_bq c d
  have ox := sm_ok a b
  have oy := sm_ok c d
  have on : okF (-smn a) (smd b) := by have := smn_lo a; have := smn_hi a; have := smd_lo b; have := smd_hi b; unfold okF; omega
  have b1 := smn_lo a
  have b2 := smn_hi a
  have b3 := smd_lo b
  have b4 := smd_hi b
  have b5 := smd_lo d
  have o1 : okF 1 1 := by unfold okF; omega
  have o0 : okF 0 1 := by unfold okF; omega
  have o2 : okF 1 2 := by unfold okF; omega
  have bP := bq_add X Y (by omega) (by omega)
  have bH : bq ((fq (smn a) (smd b) + fq (smn c) (smd d)) * fq 1 2) (80000 * 1) (1600 * 2) := bq_mul bP (bq_fq (by omega) (by omega) (by omega) (by omega)) (by omega) (by omega)
  have A1 := Lib.hid (fun w => add_ok (smn a) (smd b) (-smn a) (smd b) 0 w ox on (neg_sum _ _ b3) (by unfold fitQ; exact ⟨by decide, by decide, by decide⟩))
  have M1 := Lib.hid (fun w => mul_ok (smn a) (smd b) 1 1 (fq (smn a) (smd b)) 1000 1 w ox o1 (by rw [fq_one, Rat.mul_one]) (bq_fit X (by omega) (by omega)) b1 b2 (by omega) (by omega) (by omega))
  have N1 := Lib.hid (fun w => norm_ok (smn a) (smd b) w ox)
  have M2 := Lib.hid (fun w => mul_ok (smn a) (smd b) 0 1 0 1000 1 w ox o0 (by rw [fq_zero, Rat.mul_zero]) (by unfold fitQ; exact ⟨by decide, by decide, by decide⟩) b1 b2 (by omega) (by omega) (by omega))
  rw [show fn 0 = 0 from rfl, show fd 0 = 1 from rfl] at A1 M2
  have A2 := Lib.hid (fun w => add_ok (smn a) (smd b) (smn c) (smd d) _ w ox oy rfl (bq_fit bP (by omega) (by omega)))
  have M3 := Lib.hid (fun w => mul_ok (fn (fq (smn a) (smd b) + fq (smn c) (smd d))) (fd (fq (smn a) (smd b) + fq (smn c) (smd d))) 1 2 ((fq (smn a) (smd b) + fq (smn c) (smd d)) * fq 1 2) 80000 1 w (bq_ok bP (by omega) (by omega)) o2 (by rw [fq_self]) (bq_fit bH (by omega) (by omega)) (by have := bP.1; omega) (by have := bP.2.1; omega) (by omega) (by omega) (by omega))
  have C1 := Lib.hid (fun w => cmp_ok (smn a) (smd b) (smn c) (smd d) w ox oy)
  have C2 := Lib.hid (fun w => cmp_ok (smn a) (smd b) _ _ w ox (bq_ok bH (by omega) (by omega)))
  have C3 := Lib.hid (fun w => cmp_ok _ _ (smn c) (smd d) w (bq_ok bH (by omega) (by omega)) oy)
  rw [sg_left _ _ _ _ b3 b5] at C2
  rw [sg_right _ _ _ _ b3 b5] at C3
  clear X Y ox oy on o1 o0 o2 bP bH b3 b4 b5
  generalize sg (smn a * smd d) (smn c * smd b) = v at *
  generalize fn ((fq (smn a) (smd b) + fq (smn c) (smd d)) * fq 1 2) = hn at *
  generalize fd ((fq (smn a) (smd b) + fq (smn c) (smd d)) * fq 1 2) = hd at *
  generalize fn (fq (smn a) (smd b) + fq (smn c) (smd d)) = pn at *
  generalize fd (fq (smn a) (smd b) + fq (smn c) (smd d)) = pd at *
  generalize fn (fq (smn a) (smd b)) = xn at *
  generalize fd (fq (smn a) (smd b)) = xd at *
  go_enter Try.func9, Try.ntmps9
  go_wp2_with (first | (go_at_call 22; (with_reducible refine (fracBegun_any _).mono ?_); rintro e w1 ⟨rfl, bs, k, rfl⟩) | (go_at_call 17; (with_reducible refine (small_any _ _ _).mono ?_); rintro e w1 ⟨rfl, bs, k, rfl⟩) | (go_at_call 21; (with_reducible refine (A1.out _).mono ?_); rintro e w1 ⟨rfl, bs, k, rfl⟩) | (go_at_call 21; (with_reducible refine (A2.out _).mono ?_); rintro e w1 ⟨rfl, bs, k, rfl⟩) | (go_at_call 23; (with_reducible refine (M1.out _).mono ?_); rintro e w1 ⟨rfl, bs, k, rfl⟩) | (go_at_call 23; (with_reducible refine (M2.out _).mono ?_); rintro e w1 ⟨rfl, bs, k, rfl⟩) | (go_at_call 23; (with_reducible refine (M3.out _).mono ?_); rintro e w1 ⟨rfl, bs, k, rfl⟩) | (go_at_call 20; (with_reducible refine (C1.out _).mono ?_); rintro e w1 ⟨rfl, bs, k, rfl⟩) | (go_at_call 20; (with_reducible refine (C2.out _).mono ?_); rintro e w1 ⟨rfl, bs, k, rfl⟩) | (go_at_call 20; (with_reducible refine (C3.out _).mono ?_); rintro e w1 ⟨rfl, bs, k, rfl⟩) | (go_at_call 19; (with_reducible refine (N1.out _).mono ?_); rintro e w1 ⟨rfl, bs, k, rfl⟩))
  go_rounds 10
  go_ret
  exact ⟨ret_b (by first | rfl | (simp; done)), (Mor.below (by repeat (first | exact Mor.refl _ | apply Mor.alloc | apply Mor.more | apply Mor.drewN | apply Mor.drew)))⟩

end Go.Proofs.Ythchchbkpicdcaa.fracNone
