/- The walk of talkeep.LineSum. -/
import Derived.Test.YtmkmbfficpgmdaaWLineSumA
import Derived.Test.YtmkmbfficpgmdaaMinV
namespace Go.Proofs.Ytmkmbfficpgmdaa.lineSum
open Go.ChangeShapes Go.WideShapes Go.ChangeAt Go.RowKit
set_option linter.unusedVariables false

set_option maxRecDepth 100000 in
set_option maxHeartbeats 1600000 in
theorem ok_walk (w : World) (a b : Int) (N : Nat) (h : lineP a b N) :
    Calls Try.prog 12 #[.int .i64 a, .int .i64 b, .int .i64 (N : Int)] w fun e w' => e = .returned (.bool true) ∧ Below w.heap.size w w' := by
  obtain ⟨h1, h2, h3, h4, h5, h6⟩ := h
  have t7 : 1 ≤ (N : Int) * ((N : Int) + 1) / 2 := (tri_bd (N : Int) N h5 h6 (by omega) (by omega)).2.2.2.2.2.2.1
  have CX := Lib.hid (fun w => straight_int a b N N w rfl h1 h2 h3 h4 (by omega) (by omega))
  have CY := Lib.hid (fun w => digits_int a b N N w rfl h1 h2 h3 h4 (by omega) (by omega))
  have HXS := Lib.hid (show (difl (stB (a - b) N) N).sum = a - b from by
    have := difl_sum (stB (a - b) N) N N (Nat.le_refl _)
    rw [List.take_of_length_le (by rw [difl_len]; exact Nat.le_refl _), stB_zero _ _ h5, stB_all _ _ h5] at this
    omega)
  have HYS := Lib.hid (show (difl (dgB (a - b) N) N).sum = a - b from by
    have := difl_sum (dgB (a - b) N) N N (Nat.le_refl _)
    rw [List.take_of_length_le (by rw [difl_len]; exact Nat.le_refl _), dgB_zero _ _ t7, dgB_all _ _ h5 h6] at this
    omega)
  have HXP := Lib.hid (mnv_nonneg (difl (stB (a - b) N) N) N (by omega) (fun i hi => by
    rw [difl_get _ _ _ hi]; have := stB_step (a - b) N i (by omega) h5; omega))
  have HYP := Lib.hid (mnv_nonneg (difl (dgB (a - b) N) N) N (by omega) (fun i hi => by
    rw [difl_get _ _ _ hi]; have := dgB_step (a - b) N i (by omega) h5 h6 (by omega) (by omega); omega))
  have HXB := Lib.hid (difl_bd (stB (a - b) N) N 1000000000000 (by omega) (fun k k1 k2 => by
    have z := stB_zero (a - b) N h5
    have y := stB_all (a - b) N h5
    have p := rnd_mono ((a - b) * 0) ((a - b) * k) N 2 h5 (Int.mul_le_mul_of_nonneg_left k1 (by omega))
    have q := rnd_mono ((a - b) * k) ((a - b) * N) N 2 h5 (Int.mul_le_mul_of_nonneg_left k2 (by omega))
    unfold stB at *
    omega))
  have HYB := Lib.hid (difl_bd (dgB (a - b) N) N 1000000000000 (by omega) (fun k k1 k2 => ⟨(dgB_bd _ _ k (by omega) (by omega) (by omega) (by omega) k1 (by omega)).1, by have := dgB_le (a - b) N k (by omega) h5 h6 k1 (by omega) (by omega); omega⟩))
  have hXP := HXP.out
  have hYP := HYP.out
  clear t7 HXP HYP
  generalize difl (stB (a - b) N) N = X at *
  generalize difl (dgB (a - b) N) N = Y at *
  go_enter Try.func12, Try.ntmps12
  go_wp2_with fail
  refine (straight_int 10 0 4 4 _ rfl (by omega) (by omega) (by omega) (by omega) (by omega) (by omega)).mono ?_
  rintro e w1 ⟨bs, k, b0, c0, rfl, rfl, _, _, hr⟩
  have HR := Lib.hid hr
  clear hr
  go_wp2_with fail
  refine (equal_yes _ _ _ _ _ _ 4 [3, 2, 3, 2] _ (HR.out.alloc) (row_lit [3, 2, 3, 2] (by simp) rfl) rfl (by omega)).mono ?_
  rintro e w1 ⟨rfl, m, rfl⟩
  clear HR
  go_wp2_with fail
  refine (digits_int 60 0 3 3 _ rfl (by omega) (by omega) (by omega) (by omega) (by omega) (by omega)).mono ?_
  rintro e w1 ⟨bs1, k1, b1, c1, rfl, rfl, _, _, hr⟩
  have HR := Lib.hid hr
  clear hr
  go_wp2_with fail
  refine (equal_yes _ _ _ _ _ _ 3 [30, 20, 10] _ (HR.out.alloc) (row_lit [30, 20, 10] (by simp) rfl) rfl (by omega)).mono ?_
  rintro e w1 ⟨rfl, m1, rfl⟩
  clear HR
  go_wp2_with fail
  refine (CX.out _).mono ?_
  rintro e w1 ⟨bs2, k2, b2, c2, rfl, rfl, hl2, hq2, hr2⟩
  (try simp [go_sem] at hr2)
  have RX := Lib.hid hr2
  have LX := Lib.hid hl2
  clear hr2 hl2
  go_wp2_with fail
  refine (CY.out _).mono ?_
  rintro e w1 ⟨bs3, k3, b3, c3, rfl, rfl, hl3, hq3, hr3⟩
  (try simp [go_sem] at hr3)
  have RY := Lib.hid hr3
  have LY := Lib.hid hl3
  clear hr3 hl3
  have SX := Lib.hid (fun (W : World) (hR : Row W b2 0 X) => sum_row b2 0 N c2 X W hR LX.out HXB.out (by omega))
  have SY := Lib.hid (fun (W : World) (hR : Row W b3 0 Y) => sum_row b3 0 N c3 Y W hR LY.out HYB.out (by omega))
  rw [HXS.out] at SX
  rw [HYS.out] at SY
  have MX := Lib.hid (fun (W : World) (hR : Row W b2 0 X) => min_val b2 0 N c2 X W hR LX.out (by omega) (by omega))
  have MY := Lib.hid (fun (W : World) (hR : Row W b3 0 Y) => min_val b3 0 N c3 Y W hR LY.out (by omega) (by omega))
  generalize mnv X N = mx at *
  generalize mnv Y N = my at *
  go_wp2_with (first | (go_at_call 18; (with_reducible refine (SX.out _ RX.out.app).mono ?_); rintro e w1 ⟨rfl, rfl⟩) | (go_at_call 18; (with_reducible refine (SY.out _ RY.out).mono ?_); rintro e w1 ⟨rfl, rfl⟩) | (go_at_call 22; (with_reducible refine (MX.out _ RX.out.app).mono ?_); rintro e w1 ⟨rfl, rfl⟩) | (go_at_call 22; (with_reducible refine (MY.out _ RY.out).mono ?_); rintro e w1 ⟨rfl, rfl⟩))
  go_ret
  exact ⟨ret_b (by first | rfl | (simp; done) | (simp; omega)), (Mor.below (by repeat (first | exact Mor.refl _ | apply Mor.alloc | apply Mor.more | apply Mor.drewN | apply Mor.drew)))⟩

theorem lineSum_walk (w : World) (a : Int) (wa : (Lit.int .i64 a).wf = true) (b : Int) (wb : (Lit.int .i64 b).wf = true) (n : Int) (wn : (Lit.int .i64 n).wf = true) :
    Calls Try.prog 12 #[.int .i64 a, .int .i64 b, .int .i64 n] w fun e w' => e = .returned (.bool true) ∧ Below w.heap.size w w' := by
  by_cases h : lineP a b n
  · obtain ⟨N, rfl⟩ := Int.eq_ofNat_of_zero_le (show 0 ≤ n by have := h.2.2.2.2.1; omega)
    exact ok_walk w a b N h
  · exact no_walk w a b n h

end Go.Proofs.Ytmkmbfficpgmdaa.lineSum
