/- The walk of talkeep.LineMore. -/
import Derived.Test.YtmkmbfficpgmdaaPlainL
namespace Go.Proofs.Ytmkmbfficpgmdaa.lineMore
open Go.ChangeShapes Go.WideShapes Go.ChangeAt Go.RowKit
set_option linter.unusedVariables false

theorem within_eq (k n v : Int) (w : World) (h1 : 1 ≤ n) (h2 : n ≤ 4000000000000) (h : wi k n = v) :
    Calls Try.prog 17 #[.int .i64 k, .int .i64 n] w fun e w' => e = .returned (.int .i64 v) ∧ w = w' := by
  have := within_any k n w h1 h2
  rw [h] at this
  exact this
theorem straight_int (cost rest nI : Int) (n : Nat) (w : World) (hn : nI = n) (h1 : 0 ≤ cost) (h2 : cost ≤ 1000000000000) (h3 : 0 ≤ rest) (h4 : rest ≤ cost) (h5 : 1 ≤ n) (h6 : n ≤ 40) :
    Calls Try.prog 25 #[.int .i64 cost, .int .i64 rest, .int .i64 nI] w (LinePost w (difl (stB (cost - rest) n) n) n) := by
  subst hn; exact straight_ok cost rest n w h1 h2 h3 h4 h5 h6
theorem digits_int (cost rest nI : Int) (n : Nat) (w : World) (hn : nI = n) (h1 : 0 ≤ cost) (h2 : cost ≤ 1000000000000) (h3 : 0 ≤ rest) (h4 : rest ≤ cost) (h5 : 1 ≤ n) (h6 : n ≤ 40) :
    Calls Try.prog 26 #[.int .i64 cost, .int .i64 rest, .int .i64 nI] w (LinePost w (difl (dgB (cost - rest) n) n) n) := by
  subst hn; exact digits_ok cost rest n w h1 h2 h3 h4 h5 h6
theorem begun_list : difl (stB 0 2) 2 = [0, 0] := by decide

theorem st_mono (D E : Int) (n K : Nat) (h : D ≤ E) (hn : 1 ≤ n) (hK : K ≤ n) : ((difl (stB D n) n).take K).sum ≤ ((difl (stB E n) n).take K).sum := by
  rw [difl_sum _ _ _ hK, difl_sum _ _ _ hK, stB_zero _ _ (by omega), stB_zero _ _ (by omega)]
  have := rnd_mono (D * K) (E * K) n 2 (by omega) (Int.mul_le_mul_of_nonneg_right h (by omega))
  unfold stB; omega
theorem dg_mono (D E : Int) (n K : Nat) (h : D ≤ E) (hn : 1 ≤ n) (hn2 : n ≤ 40) (hK : K ≤ n) : ((difl (dgB D n) n).take K).sum ≤ ((difl (dgB E n) n).take K).sum := by
  obtain ⟨t1, t2, t3, t4, t5, t6, t7, t8⟩ := tri_bd n K (by omega) (by omega) (by omega) (by omega)
  rw [difl_sum _ _ _ hK, difl_sum _ _ _ hK, dgB_zero _ _ t7, dgB_zero _ _ t7]
  have := rnd_mono (D * ((K : Int) * n - K * (K - 1) / 2)) (E * ((K : Int) * n - K * (K - 1) / 2)) ((n : Int) * (n + 1) / 2) 2 t7 (Int.mul_le_mul_of_nonneg_right h t5)
  unfold dgB; omega

set_option maxHeartbeats 1600000 in
set_option maxRecDepth 100000 in
theorem lineMore_walk (w : World) (a : Int) (wa : (Lit.int .i64 a).wf = true) (d : Int) (wd : (Lit.int .i64 d).wf = true) (b : Int) (wb : (Lit.int .i64 b).wf = true) (n : Int) (wn : (Lit.int .i64 n).wf = true) (p : Int) (wp : (Lit.int .i64 p).wf = true) :
    Calls Try.prog 11 #[.int .i64 a, .int .i64 d, .int .i64 b, .int .i64 n, .int .i64 p] w fun e w' => e = .returned (.bool true) ∧ Below w.heap.size w w' := by
  clear wa wd wb wn wp
  have a1 := wi_lo a 500000000000 (by omega)
  have a2 := wi_hi a 500000000000 (by omega)
  have b1 := wi_lo b (wi a 500000000000 + 1) (by omega)
  have b2 := wi_hi b (wi a 500000000000 + 1) (by omega)
  have d1 := wi_lo d 500000000000 (by omega)
  have d2 := wi_hi d 500000000000 (by omega)
  have n1 := wi_lo n 40 (by omega)
  have n2 := wi_hi n 40 (by omega)
  obtain ⟨N, hN⟩ := Int.eq_ofNat_of_zero_le n1
  have p1 := wi_lo p (1 + (N : Int) + 1) (by omega)
  have p2 := wi_hi p (1 + (N : Int) + 1) (by omega)
  obtain ⟨K, hK⟩ := Int.eq_ofNat_of_zero_le p1
  have HA := Lib.hid (fun w => within_any a 500000000000 w (by omega) (by omega))
  have HB := Lib.hid (fun w => within_any b (wi a 500000000000 + 1) w (by omega) (by omega))
  have HD := Lib.hid (fun w => within_any d 500000000000 w (by omega) (by omega))
  have HN := Lib.hid (fun w => within_eq n 40 N w (by omega) (by omega) hN)
  have HK := Lib.hid (fun w => within_eq p (1 + (N : Int) + 1) K w (by omega) (by omega) hK)
  rw [hN] at n1 n2
  rw [hK] at p1 p2
  clear hN hK
  generalize wi b (wi a 500000000000 + 1) = B at *
  generalize wi a 500000000000 = A at *
  generalize wi d 500000000000 = D at *
  have LE1 := Lib.hid (st_mono (A - B) (A + D - B) (N + 1) K (by omega) (by omega) (by omega))
  have LE2 := Lib.hid (dg_mono (A - B) (A + D - B) (N + 1) K (by omega) (by omega) (by omega) (by omega))
  have HX := Lib.hid (difl_bd (stB (A - B) ((N + 1 : Nat) : Int)) (N + 1) 41000000000000 (by omega) (fun k h1 h2 => stB_bd _ _ k (by omega) (by omega) (by omega) h1 (by omega)))
  have HY := Lib.hid (difl_bd (stB (A + D - B) ((N + 1 : Nat) : Int)) (N + 1) 41000000000000 (by omega) (fun k h1 h2 => stB_bd _ _ k (by omega) (by omega) (by omega) h1 (by omega)))
  have HU := Lib.hid (difl_bd (dgB (A - B) ((N + 1 : Nat) : Int)) (N + 1) 1000000000000 (by omega) (fun k h1 h2 => ⟨(dgB_bd _ _ k (by omega) (by omega) (by omega) (by omega) h1 (by omega)).1, by have := dgB_le (A - B) ((N + 1 : Nat) : Int) k (by omega) (by omega) (by omega) h1 (by omega) (by omega); omega⟩))
  have HV := Lib.hid (difl_bd (dgB (A + D - B) ((N + 1 : Nat) : Int)) (N + 1) 1000000000000 (by omega) (fun k h1 h2 => ⟨(dgB_bd _ _ k (by omega) (by omega) (by omega) (by omega) h1 (by omega)).1, by have := dgB_le (A + D - B) ((N + 1 : Nat) : Int) k (by omega) (by omega) (by omega) h1 (by omega) (by omega); omega⟩))
  have CX := Lib.hid (fun w => straight_int A B (1 + (N : Int)) (N + 1) w (by omega) a1 (by omega) b1 (by omega) (by omega) (by omega))
  have CY := Lib.hid (fun w => straight_int (A + D) B (1 + (N : Int)) (N + 1) w (by omega) (by omega) (by omega) b1 (by omega) (by omega) (by omega))
  have CU := Lib.hid (fun w => digits_int A B (1 + (N : Int)) (N + 1) w (by omega) a1 (by omega) b1 (by omega) (by omega) (by omega))
  have CV := Lib.hid (fun w => digits_int (A + D) B (1 + (N : Int)) (N + 1) w (by omega) (by omega) (by omega) b1 (by omega) (by omega) (by omega))
  generalize difl (stB (A - B) ((N + 1 : Nat) : Int)) (N + 1) = X at *
  generalize difl (stB (A + D - B) ((N + 1 : Nat) : Int)) (N + 1) = Y at *
  generalize difl (dgB (A - B) ((N + 1 : Nat) : Int)) (N + 1) = U at *
  generalize difl (dgB (A + D - B) ((N + 1 : Nat) : Int)) (N + 1) = V at *
  go_enter Try.func11, Try.ntmps11
  go_wp2_with fail
  refine (straight_int 7 7 2 2 _ rfl (by omega) (by omega) (by omega) (by omega) (by omega) (by omega)).mono ?_
  rintro e w1 ⟨bs, k, b0, c0, rfl, rfl, _, _, hr⟩
  have HR := Lib.hid hr
  clear hr
  go_wp2_with fail
  refine (equal_yes _ _ _ _ _ _ 2 [0, 0] _ (HR.out.alloc) (row_lit [0, 0] (by simp) rfl) rfl (by omega)).mono ?_
  rintro e w1 ⟨rfl, m, rfl⟩
  clear HR
  go_wp2_with (first | (go_at_call 17; (with_reducible refine (HA.out _).mono ?_); rintro e w1 ⟨rfl, rfl⟩) | (go_at_call 17; (with_reducible refine (HB.out _).mono ?_); rintro e w1 ⟨rfl, rfl⟩) | (go_at_call 17; (with_reducible refine (HD.out _).mono ?_); rintro e w1 ⟨rfl, rfl⟩) | (go_at_call 17; (with_reducible refine (HN.out _).mono ?_); rintro e w1 ⟨rfl, rfl⟩) | (go_at_call 17; (with_reducible refine (HK.out _).mono ?_); rintro e w1 ⟨rfl, rfl⟩))
  refine (CX.out _).mono ?_
  rintro e w1 ⟨bs2, k2, v2, q2, rfl, rfl, hl2, hq2, hr2⟩
  simp [go_sem] at hr2
  have RX := Lib.hid hr2
  have LX := Lib.hid hl2
  clear hr2 hl2
  go_wp2_with fail
  refine (CY.out _).mono ?_
  rintro e w1 ⟨bs3, k3, v3, q3, rfl, rfl, hl3, hq3, hr3⟩
  simp [go_sem] at hr3
  have RY := Lib.hid hr3
  have LY := Lib.hid hl3
  clear hr3 hl3
  go_wp2_with fail
  refine (CU.out _).mono ?_
  rintro e w1 ⟨bs4, k4, v4, q4, rfl, rfl, hl4, hq4, hr4⟩
  simp [go_sem] at hr4
  have RU := Lib.hid hr4
  have LU := Lib.hid hl4
  clear hr4 hl4
  go_wp2_with fail
  refine (CV.out _).mono ?_
  rintro e w1 ⟨bs5, k5, v5, q5, rfl, rfl, hl5, hq5, hr5⟩
  simp [go_sem] at hr5
  have RV := Lib.hid hr5
  have LV := Lib.hid hl5
  clear hr5 hl5
  go_wp2_with fail
  have SX := Lib.hid (fun (W : World) (hR : Row W v2 0 X) => sum_row v2 0 K q2 (X.take K) W hR.take (by rw [List.length_take, LX.out]; omega) (fun x hx => HX.out x (List.mem_of_mem_take hx)) (by omega))
  have y2 : K ≤ q2 := by omega
  have g2 : (K : Int) ≤ (q2 : Int) := by omega
  have SY := Lib.hid (fun (W : World) (hR : Row W v3 0 Y) => sum_row v3 0 K q3 (Y.take K) W hR.take (by rw [List.length_take, LY.out]; omega) (fun x hx => HY.out x (List.mem_of_mem_take hx)) (by omega))
  have y3 : K ≤ q3 := by omega
  have g3 : (K : Int) ≤ (q3 : Int) := by omega
  have SU := Lib.hid (fun (W : World) (hR : Row W v4 0 U) => sum_row v4 0 K q4 (U.take K) W hR.take (by rw [List.length_take, LU.out]; omega) (fun x hx => HU.out x (List.mem_of_mem_take hx)) (by omega))
  have y4 : K ≤ q4 := by omega
  have g4 : (K : Int) ≤ (q4 : Int) := by omega
  have SV := Lib.hid (fun (W : World) (hR : Row W v5 0 V) => sum_row v5 0 K q5 (V.take K) W hR.take (by rw [List.length_take, LV.out]; omega) (fun x hx => HV.out x (List.mem_of_mem_take hx)) (by omega))
  have y5 : K ≤ q5 := by omega
  have g5 : (K : Int) ≤ (q5 : Int) := by omega
  have le1 := LE1.out
  have le2 := LE2.out
  clear LE1 LE2
  generalize (X.take K).sum = S1 at *
  generalize (Y.take K).sum = S2 at *
  generalize (U.take K).sum = S3 at *
  generalize (V.take K).sum = S4 at *
  have dd1 : decide (S1 ≤ S2) = true := by simpa using le1
  have hc : (0 : Int) ≤ (K : Int) := by omega
  go_quiet ((first | (go_at_call 18; (with_reducible refine quiet_eq (SX.out _ ?_)); exact (RX.out.app).drewN) | (go_at_call 18; (with_reducible refine quiet_eq (SY.out _ ?_)); rw [← List.append_assoc]; exact (RY.out.app).drewN) | (go_at_call 18; (with_reducible refine quiet_eq (SU.out _ ?_)); rw [← List.append_assoc bs3, ← List.append_assoc]; exact (RU.out.app).drewN) | (go_at_call 18; (with_reducible refine quiet_eq (SV.out _ ?_)); exact RV.out.drewN)))
  go_wp2_with fail
  go_ret
  exact ⟨ret_b (by first | rfl | (simp; done) | (simp; omega)), (Mor.below (by repeat (first | exact Mor.refl _ | apply Mor.alloc | apply Mor.more | apply Mor.drewN | apply Mor.drew)))⟩

end Go.Proofs.Ytmkmbfficpgmdaa.lineMore
