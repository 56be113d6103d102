/- The walk of talkeep.FallFaster. -/
import Derived.Test.YtghlhmojmheppaaPlainX
import Derived.Test.YtghlhmojmheppaaFallA
namespace Go.Proofs.Ytghlhmojmheppaa.fallFaster
open Go.ChangeShapes Go.WideShapes Go.ChangeAt Go.RowKit
set_option linter.unusedVariables false

theorem begun_list : flist 90 0 0 3 3 = [30, 30, 30] := by decide
theorem within_eq (k n v : Int) (w : World) (h1 : 1 ≤ n) (h2 : n ≤ 4000000000000) (h : wi k n = v) :
    Calls Try.prog 17 #[.int .i64 k, .int .i64 n] w fun e w' => e = .returned (.int .i64 v) ∧ w = w' := by
  have := within_any k n w h1 h2
  rw [h] at this
  exact this
theorem falling_int (cost rest rate nI : Int) (N : Nat) (w : World) (hn : nI = N) (h1 : 0 ≤ cost) (h2 : cost ≤ 1000000000000) (h3 : 0 ≤ rest) (h4 : rest ≤ cost) (h5 : 0 ≤ rate) (h6 : rate ≤ 1000000) (h7 : 1 ≤ N) (h8 : N ≤ 40) :
    Calls Try.prog 15 #[.int .i64 cost, .int .i64 rest, .int .i64 rate, .int .i64 nI] w (FallPost w (flist cost rest rate N N) N) := by
  subst hn; exact falling_ok cost rest rate N w h1 h2 h3 h4 h5 h6 h7 h8

set_option maxHeartbeats 1200000 in
set_option maxRecDepth 100000 in
theorem fallFaster_walk (w : World) (a : Int) (wa : (Lit.int .i64 a).wf = true) (b : Int) (wb : (Lit.int .i64 b).wf = true) (c : Int) (wc : (Lit.int .i64 c).wf = true) (d : Int) (wd : (Lit.int .i64 d).wf = true) (f : Int) (wf : (Lit.int .i64 f).wf = true) (n : Int) (wn : (Lit.int .i64 n).wf = true) (p : Int) (wp : (Lit.int .i64 p).wf = true) :
    Calls Try.prog 3 #[.int .i64 a, .int .i64 b, .int .i64 c, .int .i64 d, .int .i64 f, .int .i64 n, .int .i64 p] w fun e w' => e = .returned (.bool true) ∧ Below w.heap.size w w' := by
  clear wa wb wc wd wf wn wp
  have a1 := wi_lo a 1000000000001 (by omega)
  have a2 := wi_hi a 1000000000001 (by omega)
  have b1 := wi_lo b (wi a 1000000000001 + 1) (by omega)
  have b2 := wi_hi b (wi a 1000000000001 + 1) (by omega)
  have c1 := wi_lo c 500000 (by omega)
  have c2 := wi_hi c 500000 (by omega)
  have d1 := wi_lo d 500000 (by omega)
  have d2 := wi_hi d 500000 (by omega)
  have n1 := wi_lo n 40 (by omega)
  have n2 := wi_hi n 40 (by omega)
  obtain ⟨N, hN⟩ := Int.eq_ofNat_of_zero_le n1
  have p1 := wi_lo p (1 + (N : Int) + 1) (by omega)
  have p2 := wi_hi p (1 + (N : Int) + 1) (by omega)
  obtain ⟨K, hK⟩ := Int.eq_ofNat_of_zero_le p1
  have f1 := wi_lo f (wi b (wi a 1000000000001 + 1) + 1) (by omega)
  have f2 := wi_hi f (wi b (wi a 1000000000001 + 1) + 1) (by omega)
  have HA := Lib.hid (fun w => within_any a 1000000000001 w (by omega) (by omega))
  have HB := Lib.hid (fun w => within_any b (wi a 1000000000001 + 1) w (by omega) (by omega))
  have HC := Lib.hid (fun w => within_any c 500000 w (by omega) (by omega))
  have HD := Lib.hid (fun w => within_any d 500000 w (by omega) (by omega))
  have HF := Lib.hid (fun w => within_any f (wi b (wi a 1000000000001 + 1) + 1) w (by omega) (by omega))
  have HN := Lib.hid (fun w => within_eq n 40 N w (by omega) (by omega) hN)
  have HK := Lib.hid (fun w => within_eq p (1 + (N : Int) + 1) K w (by omega) (by omega) hK)
  rw [hN] at n1 n2
  rw [hK] at p1 p2
  clear hN hK
  generalize wi f (wi b (wi a 1000000000001 + 1) + 1) = F at *
  generalize wi b (wi a 1000000000001 + 1) = B at *
  generalize wi a 1000000000001 = A at *
  generalize wi c 500000 = C at *
  generalize wi d 500000 = D at *
  have m1 := fleft_mono A B B (C + D) C ((N + 1 : Nat) : Int) (by omega) b1 (by omega) (by omega) c1 (by omega) K (by omega)
  have m2 := fleft_mono A (B - F) B C C ((N + 1 : Nat) : Int) (by omega) (by omega) (by omega) (by omega) c1 (by omega) K (by omega)
  have x1 := flist_sum_all A B C ((N + 1 : Nat) : Int) K
  have x2 := flist_sum_all A B (C + D) ((N + 1 : Nat) : Int) K
  have x3 := flist_sum_all A (B - F) C ((N + 1 : Nat) : Int) K
  rw [← flist_take A B C _ (N + 1) K (by omega)] at x1
  rw [← flist_take A B (C + D) _ (N + 1) K (by omega)] at x2
  rw [← flist_take A (B - F) C _ (N + 1) K (by omega)] at x3
  have t1 := fleft_bd A B C ((N + 1 : Nat) : Int) (by omega) b1 c1 K (by omega)
  have t2 := fleft_bd A B (C + D) ((N + 1 : Nat) : Int) (by omega) b1 (by omega) K (by omega)
  have t3 := fleft_bd A (B - F) C ((N + 1 : Nat) : Int) (by omega) (by omega) c1 K (by omega)
  have le1 : ((flist A B C ((N + 1 : Nat) : Int) (N + 1)).take K).sum ≤ ((flist A B (C + D) ((N + 1 : Nat) : Int) (N + 1)).take K).sum := by omega
  have le2 : ((flist A B C ((N + 1 : Nat) : Int) (N + 1)).take K).sum ≤ ((flist A (B - F) C ((N + 1 : Nat) : Int) (N + 1)).take K).sum := by omega
  have HX := Lib.hid (flist_bd A B C ((N + 1 : Nat) : Int) (N + 1) b1 (by omega) (by omega) c1 (by omega))
  have HY := Lib.hid (flist_bd A B (C + D) ((N + 1 : Nat) : Int) (N + 1) b1 (by omega) (by omega) (by omega) (by omega))
  have HZ := Lib.hid (flist_bd A (B - F) C ((N + 1 : Nat) : Int) (N + 1) (by omega) (by omega) (by omega) c1 (by omega))
  have CX := Lib.hid (fun w => falling_int A B C (1 + (N : Int)) (N + 1) w (by omega) a1 (by omega) b1 (by omega) c1 (by omega) (by omega) (by omega))
  have CY := Lib.hid (fun w => falling_int A B (C + D) (1 + (N : Int)) (N + 1) w (by omega) a1 (by omega) b1 (by omega) (by omega) (by omega) (by omega) (by omega))
  have CZ := Lib.hid (fun w => falling_int A (B - F) C (1 + (N : Int)) (N + 1) w (by omega) a1 (by omega) (by omega) (by omega) c1 (by omega) (by omega) (by omega))
  clear m1 m2 x1 x2 x3 t1 t2 t3
  generalize flist A B C ((N + 1 : Nat) : Int) (N + 1) = X at *
  generalize flist A B (C + D) ((N + 1 : Nat) : Int) (N + 1) = Y at *
  generalize flist A (B - F) C ((N + 1 : Nat) : Int) (N + 1) = Z at *
  have LE1 := Lib.hid le1
  have LE2 := Lib.hid le2
  clear le1 le2
  go_enter Try.func3, Try.ntmps3
  go_wp2_with fail
  refine (falling_int 90 0 0 3 3 _ rfl (by omega) (by omega) (by omega) (by omega) (by omega) (by omega) (by omega) (by omega)).mono ?_
  rintro e w1 ⟨bs, k, b0, c0, rfl, rfl, _, _, hr⟩
  have HR := Lib.hid hr
  clear hr
  go_wp2_with fail
  refine (equal_yes _ _ _ _ _ _ 3 [30, 30, 30] _ (HR.out.alloc) (row_lit [30, 30, 30] (by simp) rfl) rfl (by omega)).mono ?_
  rintro e w1 ⟨rfl, m, rfl⟩
  clear HR
  go_wp2_with (first | (go_at_call 17; (with_reducible refine (HA.out _).mono ?_); rintro e w1 ⟨rfl, rfl⟩) | (go_at_call 17; (with_reducible refine (HB.out _).mono ?_); rintro e w1 ⟨rfl, rfl⟩) | (go_at_call 17; (with_reducible refine (HC.out _).mono ?_); rintro e w1 ⟨rfl, rfl⟩) | (go_at_call 17; (with_reducible refine (HD.out _).mono ?_); rintro e w1 ⟨rfl, rfl⟩) | (go_at_call 17; (with_reducible refine (HF.out _).mono ?_); rintro e w1 ⟨rfl, rfl⟩) | (go_at_call 17; (with_reducible refine (HN.out _).mono ?_); rintro e w1 ⟨rfl, rfl⟩) | (go_at_call 17; (with_reducible refine (HK.out _).mono ?_); rintro e w1 ⟨rfl, rfl⟩))
  refine (CX.out _).mono ?_
  rintro e w1 ⟨bs2, k2, v2, q2, rfl, rfl, hl2, hq2, hr2⟩
  simp [go_sem] at hr2
  have RX := Lib.hid hr2
  have LX := Lib.hid hl2
  clear hr2 hl2
  go_wp2_with (first | (go_at_call 17; (with_reducible refine (HA.out _).mono ?_); rintro e w1 ⟨rfl, rfl⟩) | (go_at_call 17; (with_reducible refine (HB.out _).mono ?_); rintro e w1 ⟨rfl, rfl⟩) | (go_at_call 17; (with_reducible refine (HC.out _).mono ?_); rintro e w1 ⟨rfl, rfl⟩) | (go_at_call 17; (with_reducible refine (HD.out _).mono ?_); rintro e w1 ⟨rfl, rfl⟩) | (go_at_call 17; (with_reducible refine (HF.out _).mono ?_); rintro e w1 ⟨rfl, rfl⟩) | (go_at_call 17; (with_reducible refine (HN.out _).mono ?_); rintro e w1 ⟨rfl, rfl⟩) | (go_at_call 17; (with_reducible refine (HK.out _).mono ?_); rintro e w1 ⟨rfl, rfl⟩))
  refine (CY.out _).mono ?_
  rintro e w1 ⟨bs3, k3, v3, q3, rfl, rfl, hl3, hq3, hr3⟩
  simp [go_sem] at hr3
  have RY := Lib.hid hr3
  have LY := Lib.hid hl3
  clear hr3 hl3
  go_wp2_with (first | (go_at_call 17; (with_reducible refine (HA.out _).mono ?_); rintro e w1 ⟨rfl, rfl⟩) | (go_at_call 17; (with_reducible refine (HB.out _).mono ?_); rintro e w1 ⟨rfl, rfl⟩) | (go_at_call 17; (with_reducible refine (HC.out _).mono ?_); rintro e w1 ⟨rfl, rfl⟩) | (go_at_call 17; (with_reducible refine (HD.out _).mono ?_); rintro e w1 ⟨rfl, rfl⟩) | (go_at_call 17; (with_reducible refine (HF.out _).mono ?_); rintro e w1 ⟨rfl, rfl⟩) | (go_at_call 17; (with_reducible refine (HN.out _).mono ?_); rintro e w1 ⟨rfl, rfl⟩) | (go_at_call 17; (with_reducible refine (HK.out _).mono ?_); rintro e w1 ⟨rfl, rfl⟩))
  refine (CZ.out _).mono ?_
  rintro e w1 ⟨bs4, k4, v4, q4, rfl, rfl, hl4, hq4, hr4⟩
  simp [go_sem] at hr4
  have RZ := Lib.hid hr4
  have LZ := Lib.hid hl4
  clear hr4 hl4
  have SX := Lib.hid (fun (W : World) (hR : Row W v2 0 X) => sum_row v2 0 K q2 (X.take K) W hR.take (by rw [List.length_take, LX.out]; omega) (fun x hx => HX.out x (List.mem_of_mem_take hx)) (by omega))
  have SY := Lib.hid (fun (W : World) (hR : Row W v3 0 Y) => sum_row v3 0 K q3 (Y.take K) W hR.take (by rw [List.length_take, LY.out]; omega) (fun x hx => HY.out x (List.mem_of_mem_take hx)) (by omega))
  have SZ := Lib.hid (fun (W : World) (hR : Row W v4 0 Z) => sum_row v4 0 K q4 (Z.take K) W hR.take (by rw [List.length_take, LZ.out]; omega) (fun x hx => HZ.out x (List.mem_of_mem_take hx)) (by omega))
  have le1 := LE1.out
  have le2 := LE2.out
  clear LE1 LE2
  generalize (X.take K).sum = S1 at *
  generalize (Y.take K).sum = S2 at *
  generalize (Z.take K).sum = S3 at *
  have d1' : decide (S1 ≤ S2) = true := by simpa using le1
  have hc : (0 : Int) ≤ (K : Int) := by omega
  have g2 : (K : Int) ≤ (q2 : Int) := by omega
  have g3 : (K : Int) ≤ (q3 : Int) := by omega
  have g4 : (K : Int) ≤ (q4 : Int) := by omega
  have y2 : K ≤ q2 := by omega
  have y3 : K ≤ q3 := by omega
  have y4 : K ≤ q4 := by omega
  go_wp2_with fail
  go_quiet ((first | (go_at_call 18; (with_reducible refine quiet_eq (SX.out _ ?_)); exact (RX.out.app).drewN) | (go_at_call 18; (with_reducible refine quiet_eq (SY.out _ ?_)); rw [← List.append_assoc]; exact (RY.out.app).drewN) | (go_at_call 18; (with_reducible refine quiet_eq (SZ.out _ ?_)); exact RZ.out.drewN)))
  go_wp2_with fail
  go_ret
  exact ⟨ret_b (by first | rfl | (simp; done) | (simp; omega)), (Mor.below (by repeat (first | exact Mor.refl _ | apply Mor.alloc | apply Mor.more | apply Mor.drewN | apply Mor.drew)))⟩

end Go.Proofs.Ytghlhmojmheppaa.fallFaster
