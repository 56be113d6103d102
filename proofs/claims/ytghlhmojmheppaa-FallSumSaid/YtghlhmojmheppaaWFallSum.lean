/- The walk of talkeep.FallSum. -/
import Derived.Test.YtghlhmojmheppaaFallB
import Derived.Test.YtghlhmojmheppaaMinRow
namespace Go.Proofs.Ytghlhmojmheppaa.fallSum
open Go.ChangeShapes Go.WideShapes Go.ChangeAt Go.RowKit
set_option linter.unusedVariables false

theorem falling_int (cost rest rate nI : Int) (N : Nat) (w : World) (hn : nI = N) (h1 : 0 ≤ cost) (h2 : cost ≤ 1000000000000) (h3 : 0 ≤ rest) (h4 : rest ≤ cost) (h5 : 0 ≤ rate) (h6 : rate ≤ 1000000) (h7 : 1 ≤ N) (h8 : N ≤ 40) :
    Calls Try.prog 15 #[.int .i64 cost, .int .i64 rest, .int .i64 rate, .int .i64 nI] w (FallPost w (flist cost rest rate N N) N) := by
  subst hn; exact falling_ok cost rest rate N w h1 h2 h3 h4 h5 h6 h7 h8
theorem begun_list : flist 100 10 500000 3 3 = [50, 25, 15] := by decide
theorem within_eq (k n v : Int) (w : World) (h1 : 1 ≤ n) (h2 : n ≤ 4000000000000) (h : wi k n = v) :
    Calls Try.prog 17 #[.int .i64 k, .int .i64 n] w fun e w' => e = .returned (.int .i64 v) ∧ w = w' := by
  have := within_any k n w h1 h2
  rw [h] at this
  exact this

/-- no less goes off than the same each time: of what is left -/
theorem part_left (L rest rate n : Int) (h1 : rest ≤ L) (h2 : 0 ≤ rest) (h3 : 0 ≤ rate) (hn : 1 ≤ n) : (L - dstep L rest rate n - rest) * n ≤ (L - rest) * (n - 1) := by
  obtain ⟨d1, d2⟩ := dstep_bd L rest rate n h1 h2 h3 hn
  have up : L - rest ≤ n * rnd (L - rest) n 1 := by
    have e := div_mod (L - rest) n
    have e1 := rnd_1 (L - rest) n
    have r0 := Int.emod_nonneg (L - rest) (show n ≠ 0 by omega)
    have r1 := Int.emod_lt_of_pos (L - rest) (show 0 < n by omega)
    rw [e1, Int.mul_add]
    split <;> omega
  have hd : dstep L rest rate n = min (max (rnd (L * rate) 1000000 2) (rnd (L - rest) n 1)) (L - rest) := rfl
  have low : L - rest ≤ n * dstep L rest rate n := by
    by_cases hc : rnd (L - rest) n 1 ≤ dstep L rest rate n
    · have := Int.mul_le_mul_of_nonneg_left hc (show 0 ≤ n by omega); omega
    · have he : dstep L rest rate n = L - rest := by omega
      rw [he]
      have := Int.mul_le_mul_of_nonneg_right hn (show 0 ≤ L - rest by omega); omega
  have e1 : (L - dstep L rest rate n - rest) * n = (L - rest) * n - n * dstep L rest rate n := by
    rw [show L - dstep L rest rate n - rest = (L - rest) - dstep L rest rate n by omega, Int.sub_mul, Int.mul_comm (dstep L rest rate n)]
  have e2 : (L - rest) * (n - 1) = (L - rest) * n - (L - rest) := by rw [Int.mul_sub, Int.mul_one]
  omega
theorem left_line (cost rest rate : Int) (N : Nat) (h1 : rest ≤ cost) (h2 : 0 ≤ rest) (h3 : 0 ≤ rate) (k : Nat) (hk : k ≤ N) :
    (fleft cost rest rate N k - rest) * N ≤ (cost - rest) * ((N : Int) - k) := by
  induction k with
  | zero => simp [fleft]
  | succ k ih =>
    have i := ih (by omega)
    have l := fleft_bd cost rest rate N h1 h2 h3 k (by omega)
    have p := part_left (fleft cost rest rate N k) rest rate ((N : Int) - k) l.1 h2 h3 (by omega)
    rw [fleft_succ]
    unfold fdd
    generalize fleft cost rest rate N k - dstep (fleft cost rest rate N k) rest rate ((N : Int) - k) - rest = A at *
    generalize fleft cost rest rate N k - rest = B at *
    have hn1 : 0 ≤ (N : Int) - k - 1 := by omega
    have q : A * N * ((N : Int) - k) ≤ (cost - rest) * ((N : Int) - ((k + 1 : Nat) : Int)) * ((N : Int) - k) := by
      have s1 : A * N * ((N : Int) - k) = A * ((N : Int) - k) * N := by ac_rfl
      have s2 : A * ((N : Int) - k) * N ≤ B * ((N : Int) - k - 1) * N := Int.mul_le_mul_of_nonneg_right p (by omega)
      have s3 : B * ((N : Int) - k - 1) * N = B * N * ((N : Int) - k - 1) := by ac_rfl
      have s4 : B * N * ((N : Int) - k - 1) ≤ (cost - rest) * ((N : Int) - k) * ((N : Int) - k - 1) := Int.mul_le_mul_of_nonneg_right i hn1
      have s5 : (cost - rest) * ((N : Int) - k) * ((N : Int) - k - 1) = (cost - rest) * ((N : Int) - ((k + 1 : Nat) : Int)) * ((N : Int) - k) := by
        rw [show (N : Int) - ((k + 1 : Nat) : Int) = (N : Int) - k - 1 by omega]; ac_rfl
      omega
    exact Int.le_of_mul_le_mul_right q (by omega)

set_option maxHeartbeats 1600000 in
theorem ok_walk (w : World) (a b c p : Int) (N : Nat) (h1 : 0 ≤ a) (h2 : a ≤ 1000000000000) (h3 : 0 ≤ b) (h4 : b ≤ a) (h5 : 0 ≤ c) (h6 : c ≤ 1000000) (h7 : 1 ≤ N) (h8 : N ≤ 40) :
    Calls Try.prog 5 #[.int .i64 a, .int .i64 b, .int .i64 c, .int .i64 (N : Int), .int .i64 p] w fun e w' => e = .returned (.bool true) ∧ Below w.heap.size w w' := by
  have p1 := wi_lo p ((N : Int) + 1) (by omega)
  have p2 := wi_hi p ((N : Int) + 1) (by omega)
  obtain ⟨K, hK⟩ := Int.eq_ofNat_of_zero_le p1
  have HK := Lib.hid (fun w => within_eq p ((N : Int) + 1) K w (by omega) (by omega) hK)
  rw [hK] at p1 p2
  clear hK
  have CX := Lib.hid (fun w => falling_int a b c (N : Int) N w rfl h1 h2 h3 h4 h5 h6 h7 h8)
  have e1 := flist_sum_all a b c N N
  rw [fleft_end a b c N h4 h3 h5 h7] at e1
  have HS := Lib.hid e1
  have e2 := flist_sum_all a b c N K
  rw [← flist_take a b c N N K (by omega)] at e2
  have ll := left_line a b c N h4 h3 h5 K (by omega)
  have lb := fleft_bd a b c N h4 h3 h5 K (by omega)
  have HB := Lib.hid (flist_bd a b c N N h3 h4 h2 h5 (by omega))
  have HP := Lib.hid (show ∀ k, k < N → 0 ≤ (flist a b c N N).getD k 0 from fun k hk => by
    rw [flist_get _ _ _ _ _ _ hk]
    have l := fleft_bd a b c N h4 h3 h5 k (by omega)
    exact (dstep_bd _ b c _ l.1 h3 h5 (by omega)).1)
  have hge : (a - b) * (K : Int) ≤ ((flist a b c N N).take K).sum * N := by
    rw [e2]
    have t1 : (a - fleft a b c N K) * (N : Int) = (a - b) * N - (fleft a b c N K - b) * N := by
      rw [← Int.sub_mul]; congr 1; omega
    rw [Int.mul_sub] at ll
    omega
  have hs0 : 0 ≤ ((flist a b c N N).take K).sum := by omega
  have hs1 : ((flist a b c N N).take K).sum ≤ 1000000000000 := by omega
  have bb := prod_bd ((flist a b c N N).take K).sum N 1000000000000 40 (by omega) hs1 (by omega) (by omega) (by omega)
  have bk := prod_bd (a - b) K 1000000000000 41 (by omega) (by omega) (by omega) (by omega) (by omega)
  obtain ⟨bb1, bb2⟩ := bb
  obtain ⟨bk1, bk2⟩ := bk
  clear e1 e2 ll lb
  generalize flist a b c N N = X at *
  go_enter Try.func5, Try.ntmps5
  go_wp2_with fail
  refine (falling_int 100 10 500000 3 3 _ rfl (by omega) (by omega) (by omega) (by omega) (by omega) (by omega) (by omega) (by omega)).mono ?_
  rintro e w1 ⟨bs, k, b0, c0, rfl, rfl, _, _, hr⟩
  have HR := Lib.hid hr
  clear hr
  go_wp2_with fail
  refine (equal_yes _ _ _ _ _ _ 3 [50, 25, 15] _ (HR.out.alloc) (row_lit [50, 25, 15] (by simp) rfl) rfl (by omega)).mono ?_
  rintro e w1 ⟨rfl, m, rfl⟩
  clear HR
  go_wp2_with fail
  refine (CX.out _).mono ?_
  rintro e w1 ⟨bs2, k2, v2, q2, rfl, rfl, hl2, hq2, hr2⟩
  simp [go_sem] at hr2
  have RX := Lib.hid hr2
  have LX := Lib.hid hl2
  clear hr2 hl2
  go_wp2_with fail
  refine (sum_row _ _ _ _ X _ RX.out LX.out HB.out (by omega)).mono ?_
  rw [HS.out]
  rintro e w1 ⟨rfl, rfl⟩
  go_wp2_with fail
  refine (min_row _ _ _ _ X _ RX.out LX.out h7 (by omega)).mono ?_
  rintro e w1 ⟨i, hi, rfl, rfl⟩
  have hmin := HP.out i hi
  generalize X.getD i 0 = mn at *
  go_wp2_with fail
  refine (HK.out _).mono ?_
  rintro e w1 ⟨rfl, rfl⟩
  have hc : (0 : Int) ≤ (K : Int) := by omega
  have g2 : (K : Int) ≤ (q2 : Int) := by omega
  have y2 : K ≤ q2 := by omega
  go_wp2_with fail
  refine (sum_row _ _ _ _ (X.take K) _ RX.out.take (by rw [List.length_take, LX.out]; omega) (fun x hx => HB.out x (List.mem_of_mem_take hx)) (by omega)).mono ?_
  rintro e w1 ⟨rfl, rfl⟩
  generalize (X.take K).sum = S at *
  go_wp2_with fail
  go_ret
  exact ⟨ret_b (by first | rfl | (simp; done) | (simp; omega)), (Mor.below (by repeat (first | exact Mor.refl _ | apply Mor.alloc | apply Mor.more | apply Mor.drewN | apply Mor.drew)))⟩

theorem fallSum_walk (w : World) (a : Int) (wa : (Lit.int .i64 a).wf = true) (b : Int) (wb : (Lit.int .i64 b).wf = true) (c : Int) (wc : (Lit.int .i64 c).wf = true) (n : Int) (wn : (Lit.int .i64 n).wf = true) (p : Int) (wp : (Lit.int .i64 p).wf = true) :
    Calls Try.prog 5 #[.int .i64 a, .int .i64 b, .int .i64 c, .int .i64 n, .int .i64 p] w fun e w' => e = .returned (.bool true) ∧ Below w.heap.size w w' := by
  by_cases h : lookF a b n ∧ 0 ≤ c ∧ c ≤ 1000000
  · obtain ⟨⟨h1, h2, h3, h4, h5, h6⟩, h7, h8⟩ := h
    obtain ⟨N, rfl⟩ := Int.eq_ofNat_of_zero_le (show 0 ≤ n by omega)
    exact ok_walk w a b c p N h1 h2 h3 h4 h7 h8 (by omega) (by omega)
  · have CX := Lib.hid (fun w => falling_no a b c n w h)
    clear h
    go_enter Try.func5, Try.ntmps5
    go_wp2_with fail
    refine (falling_int 100 10 500000 3 3 _ rfl (by omega) (by omega) (by omega) (by omega) (by omega) (by omega) (by omega) (by omega)).mono ?_
    rintro e w1 ⟨bs, k, b0, c0, rfl, rfl, _, _, hr⟩
    have HR := Lib.hid hr
    clear hr
    go_wp2_with fail
    refine (equal_yes _ _ _ _ _ _ 3 [50, 25, 15] _ (HR.out.alloc) (row_lit [50, 25, 15] (by simp) rfl) rfl (by omega)).mono ?_
    rintro e w1 ⟨rfl, m, rfl⟩
    clear HR
    go_wp2_with fail
    refine (CX.out _).mono ?_
    rintro e w1 ⟨rfl, rfl⟩
    go_wp2_with fail
    go_ret
    exact ⟨ret_b (by first | rfl | (simp; done) | (simp; omega)), (Mor.below (by repeat (first | exact Mor.refl _ | apply Mor.alloc | apply Mor.more | apply Mor.drewN | apply Mor.drew)))⟩

end Go.Proofs.Ytghlhmojmheppaa.fallSum
