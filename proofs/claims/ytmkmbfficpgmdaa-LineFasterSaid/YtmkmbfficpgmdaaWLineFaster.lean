/- The walk of talkeep.LineFaster. -/
import Derived.Test.YtmkmbfficpgmdaaPlainK
import Derived.Test.YtmkmbfficpgmdaaMinV
import Derived.Test.YtmkmbfficpgmdaaMaxV
namespace Go.Proofs.Ytmkmbfficpgmdaa.lineFaster
open Go.ChangeShapes Go.WideShapes Go.ChangeAt Go.RowKit
set_option linter.unusedVariables false

theorem straight_int (cost rest nI : Int) (n : Nat) (w : World) (hn : nI = n) (h1 : 0 ≤ cost) (h2 : cost ≤ 1000000000000) (h3 : 0 ≤ rest) (h4 : rest ≤ cost) (h5 : 1 ≤ n) (h6 : n ≤ 40) :
    Calls Try.prog 25 #[.int .i64 cost, .int .i64 rest, .int .i64 nI] w (LinePost w (difl (stB (cost - rest) n) n) n) := by
  subst hn; exact straight_ok cost rest n w h1 h2 h3 h4 h5 h6
theorem digits_int (cost rest nI : Int) (n : Nat) (w : World) (hn : nI = n) (h1 : 0 ≤ cost) (h2 : cost ≤ 1000000000000) (h3 : 0 ≤ rest) (h4 : rest ≤ cost) (h5 : 1 ≤ n) (h6 : n ≤ 40) :
    Calls Try.prog 26 #[.int .i64 cost, .int .i64 rest, .int .i64 nI] w (LinePost w (difl (dgB (cost - rest) n) n) n) := by
  subst hn; exact digits_ok cost rest n w h1 h2 h3 h4 h5 h6
theorem within_eq (k n v : Int) (w : World) (h1 : 1 ≤ n) (h2 : n ≤ 4000000000000) (h : wi k n = v) :
    Calls Try.prog 17 #[.int .i64 k, .int .i64 n] w fun e w' => e = .returned (.int .i64 v) ∧ w = w' := by
  have := within_any k n w h1 h2
  rw [h] at this
  exact this
theorem beg_list : difl (dgB (10 - 0) (1 : Nat)) 1 = [10] := by decide

set_option maxRecDepth 100000 in
set_option maxHeartbeats 3200000 in
theorem lineFaster_walk (w : World) (c : Int) (wc : (Lit.int .i64 c).wf = true) (r : Int) (wr : (Lit.int .i64 r).wf = true) (n : Int) (wn : (Lit.int .i64 n).wf = true) (k : Int) (wk : (Lit.int .i64 k).wf = true) :
    Calls Try.prog 13 #[.int .i64 c, .int .i64 r, .int .i64 n, .int .i64 k] w fun e w' => e = .returned (.bool true) ∧ Below w.heap.size w w' := by
  have a0 := wi_lo c 1000000000001 (by omega)
  have a1 := wi_hi c 1000000000001 (by omega)
  have HA := Lib.hid (fun w => within_any c 1000000000001 w (by omega) (by omega))
  generalize wi c 1000000000001 = A at *
  have b0 := wi_lo r (A + 1) (by omega)
  have b1 := wi_hi r (A + 1) (by omega)
  have HB := Lib.hid (fun w => within_any r (A + 1) w (by omega) (by omega))
  generalize wi r (A + 1) = B at *
  have n0 := wi_lo n 40 (by omega)
  have n1 := wi_hi n 40 (by omega)
  obtain ⟨N, hN⟩ := Int.eq_ofNat_of_zero_le n0
  have HN := Lib.hid (fun w => within_eq n 40 N w (by omega) (by omega) hN)
  rw [hN] at n0 n1
  clear hN
  have k0 := wi_lo k (1 + (N : Int) + 1) (by omega)
  have k1 := wi_hi k (1 + (N : Int) + 1) (by omega)
  obtain ⟨K, hK⟩ := Int.eq_ofNat_of_zero_le k0
  have HK := Lib.hid (fun w => within_eq k (1 + (N : Int) + 1) K w (by omega) (by omega) hK)
  rw [hK] at k0 k1
  clear hK
  have cN : ((N + 1 : Nat) : Int) = 1 + (N : Int) := by omega
  have h5 : 1 ≤ ((N + 1 : Nat) : Int) := by omega
  have h6 : ((N + 1 : Nat) : Int) ≤ 40 := by omega
  have t7 := (tri_bd ((N + 1 : Nat) : Int) ((N + 1 : Nat) : Int) h5 h6 (by omega) (by omega)).2.2.2.2.2.2.1
  have CX := Lib.hid (fun w => straight_int A B (1 + (N : Int)) (N + 1) w (by omega) a0 (by omega) b0 (by omega) (by omega) (by omega))
  have CY := Lib.hid (fun w => digits_int A B (1 + (N : Int)) (N + 1) w (by omega) a0 (by omega) b0 (by omega) (by omega) (by omega))
  have HXB := Lib.hid (difl_bd (stB (A - B) ((N + 1 : Nat) : Int)) (N + 1) 1000000000000 (by omega) (fun k k1 k2 => by
    have z := stB_zero (A - B) ((N + 1 : Nat) : Int) h5
    have y := stB_all (A - B) ((N + 1 : Nat) : Int) h5
    have p := rnd_mono ((A - B) * 0) ((A - B) * k) ((N + 1 : Nat) : Int) 2 h5 (Int.mul_le_mul_of_nonneg_left k1 (by omega))
    have q := rnd_mono ((A - B) * k) ((A - B) * ((N + 1 : Nat) : Int)) ((N + 1 : Nat) : Int) 2 h5 (Int.mul_le_mul_of_nonneg_left k2 (by omega))
    unfold stB at *
    omega))
  have HYB := Lib.hid (difl_bd (dgB (A - B) ((N + 1 : Nat) : Int)) (N + 1) 1000000000000 (by omega) (fun k k1 k2 => ⟨(dgB_bd _ _ k (by omega) (by omega) h5 h6 k1 (by omega)).1, by have := dgB_le (A - B) ((N + 1 : Nat) : Int) k (by omega) h5 h6 k1 (by omega) (by omega); omega⟩))
  have hle : ((difl (stB (A - B) ((N + 1 : Nat) : Int)) (N + 1)).take K).sum ≤ ((difl (dgB (A - B) ((N + 1 : Nat) : Int)) (N + 1)).take K).sum := by
    rw [difl_sum _ _ _ (by omega), difl_sum _ _ _ (by omega), stB_zero _ _ h5, dgB_zero _ _ t7]
    have := dg_ge_st (A - B) ((N + 1 : Nat) : Int) K (by omega) h5 h6 (by omega) (by omega)
    omega
  have HNY := Lib.hid (fun i (h1 : 1 ≤ i) (h2 : i < N + 1) => show (difl (dgB (A - B) ((N + 1 : Nat) : Int)) (N + 1)).getD i 0 ≤ (difl (dgB (A - B) ((N + 1 : Nat) : Int)) (N + 1)).getD (i - 1) 0 + 1 from by
    rw [difl_get _ _ _ h2, difl_get _ _ _ (by omega)]
    have := dg_near (A - B) ((N + 1 : Nat) : Int) i (by omega) h5 h6 (by omega) (by omega)
    rw [show ((i - 1 : Nat) : Int) = (i : Int) - 1 by omega, show (i : Int) - 1 + 1 = i by omega]
    omega)
  have hmm : mxv (difl (stB (A - B) ((N + 1 : Nat) : Int)) (N + 1)) (N + 1) - mnv (difl (stB (A - B) ((N + 1 : Nat) : Int)) (N + 1)) (N + 1) ≤ 1 := by
    have key := mxv_le (difl (stB (A - B) ((N + 1 : Nat) : Int)) (N + 1)) (N + 1) (by omega) (mnv (difl (stB (A - B) ((N + 1 : Nat) : Int)) (N + 1)) (N + 1) + 1) (fun i hi => by
      have := le_mnv (difl (stB (A - B) ((N + 1 : Nat) : Int)) (N + 1)) (N + 1) (by omega) ((difl (stB (A - B) ((N + 1 : Nat) : Int)) (N + 1)).getD i 0 - 1) (fun j hj => by
        rw [difl_get _ _ _ hi, difl_get _ _ _ hj]
        have := st_near (A - B) ((N + 1 : Nat) : Int) i j (by omega) h5 (by omega) (by omega)
        omega)
      omega)
    omega
  have HXE := Lib.hid (show ∀ i, i < N + 1 → -1000000000000000 ≤ (difl (stB (A - B) ((N + 1 : Nat) : Int)) (N + 1)).getD i 0 ∧ (difl (stB (A - B) ((N + 1 : Nat) : Int)) (N + 1)).getD i 0 ≤ 1000000000000000 from fun i _ => getD_bd _ i 1000000000000000 (by omega) HXB.out)
  have mb1 : -1000000000000000 ≤ mnv (difl (stB (A - B) ((N + 1 : Nat) : Int)) (N + 1)) (N + 1) := le_mnv _ _ (by omega) _ (fun i hi => (HXE.out i hi).1)
  have mb2 : mxv (difl (stB (A - B) ((N + 1 : Nat) : Int)) (N + 1)) (N + 1) ≤ 1000000000000000 := mxv_le _ _ (by omega) _ (fun i hi => (HXE.out i hi).2)
  have mb3 : mnv (difl (stB (A - B) ((N + 1 : Nat) : Int)) (N + 1)) (N + 1) ≤ 1000000000000000 := by
    have : ∀ xs : List Int, ∀ n, 1 ≤ n → mnv xs n ≤ xs.getD 0 0 := by
      intro xs n
      induction n with
      | zero => intro h; omega
      | succ n ih =>
        intro _
        by_cases e : n = 0
        · subst e; rw [mnv_one]; exact Int.le_refl _
        · have := ih (by omega); simp only [mnv]; omega
    have a := this (difl (stB (A - B) ((N + 1 : Nat) : Int)) (N + 1)) (N + 1) (by omega)
    have b := (HXE.out 0 (by omega)).2
    omega
  have mb4 : -1000000000000000 ≤ mxv (difl (stB (A - B) ((N + 1 : Nat) : Int)) (N + 1)) (N + 1) := by
    have : ∀ xs : List Int, ∀ n, 1 ≤ n → xs.getD 0 0 ≤ mxv xs n := by
      intro xs n
      induction n with
      | zero => intro h; omega
      | succ n ih =>
        intro _
        by_cases e : n = 0
        · subst e; rw [mxv_one]; exact Int.le_refl _
        · have := ih (by omega); simp only [mxv]; omega
    have a := this (difl (stB (A - B) ((N + 1 : Nat) : Int)) (N + 1)) (N + 1) (by omega)
    have b := (HXE.out 0 (by omega)).1
    omega
  clear t7 cN h5 h6
  generalize difl (stB (A - B) ((N + 1 : Nat) : Int)) (N + 1) = X at *
  generalize difl (dgB (A - B) ((N + 1 : Nat) : Int)) (N + 1) = Y at *
  go_enter Try.func13, Try.ntmps13
  go_wp2_with fail
  refine (digits_int 10 0 1 1 _ rfl (by omega) (by omega) (by omega) (by omega) (by omega) (by omega)).mono ?_
  rintro e w1 ⟨bs, k, b0, c0, rfl, rfl, _, _, hr⟩
  rw [beg_list] at hr
  have HR := Lib.hid hr
  clear hr
  go_wp2_with fail
  refine (equal_yes _ _ _ _ _ _ 1 [10] _ (HR.out.alloc) (row_lit [10] (by simp) rfl) rfl (by omega)).mono ?_
  rintro e w1 ⟨rfl, m, rfl⟩
  clear HR
  go_wp2_with (first | (go_at_call 17; (with_reducible refine (HA.out _).mono ?_); rintro e w1 ⟨rfl, rfl⟩) | (go_at_call 17; (with_reducible refine (HB.out _).mono ?_); rintro e w1 ⟨rfl, rfl⟩) | (go_at_call 17; (with_reducible refine (HN.out _).mono ?_); rintro e w1 ⟨rfl, rfl⟩))
  refine (CX.out _).mono ?_
  rintro e w1 ⟨bs2, k2, v2, q2, rfl, rfl, hl2, hq2, hr2⟩
  (try simp [go_sem] at hr2)
  have RX := Lib.hid hr2
  have LX := Lib.hid hl2
  clear hr2 hl2
  go_wp2_with fail
  refine (CY.out _).mono ?_
  rintro e w1 ⟨bs3, k3, v3, q3, rfl, rfl, hl3, hq3, hr3⟩
  (try simp [go_sem] at hr3)
  have RY := Lib.hid hr3
  have LY := Lib.hid hl3
  clear hr3 hl3
  go_wp2_with (first | (go_at_call 17; (with_reducible refine (HK.out _).mono ?_); rintro e w1 ⟨rfl, rfl⟩))
  go_loopw [15] (fun i wr => ∃ i0 : Nat, 1 ≤ i0 ∧ i0 ≤ N + 1 ∧ i = .int .i64 i0 ∧ Hid (Mor w wr ∧ Row wr v2 0 X ∧ Row wr v3 0 Y)) (fun i _ => N + 1 - (intOf i).toNat)
  case atStart => exact ⟨1, by omega, by omega, rfl, Lib.hid ⟨by repeat (first | exact Mor.refl _ | apply Mor.alloc | apply Mor.more | apply Mor.drewN | apply Mor.drew), RX.out.app, RY.out⟩⟩
  case round =>
    obtain ⟨i0, hi1, hi2, rfl, hw⟩ := hrel
    by_cases hlt : i0 < N + 1
    · have hki : (i0 : Int) < 1 + (N : Int) := by omega
      have hki2 : (i0 : Int) < ((N + 1 : Nat) : Int) := by omega
      have cy := hw.out.2.2.get i0 (by rw [LY.out]; exact hlt)
      have cy1 := hw.out.2.2.get (i0 - 1) (by rw [LY.out]; omega)
      rw [Nat.zero_add] at cy cy1
      have hny := HNY.out i0 hi1 hlt
      have yb := getD_bd Y i0 1000000000000000 (by omega) HYB.out
      have yb1 := getD_bd Y (i0 - 1) 1000000000000000 (by omega) HYB.out
      obtain ⟨yb2, yb3⟩ := yb
      obtain ⟨yb4, yb5⟩ := yb1
      generalize Y.getD i0 0 = y at *
      generalize Y.getD (i0 - 1) 0 = y1 at *
      have kw1 : IntKind.i64.wrap ((i0 : Int) - 1) = ((i0 - 1 : Nat) : Int) := by rw [IntWalk.i64_in _ (by omega)]; omega
      have kw2 : IntKind.i64.wrap (y1 + 1) = y1 + 1 := IntWalk.i64_in _ (by omega)
      have kz : (0 : Int) ≤ ((i0 - 1 : Nat) : Int) := by omega
      have kz2 : ((i0 - 1 : Nat) : Int) < ((N + 1 : Nat) : Int) := by omega
      have f1 : decide (y1 + 1 < y) = false := by simp; omega
      go_wp2
      go_quiet (fail)
      clear kw1 kw2
      go_wp2
      go_roundw
      case rel => exact ⟨i0 + 1, by omega, by omega, by go_num, Lib.hid ⟨hw.out.1.drewN, hw.out.2.1, hw.out.2.2⟩⟩
      case measure => simp [intOf]; omega
    · have e : i0 = N + 1 := by omega
      subst e
      have y2 : K ≤ q2 := by omega
      have y3 : K ≤ q3 := by omega
      have g2 : (K : Int) ≤ (q2 : Int) := by omega
      have g3 : (K : Int) ≤ (q3 : Int) := by omega
      have hge : ¬ ((N + 1 : Nat) : Int) < 1 + (N : Int) := by omega
      have SX := Lib.hid (fun q => sum_row v2 0 K q2 (X.take K) (wr.drewN q) hw.out.2.1.take (by rw [List.length_take, LX.out]; omega) (fun x hx => HXB.out x (List.mem_of_mem_take hx)) (by omega))
      have SY := Lib.hid (fun q => sum_row v3 0 K q3 (Y.take K) (wr.drewN q) hw.out.2.2.take (by rw [List.length_take, LY.out]; omega) (fun x hx => HYB.out x (List.mem_of_mem_take hx)) (by omega))
      have MX := Lib.hid (fun q => max_val v2 0 (N + 1) q2 X (wr.drewN q) hw.out.2.1 LX.out (by omega) (by omega))
      have MN := Lib.hid (fun q => min_val v2 0 (N + 1) q2 X (wr.drewN q) hw.out.2.1 LX.out (by omega) (by omega))
      generalize (X.take K).sum = S1 at *
      generalize (Y.take K).sum = S2 at *
      generalize mxv X (N + 1) = mx at *
      generalize mnv X (N + 1) = mn at *
      have dd1 : decide (S1 ≤ S2) = true := by simpa using hle
      have dd2 : decide (mx - mn ≤ 1) = true := by simpa using hmm
      have kw : IntKind.i64.wrap (mx - mn) = mx - mn := IntWalk.i64_in _ (by omega)
      go_wp2
      go_quiet ((first | (go_at_call 18; (with_reducible exact quiet_eq (SX.out _))) | (go_at_call 18; (with_reducible exact quiet_eq (SY.out _))) | (go_at_call 21; (with_reducible exact quiet_eq (MX.out _))) | (go_at_call 22; (with_reducible exact quiet_eq (MN.out _)))))
      clear kw
      go_wp2
      go_ret
      exact ⟨rfl, hw.out.1.drewN.below⟩

end Go.Proofs.Ytmkmbfficpgmdaa.lineFaster
