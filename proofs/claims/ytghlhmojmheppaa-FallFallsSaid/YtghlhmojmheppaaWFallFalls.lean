/- The walk of talkeep.FallFalls. -/
import Derived.Test.YtghlhmojmheppaaFallB
namespace Go.Proofs.Ytghlhmojmheppaa.fallFalls
open Go.ChangeShapes Go.WideShapes Go.ChangeAt Go.RowKit
set_option linter.unusedVariables false

theorem falling_int (cost rest rate nI : Int) (N : Nat) (w : World) (hn : nI = N) (h1 : 0 ≤ cost) (h2 : cost ≤ 1000000000000) (h3 : 0 ≤ rest) (h4 : rest ≤ cost) (h5 : 0 ≤ rate) (h6 : rate ≤ 1000000) (h7 : 1 ≤ N) (h8 : N ≤ 40) :
    Calls Try.prog 15 #[.int .i64 cost, .int .i64 rest, .int .i64 rate, .int .i64 nI] w (FallPost w (flist cost rest rate N N) N) := by
  subst hn; exact falling_ok cost rest rate N w h1 h2 h3 h4 h5 h6 h7 h8
theorem begun_list : flist 100 10 1000000 3 3 = [90, 0, 0] := by decide

set_option maxHeartbeats 1600000 in
theorem ok_walk (w : World) (a b c : Int) (N : Nat) (h1 : 0 ≤ a) (h2 : a ≤ 1000000000000) (h3 : 0 ≤ b) (h4 : b ≤ a) (h5 : 0 ≤ c) (h6 : c ≤ 1000000) (h7 : 1 ≤ N) (h8 : N ≤ 40) :
    Calls Try.prog 4 #[.int .i64 a, .int .i64 b, .int .i64 c, .int .i64 (N : Int)] w fun e w' => e = .returned (.bool true) ∧ Below w.heap.size w w' := by
  have CX := Lib.hid (fun w => falling_int a b c (N : Int) N w rfl h1 h2 h3 h4 h5 h6 h7 h8)
  have CY := Lib.hid (fun w => falling_int a b 1000000 (N : Int) N w rfl h1 h2 h3 h4 (by omega) (by omega) h7 h8)
  have HM := Lib.hid (show ∀ k, k + 2 ≤ N → (flist a b c N N).getD (k + 1) 0 ≤ (flist a b c N N).getD k 0 from fun k hk => by
    rw [flist_get _ _ _ _ _ _ (by omega), flist_get _ _ _ _ _ _ (by omega)]; exact flist_falls a b c N k h4 h3 h5 h6 (by omega))
  have HF := Lib.hid (show (flist a b 1000000 N N).getD 0 0 = a - b by rw [flist_get _ _ _ _ _ _ (by omega)]; exact first_all a b N h4 h3 (by omega))
  generalize flist a b c N N = X at *
  generalize flist a b 1000000 N N = Y at *
  go_enter Try.func4, Try.ntmps4
  go_wp2_with fail
  refine (falling_int 100 10 1000000 3 3 _ rfl (by omega) (by omega) (by omega) (by omega) (by omega) (by omega) (by omega) (by omega)).mono ?_
  rintro e w1 ⟨bs, k, b0, c0, rfl, rfl, _, _, hr⟩
  have HR := Lib.hid hr
  clear hr
  go_wp2_with fail
  refine (equal_yes _ _ _ _ _ _ 3 [90, 0, 0] _ (HR.out.alloc) (row_lit [90, 0, 0] (by simp) rfl) rfl (by omega)).mono ?_
  rintro e w1 ⟨rfl, m, rfl⟩
  clear HR
  go_wp2_with fail
  refine (CX.out _).mono ?_
  rintro e w1 ⟨bs2, k2, v2, q2, rfl, rfl, hl2, hq2, hr2⟩
  simp [go_sem] at hr2
  have RX := Lib.hid hr2
  have LX := Lib.hid hl2
  clear hr2 hl2
  go_wp2_with fail
  go_loopw [13] (fun i wr => ∃ j : Nat, j + 1 ≤ N ∧ i = .int .i64 ((j : Int) + 1) ∧ Row wr v2 0 X ∧ Mor w wr) (fun i _ => N - (intOf i).toNat)
  case atStart => exact ⟨0, by omega, rfl, RX.out, (by repeat (first | exact Mor.refl _ | apply Mor.alloc | apply Mor.more | apply Mor.drewN | apply Mor.drew))⟩
  case round =>
    obtain ⟨j, hj, rfl, hrw, hmw⟩ := hrel
    have RW := Lib.hid hrw
    have MW := Lib.hid hmw
    clear hrw hmw RX
    by_cases hlt : j + 1 < N
    · have c0 := RW.out.get j (by rw [LX.out]; omega)
      have c1 := RW.out.get (j + 1) (by rw [LX.out]; omega)
      rw [Nat.zero_add] at c0 c1
      have hle := HM.out j (by omega)
      generalize X.getD j 0 = x at *
      generalize X.getD (j + 1) 0 = y at *
      have i1 : (j : Int) + 1 < (N : Int) := by omega
      have i2 : (j : Int) < (N : Int) := by omega
      go_wp2
      go_quiet (fail)
      go_wp2
      go_roundw
      case rel => exact ⟨j + 1, by omega, by go_num, RW.out.drewN, MW.out.drewN⟩
      case measure => simp [intOf]; omega
    · have e : N = j + 1 := by omega
      have i1 : (N : Int) ≤ (j : Int) + 1 := by omega
      clear e
      go_wp2_with fail
      refine (CY.out _).mono ?_
      rintro e w1 ⟨bs3, k3, v3, q3, rfl, rfl, hl3, hq3, hr3⟩
      have RY := Lib.hid hr3
      have LY := Lib.hid hl3
      have c0 := RY.out.get 0 (by rw [LY.out]; omega)
      rw [Nat.zero_add, HF.out] at c0
      clear hr3 hl3
      have hn1 : (0 : Int) < (N : Int) := by omega
      go_wp2_with fail
      go_ret
      exact ⟨ret_b (by first | rfl | (simp; done) | (simp; omega)), Mor.below MW.out.more⟩

theorem fallFalls_walk (w : World) (a : Int) (wa : (Lit.int .i64 a).wf = true) (b : Int) (wb : (Lit.int .i64 b).wf = true) (c : Int) (wc : (Lit.int .i64 c).wf = true) (n : Int) (wn : (Lit.int .i64 n).wf = true) :
    Calls Try.prog 4 #[.int .i64 a, .int .i64 b, .int .i64 c, .int .i64 n] w fun e w' => e = .returned (.bool true) ∧ Below w.heap.size w w' := by
  by_cases h : lookF a b n ∧ 0 ≤ c ∧ c ≤ 1000000
  · obtain ⟨⟨h1, h2, h3, h4, h5, h6⟩, h7, h8⟩ := h
    obtain ⟨N, rfl⟩ := Int.eq_ofNat_of_zero_le (show 0 ≤ n by omega)
    exact ok_walk w a b c N h1 h2 h3 h4 h7 h8 (by omega) (by omega)
  · have CX := Lib.hid (fun w => falling_no a b c n w h)
    clear h
    go_enter Try.func4, Try.ntmps4
    go_wp2_with fail
    refine (falling_int 100 10 1000000 3 3 _ rfl (by omega) (by omega) (by omega) (by omega) (by omega) (by omega) (by omega) (by omega)).mono ?_
    rintro e w1 ⟨bs, k, b0, c0, rfl, rfl, _, _, hr⟩
    have HR := Lib.hid hr
    clear hr
    go_wp2_with fail
    refine (equal_yes _ _ _ _ _ _ 3 [90, 0, 0] _ (HR.out.alloc) (row_lit [90, 0, 0] (by simp) rfl) rfl (by omega)).mono ?_
    rintro e w1 ⟨rfl, m, rfl⟩
    clear HR
    go_wp2_with fail
    refine (CX.out _).mono ?_
    rintro e w1 ⟨rfl, rfl⟩
    go_wp2_with fail
    go_ret
    exact ⟨ret_b (by first | rfl | (simp; done) | (simp; omega)), (Mor.below (by repeat (first | exact Mor.refl _ | apply Mor.alloc | apply Mor.more | apply Mor.drewN | apply Mor.drew)))⟩

end Go.Proofs.Ytghlhmojmheppaa.fallFalls
