/- The walk of talkeep.NoteFree. -/
import Derived.Test.YtghlhmojmheppaaNoteC
namespace Go.Proofs.Ytghlhmojmheppaa.noteFree
open Go.ChangeShapes Go.WideShapes Go.ChangeAt Go.RowKit
set_option linter.unusedVariables false

theorem beg_ok : okp 7 0 40 3 := .inr ⟨by rw [nint_free]; omega, by rw [nl_free 7 3 (by omega) (by omega)]; decide⟩
theorem beg_T {T : Nat} (h : NT 7 0 3 T) : T = 3 := by
  obtain ⟨a, b⟩ := NT_free 7 3 T (by omega) (by omega) (by omega) h
  omega
theorem beg_off : noff (nl 7 0 3 2) 0 3 = 1 := by rw [nl_free 7 3 (by omega) (by omega)]; unfold noff; rw [nint_free]; decide

set_option maxRecDepth 100000 in
set_option maxHeartbeats 3200000 in
theorem noteFree_walk (w : World) (o : Int) (wo : (Lit.int .i64 o).wf = true) (q : Int) (wq : (Lit.int .i64 q).wf = true) (n : Int) (wn : (Lit.int .i64 n).wf = true) :
    Calls Try.prog 11 #[.int .i64 o, .int .i64 q, .int .i64 n] w fun e w' => e = .returned (.bool true) ∧ Below w.heap.size w w' := by
  have HB := Lib.hid (fun w => Rows_good 7 0 3 w ⟨⟨by omega, by omega, by omega, by omega⟩, by omega, by omega⟩ beg_ok)
  have o1 := wi_lo o 1000000000000 (by omega)
  have o2 := wi_hi o 1000000000000 (by omega)
  have HO := Lib.hid (fun w => within_any o 1000000000000 w (by omega) (by omega))
  have q1 := wi_lo q 1000000000000 (by omega)
  have q2 := wi_hi q 1000000000000 (by omega)
  have HQ := Lib.hid (fun w => within_any q 1000000000000 w (by omega) (by omega))
  have n1 := wi_lo n 40 (by omega)
  have n2 := wi_hi n 40 (by omega)
  have HN := Lib.hid (fun w => within_any n 40 w (by omega) (by omega))
  generalize wi o 1000000000000 = O at *
  generalize wi q 1000000000000 = Q at *
  generalize wi n 40 = n0 at *
  obtain ⟨N, rfl⟩ := Int.eq_ofNat_of_zero_le n1
  have HP := Lib.hid (fun w => Least_int (1 + O) 0 (1 + (N : Int)) (N + 1) w (by omega) ⟨by omega, by omega, by omega, by omega⟩ (by omega) (by omega))
  -- the least payment is the part, rounded up
  obtain ⟨c, hc⟩ : ∃ c, (1 + O + (1 + (N : Int)) - 1) / (1 + (N : Int)) = c := ⟨_, rfl⟩
  have hpc := Lib.hid (fun p (h : leastP (1 + O) 0 (N + 1) p) => show p = c from by
    have := least_free (1 + O) p (N + 1) (by omega) (by omega) h
    rw [show ((N + 1 : Nat) : Int) = 1 + (N : Int) by omega] at this
    omega)
  have c1 : 1 ≤ c := by
    rw [← hc, Int.le_ediv_iff_mul_le (by omega)]; omega
  have c2 : c ≤ 1000000000000 := by
    have := (ceil_le (1 + O) (1 + (N : Int)) 1000000000000 (by omega)).2 (by
      have := Int.mul_le_mul_of_nonneg_right (show (1 : Int) ≤ 1 + (N : Int) by omega) (show (0 : Int) ≤ 1000000000000 by omega); omega)
    omega
  have c3 : 1 + O ≤ (1 + (N : Int)) * c := (ceil_le (1 + O) (1 + (N : Int)) c (by omega)).1 (by omega)
  have c4 : 1 + O ≤ 40 * (c + Q) := by
    have := Int.mul_le_mul_of_nonneg_right (show (1 + (N : Int)) ≤ 40 by omega) (show 0 ≤ c by omega)
    omega
  have hck := Lib.hid hc
  have HG := Lib.hid (fun w => Rows_good (1 + O) 0 (c + Q) w ⟨⟨by omega, by omega, by omega, by omega⟩, by omega, by omega⟩ ((okp_free (1 + O) (c + Q) 40 (by omega) (by omega)).2 c4))
  have HT := Lib.hid (fun T (h : NT (1 + O) 0 (c + Q) T) => NT_free (1 + O) (c + Q) T (by omega) (by omega) c4 h)
  clear hc c3 c4
  go_enter Try.func11, Try.ntmps11
  go_wp2_with fail
  refine (HB.out _).mono ?_
  rintro e w1 ⟨T0, A0, c0, bs, k, rfl, rfl, ⟨hT, _⟩, h40, hc0, hr⟩
  obtain rfl := beg_T hT
  obtain ⟨b, off, hA, hb, hcell⟩ := Rd.field 3 (nrow_len 7 0 3) hr 2 (by simp) (by omega)
  subst hA
  have cell1 := hcell 1 (by omega)
  simp [nrow, beg_off] at cell1
  clear hT hr h40 hcell
  go_wp2_with (first | (go_at_call 17; (with_reducible refine (HO.out _).mono ?_); rintro e w1 ⟨rfl, rfl⟩) | (go_at_call 17; (with_reducible refine (HN.out _).mono ?_); rintro e w1 ⟨rfl, rfl⟩))
  refine (HP.out _).mono ?_
  rintro e w1 ⟨p, rfl, ⟨bs1, k1, rfl⟩, hp⟩
  obtain rfl := hpc.out p hp
  clear hp
  have hck2 := hck.out
  go_wp2_with (first | (go_at_call 17; (with_reducible refine (HQ.out _).mono ?_); rintro e w1 ⟨rfl, rfl⟩))
  clear hck2
  refine (HG.out _).mono ?_
  rintro e w1 ⟨T, A, c, bs2, k2, rfl, rfl, ⟨hT, _⟩, h40, hc, hr⟩
  have ht := (HT.out T hT).1
  clear hT hr
  go_wp2_with fail
  go_ret
  exact ⟨ret_b (by first | rfl | (simp; done) | (simp; omega)), (Mor.below (by repeat (first | exact Mor.refl _ | apply Mor.alloc | apply Mor.more | apply Mor.drewN | apply Mor.drew)))⟩

end Go.Proofs.Ytghlhmojmheppaa.noteFree
