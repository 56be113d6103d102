/- The walk of talkeep.SplitAhead. -/
import Derived.Test.YtmkmbfficpgmdaaPlainS
namespace Go.Proofs.Ytmkmbfficpgmdaa.splitAhead
open Go.ChangeShapes Go.WideShapes Go.ChangeAt Go.RowKit
set_option linter.unusedVariables false

theorem begun_list : evA (-5) 2 = [-2, -3] := by decide
theorem within_eq (k n v : Int) (w : World) (h1 : 1 ≤ n) (h2 : n ≤ 4000000000000) (h : wi k n = v) :
    Calls Try.prog 17 #[.int .i64 k, .int .i64 n] w fun e w' => e = .returned (.int .i64 v) ∧ w = w' := by
  have := within_any k n w h1 h2
  rw [h] at this
  exact this

/-- the partial sums are the shares, rounded down -/
theorem ahead (a : Int) (N K : Nat) (h1 : 0 ≤ a) (hN : 1 ≤ N) (hK : K ≤ N) : ((evA a N).take K).sum * N ≤ a * K ∧ a * K < (((evA a N).take K).sum + 1) * N := by
  unfold evA
  rw [if_pos h1, evp_sum _ _ _ _ _ hK, Int.one_mul]
  have e := div_mod (a * K) N
  have r1 := Int.emod_nonneg (a * K) (show (N : Int) ≠ 0 by omega)
  have s1 := Int.emod_lt_of_pos (a * K) (show 0 < (N : Int) by omega)
  rw [Int.add_mul, Int.mul_comm]
  omega

set_option maxHeartbeats 1600000 in
theorem splitAhead_walk (w : World) (a : Int) (wa : (Lit.int .i64 a).wf = true) (n : Int) (wn : (Lit.int .i64 n).wf = true) (p : Int) (wp : (Lit.int .i64 p).wf = true) :
    Calls Try.prog 3 #[.int .i64 a, .int .i64 n, .int .i64 p] w fun e w' => e = .returned (.bool true) ∧ Below w.heap.size w w' := by
  clear wa wn wp
  have a1 := wi_lo a 1000000000001 (by omega)
  have a2 := wi_hi a 1000000000001 (by omega)
  have n1 := wi_lo n 40 (by omega)
  have n2 := wi_hi n 40 (by omega)
  obtain ⟨N, hN⟩ := Int.eq_ofNat_of_zero_le n1
  have p1 := wi_lo p (1 + (N : Int) + 1) (by omega)
  have p2 := wi_hi p (1 + (N : Int) + 1) (by omega)
  obtain ⟨K, hK⟩ := Int.eq_ofNat_of_zero_le p1
  have HWN := Lib.hid (fun w => within_eq n 40 N w (by omega) (by omega) hN)
  have HWK := Lib.hid (fun w => within_eq p (1 + (N : Int) + 1) K w (by omega) (by omega) hK)
  rw [hN] at n1 n2
  rw [hK] at p1 p2
  clear hN hK
  obtain ⟨q1, q2⟩ := ahead (wi a 1000000000001) (N + 1) K a1 (by omega) (by omega)
  have HL := Lib.hid (evA_len (wi a 1000000000001) (N + 1))
  have HB := Lib.hid (evA_bd (wi a 1000000000001) (N + 1) (by omega) (by omega) (by omega))
  have b1 := prod_bd (wi a 1000000000001) K 1000000000000 41 (by omega) (by omega) (by omega) (by omega) (by omega)
  have s0 : 0 ≤ ((evA (wi a 1000000000001) (N + 1)).take K).sum := by
    unfold evA; rw [if_pos a1, evp_sum _ _ _ _ _ (by omega), Int.one_mul]
    exact Int.ediv_nonneg (Int.mul_nonneg a1 (by omega)) (by omega)
  go_enter Try.func3, Try.ntmps3
  go_wp2_with fail
  refine (even_any (-5) 2 2 _ rfl (by omega) (by omega) (by omega) (by omega)).mono ?_
  rintro e w1 ⟨bs, k, rfl, rfl, hr⟩
  have HR := Lib.hid hr
  clear hr
  go_wp2_with fail
  refine (equal_yes _ _ _ _ _ _ 2 [-2, -3] _ (HR.out.alloc) (row_lit [-2, -3] (by simp) rfl) rfl (by omega)).mono ?_
  rintro e w1 ⟨rfl, m, rfl⟩
  go_wp2_with fail
  refine (within_any _ _ _ (by omega) (by omega)).mono ?_
  rintro e w1 ⟨rfl, rfl⟩
  go_wp2_with fail
  refine (HWN.out _).mono ?_
  rintro e w1 ⟨rfl, rfl⟩
  go_wp2_with fail
  refine (even_any _ _ (N + 1) _ (by omega) (by omega) (by omega) (by omega) (by omega)).mono ?_
  rintro e w1 ⟨bs2, k2, rfl, rfl, hr2⟩
  simp [go_sem] at hr2
  have HR2 := Lib.hid hr2
  clear hr2
  go_wp2_with fail
  refine (HWK.out _).mono ?_
  rintro e w1 ⟨rfl, rfl⟩
  have hc : (0 : Int) ≤ (K : Int) := by omega
  go_wp2_with fail
  refine (sum_row _ _ _ _ ((evA (wi a 1000000000001) (N + 1)).take K) _ HR2.out.take (by rw [List.length_take, HL.out]; omega) (fun x hx => HB.out x (List.mem_of_mem_take hx)) (by omega)).mono ?_
  rintro e w1 ⟨rfl, rfl⟩
  rw [show ((N + 1 : Nat) : Int) = 1 + (N : Int) by omega] at q1 q2
  generalize ((evA (wi a 1000000000001) (N + 1)).take K).sum = S at *
  obtain ⟨b2, b3⟩ := b1
  have c1 : 0 ≤ S * (1 + (N : Int)) := Int.mul_nonneg s0 (by omega)
  have c2 : (S + 1) * (1 + (N : Int)) ≤ 42000000000000 := by rw [Int.add_mul]; omega
  have c3 : 0 ≤ (S + 1) * (1 + (N : Int)) := Int.mul_nonneg (by omega) (by omega)
  have c4 : S ≤ S * (1 + (N : Int)) := by
    have := Int.mul_le_mul_of_nonneg_left (show (1 : Int) ≤ 1 + (N : Int) by omega) s0; omega
  have c5 : 0 ≤ wi a 1000000000001 * (K : Int) := Int.mul_nonneg a1 (by omega)
  go_wp2_with fail
  go_ret
  exact ⟨ret_b (by first | rfl | (simp; done) | (simp; omega)), (Mor.below (by repeat (first | exact Mor.refl _ | apply Mor.alloc | apply Mor.more | apply Mor.drewN | apply Mor.drew)))⟩

end Go.Proofs.Ytmkmbfficpgmdaa.splitAhead
