/- The walk of talkeep.SplitEven. -/
import Derived.Test.YtmkmbfficpgmdaaPlainS
namespace Go.Proofs.Ytmkmbfficpgmdaa.splitEven
open Go.ChangeShapes Go.WideShapes Go.ChangeAt Go.RowKit
set_option linter.unusedVariables false

theorem begun_list : evA 10 4 = [2, 3, 2, 3] := by decide

set_option maxHeartbeats 1600000 in
theorem ok_walk (w : World) (a n : Int) (N : Nat) (hn : n = N) (h1 : -1000000000000 ≤ a) (h2 : a ≤ 1000000000000) (h3 : 1 ≤ N) (h4 : N ≤ 40) :
    Calls Try.prog 7 #[.int .i64 a, .int .i64 n] w fun e w' => e = .returned (.bool true) ∧ Below w.heap.size w w' := by
  subst hn
  go_enter Try.func7, Try.ntmps7
  go_wp2_with fail
  refine (even_any 10 4 4 _ rfl (by omega) (by omega) (by omega) (by omega)).mono ?_
  rintro e w1 ⟨bs, k, rfl, rfl, hr⟩
  have HR := Lib.hid hr
  clear hr
  go_wp2_with fail
  refine (equal_yes _ _ _ _ _ _ 4 [2, 3, 2, 3] _ (HR.out.alloc) (row_lit [2, 3, 2, 3] (by simp) rfl) rfl (by omega)).mono ?_
  rintro e w1 ⟨rfl, m, rfl⟩
  go_wp2_with fail
  refine (even_any a N N _ rfl h1 h2 h3 h4).mono ?_
  rintro e w1 ⟨bs2, k2, rfl, rfl, hr2⟩
  simp [go_sem] at hr2
  have HR2 := Lib.hid hr2
  have HL := Lib.hid (evA_len a N)
  have HB := Lib.hid (evA_bd a N h3 h1 h2)
  have HS := Lib.hid (evA_sum a N h3)
  have HN := Lib.hid (evA_near a N h3)
  clear hr2
  go_wp2_with fail
  refine (sum_row _ _ _ _ (evA a N) _ HR2.out HL.out HB.out (by omega)).mono ?_
  rw [HS.out]
  rintro e w1 ⟨rfl, rfl⟩
  go_wp2_with fail
  refine (max_row _ _ _ _ (evA a N) _ HR2.out HL.out h3 (by omega)).mono ?_
  rintro e w1 ⟨i, hi, rfl, rfl⟩
  have b1 := HB.out _ (maxmin_get (evA a N) i (by rw [HL.out]; exact hi))
  obtain ⟨x, hx⟩ : ∃ x, (evA a N).getD i 0 = x := ⟨_, rfl⟩
  rw [hx] at b1 ⊢
  have HX := Lib.hid hx
  obtain ⟨b4, b5⟩ := b1
  clear hx
  go_wp2_with fail
  refine (min_row _ _ _ _ (evA a N) _ HR2.out HL.out h3 (by omega)).mono ?_
  rintro e w1 ⟨j, hj, rfl, rfl⟩
  have b2 := HB.out _ (maxmin_get (evA a N) j (by rw [HL.out]; exact hj))
  have b3 := HN.out i j hi hj
  rw [HX.out] at b3
  generalize (evA a N).getD j 0 = y at *
  obtain ⟨b6, b7⟩ := b2
  go_wp2_with fail
  go_ret
  exact ⟨ret_b (by first | rfl | (simp; done) | (simp; omega)), (Mor.below (by repeat (first | exact Mor.refl _ | apply Mor.alloc | apply Mor.more | apply Mor.drewN | apply Mor.drew)))⟩

set_option maxHeartbeats 800000 in
theorem no_walk (w : World) (a n : Int) (h : ¬ (-1000000000000 ≤ a ∧ a ≤ 1000000000000 ∧ 1 ≤ n ∧ n ≤ 40)) :
    Calls Try.prog 7 #[.int .i64 a, .int .i64 n] w fun e w' => e = .returned (.bool true) ∧ Below w.heap.size w w' := by
  have H := Lib.hid h
  clear h
  go_enter Try.func7, Try.ntmps7
  go_wp2_with fail
  refine (even_any 10 4 4 _ rfl (by omega) (by omega) (by omega) (by omega)).mono ?_
  rintro e w1 ⟨bs, k, rfl, rfl, hr⟩
  have HR := Lib.hid hr
  clear hr
  go_wp2_with fail
  refine (equal_yes _ _ _ _ _ _ 4 [2, 3, 2, 3] _ (HR.out.alloc) (row_lit [2, 3, 2, 3] (by simp) rfl) rfl (by omega)).mono ?_
  rintro e w1 ⟨rfl, m, rfl⟩
  go_wp2_with fail
  refine (even_no a n _ H.out).mono ?_
  rintro e w1 ⟨rfl, rfl⟩
  go_wp2_with fail
  go_ret
  exact ⟨rfl, (Mor.below (by repeat (first | exact Mor.refl _ | apply Mor.alloc | apply Mor.more | apply Mor.drewN | apply Mor.drew)))⟩

theorem splitEven_walk (w : World) (a : Int) (wa : (Lit.int .i64 a).wf = true) (n : Int) (wn : (Lit.int .i64 n).wf = true) :
    Calls Try.prog 7 #[.int .i64 a, .int .i64 n] w fun e w' => e = .returned (.bool true) ∧ Below w.heap.size w w' := by
  by_cases h : -1000000000000 ≤ a ∧ a ≤ 1000000000000 ∧ 1 ≤ n ∧ n ≤ 40
  · obtain ⟨h1, h2, h3, h4⟩ := h
    obtain ⟨N, rfl⟩ := Int.eq_ofNat_of_zero_le (show 0 ≤ n by omega)
    exact ok_walk w a N N rfl h1 h2 (by omega) (by omega)
  · exact no_walk w a n h

end Go.Proofs.Ytmkmbfficpgmdaa.splitEven
