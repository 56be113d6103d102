/- The walk of talkeep.AgeTwice. -/
import Derived.Test.YtphkckonnogjmaaPayE
namespace Go.Proofs.Ytphkckonnogjmaa.ageTwice
open Go.ChangeShapes Go.WideShapes Go.ChangeAt Go.RowKit Stb
set_option linter.unusedVariables false

theorem beg_c : payc [(0, 3)] 5 = 0 := by decide
theorem beg_v : pay (byDay [(0, 3)]) 5 = [] := by decide
theorem beg_r : lft (byDay [(0, 3)]) 5 = 2 := by decide
theorem byDay_pay (xs : List Pr) (a : Int) : byDay (pay (byDay xs) a) = pay (byDay xs) a := isort_of_srt (pay_srt (isort_srt xs))

set_option maxRecDepth 100000 in
set_option maxHeartbeats 6400000 in
theorem ageTwice_walk (w : World) (A : Option Addr) (len cap : Nat) (xs : List Pr) (hp : IsPr w A len cap xs) (k : Int) (wk : (Lit.int .i64 k).wf = true) (l : Int) (wl : (Lit.int .i64 l).wf = true) :
    Calls Try.prog 5 #[.slice A len cap, .int .i64 k, .int .i64 l] w fun e w' => e = .returned (.bool true) ∧ Below w.heap.size w w' := by
  have HRP := Lib.hid hp.pi
  have HNP := Lib.hid hp.length
  have HNil := Lib.hid hp.nil
  have HMXP := Lib.hid (Nat.le_trans hp.le hp.max)
  clear hp wk wl
  have k1 := wi_lo k 500000000000 (by omega)
  have k2 := wi_hi k 500000000000 (by omega)
  have l1 := wi_lo l 500000000000 (by omega)
  have l2 := wi_hi l 500000000000 (by omega)
  have HWk := Lib.hid (fun w => within_any k 500000000000 w (by omega) (by omega))
  have HWl := Lib.hid (fun w => within_any l 500000000000 w (by omega) (by omega))
  generalize wi k 500000000000 = a at *
  generalize wi l 500000000000 = b at *
  by_cases hc : payc xs a = 0
  · obtain ⟨c1, c2, -, -⟩ := payc_zero hc
    have l40 : len ≤ 40 := by have := HNP.out; omega
    have HOk := Lib.hid c2
    have HL40 := Lib.hid c1
    have HC0 := Lib.hid hc
    have HPa := Lib.hid (fun w' (h : Mor w w') => pay_yes A len cap xs a w' (HRP.out.mor h) HNP.out HNil.out HC0.out)
    have HPz := Lib.hid (fun w' (h : Mor w w') => pay_yes A len cap xs (a + b) w' (HRP.out.mor h) HNP.out HNil.out (payc_of HL40.out HOk.out (by omega) (by omega)))
    have HB := Lib.hid (byDay_ok HOk.out)
    obtain ⟨q1, q2⟩ := left_ok HL40.out HOk.out k1
    have e1 := pay_pay (byDay xs) a b k1 l1 (ok_one HB.out)
    have e2 : lft (byDay xs) a + lft (pay (byDay xs) a) b = lft (byDay xs) (a + b) := by
      have h1 := tot_pay (byDay xs) a k1 (ok_one HB.out)
      have h2 := tot_nn (ok_one HB.out)
      show lft (byDay xs) a + (if tot (pay (byDay xs) a) < b then b - tot (pay (byDay xs) a) else 0) = _
      rw [h1]
      unfold lft
      split <;> split <;> split <;> omega
    obtain ⟨y1, y2⟩ := lft_bd k1 (ok_one HB.out)
    have q3 := lft_bd l1 (ok_one q2)
    have HPb := Lib.hid (fun w' B m cap' (hr : Pi w' B (pay (byDay xs) a)) (hn : (pay (byDay xs) a).length = m) (h0 : B = none → m = 0) => pay_yes B m cap' (pay (byDay xs) a) b w' hr hn h0 (payc_of q1 q2 (by omega) (by omega)))
    have HQ1 := Lib.hid (show ∀ m, (pay (byDay xs) a).length = m → m ≤ 40 from fun m h => by omega)
    obtain ⟨z1, z2⟩ := left_ok (a := a + b) HL40.out HOk.out (by omega)
    unfold PayPost at HPa HPb HPz
    rw [byDay_pay, e1] at HPb
    rw [← e2] at HPz
    have HQ2 := Lib.hid (show ∀ m, (pay (byDay xs) (a + b)).length = m → m ≤ 40 from fun m h => by omega)
    clear e1 e2 q1 q2 z1 z2 hc c1 c2 HC0 HL40 HB
    generalize lft (byDay xs) a = L1 at *
    generalize lft (pay (byDay xs) a) b = L2 at *
    generalize pay (byDay xs) a = X at *
    generalize pay (byDay xs) (a + b) = Y at *
    go_enter Try.func5, Try.ntmps5
    go_wp2_with fail
    refine (pay_yes _ 1 1 [(0, 3)] 5 _ (pi_lit 0 3 rfl) rfl (by simp) beg_c).mono ?_
    rintro e w3 ⟨B, m, cap', rfl, hm, hpi, hlen, hB⟩
    rw [beg_v] at hlen
    rw [beg_r]
    obtain rfl : m = 0 := hlen.symm
    have HM := Lib.hid (show Mor w w3 from Mor.trans' (by repeat (first | exact Mor.refl _ | apply Mor.alloc)) hm)
    clear hm hpi hlen hB
    go_wp2_with fail
    refine (HWk.out _).mono ?_
    rintro e w4 ⟨rfl, rfl⟩
    go_wp2_with fail
    refine (HWl.out _).mono ?_
    rintro e w4 ⟨rfl, rfl⟩
    go_wp2_with fail
    refine (HPa.out _ HM.out).mono ?_
    rintro e w4 ⟨B1, m1, cap1, rfl, hm, hpi, hlen, hB⟩
    have HM4 := Lib.hid (HM.out.trans' hm)
    have HPb1 := Lib.hid (fun w' (h : Mor w4 w') => HPb.out w' B1 m1 cap1 (hpi.mor h) hlen (by rintro rfl; rcases hB with ⟨_, h, _⟩ | ⟨g, h, _⟩; exact h; cases h))
    clear hm hpi hB hlen HPb
    go_wp2_with fail
    refine (HPb1.out _ (Mor.refl _)).mono ?_
    rintro e w5 ⟨B2, m2, cap2, rfl, hm, hpi, hlen, -⟩
    have HM5 := Lib.hid hm
    have HY := Lib.hid hpi
    have HYl := Lib.hid hlen
    clear hm hpi hlen HPb1
    go_wp2_with fail
    refine (HPz.out _ (HM4.out.trans' HM5.out)).mono ?_
    rintro e w6 ⟨B3, m3, cap3, rfl, hm, hpi, hlen, -⟩
    have HM6 := Lib.hid ((HM4.out.trans' HM5.out).trans' hm)
    have HY6 := Lib.hid (HY.out.mor hm)
    obtain rfl : m3 = m2 := by rw [← hlen, HYl.out]
    have hY := Lib.hid (fun w' (h : Mor w6 w') => equal_it B2 B3 m3 cap2 cap3 Y w' (HY6.out.mor h) (hpi.mor h) hlen (by have := HQ2.out _ hlen; omega))
    clear hm hpi hlen
    go_wp2_with fail
    refine (hY.out _ (Mor.refl _)).mono ?_
    rintro e w7 ⟨rfl, hm⟩
    obtain ⟨q4, q5⟩ := q3
    go_wp2_with fail
    go_ret
    exact ⟨rfl, (HM6.out.trans' hm).below⟩
  · have HP0 := Lib.hid (fun w' (h : Mor w w') => pay_no A len cap xs a w' (HRP.out.mor h) HNP.out HMXP.out hc)
    unfold PayNo at HP0
    have hc' : (payc xs a == 0) = false := by simpa using hc
    generalize payc xs a = c at *
    clear hc
    go_enter Try.func5, Try.ntmps5
    go_wp2_with fail
    refine (pay_yes _ 1 1 [(0, 3)] 5 _ (pi_lit 0 3 rfl) rfl (by simp) beg_c).mono ?_
    rintro e w3 ⟨B, m, cap', rfl, hm, hpi, hlen, hB⟩
    rw [beg_v] at hlen
    rw [beg_r]
    obtain rfl : m = 0 := hlen.symm
    have HM := Lib.hid (show Mor w w3 from Mor.trans' (by repeat (first | exact Mor.refl _ | apply Mor.alloc)) hm)
    clear hm hpi hlen hB
    go_wp2_with fail
    refine (HWk.out _).mono ?_
    rintro e w4 ⟨rfl, rfl⟩
    go_wp2_with fail
    refine (HWl.out _).mono ?_
    rintro e w4 ⟨rfl, rfl⟩
    go_wp2_with fail
    refine (HP0.out _ HM.out).mono ?_
    rintro e w4 ⟨rfl, hm⟩
    go_wp2_with fail
    go_ret
    exact ⟨rfl, (HM.out.trans' hm).below⟩

end Go.Proofs.Ytphkckonnogjmaa.ageTwice
