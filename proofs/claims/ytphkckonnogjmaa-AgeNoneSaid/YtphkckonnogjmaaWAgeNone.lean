/- The walk of talkeep.AgeNone. -/
import Derived.Test.YtphkckonnogjmaaPayE
namespace Go.Proofs.Ytphkckonnogjmaa.ageNone
open Go.ChangeShapes Go.WideShapes Go.ChangeAt Go.RowKit Stb
set_option linter.unusedVariables false

theorem beg_c : payc [(2, 4)] 9 = 0 := by decide
theorem beg_v : pay (byDay [(2, 4)]) 9 = [] := by decide
theorem beg_r : lft (byDay [(2, 4)]) 9 = 5 := by decide

set_option maxRecDepth 100000 in
set_option maxHeartbeats 6400000 in
theorem ageNone_walk (w : World) (A : Option Addr) (len cap : Nat) (xs : List Pr) (hp : IsPr w A len cap xs) (k : Int) (wk : (Lit.int .i64 k).wf = true) :
    Calls Try.prog 4 #[.slice A len cap, .int .i64 k] w fun e w' => e = .returned (.bool true) ∧ Below w.heap.size w w' := by
  have HRP := Lib.hid hp.pi
  have HNP := Lib.hid hp.length
  have HNil := Lib.hid hp.nil
  have HMXP := Lib.hid (Nat.le_trans hp.le hp.max)
  clear hp wk
  by_cases hc : payc xs 0 = 0
  · obtain ⟨c1, c2, -, -⟩ := payc_zero hc
    have l40 : len ≤ 40 := by have := HNP.out; omega
    have HOk := Lib.hid c2
    have HL40 := Lib.hid c1
    have HC0 := Lib.hid hc
    have w1 := wi_lo k 1000 (by omega)
    have w2 := wi_hi k 1000 (by omega)
    have HW := Lib.hid (fun w => within_any k 1000 w (by omega) (by omega))
    have t0 := tot_nn (ok_one c2)
    generalize wi k 1000 = K at *
    clear hc c1 c2
    go_enter Try.func4, Try.ntmps4
    go_wp2_with fail
    refine (pay_yes _ 1 1 [(2, 4)] 9 _ (pi_lit 2 4 rfl) rfl (by simp) beg_c).mono ?_
    rintro e w3 ⟨B, m, cap', rfl, hm, hpi, hlen, hB⟩
    rw [beg_v] at hlen
    rw [beg_r]
    obtain rfl : m = 0 := hlen.symm
    have HM := Lib.hid (show Mor w w3 from Mor.trans' (by repeat (first | exact Mor.refl _ | apply Mor.alloc)) hm)
    clear hm hpi hlen hB
    go_wp2_with fail
    have HP0 := Lib.hid (pay_yes A len cap xs 0 w3 (HRP.out.mor HM.out) HNP.out HNil.out HC0.out)
    obtain ⟨e1, e2, e3⟩ : pay (byDay xs) 0 = byDay xs ∧ lft (byDay xs) 0 = 0 ∧ (byDay xs).length = len :=
      ⟨pay_zero (ok_one (byDay_ok HOk.out)), by unfold lft; rw [tot_byDay, if_neg (by omega)], by rw [← HNP.out]; exact isort_len xs⟩
    have HB := Lib.hid (byDay_ok HOk.out)
    have HTb := Lib.hid (tot_byDay xs)
    refine HP0.out.mono ?_
    rintro e w4 ⟨B2, m2, cap2, rfl, hm, hpi, hlen, -⟩
    rw [e2]
    rw [e1] at hpi hlen
    rw [e3] at hlen
    obtain rfl : m2 = len := hlen.symm
    have HM4 := Lib.hid (HM.out.trans' hm)
    have HX := Lib.hid hpi
    have HXl := Lib.hid e3
    clear hm hpi e1 e2 e3 HP0 HM
    go_wp2_with fail
    refine (owed_tot B2 m2 cap2 (byDay xs) w4 HX.out HXl.out l40 HB.out).mono ?_
    rintro e w5 ⟨rfl, hm⟩
    rw [HTb.out]
    have HM5 := Lib.hid (HM4.out.trans' hm)
    clear hm
    go_wp2_with fail
    refine (owed_tot A m2 cap xs w5 (HRP.out.mor HM5.out) HNP.out l40 HOk.out).mono ?_
    rintro e w6 ⟨rfl, hm⟩
    have HM6 := Lib.hid (HM5.out.trans' hm)
    clear hm
    have tb := tot_bd HOk.out
    rw [HNP.out] at tb
    have HT := Lib.hid (fun w' (h : Mor w6 w') => owed_tot A m2 cap xs w' (HRP.out.mor (HM6.out.trans' h)) HNP.out l40 HOk.out)
    have HP1 := Lib.hid (fun w' (h : Mor w6 w') (ht : tot xs ≤ 500000000000) => pay_yes A m2 cap xs (tot xs + K) w' (HRP.out.mor (HM6.out.trans' h)) HNP.out HNil.out (payc_of HL40.out HOk.out (by omega) (by omega)))
    have HE1 := Lib.hid (show pay (byDay xs) (tot xs + K) = [] from pay_all (ok_one HB.out) (by rw [HTb.out]; omega))
    have HE2 := Lib.hid (show lft (byDay xs) (tot xs + K) = K by unfold lft; rw [HTb.out]; split <;> omega)
    unfold PayPost at HP1
    rw [HE1.out, HE2.out] at HP1
    generalize tot xs = t at *
    by_cases ht : 500000000000 < t
    · go_wp2_with fail
      refine (HT.out _ (Mor.refl _)).mono ?_
      rintro e w7 ⟨rfl, hm⟩
      go_wp2_with fail
      go_ret
      exact ⟨rfl, (HM6.out.trans' hm).below⟩
    · go_wp2_with fail
      refine (HT.out _ (Mor.refl _)).mono ?_
      rintro e w7 ⟨rfl, hm⟩
      have HM7 := Lib.hid hm
      clear hm
      go_wp2_with fail
      refine (HW.out _).mono ?_
      rintro e w8 ⟨rfl, rfl⟩
      go_wp2_with fail
      refine (HT.out _ HM7.out).mono ?_
      rintro e w8 ⟨rfl, hm⟩
      have HM8 := Lib.hid (HM7.out.trans' hm)
      clear hm
      go_wp2_with fail
      refine (HP1.out _ HM8.out (by omega)).mono ?_
      rintro e w9 ⟨B3, m3, cap3, rfl, hm, -, hlen, -⟩
      obtain rfl : m3 = 0 := hlen.symm
      go_wp2_with fail
      go_ret
      exact ⟨rfl, ((HM6.out.trans' HM8.out).trans' hm).below⟩
  · have hml := HMXP.out
    have HP0 := Lib.hid (fun w' (h : Mor w w') => pay_no A len cap xs 0 w' (HRP.out.mor h) HNP.out HMXP.out hc)
    unfold PayNo at HP0
    have hc' : (payc xs 0 == 0) = false := by simpa using hc
    generalize payc xs 0 = c at *
    clear hc hml
    go_enter Try.func4, Try.ntmps4
    go_wp2_with fail
    refine (pay_yes _ 1 1 [(2, 4)] 9 _ (pi_lit 2 4 rfl) rfl (by simp) beg_c).mono ?_
    rintro e w3 ⟨B, m, cap', rfl, hm, hpi, hlen, hB⟩
    rw [beg_v] at hlen
    rw [beg_r]
    obtain rfl : m = 0 := hlen.symm
    have HM := Lib.hid (show Mor w w3 from Mor.trans' (by repeat (first | exact Mor.refl _ | apply Mor.alloc)) hm)
    clear hm hpi hlen hB
    go_wp2_with fail
    refine (HP0.out _ HM.out).mono ?_
    rintro e w4 ⟨rfl, hm⟩
    go_wp2_with fail
    go_ret
    exact ⟨rfl, (HM.out.trans' hm).below⟩

end Go.Proofs.Ytphkckonnogjmaa.ageNone
