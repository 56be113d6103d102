/- The walk of talkeep.CalGrows. -/
import Derived.Test.YtgfjjhojbpheeaaDoorCalW
namespace Go.Proofs.YtgfjjhojbpheeaaDoor.calGrows
open Go.ChangeShapes Go.WideShapes Go.ChangeAt Go.RowKit
set_option linter.unusedVariables false

set_option maxRecDepth 100000 in
set_option maxHeartbeats 6400000 in
theorem calGrows_walk (w : World) (ht : Tab w) (a0 : Int) (wa0 : (Lit.int .i64 a0).wf = true) (a1 : Int) (wa1 : (Lit.int .i64 a1).wf = true) (a2 : Int) (wa2 : (Lit.int .i64 a2).wf = true) (a3 : Int) (wa3 : (Lit.int .i64 a3).wf = true) :
    Calls Tryd.prog 6 #[.int .i64 a0, .int .i64 a1, .int .i64 a2, .int .i64 a3] w fun e w' => e = .returned (.bool true) ∧ Below w.heap.size w w' := by
  clear wa0 wa1 wa2 wa3
  have hw0 := ht.1
  have HT := Lib.hid ht
  clear ht
  have N0 := wi_lo a0 292194 (by omega)
  have N9' := wi_hi a0 292194 (by omega)
  have HD := Lib.hid (fun w => cday_any a0 w)
  generalize wi a0 292194 = N at *
  have N9 : N ≤ 292193 := by omega
  clear N9'
  have K0 := wi_lo a1 292194 (by omega)
  have K9' := wi_hi a1 292194 (by omega)
  have HE := Lib.hid (fun w => cday_any a1 w)
  generalize wi a1 292194 = K at *
  have K9 : K ≤ 292193 := by omega
  clear K9'
  have m0 := wi_lo a2 4000 (by omega)
  have m9 := wi_hi a2 4000 (by omega)
  have HM := Lib.hid (fun w => within_any a2 4000 w (by omega) (by omega))
  generalize wi a2 4000 = m at *
  have q0 := wi_lo a3 2000 (by omega)
  have q9 := wi_hi a3 2000 (by omega)
  have HK := Lib.hid (fun w => within_any a3 2000 w (by omega) (by omega))
  generalize wi a3 2000 = q at *
  have HB := Lib.hid (fun w h => add_yes 0 12 w (by omega) (by omega) (by omega) (by omega) (by rw [d00.dk]; omega) (by rw [d00.dk]; omega) h)
  rw [ad0_12] at HB
  obtain ⟨A, hA⟩ : ∃ A, (if K < N then K else N) = A := ⟨_, rfl⟩
  obtain ⟨B, hB⟩ : ∃ B, (if N < K then K else N) = B := ⟨_, rfl⟩
  have hAB : A ≤ B := by rw [← hA, ← hB]; split <;> split <;> omega
  have hA0 : 0 ≤ A := by rw [← hA]; split <;> omega
  have hB9 : B ≤ 292193 := by rw [← hB]; split <;> omega
  have HY := Lib.hid (fun w h => add_gen B (m - 2000) w (by omega) hB9 (by omega) (by omega) h)
  have HZ := Lib.hid (fun w h => add_gen A (m - 2000 + q) w hA0 (by omega) (by omega) (by omega) h)
  by_cases hx : 0 ≤ dk A + (m - 2000) ∧ dk A + (m - 2000) < 9600
  · have HX := Lib.hid (fun w h => add_yes A (m - 2000) w hA0 (by omega) (by omega) (by omega) hx.1 hx.2 h)
    have hxd := ad_isD hA0 (by omega) hx.1 hx.2
    have hxm := hxd.ym
    have hcut := (cut_bd (n := A) (k := dk A + (m - 2000)) hA0 (by omega)).2.2
    have HN := Lib.hid (fun w h => date_yes A w hA0 (by omega) h)
    have HU := Lib.hid (fun w h => date_yes (ad A (m - 2000)) w hxd.bd.1 hxd.bd.2 h)
    rw [hxm.2.2] at HU
    have hq : 12 * yr (ad A (m - 2000)) + mo (ad A (m - 2000)) = 12 * yr A + mo A + (m - 2000) := by
      rw [ym_dk, ym_dk, hxd.dk]; omega
    obtain ⟨⟨y1, y2, m1, m2, -, -⟩, -, -⟩ := ymd hA0 (show A ≤ 292193 by omega)
    obtain ⟨⟨y3, y4, m3, m4, -, -⟩, -, -⟩ := ymd hxd.bd.1 hxd.bd.2
    by_cases hy : 0 ≤ dk B + (m - 2000) ∧ dk B + (m - 2000) < 9600 <;> by_cases hz : 0 ≤ dk A + (m - 2000 + q) ∧ dk A + (m - 2000 + q) < 9600
    · have HY := Lib.hid (fun w h => add_yes B (m - 2000) w (by omega) hB9 (by omega) (by omega) hy.1 hy.2 h)
      have HZ := Lib.hid (fun w h => add_yes A (m - 2000 + q) w hA0 (by omega) (by omega) (by omega) hz.1 hz.2 h)
      have hle1 := ad_mono1 hA0 hB9 hAB hx.1 hy.2
      have hle2 := ad_mono2 hA0 (show A ≤ 292193 by omega) (show m - 2000 ≤ m - 2000 + q by omega) hx.1 hz.2
      clear hx hy hz hxd hxm
      generalize cut A (dk A + (m - 2000)) = C at *
      generalize yr (ad A (m - 2000)) = Y' at *
      generalize mo (ad A (m - 2000)) = M' at *
      generalize ad A (m - 2000) = X at *
      generalize ad B (m - 2000) = XY at *
      generalize ad A (m - 2000 + q) = XZ at *
      generalize yr A = Y at *
      generalize mo A = M at *
      generalize dm A = D at *
      go_enter Tryd.func6, Tryd.ntmps6
      go_wp2_with (first | (go_at_call 22; (with_reducible refine (HB.out _ (by repeat (first | exact HT.out | apply Tab.alloc | apply Tab.more | apply Tab.drewN | apply Tab.drew | (refine Tab.set ?_ (by omega))))).mono ?_); rintro e w1 ⟨rfl, bs, k, rfl⟩) | (go_at_call 22; (with_reducible refine (HX.out _ (by repeat (first | exact HT.out | apply Tab.alloc | apply Tab.more | apply Tab.drewN | apply Tab.drew | (refine Tab.set ?_ (by omega))))).mono ?_); rintro e w1 ⟨rfl, bs, k, rfl⟩) | (go_at_call 22; (with_reducible refine (HY.out _ (by repeat (first | exact HT.out | apply Tab.alloc | apply Tab.more | apply Tab.drewN | apply Tab.drew | (refine Tab.set ?_ (by omega))))).mono ?_); rintro e w1 ⟨rfl, bs, k, rfl⟩) | (go_at_call 22; (with_reducible refine (HZ.out _ (by repeat (first | exact HT.out | apply Tab.alloc | apply Tab.more | apply Tab.drewN | apply Tab.drew | (refine Tab.set ?_ (by omega))))).mono ?_); rintro e w1 ⟨rfl, bs, k, rfl⟩) | (go_at_call 17; (with_reducible refine (HN.out _ (by repeat (first | exact HT.out | apply Tab.alloc | apply Tab.more | apply Tab.drewN | apply Tab.drew | (refine Tab.set ?_ (by omega))))).mono ?_); rintro e w1 ⟨rfl, bs, k, rfl⟩) | (go_at_call 17; (with_reducible refine (HU.out _ (by repeat (first | exact HT.out | apply Tab.alloc | apply Tab.more | apply Tab.drewN | apply Tab.drew | (refine Tab.set ?_ (by omega))))).mono ?_); rintro e w1 ⟨rfl, bs, k, rfl⟩) | (go_at_call 16; (with_reducible refine (HD.out _).mono ?_); rintro e w1 ⟨rfl, rfl⟩) | (go_at_call 16; (with_reducible refine (HE.out _).mono ?_); rintro e w1 ⟨rfl, rfl⟩) | (go_at_call 20; (with_reducible refine (HM.out _).mono ?_); rintro e w1 ⟨rfl, rfl⟩) | (go_at_call 20; (with_reducible refine (HK.out _).mono ?_); rintro e w1 ⟨rfl, rfl⟩))
      go_ret
      exact ⟨by first | rfl | exact ret_b (by simp; done) | exact ret_b (by simp; omega), Mor.below (by repeat (first | exact Mor.refl _ | apply Mor.alloc | apply Mor.more | apply Mor.drewN | apply Mor.drew))⟩
    · have HY := Lib.hid (fun w h => add_yes B (m - 2000) w (by omega) hB9 (by omega) (by omega) hy.1 hy.2 h)
      have HZ := Lib.hid (fun w h => add_far A (m - 2000 + q) w hA0 (by omega) (by omega) (by omega) (by omega) h)
      have hle1 := ad_mono1 hA0 hB9 hAB hx.1 hy.2
      clear hx hy hz hxd hxm
      generalize cut A (dk A + (m - 2000)) = C at *
      generalize yr (ad A (m - 2000)) = Y' at *
      generalize mo (ad A (m - 2000)) = M' at *
      generalize ad A (m - 2000) = X at *
      generalize ad B (m - 2000) = XY at *
      generalize ad A (m - 2000 + q) = XZ at *
      generalize yr A = Y at *
      generalize mo A = M at *
      generalize dm A = D at *
      go_enter Tryd.func6, Tryd.ntmps6
      go_wp2_with (first | (go_at_call 22; (with_reducible refine (HB.out _ (by repeat (first | exact HT.out | apply Tab.alloc | apply Tab.more | apply Tab.drewN | apply Tab.drew | (refine Tab.set ?_ (by omega))))).mono ?_); rintro e w1 ⟨rfl, bs, k, rfl⟩) | (go_at_call 22; (with_reducible refine (HX.out _ (by repeat (first | exact HT.out | apply Tab.alloc | apply Tab.more | apply Tab.drewN | apply Tab.drew | (refine Tab.set ?_ (by omega))))).mono ?_); rintro e w1 ⟨rfl, bs, k, rfl⟩) | (go_at_call 22; (with_reducible refine (HY.out _ (by repeat (first | exact HT.out | apply Tab.alloc | apply Tab.more | apply Tab.drewN | apply Tab.drew | (refine Tab.set ?_ (by omega))))).mono ?_); rintro e w1 ⟨rfl, bs, k, rfl⟩) | (go_at_call 22; (with_reducible refine (HZ.out _ (by repeat (first | exact HT.out | apply Tab.alloc | apply Tab.more | apply Tab.drewN | apply Tab.drew | (refine Tab.set ?_ (by omega))))).mono ?_); rintro e w1 ⟨rfl, bs, k, rfl⟩) | (go_at_call 17; (with_reducible refine (HN.out _ (by repeat (first | exact HT.out | apply Tab.alloc | apply Tab.more | apply Tab.drewN | apply Tab.drew | (refine Tab.set ?_ (by omega))))).mono ?_); rintro e w1 ⟨rfl, bs, k, rfl⟩) | (go_at_call 17; (with_reducible refine (HU.out _ (by repeat (first | exact HT.out | apply Tab.alloc | apply Tab.more | apply Tab.drewN | apply Tab.drew | (refine Tab.set ?_ (by omega))))).mono ?_); rintro e w1 ⟨rfl, bs, k, rfl⟩) | (go_at_call 16; (with_reducible refine (HD.out _).mono ?_); rintro e w1 ⟨rfl, rfl⟩) | (go_at_call 16; (with_reducible refine (HE.out _).mono ?_); rintro e w1 ⟨rfl, rfl⟩) | (go_at_call 20; (with_reducible refine (HM.out _).mono ?_); rintro e w1 ⟨rfl, rfl⟩) | (go_at_call 20; (with_reducible refine (HK.out _).mono ?_); rintro e w1 ⟨rfl, rfl⟩))
      go_ret
      exact ⟨by first | rfl | exact ret_b (by simp; done) | exact ret_b (by simp; omega), Mor.below (by repeat (first | exact Mor.refl _ | apply Mor.alloc | apply Mor.more | apply Mor.drewN | apply Mor.drew))⟩
    · have HY := Lib.hid (fun w h => add_far B (m - 2000) w (by omega) hB9 (by omega) (by omega) (by omega) h)
      have HZ := Lib.hid (fun w h => add_yes A (m - 2000 + q) w hA0 (by omega) (by omega) (by omega) hz.1 hz.2 h)
      have hle2 := ad_mono2 hA0 (show A ≤ 292193 by omega) (show m - 2000 ≤ m - 2000 + q by omega) hx.1 hz.2
      clear hx hy hz hxd hxm
      generalize cut A (dk A + (m - 2000)) = C at *
      generalize yr (ad A (m - 2000)) = Y' at *
      generalize mo (ad A (m - 2000)) = M' at *
      generalize ad A (m - 2000) = X at *
      generalize ad B (m - 2000) = XY at *
      generalize ad A (m - 2000 + q) = XZ at *
      generalize yr A = Y at *
      generalize mo A = M at *
      generalize dm A = D at *
      go_enter Tryd.func6, Tryd.ntmps6
      go_wp2_with (first | (go_at_call 22; (with_reducible refine (HB.out _ (by repeat (first | exact HT.out | apply Tab.alloc | apply Tab.more | apply Tab.drewN | apply Tab.drew | (refine Tab.set ?_ (by omega))))).mono ?_); rintro e w1 ⟨rfl, bs, k, rfl⟩) | (go_at_call 22; (with_reducible refine (HX.out _ (by repeat (first | exact HT.out | apply Tab.alloc | apply Tab.more | apply Tab.drewN | apply Tab.drew | (refine Tab.set ?_ (by omega))))).mono ?_); rintro e w1 ⟨rfl, bs, k, rfl⟩) | (go_at_call 22; (with_reducible refine (HY.out _ (by repeat (first | exact HT.out | apply Tab.alloc | apply Tab.more | apply Tab.drewN | apply Tab.drew | (refine Tab.set ?_ (by omega))))).mono ?_); rintro e w1 ⟨rfl, bs, k, rfl⟩) | (go_at_call 22; (with_reducible refine (HZ.out _ (by repeat (first | exact HT.out | apply Tab.alloc | apply Tab.more | apply Tab.drewN | apply Tab.drew | (refine Tab.set ?_ (by omega))))).mono ?_); rintro e w1 ⟨rfl, bs, k, rfl⟩) | (go_at_call 17; (with_reducible refine (HN.out _ (by repeat (first | exact HT.out | apply Tab.alloc | apply Tab.more | apply Tab.drewN | apply Tab.drew | (refine Tab.set ?_ (by omega))))).mono ?_); rintro e w1 ⟨rfl, bs, k, rfl⟩) | (go_at_call 17; (with_reducible refine (HU.out _ (by repeat (first | exact HT.out | apply Tab.alloc | apply Tab.more | apply Tab.drewN | apply Tab.drew | (refine Tab.set ?_ (by omega))))).mono ?_); rintro e w1 ⟨rfl, bs, k, rfl⟩) | (go_at_call 16; (with_reducible refine (HD.out _).mono ?_); rintro e w1 ⟨rfl, rfl⟩) | (go_at_call 16; (with_reducible refine (HE.out _).mono ?_); rintro e w1 ⟨rfl, rfl⟩) | (go_at_call 20; (with_reducible refine (HM.out _).mono ?_); rintro e w1 ⟨rfl, rfl⟩) | (go_at_call 20; (with_reducible refine (HK.out _).mono ?_); rintro e w1 ⟨rfl, rfl⟩))
      go_ret
      exact ⟨by first | rfl | exact ret_b (by simp; done) | exact ret_b (by simp; omega), Mor.below (by repeat (first | exact Mor.refl _ | apply Mor.alloc | apply Mor.more | apply Mor.drewN | apply Mor.drew))⟩
    · have HY := Lib.hid (fun w h => add_far B (m - 2000) w (by omega) hB9 (by omega) (by omega) (by omega) h)
      have HZ := Lib.hid (fun w h => add_far A (m - 2000 + q) w hA0 (by omega) (by omega) (by omega) (by omega) h)
      clear hx hy hz hxd hxm
      generalize cut A (dk A + (m - 2000)) = C at *
      generalize yr (ad A (m - 2000)) = Y' at *
      generalize mo (ad A (m - 2000)) = M' at *
      generalize ad A (m - 2000) = X at *
      generalize ad B (m - 2000) = XY at *
      generalize ad A (m - 2000 + q) = XZ at *
      generalize yr A = Y at *
      generalize mo A = M at *
      generalize dm A = D at *
      go_enter Tryd.func6, Tryd.ntmps6
      go_wp2_with (first | (go_at_call 22; (with_reducible refine (HB.out _ (by repeat (first | exact HT.out | apply Tab.alloc | apply Tab.more | apply Tab.drewN | apply Tab.drew | (refine Tab.set ?_ (by omega))))).mono ?_); rintro e w1 ⟨rfl, bs, k, rfl⟩) | (go_at_call 22; (with_reducible refine (HX.out _ (by repeat (first | exact HT.out | apply Tab.alloc | apply Tab.more | apply Tab.drewN | apply Tab.drew | (refine Tab.set ?_ (by omega))))).mono ?_); rintro e w1 ⟨rfl, bs, k, rfl⟩) | (go_at_call 22; (with_reducible refine (HY.out _ (by repeat (first | exact HT.out | apply Tab.alloc | apply Tab.more | apply Tab.drewN | apply Tab.drew | (refine Tab.set ?_ (by omega))))).mono ?_); rintro e w1 ⟨rfl, bs, k, rfl⟩) | (go_at_call 22; (with_reducible refine (HZ.out _ (by repeat (first | exact HT.out | apply Tab.alloc | apply Tab.more | apply Tab.drewN | apply Tab.drew | (refine Tab.set ?_ (by omega))))).mono ?_); rintro e w1 ⟨rfl, bs, k, rfl⟩) | (go_at_call 17; (with_reducible refine (HN.out _ (by repeat (first | exact HT.out | apply Tab.alloc | apply Tab.more | apply Tab.drewN | apply Tab.drew | (refine Tab.set ?_ (by omega))))).mono ?_); rintro e w1 ⟨rfl, bs, k, rfl⟩) | (go_at_call 17; (with_reducible refine (HU.out _ (by repeat (first | exact HT.out | apply Tab.alloc | apply Tab.more | apply Tab.drewN | apply Tab.drew | (refine Tab.set ?_ (by omega))))).mono ?_); rintro e w1 ⟨rfl, bs, k, rfl⟩) | (go_at_call 16; (with_reducible refine (HD.out _).mono ?_); rintro e w1 ⟨rfl, rfl⟩) | (go_at_call 16; (with_reducible refine (HE.out _).mono ?_); rintro e w1 ⟨rfl, rfl⟩) | (go_at_call 20; (with_reducible refine (HM.out _).mono ?_); rintro e w1 ⟨rfl, rfl⟩) | (go_at_call 20; (with_reducible refine (HK.out _).mono ?_); rintro e w1 ⟨rfl, rfl⟩))
      go_ret
      exact ⟨by first | rfl | exact ret_b (by simp; done) | exact ret_b (by simp; omega), Mor.below (by repeat (first | exact Mor.refl _ | apply Mor.alloc | apply Mor.more | apply Mor.drewN | apply Mor.drew))⟩
  · have HX := Lib.hid (fun w h => add_far A (m - 2000) w hA0 (by omega) (by omega) (by omega) (by omega) h)
    clear hx
    go_enter Tryd.func6, Tryd.ntmps6
    go_wp2_with (first | (go_at_call 22; (with_reducible refine (HB.out _ (by repeat (first | exact HT.out | apply Tab.alloc | apply Tab.more | apply Tab.drewN | apply Tab.drew | (refine Tab.set ?_ (by omega))))).mono ?_); rintro e w1 ⟨rfl, bs, k, rfl⟩) | (go_at_call 22; (with_reducible refine (HX.out _ (by repeat (first | exact HT.out | apply Tab.alloc | apply Tab.more | apply Tab.drewN | apply Tab.drew | (refine Tab.set ?_ (by omega))))).mono ?_); rintro e w1 ⟨rfl, bs, k, rfl⟩) | (go_at_call 22; (with_reducible refine (HY.out _ (by repeat (first | exact HT.out | apply Tab.alloc | apply Tab.more | apply Tab.drewN | apply Tab.drew | (refine Tab.set ?_ (by omega))))).mono ?_); rintro e w1 ⟨vy, cy, rfl, bs, k, rfl⟩) | (go_at_call 22; (with_reducible refine (HZ.out _ (by repeat (first | exact HT.out | apply Tab.alloc | apply Tab.more | apply Tab.drewN | apply Tab.drew | (refine Tab.set ?_ (by omega))))).mono ?_); rintro e w1 ⟨vz, cz, rfl, bs, k, rfl⟩) | (go_at_call 16; (with_reducible refine (HD.out _).mono ?_); rintro e w1 ⟨rfl, rfl⟩) | (go_at_call 16; (with_reducible refine (HE.out _).mono ?_); rintro e w1 ⟨rfl, rfl⟩) | (go_at_call 20; (with_reducible refine (HM.out _).mono ?_); rintro e w1 ⟨rfl, rfl⟩) | (go_at_call 20; (with_reducible refine (HK.out _).mono ?_); rintro e w1 ⟨rfl, rfl⟩))
    go_ret
    exact ⟨by first | rfl | exact ret_b (by simp; done) | exact ret_b (by simp; omega), Mor.below (by repeat (first | exact Mor.refl _ | apply Mor.alloc | apply Mor.more | apply Mor.drewN | apply Mor.drew))⟩

end Go.Proofs.YtgfjjhojbpheeaaDoor.calGrows
