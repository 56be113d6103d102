/- The walk of talkeep.CalMonths. -/
import Derived.Test.YtgfjjhojbpheeaaDoorCalW
namespace Go.Proofs.YtgfjjhojbpheeaaDoor.calMonths
open Go.ChangeShapes Go.WideShapes Go.ChangeAt Go.RowKit
set_option linter.unusedVariables false

set_option maxRecDepth 100000 in
set_option maxHeartbeats 6400000 in
theorem calMonths_walk (w : World) (ht : Tab w) (a0 : Int) (wa0 : (Lit.int .i64 a0).wf = true) (a1 : Int) (wa1 : (Lit.int .i64 a1).wf = true) (a2 : Int) (wa2 : (Lit.int .i64 a2).wf = true) :
    Calls Tryd.prog 7 #[.int .i64 a0, .int .i64 a1, .int .i64 a2] w fun e w' => e = .returned (.bool true) ∧ Below w.heap.size w w' := by
  clear wa0 wa1 wa2
  have hw0 := ht.1
  have HT := Lib.hid ht
  clear ht
  have N0 := wi_lo a0 292194 (by omega)
  have N9' := wi_hi a0 292194 (by omega)
  have HD := Lib.hid (fun w => cday_any a0 w)
  generalize wi a0 292194 = N at *
  have N9 : N ≤ 292193 := by omega
  clear N9'
  have K0 := wi_lo a1 292194 (by omega)
  have K9' := wi_hi a1 292194 (by omega)
  have HE := Lib.hid (fun w => cday_any a1 w)
  generalize wi a1 292194 = K at *
  have K9 : K ≤ 292193 := by omega
  clear K9'
  have q0 := wi_lo a2 9600 (by omega)
  have q9 := wi_hi a2 9600 (by omega)
  have HK := Lib.hid (fun w => within_any a2 9600 w (by omega) (by omega))
  generalize wi a2 9600 = q at *
  have HB := Lib.hid (fun w h => months_yes 30 59 w (by omega) (by omega) (by omega) h)
  rw [mos30_59] at HB
  obtain ⟨A, hA⟩ : ∃ A, (if K < N then K else N) = A := ⟨_, rfl⟩
  obtain ⟨B, hB⟩ : ∃ B, (if N < K then K else N) = B := ⟨_, rfl⟩
  have hAB : A ≤ B := by rw [← hA, ← hB]; split <;> split <;> omega
  have hA0 : 0 ≤ A := by rw [← hA]; split <;> omega
  have hB9 : B ≤ 292193 := by rw [← hB]; split <;> omega
  have HM := Lib.hid (fun w h => months_yes A B w hA0 hB9 hAB h)
  have hg := galois hA0 hB9 hAB q0
  obtain ⟨g0, g9⟩ := mos_ge hA0 hB9 hAB
  have g99 := mos_le hA0 hB9 hAB
  have hk0 := (isD_of (n := A) hA0 (by omega)).k0
  clear g9
  by_cases hx : dk A + q < 9600
  · have HX := Lib.hid (fun w h => add_yes A q w hA0 (by omega) (by omega) (by omega) (by omega) hx h)
    have hxd := ad_isD (m := q) hA0 (by omega) (by omega) hx
    obtain ⟨x0, x9⟩ := hxd.bd
    clear hxd
    by_cases hle : ad A q ≤ B
    · have hq := hg.2 ⟨hx, hle⟩
      clear hg hk0 hx
      generalize mos A B = MS at *
      generalize ad A q = X at *
      go_enter Tryd.func7, Tryd.ntmps7
      go_wp2_with (first | (go_at_call 23; (with_reducible refine (HB.out _ (by repeat (first | exact HT.out | apply Tab.alloc | apply Tab.more | apply Tab.drewN | apply Tab.drew | (refine Tab.set ?_ (by omega))))).mono ?_); rintro e w1 ⟨rfl, bs, k, rfl⟩) | (go_at_call 23; (with_reducible refine (HM.out _ (by repeat (first | exact HT.out | apply Tab.alloc | apply Tab.more | apply Tab.drewN | apply Tab.drew | (refine Tab.set ?_ (by omega))))).mono ?_); rintro e w1 ⟨rfl, bs, k, rfl⟩) | (go_at_call 22; (with_reducible refine (HX.out _ (by repeat (first | exact HT.out | apply Tab.alloc | apply Tab.more | apply Tab.drewN | apply Tab.drew | (refine Tab.set ?_ (by omega))))).mono ?_); rintro e w1 ⟨rfl, bs, k, rfl⟩) | (go_at_call 16; (with_reducible refine (HD.out _).mono ?_); rintro e w1 ⟨rfl, rfl⟩) | (go_at_call 16; (with_reducible refine (HE.out _).mono ?_); rintro e w1 ⟨rfl, rfl⟩) | (go_at_call 20; (with_reducible refine (HK.out _).mono ?_); rintro e w1 ⟨rfl, rfl⟩))
      go_ret
      exact ⟨by first | rfl | (refine ret_b ?_; first | (simp; done) | (simp; omega)), Mor.below (by repeat (first | exact Mor.refl _ | apply Mor.alloc | apply Mor.more | apply Mor.drewN | apply Mor.drew))⟩
    · have hq : mos A B < q := by
        rcases Int.lt_or_le (mos A B) q with h | h
        · exact h
        · exact absurd (hg.1 h).2 hle
      clear hg hk0 hx
      generalize mos A B = MS at *
      generalize ad A q = X at *
      go_enter Tryd.func7, Tryd.ntmps7
      go_wp2_with (first | (go_at_call 23; (with_reducible refine (HB.out _ (by repeat (first | exact HT.out | apply Tab.alloc | apply Tab.more | apply Tab.drewN | apply Tab.drew | (refine Tab.set ?_ (by omega))))).mono ?_); rintro e w1 ⟨rfl, bs, k, rfl⟩) | (go_at_call 23; (with_reducible refine (HM.out _ (by repeat (first | exact HT.out | apply Tab.alloc | apply Tab.more | apply Tab.drewN | apply Tab.drew | (refine Tab.set ?_ (by omega))))).mono ?_); rintro e w1 ⟨rfl, bs, k, rfl⟩) | (go_at_call 22; (with_reducible refine (HX.out _ (by repeat (first | exact HT.out | apply Tab.alloc | apply Tab.more | apply Tab.drewN | apply Tab.drew | (refine Tab.set ?_ (by omega))))).mono ?_); rintro e w1 ⟨rfl, bs, k, rfl⟩) | (go_at_call 16; (with_reducible refine (HD.out _).mono ?_); rintro e w1 ⟨rfl, rfl⟩) | (go_at_call 16; (with_reducible refine (HE.out _).mono ?_); rintro e w1 ⟨rfl, rfl⟩) | (go_at_call 20; (with_reducible refine (HK.out _).mono ?_); rintro e w1 ⟨rfl, rfl⟩))
      go_ret
      exact ⟨by first | rfl | (refine ret_b ?_; first | (simp; done) | (simp; omega)), Mor.below (by repeat (first | exact Mor.refl _ | apply Mor.alloc | apply Mor.more | apply Mor.drewN | apply Mor.drew))⟩
  · have HX := Lib.hid (fun w h => add_far A q w hA0 (by omega) (by omega) (by omega) (by omega) h)
    have hq : mos A B < q := by
      rcases Int.lt_or_le (mos A B) q with h | h
      · exact h
      · exact absurd (hg.1 h).1 hx
    clear hg hk0 hx
    generalize mos A B = MS at *
    go_enter Tryd.func7, Tryd.ntmps7
    go_wp2_with (first | (go_at_call 23; (with_reducible refine (HB.out _ (by repeat (first | exact HT.out | apply Tab.alloc | apply Tab.more | apply Tab.drewN | apply Tab.drew | (refine Tab.set ?_ (by omega))))).mono ?_); rintro e w1 ⟨rfl, bs, k, rfl⟩) | (go_at_call 23; (with_reducible refine (HM.out _ (by repeat (first | exact HT.out | apply Tab.alloc | apply Tab.more | apply Tab.drewN | apply Tab.drew | (refine Tab.set ?_ (by omega))))).mono ?_); rintro e w1 ⟨rfl, bs, k, rfl⟩) | (go_at_call 22; (with_reducible refine (HX.out _ (by repeat (first | exact HT.out | apply Tab.alloc | apply Tab.more | apply Tab.drewN | apply Tab.drew | (refine Tab.set ?_ (by omega))))).mono ?_); rintro e w1 ⟨rfl, bs, k, rfl⟩) | (go_at_call 16; (with_reducible refine (HD.out _).mono ?_); rintro e w1 ⟨rfl, rfl⟩) | (go_at_call 16; (with_reducible refine (HE.out _).mono ?_); rintro e w1 ⟨rfl, rfl⟩) | (go_at_call 20; (with_reducible refine (HK.out _).mono ?_); rintro e w1 ⟨rfl, rfl⟩))
    go_ret
    exact ⟨by first | rfl | (refine ret_b ?_; first | (simp; done) | (simp; omega)), Mor.below (by repeat (first | exact Mor.refl _ | apply Mor.alloc | apply Mor.more | apply Mor.drewN | apply Mor.drew))⟩

end Go.Proofs.YtgfjjhojbpheeaaDoor.calMonths
