/- The walk of talkeep.CalCycle. -/
import Derived.Test.YtgfjjhojbpheeaaDoorCalBeg
namespace Go.Proofs.YtgfjjhojbpheeaaDoor.calCycle
open Go.ChangeShapes Go.WideShapes Go.ChangeAt Go.RowKit
set_option linter.unusedVariables false

set_option maxRecDepth 100000 in
set_option maxHeartbeats 6400000 in
theorem calCycle_walk (w : World) (ht : Tab w) (a0 : Int) (wa0 : (Lit.int .i64 a0).wf = true) :
    Calls Tryd.prog 5 #[.int .i64 a0] w fun e w' => e = .returned (.bool true) ∧ Below w.heap.size w w' := by
  clear wa0
  have hw0 := ht.1
  have HT := Lib.hid ht
  clear ht
  have N0 := wi_lo a0 146097 (by omega)
  have N9 := wi_hi a0 146097 (by omega)
  have HD := Lib.hid (fun w => within_any a0 146097 w (by omega) (by omega))
  generalize wi a0 146097 = N at *
  have HB := Lib.hid (fun w h => begun_yes w h)
  have N9' : N ≤ 292193 := by omega
  have hN := isD_of N0 N9'
  have k4 : dk N < 4800 := by
    rcases Int.lt_or_le (dk N) 4800 with h | h
    · exact h
    · have h1 := fk_mono h
      have h2 := hN.eq
      have h3 := hN.d0
      have h4 : fk 4800 = 146097 := by decide
      omega
  have hk0 := hN.k0
  have hM : IsD (N + 146097) (dk N + 4800) (dm N) := ⟨by omega, by omega, hN.d0, by rw [(fk_year _).2]; exact hN.d1, by rw [(fk_year _).1]; have := hN.eq; omega⟩
  have hc := hM.ym
  have HX := Lib.hid (fun w h => date_yes N w N0 N9' h)
  have HY := Lib.hid (fun w h => date_yes (N + 146097) w (by omega) (by omega) h)
  rw [hc.1, hc.2.1, hc.2.2, show 1600 + (dk N + 4800) / 12 = yr N + 400 by unfold yr; omega, show 1 + (dk N + 4800) % 12 = mo N by unfold mo; omega] at HY
  have HV := Lib.hid (fun w => weekday_yes N w N0 N9')
  have HW := Lib.hid (fun w => weekday_yes (N + 146097) w (by omega) (by omega))
  have HU := Lib.hid (fun w => weekday_yes (N + 1) w (by omega) (by omega))
  rw [show (N + 146097 + 6) % 7 = (N + 6) % 7 by omega] at HW
  rw [show (N + 1 + 6) % 7 = ((N + 6) % 7 + 1) % 7 by omega] at HU
  have v0 : 0 ≤ (N + 6) % 7 := by omega
  have v6 : (N + 6) % 7 < 7 := by omega
  obtain ⟨⟨y1, y2, m1, m2, -, -⟩, -, -⟩ := ymd N0 N9'
  clear hN hM hc k4 hk0
  generalize (N + 6) % 7 = v at *
  generalize yr N = Y at *
  generalize mo N = M at *
  generalize dm N = D at *
  go_enter Tryd.func5, Tryd.ntmps5
  go_wp2_with (first | (go_at_call 18; (with_reducible refine (HB.out _ (by repeat (first | exact HT.out | apply Tab.alloc | apply Tab.more | apply Tab.drewN | apply Tab.drew | (refine Tab.set ?_ (by omega))))).mono ?_); rintro e w1 ⟨rfl, bs, k, rfl⟩) | (go_at_call 20; (with_reducible refine (HD.out _).mono ?_); rintro e w1 ⟨rfl, rfl⟩) | (go_at_call 17; (with_reducible refine (HX.out _ (by repeat (first | exact HT.out | apply Tab.alloc | apply Tab.more | apply Tab.drewN | apply Tab.drew | (refine Tab.set ?_ (by omega))))).mono ?_); rintro e w1 ⟨rfl, bs, k, rfl⟩) | (go_at_call 17; (with_reducible refine (HY.out _ (by repeat (first | exact HT.out | apply Tab.alloc | apply Tab.more | apply Tab.drewN | apply Tab.drew | (refine Tab.set ?_ (by omega))))).mono ?_); rintro e w1 ⟨rfl, bs, k, rfl⟩) | (go_at_call 21; (with_reducible refine (HV.out _).mono ?_); rintro e w1 ⟨rfl, rfl⟩) | (go_at_call 21; (with_reducible refine (HW.out _).mono ?_); rintro e w1 ⟨rfl, rfl⟩) | (go_at_call 21; (with_reducible refine (HU.out _).mono ?_); rintro e w1 ⟨rfl, rfl⟩))
  go_ret
  exact ⟨by first | rfl | (refine ret_b ?_; first | (simp; done) | (simp; omega)), Mor.below (by repeat (first | exact Mor.refl _ | apply Mor.alloc | apply Mor.more | apply Mor.drewN | apply Mor.drew))⟩

end Go.Proofs.YtgfjjhojbpheeaaDoor.calCycle
