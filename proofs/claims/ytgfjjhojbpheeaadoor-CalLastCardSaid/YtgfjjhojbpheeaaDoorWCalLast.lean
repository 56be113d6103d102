/- The walk of talkeep.CalLast. -/
import Derived.Test.YtgfjjhojbpheeaaDoorCalW
namespace Go.Proofs.YtgfjjhojbpheeaaDoor.calLast
open Go.ChangeShapes Go.WideShapes Go.ChangeAt Go.RowKit
set_option linter.unusedVariables false

set_option maxRecDepth 100000 in
set_option maxHeartbeats 6400000 in
theorem calLast_walk (w : World) (ht : Tab w) (a0 : Int) (wa0 : (Lit.int .i64 a0).wf = true) :
    Calls Tryd.prog 3 #[.int .i64 a0] w fun e w' => e = .returned (.bool true) ∧ Below w.heap.size w w' := by
  clear wa0
  have hw0 := ht.1
  have HT := Lib.hid ht
  clear ht
  have N0 := wi_lo a0 292194 (by omega)
  have N9' := wi_hi a0 292194 (by omega)
  have HD := Lib.hid (fun w => cday_any a0 w)
  generalize wi a0 292194 = N at *
  have N9 : N ≤ 292193 := by omega
  clear N9'
  have HB := Lib.hid (fun w h => last_yes 31 w (by omega) (by omega) h)
  rw [la31] at HB
  have HL := Lib.hid (fun w h => last_yes N w N0 N9 h)
  obtain ⟨f1, f2, f3, f4, f5⟩ := la_facts N0 N9
  have HX := Lib.hid (fun w h => last_yes (la N) w (by omega) f2 h)
  rw [f3] at HX
  have HN := Lib.hid (fun w h => date_yes N w N0 N9 h)
  have HM := Lib.hid (fun w h => date_yes (la N) w (by omega) f2 h)
  rw [f4, f5] at HM
  clear f3 f4 f5
  obtain ⟨⟨y1, y2, m1, m2, -, -⟩, -, -⟩ := ymd N0 N9
  by_cases e : la N = 292193
  · generalize la N = X at *
    subst e
    generalize dm (292193 : Int) = D' at *
    generalize yr N = Y at *
    generalize mo N = M at *
    generalize dm N = D at *
    go_enter Tryd.func3, Tryd.ntmps3
    go_wp2_with (first | (go_at_call 15; (with_reducible refine (HB.out _ (by repeat (first | exact HT.out | apply Tab.alloc | apply Tab.more | apply Tab.drewN | apply Tab.drew | (refine Tab.set ?_ (by omega))))).mono ?_); rintro e w1 ⟨rfl, bs, k, rfl⟩) | (go_at_call 15; (with_reducible refine (HL.out _ (by repeat (first | exact HT.out | apply Tab.alloc | apply Tab.more | apply Tab.drewN | apply Tab.drew | (refine Tab.set ?_ (by omega))))).mono ?_); rintro e w1 ⟨rfl, bs, k, rfl⟩) | (go_at_call 15; (with_reducible refine (HX.out _ (by repeat (first | exact HT.out | apply Tab.alloc | apply Tab.more | apply Tab.drewN | apply Tab.drew | (refine Tab.set ?_ (by omega))))).mono ?_); rintro e w1 ⟨rfl, bs, k, rfl⟩) | (go_at_call 17; (with_reducible refine (HN.out _ (by repeat (first | exact HT.out | apply Tab.alloc | apply Tab.more | apply Tab.drewN | apply Tab.drew | (refine Tab.set ?_ (by omega))))).mono ?_); rintro e w1 ⟨rfl, bs, k, rfl⟩) | (go_at_call 17; (with_reducible refine (HM.out _ (by repeat (first | exact HT.out | apply Tab.alloc | apply Tab.more | apply Tab.drewN | apply Tab.drew | (refine Tab.set ?_ (by omega))))).mono ?_); rintro e w1 ⟨rfl, bs, k, rfl⟩) | (go_at_call 16; (with_reducible refine (HD.out _).mono ?_); rintro e w1 ⟨rfl, rfl⟩))
    go_ret
    exact ⟨by first | rfl | exact ret_b (by simp; done) | exact ret_b (by simp; omega), Mor.below (by repeat (first | exact Mor.refl _ | apply Mor.alloc | apply Mor.more | apply Mor.drewN | apply Mor.drew))⟩
  · have hn := la_next N0 N9 e
    have hc := hn.ym
    have k0 := hn.k0
    have k9 := hn.k1
    have HC := Lib.hid (fun w h => date_yes (la N + 1) w (by omega) (by omega) h)
    rw [hc.1, hc.2.1, hc.2.2] at HC
    have hq : 12 * (1600 + (dk N + 1) / 12) + (1 + (dk N + 1) % 12) = 12 * yr N + mo N + 1 := by have := ym_dk N; omega
    have y3 : 1600 ≤ 1600 + (dk N + 1) / 12 := by omega
    have y4 : 1600 + (dk N + 1) / 12 ≤ 2399 := by omega
    have m3 : 1 ≤ 1 + (dk N + 1) % 12 := by omega
    have m4 : 1 + (dk N + 1) % 12 ≤ 12 := by omega
    clear hn hc k0 k9
    generalize 1600 + (dk N + 1) / 12 = Y' at *
    generalize 1 + (dk N + 1) % 12 = M' at *
    generalize la N = X at *
    generalize dm X = D' at *
    generalize yr N = Y at *
    generalize mo N = M at *
    generalize dm N = D at *
    go_enter Tryd.func3, Tryd.ntmps3
    go_wp2_with (first | (go_at_call 15; (with_reducible refine (HB.out _ (by repeat (first | exact HT.out | apply Tab.alloc | apply Tab.more | apply Tab.drewN | apply Tab.drew | (refine Tab.set ?_ (by omega))))).mono ?_); rintro e w1 ⟨rfl, bs, k, rfl⟩) | (go_at_call 15; (with_reducible refine (HL.out _ (by repeat (first | exact HT.out | apply Tab.alloc | apply Tab.more | apply Tab.drewN | apply Tab.drew | (refine Tab.set ?_ (by omega))))).mono ?_); rintro e w1 ⟨rfl, bs, k, rfl⟩) | (go_at_call 15; (with_reducible refine (HX.out _ (by repeat (first | exact HT.out | apply Tab.alloc | apply Tab.more | apply Tab.drewN | apply Tab.drew | (refine Tab.set ?_ (by omega))))).mono ?_); rintro e w1 ⟨rfl, bs, k, rfl⟩) | (go_at_call 17; (with_reducible refine (HN.out _ (by repeat (first | exact HT.out | apply Tab.alloc | apply Tab.more | apply Tab.drewN | apply Tab.drew | (refine Tab.set ?_ (by omega))))).mono ?_); rintro e w1 ⟨rfl, bs, k, rfl⟩) | (go_at_call 17; (with_reducible refine (HM.out _ (by repeat (first | exact HT.out | apply Tab.alloc | apply Tab.more | apply Tab.drewN | apply Tab.drew | (refine Tab.set ?_ (by omega))))).mono ?_); rintro e w1 ⟨rfl, bs, k, rfl⟩) | (go_at_call 17; (with_reducible refine (HC.out _ (by repeat (first | exact HT.out | apply Tab.alloc | apply Tab.more | apply Tab.drewN | apply Tab.drew | (refine Tab.set ?_ (by omega))))).mono ?_); rintro e w1 ⟨rfl, bs, k, rfl⟩) | (go_at_call 16; (with_reducible refine (HD.out _).mono ?_); rintro e w1 ⟨rfl, rfl⟩))
    go_ret
    exact ⟨by first | rfl | exact ret_b (by simp; done) | exact ret_b (by simp; omega), Mor.below (by repeat (first | exact Mor.refl _ | apply Mor.alloc | apply Mor.more | apply Mor.drewN | apply Mor.drew))⟩

end Go.Proofs.YtgfjjhojbpheeaaDoor.calLast
