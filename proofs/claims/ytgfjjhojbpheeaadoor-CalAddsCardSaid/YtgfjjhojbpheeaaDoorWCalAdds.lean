/- The walk of talkeep.CalAdds. -/
import Derived.Test.YtgfjjhojbpheeaaDoorCalW
import Derived.Test.YtgfjjhojbpheeaaDoorCalO
namespace Go.Proofs.YtgfjjhojbpheeaaDoor.calAdds
open Go.ChangeShapes Go.WideShapes Go.ChangeAt Go.RowKit
set_option linter.unusedVariables false

set_option maxRecDepth 100000 in
set_option maxHeartbeats 6400000 in
theorem calAdds_walk (w : World) (ht : Tab w) (a0 : Int) (wa0 : (Lit.int .i64 a0).wf = true) (a1 : Int) (wa1 : (Lit.int .i64 a1).wf = true) (a2 : Int) (wa2 : (Lit.int .i64 a2).wf = true) :
    Calls Tryd.prog 8 #[.int .i64 a0, .int .i64 a1, .int .i64 a2] w fun e w' => e = .returned (.bool true) ∧ Below w.heap.size w w' := by
  clear wa0 wa1 wa2
  have hw0 := ht.1
  have HT := Lib.hid ht
  clear ht
  have N0 := wi_lo a0 292194 (by omega)
  have N9' := wi_hi a0 292194 (by omega)
  have HD := Lib.hid (fun w => cday_any a0 w)
  generalize wi a0 292194 = N at *
  have N9 : N ≤ 292193 := by omega
  clear N9'
  have p0 := wi_lo a1 2000 (by omega)
  have p9 := wi_hi a1 2000 (by omega)
  have HP := Lib.hid (fun w => within_any a1 2000 w (by omega) (by omega))
  generalize wi a1 2000 = p at *
  have q0 := wi_lo a2 2000 (by omega)
  have q9 := wi_hi a2 2000 (by omega)
  have HQ := Lib.hid (fun w => within_any a2 2000 w (by omega) (by omega))
  generalize wi a2 2000 = q at *
  have HB := Lib.hid (fun w h => add_yes 30 1 w (by omega) (by omega) (by omega) (by omega) (by rw [d30.dk]; omega) (by rw [d30.dk]; omega) h)
  rw [ad30_1] at HB
  have HN := Lib.hid (fun w h => date_yes N w N0 N9 h)
  obtain ⟨E, hE⟩ : ∃ E, (if 28 < dm N then 28 else dm N) = E := ⟨_, rfl⟩
  have hN := isD_of N0 N9
  have e1 : 1 ≤ E := by rw [← hE]; have := hN.d0; split <;> omega
  have e2 : E ≤ 28 := by rw [← hE]; split <;> omega
  have hl := fun k => (lk_bd k).1
  have hK : IsD (fk (dk N) + E - 1) (dk N) E := isD_mk hN.k0 hN.k1 e1 (by have := hl (dk N); omega)
  obtain ⟨⟨y1, y2, m1, m2, -, -⟩, -, -⟩ := ymd N0 N9
  have HO := Lib.hid (fun w h => ofday_yes (yr N) (mo N) E w ⟨y1, y2, m1, m2, e1, by have := (mlen_bd (y := yr N) m1 m2).1; omega⟩ h)
  rw [show fst (yr N) (mo N) = fk (dk N) from rfl] at HO
  obtain ⟨k, hk⟩ : ∃ k, fk (dk N) + E - 1 = k := ⟨_, rfl⟩
  rw [hk] at hK HO
  have hcut : ∀ n j, IsD n j E → ∀ i, cut n i = E := fun n j h i => by unfold cut; rw [h.dm, if_neg (by have := hl i; omega)]
  have hdk := hK.dk
  have hk0 := hK.k0
  have hk9 := hK.k1
  by_cases hx : 0 ≤ dk N + (p - 1000) ∧ dk N + (p - 1000) < 9600
  · have HX := Lib.hid (fun w h => add_yes k (p - 1000) w hK.bd.1 hK.bd.2 (by omega) (by omega) (by omega) (by omega) h)
    have hX := ad_isD (m := p - 1000) hK.bd.1 hK.bd.2 (by omega) (by omega)
    rw [hcut k _ hK, hdk] at hX
    by_cases hz : 0 ≤ dk N + (p - 1000 + (q - 1000)) ∧ dk N + (p - 1000 + (q - 1000)) < 9600
    · have HZ := Lib.hid (fun w h => add_yes k (p - 1000 + (q - 1000)) w hK.bd.1 hK.bd.2 (by omega) (by omega) (by omega) (by omega) h)
      have hZ : ad k (p - 1000 + (q - 1000)) = fk (dk N + (p - 1000 + (q - 1000))) + E - 1 := by rw [ad_eq, hdk, hcut k _ hK]
      rw [hZ] at HZ
      have HY := Lib.hid (fun w h => add_yes (ad k (p - 1000)) (q - 1000) w hX.bd.1 hX.bd.2 (by omega) (by omega) (by rw [hX.dk]; omega) (by rw [hX.dk]; omega) h)
      rw [show ad (ad k (p - 1000)) (q - 1000) = fk (dk N + (p - 1000 + (q - 1000))) + E - 1 by rw [ad_eq, hX.dk, hcut _ _ hX, Int.add_assoc]] at HY
      have HR := Lib.hid (fun w h => add_yes (ad k (p - 1000)) (-(p - 1000)) w hX.bd.1 hX.bd.2 (by omega) (by omega) (by rw [hX.dk]; omega) (by rw [hX.dk]; omega) h)
      rw [show ad (ad k (p - 1000)) (-(p - 1000)) = k by rw [ad_eq, hX.dk, hcut _ _ hX, show dk N + (p - 1000) + -(p - 1000) = dk N by omega, hk]] at HR
      clear hx hz hX hZ hcut hK hdk hk0 hk9 hk hl hN
      generalize fk (dk N + (p - 1000 + (q - 1000))) + E - 1 = Z at *
      generalize ad k (p - 1000) = X at *
      generalize yr N = Y at *
      generalize mo N = M at *
      generalize dm N = D at *
      go_enter Tryd.func8, Tryd.ntmps8
      go_wp2_with (first | (go_at_call 22; (with_reducible refine (HB.out _ (by repeat (first | exact HT.out | apply Tab.alloc | apply Tab.more | apply Tab.drewN | apply Tab.drew | (refine Tab.set ?_ (by omega))))).mono ?_); rintro e w1 ⟨rfl, bs, k, rfl⟩) | (go_at_call 17; (with_reducible refine (HN.out _ (by repeat (first | exact HT.out | apply Tab.alloc | apply Tab.more | apply Tab.drewN | apply Tab.drew | (refine Tab.set ?_ (by omega))))).mono ?_); rintro e w1 ⟨rfl, bs, k, rfl⟩) | (go_at_call 19; (with_reducible refine (HO.out _ (by repeat (first | exact HT.out | apply Tab.alloc | apply Tab.more | apply Tab.drewN | apply Tab.drew | (refine Tab.set ?_ (by omega))))).mono ?_); rintro e w1 ⟨rfl, bs, k, rfl⟩) | (go_at_call 22; (with_reducible refine (HX.out _ (by repeat (first | exact HT.out | apply Tab.alloc | apply Tab.more | apply Tab.drewN | apply Tab.drew | (refine Tab.set ?_ (by omega))))).mono ?_); rintro e w1 ⟨rfl, bs, k, rfl⟩) | (go_at_call 22; (with_reducible refine (HZ.out _ (by repeat (first | exact HT.out | apply Tab.alloc | apply Tab.more | apply Tab.drewN | apply Tab.drew | (refine Tab.set ?_ (by omega))))).mono ?_); rintro e w1 ⟨rfl, bs, k, rfl⟩) | (go_at_call 16; (with_reducible refine (HD.out _).mono ?_); rintro e w1 ⟨rfl, rfl⟩) | (go_at_call 20; (with_reducible refine (HP.out _).mono ?_); rintro e w1 ⟨rfl, rfl⟩) | (go_at_call 20; (with_reducible refine (HQ.out _).mono ?_); rintro e w1 ⟨rfl, rfl⟩) | (go_at_call 22; (with_reducible refine (HY.out _ (by repeat (first | exact HT.out | apply Tab.alloc | apply Tab.more | apply Tab.drewN | apply Tab.drew | (refine Tab.set ?_ (by omega))))).mono ?_); rintro e w1 ⟨rfl, bs, k, rfl⟩) | (go_at_call 22; (with_reducible refine (HR.out _ (by repeat (first | exact HT.out | apply Tab.alloc | apply Tab.more | apply Tab.drewN | apply Tab.drew | (refine Tab.set ?_ (by omega))))).mono ?_); rintro e w1 ⟨rfl, bs, k, rfl⟩))
      go_ret
      exact ⟨by first | rfl | (refine ret_b ?_; first | (simp; done) | (simp; omega)), Mor.below (by repeat (first | exact Mor.refl _ | apply Mor.alloc | apply Mor.more | apply Mor.drewN | apply Mor.drew))⟩
    · have HZ := Lib.hid (fun w h => add_far k (p - 1000 + (q - 1000)) w hK.bd.1 hK.bd.2 (by omega) (by omega) (by omega) h)
      clear hx hz hX hcut hK hdk hk0 hk9 hk hl hN
      generalize ad k (p - 1000) = X at *
      generalize yr N = Y at *
      generalize mo N = M at *
      generalize dm N = D at *
      go_enter Tryd.func8, Tryd.ntmps8
      go_wp2_with (first | (go_at_call 22; (with_reducible refine (HB.out _ (by repeat (first | exact HT.out | apply Tab.alloc | apply Tab.more | apply Tab.drewN | apply Tab.drew | (refine Tab.set ?_ (by omega))))).mono ?_); rintro e w1 ⟨rfl, bs, k, rfl⟩) | (go_at_call 17; (with_reducible refine (HN.out _ (by repeat (first | exact HT.out | apply Tab.alloc | apply Tab.more | apply Tab.drewN | apply Tab.drew | (refine Tab.set ?_ (by omega))))).mono ?_); rintro e w1 ⟨rfl, bs, k, rfl⟩) | (go_at_call 19; (with_reducible refine (HO.out _ (by repeat (first | exact HT.out | apply Tab.alloc | apply Tab.more | apply Tab.drewN | apply Tab.drew | (refine Tab.set ?_ (by omega))))).mono ?_); rintro e w1 ⟨rfl, bs, k, rfl⟩) | (go_at_call 22; (with_reducible refine (HX.out _ (by repeat (first | exact HT.out | apply Tab.alloc | apply Tab.more | apply Tab.drewN | apply Tab.drew | (refine Tab.set ?_ (by omega))))).mono ?_); rintro e w1 ⟨rfl, bs, k, rfl⟩) | (go_at_call 22; (with_reducible refine (HZ.out _ (by repeat (first | exact HT.out | apply Tab.alloc | apply Tab.more | apply Tab.drewN | apply Tab.drew | (refine Tab.set ?_ (by omega))))).mono ?_); rintro e w1 ⟨rfl, bs, k, rfl⟩) | (go_at_call 16; (with_reducible refine (HD.out _).mono ?_); rintro e w1 ⟨rfl, rfl⟩) | (go_at_call 20; (with_reducible refine (HP.out _).mono ?_); rintro e w1 ⟨rfl, rfl⟩) | (go_at_call 20; (with_reducible refine (HQ.out _).mono ?_); rintro e w1 ⟨rfl, rfl⟩))
      go_ret
      exact ⟨by first | rfl | (refine ret_b ?_; first | (simp; done) | (simp; omega)), Mor.below (by repeat (first | exact Mor.refl _ | apply Mor.alloc | apply Mor.more | apply Mor.drewN | apply Mor.drew))⟩
  · have HX := Lib.hid (fun w h => add_far k (p - 1000) w hK.bd.1 hK.bd.2 (by omega) (by omega) (by omega) h)
    by_cases hz : 0 ≤ dk N + (p - 1000 + (q - 1000)) ∧ dk N + (p - 1000 + (q - 1000)) < 9600
    · have HZ := Lib.hid (fun w h => add_yes k (p - 1000 + (q - 1000)) w hK.bd.1 hK.bd.2 (by omega) (by omega) (by omega) (by omega) h)
      clear hx hz hcut hK hdk hk0 hk9 hk hl hN
      generalize ad k (p - 1000 + (q - 1000)) = Z at *
      generalize yr N = Y at *
      generalize mo N = M at *
      generalize dm N = D at *
      go_enter Tryd.func8, Tryd.ntmps8
      go_wp2_with (first | (go_at_call 22; (with_reducible refine (HB.out _ (by repeat (first | exact HT.out | apply Tab.alloc | apply Tab.more | apply Tab.drewN | apply Tab.drew | (refine Tab.set ?_ (by omega))))).mono ?_); rintro e w1 ⟨rfl, bs, k, rfl⟩) | (go_at_call 17; (with_reducible refine (HN.out _ (by repeat (first | exact HT.out | apply Tab.alloc | apply Tab.more | apply Tab.drewN | apply Tab.drew | (refine Tab.set ?_ (by omega))))).mono ?_); rintro e w1 ⟨rfl, bs, k, rfl⟩) | (go_at_call 19; (with_reducible refine (HO.out _ (by repeat (first | exact HT.out | apply Tab.alloc | apply Tab.more | apply Tab.drewN | apply Tab.drew | (refine Tab.set ?_ (by omega))))).mono ?_); rintro e w1 ⟨rfl, bs, k, rfl⟩) | (go_at_call 22; (with_reducible refine (HX.out _ (by repeat (first | exact HT.out | apply Tab.alloc | apply Tab.more | apply Tab.drewN | apply Tab.drew | (refine Tab.set ?_ (by omega))))).mono ?_); rintro e w1 ⟨rfl, bs, k, rfl⟩) | (go_at_call 22; (with_reducible refine (HZ.out _ (by repeat (first | exact HT.out | apply Tab.alloc | apply Tab.more | apply Tab.drewN | apply Tab.drew | (refine Tab.set ?_ (by omega))))).mono ?_); rintro e w1 ⟨rfl, bs, k, rfl⟩) | (go_at_call 16; (with_reducible refine (HD.out _).mono ?_); rintro e w1 ⟨rfl, rfl⟩) | (go_at_call 20; (with_reducible refine (HP.out _).mono ?_); rintro e w1 ⟨rfl, rfl⟩) | (go_at_call 20; (with_reducible refine (HQ.out _).mono ?_); rintro e w1 ⟨rfl, rfl⟩))
      go_ret
      exact ⟨by first | rfl | (refine ret_b ?_; first | (simp; done) | (simp; omega)), Mor.below (by repeat (first | exact Mor.refl _ | apply Mor.alloc | apply Mor.more | apply Mor.drewN | apply Mor.drew))⟩
    · have HZ := Lib.hid (fun w h => add_far k (p - 1000 + (q - 1000)) w hK.bd.1 hK.bd.2 (by omega) (by omega) (by omega) h)
      clear hx hz hcut hK hdk hk0 hk9 hk hl hN
      generalize yr N = Y at *
      generalize mo N = M at *
      generalize dm N = D at *
      go_enter Tryd.func8, Tryd.ntmps8
      go_wp2_with (first | (go_at_call 22; (with_reducible refine (HB.out _ (by repeat (first | exact HT.out | apply Tab.alloc | apply Tab.more | apply Tab.drewN | apply Tab.drew | (refine Tab.set ?_ (by omega))))).mono ?_); rintro e w1 ⟨rfl, bs, k, rfl⟩) | (go_at_call 17; (with_reducible refine (HN.out _ (by repeat (first | exact HT.out | apply Tab.alloc | apply Tab.more | apply Tab.drewN | apply Tab.drew | (refine Tab.set ?_ (by omega))))).mono ?_); rintro e w1 ⟨rfl, bs, k, rfl⟩) | (go_at_call 19; (with_reducible refine (HO.out _ (by repeat (first | exact HT.out | apply Tab.alloc | apply Tab.more | apply Tab.drewN | apply Tab.drew | (refine Tab.set ?_ (by omega))))).mono ?_); rintro e w1 ⟨rfl, bs, k, rfl⟩) | (go_at_call 22; (with_reducible refine (HX.out _ (by repeat (first | exact HT.out | apply Tab.alloc | apply Tab.more | apply Tab.drewN | apply Tab.drew | (refine Tab.set ?_ (by omega))))).mono ?_); rintro e w1 ⟨rfl, bs, k, rfl⟩) | (go_at_call 22; (with_reducible refine (HZ.out _ (by repeat (first | exact HT.out | apply Tab.alloc | apply Tab.more | apply Tab.drewN | apply Tab.drew | (refine Tab.set ?_ (by omega))))).mono ?_); rintro e w1 ⟨rfl, bs, k, rfl⟩) | (go_at_call 16; (with_reducible refine (HD.out _).mono ?_); rintro e w1 ⟨rfl, rfl⟩) | (go_at_call 20; (with_reducible refine (HP.out _).mono ?_); rintro e w1 ⟨rfl, rfl⟩) | (go_at_call 20; (with_reducible refine (HQ.out _).mono ?_); rintro e w1 ⟨rfl, rfl⟩))
      go_ret
      exact ⟨by first | rfl | (refine ret_b ?_; first | (simp; done) | (simp; omega)), Mor.below (by repeat (first | exact Mor.refl _ | apply Mor.alloc | apply Mor.more | apply Mor.drewN | apply Mor.drew))⟩

end Go.Proofs.YtgfjjhojbpheeaaDoor.calAdds
