/- The walk of talkeep.CalYears. -/
import Derived.Test.YtgfjjhojbpheeaaDoorCalBeg
import Derived.Test.YtgfjjhojbpheeaaDoorCalN
namespace Go.Proofs.YtgfjjhojbpheeaaDoor.calYears
open Go.ChangeShapes Go.WideShapes Go.ChangeAt Go.RowKit
set_option linter.unusedVariables false

set_option maxRecDepth 100000 in
set_option maxHeartbeats 6400000 in
theorem calYears_walk (w : World) (ht : Tab w) (a0 : Int) (wa0 : (Lit.int .i64 a0).wf = true) (a1 : Int) (wa1 : (Lit.int .i64 a1).wf = true) :
    Calls Tryd.prog 9 #[.int .i64 a0, .int .i64 a1] w fun e w' => e = .returned (.bool true) ∧ Below w.heap.size w w' := by
  clear wa0 wa1
  have hw0 := ht.1
  have HT := Lib.hid ht
  clear ht
  have y0 := wi_lo a1 799 (by omega)
  have y9 := wi_hi a1 799 (by omega)
  have HY := Lib.hid (fun w => within_any a1 799 w (by omega) (by omega))
  generalize wi a1 799 = y at *
  have N0 := wi_lo a0 291000 (by omega)
  have N9 := wi_hi a0 291000 (by omega)
  have HN := Lib.hid (fun w => within_any a0 291000 w (by omega) (by omega))
  generalize wi a0 291000 = N at *
  have HB := Lib.hid (fun w h => begun_yes w h)
  have N9' : N ≤ 292193 := by omega
  have H1 := Lib.hid (fun w h => ofday_yes (1600 + y) 1 1 w ⟨by omega, by omega, by omega, by omega, by omega, by have := (mlen_bd (y := 1600 + y) (m := 1) (by omega) (by omega)).1; omega⟩ h)
  have H2 := Lib.hid (fun w h => ofday_yes (1600 + y + 1) 1 1 w ⟨by omega, by omega, by omega, by omega, by omega, by have := (mlen_bd (y := 1600 + y + 1) (m := 1) (by omega) (by omega)).1; omega⟩ h)
  rw [fst_one, show yrs (1600 + y) + 1 - 1 = yrs (1600 + y) by omega] at H1
  rw [fst_one, show yrs (1600 + y + 1) + 1 - 1 = yrs (1600 + y + 1) by omega] at H2
  have hs := yrs_succ (1600 + y)
  obtain ⟨s0, s9⟩ := yrs_bd (y := 1600 + y) (by omega) (by omega)
  obtain ⟨t0, t9⟩ := yrs_bd (y := 1600 + y + 1) (by omega) (by omega)
  have hN := isD_of N0 N9'
  have hk0 := hN.k0
  have hk9 : dk N + 12 < 9600 := by
    rcases Int.lt_or_le (dk N + 12) 9600 with h | h
    · exact h
    · have h1 := fk_mono (show 9588 ≤ dk N by omega)
      have h2 := hN.eq
      have h3 := hN.d0
      have h4 : fk 9588 = 291829 := by decide
      omega
  have HX := Lib.hid (fun w h => add_yes N 12 w N0 N9' (by omega) (by omega) (by omega) hk9 h)
  have hX := ad_isD (m := 12) N0 N9' (by omega) hk9
  have hXm := hX.ym
  have HD := Lib.hid (fun w h => date_yes N w N0 N9' h)
  have HK := Lib.hid (fun w h => date_yes (ad N 12) w hX.bd.1 hX.bd.2 h)
  rw [hXm.1, hXm.2.1, hXm.2.2, show 1600 + (dk N + 12) / 12 = yr N + 1 by unfold yr; omega, show 1 + (dk N + 12) % 12 = mo N by unfold mo; omega] at HK
  obtain ⟨⟨y1, y2, m1, m2, d1, d2⟩, -, -⟩ := ymd N0 N9'
  have hcut : cut N (dk N + 12) = dm N ∨ (mo N = 2 ∧ dm N = 29 ∧ cut N (dk N + 12) = 28) := by
    have e1 : lk (dk N + 12) = mlen (yr N + 1) (mo N) := by
      unfold lk yr mo
      rw [show 1600 + (dk N + 12) / 12 = 1600 + dk N / 12 + 1 by omega, show 1 + (dk N + 12) % 12 = 1 + dk N % 12 by omega]
    unfold cut
    rw [e1]
    have c1 := mlen_eq (y := yr N) m1 m2
    have c2 := mlen_eq (y := yr N + 1) m1 m2
    have l1 := lpn_cases (yr N)
    have l2 := lpn_cases (yr N + 1)
    split
    · right
      have hd : dm N ≤ mlen (yr N) (mo N) := d2
      rcases c1 with ⟨a, b⟩ | ⟨a, b⟩ | ⟨a, b⟩ <;> rcases c2 with ⟨c, d⟩ | ⟨c, d⟩ | ⟨c, d⟩ <;> refine ⟨?_, ?_, ?_⟩ <;> omega
    · left; rfl
  clear hN hk0 hk9 hX hXm d2
  obtain ⟨S, hS⟩ : ∃ S, yrs (1600 + y) = S := ⟨_, rfl⟩
  obtain ⟨T, hT⟩ : ∃ T, yrs (1600 + y + 1) = T := ⟨_, rfl⟩
  rw [hS] at H1 hs s0 s9
  rw [hT] at H2 hs t0 t9
  have hl : (T = S + 366 ∧ lp (1600 + y) = true) ∨ (T = S + 365 ∧ lp (1600 + y) = false) := by
    rcases lpn_cases (1600 + y) with ⟨a, b⟩ | ⟨a, b⟩
    · right; exact ⟨by omega, b⟩
    · left; exact ⟨by omega, b⟩
  clear hs hS hT
  generalize cut N (dk N + 12) = D' at *
  generalize ad N 12 = X at *
  generalize yr N = Y at *
  generalize mo N = M at *
  generalize dm N = D at *
  rcases hl with ⟨hT, hl⟩ | ⟨hT, hl⟩
  · have hT2 : T - S = 366 := by omega
    have H3 := Lib.hid (fun w h => ofday_yes (1600 + y) 2 29 w ⟨by omega, by omega, by omega, by omega, by omega, by unfold mlen; rw [if_pos ⟨rfl, hl⟩]; omega⟩ h)
    clear hT hl
    rcases hcut with hcut | ⟨c1, c2, c3⟩
    · subst hcut
      go_enter Tryd.func9, Tryd.ntmps9
      go_wp2_with (first | (go_at_call 18; (with_reducible refine (HB.out _ (by repeat (first | exact HT.out | apply Tab.alloc | apply Tab.more | apply Tab.drewN | apply Tab.drew | (refine Tab.set ?_ (by omega))))).mono ?_); rintro e w1 ⟨rfl, bs, k, rfl⟩) | (go_at_call 20; (with_reducible refine (HY.out _).mono ?_); rintro e w1 ⟨rfl, rfl⟩) | (go_at_call 20; (with_reducible refine (HN.out _).mono ?_); rintro e w1 ⟨rfl, rfl⟩) | (go_at_call 19; (with_reducible refine (H1.out _ (by repeat (first | exact HT.out | apply Tab.alloc | apply Tab.more | apply Tab.drewN | apply Tab.drew | (refine Tab.set ?_ (by omega))))).mono ?_); rintro e w1 ⟨rfl, bs, k, rfl⟩) | (go_at_call 19; (with_reducible refine (H2.out _ (by repeat (first | exact HT.out | apply Tab.alloc | apply Tab.more | apply Tab.drewN | apply Tab.drew | (refine Tab.set ?_ (by omega))))).mono ?_); rintro e w1 ⟨rfl, bs, k, rfl⟩) | (go_at_call 19; (with_reducible refine (H3.out _ (by repeat (first | exact HT.out | apply Tab.alloc | apply Tab.more | apply Tab.drewN | apply Tab.drew | (refine Tab.set ?_ (by omega))))).mono ?_); rintro e w1 ⟨rfl, bs, k, rfl⟩) | (go_at_call 22; (with_reducible refine (HX.out _ (by repeat (first | exact HT.out | apply Tab.alloc | apply Tab.more | apply Tab.drewN | apply Tab.drew | (refine Tab.set ?_ (by omega))))).mono ?_); rintro e w1 ⟨rfl, bs, k, rfl⟩) | (go_at_call 17; (with_reducible refine (HD.out _ (by repeat (first | exact HT.out | apply Tab.alloc | apply Tab.more | apply Tab.drewN | apply Tab.drew | (refine Tab.set ?_ (by omega))))).mono ?_); rintro e w1 ⟨rfl, bs, k, rfl⟩) | (go_at_call 17; (with_reducible refine (HK.out _ (by repeat (first | exact HT.out | apply Tab.alloc | apply Tab.more | apply Tab.drewN | apply Tab.drew | (refine Tab.set ?_ (by omega))))).mono ?_); rintro e w1 ⟨rfl, bs, k, rfl⟩))
      go_ret
      exact ⟨by first | rfl | (refine ret_b ?_; first | (simp; done) | (simp; omega)), Mor.below (by repeat (first | exact Mor.refl _ | apply Mor.alloc | apply Mor.more | apply Mor.drewN | apply Mor.drew))⟩
    · subst c1 c2 c3
      go_enter Tryd.func9, Tryd.ntmps9
      go_wp2_with (first | (go_at_call 18; (with_reducible refine (HB.out _ (by repeat (first | exact HT.out | apply Tab.alloc | apply Tab.more | apply Tab.drewN | apply Tab.drew | (refine Tab.set ?_ (by omega))))).mono ?_); rintro e w1 ⟨rfl, bs, k, rfl⟩) | (go_at_call 20; (with_reducible refine (HY.out _).mono ?_); rintro e w1 ⟨rfl, rfl⟩) | (go_at_call 20; (with_reducible refine (HN.out _).mono ?_); rintro e w1 ⟨rfl, rfl⟩) | (go_at_call 19; (with_reducible refine (H1.out _ (by repeat (first | exact HT.out | apply Tab.alloc | apply Tab.more | apply Tab.drewN | apply Tab.drew | (refine Tab.set ?_ (by omega))))).mono ?_); rintro e w1 ⟨rfl, bs, k, rfl⟩) | (go_at_call 19; (with_reducible refine (H2.out _ (by repeat (first | exact HT.out | apply Tab.alloc | apply Tab.more | apply Tab.drewN | apply Tab.drew | (refine Tab.set ?_ (by omega))))).mono ?_); rintro e w1 ⟨rfl, bs, k, rfl⟩) | (go_at_call 19; (with_reducible refine (H3.out _ (by repeat (first | exact HT.out | apply Tab.alloc | apply Tab.more | apply Tab.drewN | apply Tab.drew | (refine Tab.set ?_ (by omega))))).mono ?_); rintro e w1 ⟨rfl, bs, k, rfl⟩) | (go_at_call 22; (with_reducible refine (HX.out _ (by repeat (first | exact HT.out | apply Tab.alloc | apply Tab.more | apply Tab.drewN | apply Tab.drew | (refine Tab.set ?_ (by omega))))).mono ?_); rintro e w1 ⟨rfl, bs, k, rfl⟩) | (go_at_call 17; (with_reducible refine (HD.out _ (by repeat (first | exact HT.out | apply Tab.alloc | apply Tab.more | apply Tab.drewN | apply Tab.drew | (refine Tab.set ?_ (by omega))))).mono ?_); rintro e w1 ⟨rfl, bs, k, rfl⟩) | (go_at_call 17; (with_reducible refine (HK.out _ (by repeat (first | exact HT.out | apply Tab.alloc | apply Tab.more | apply Tab.drewN | apply Tab.drew | (refine Tab.set ?_ (by omega))))).mono ?_); rintro e w1 ⟨rfl, bs, k, rfl⟩))
      go_ret
      exact ⟨by first | rfl | (refine ret_b ?_; first | (simp; done) | (simp; omega)), Mor.below (by repeat (first | exact Mor.refl _ | apply Mor.alloc | apply Mor.more | apply Mor.drewN | apply Mor.drew))⟩
  · have hT2 : T - S = 365 := by omega
    have H3 := Lib.hid (fun w h => ofday_no (1600 + y) 2 29 w (fun ho => by have h6 := ho.2.2.2.2.2; unfold mlen at h6; rw [if_neg (by rw [hl]; simp)] at h6; simp [mtab] at h6) h)
    clear hT hl
    rcases hcut with hcut | ⟨c1, c2, c3⟩
    · subst hcut
      go_enter Tryd.func9, Tryd.ntmps9
      go_wp2_with (first | (go_at_call 18; (with_reducible refine (HB.out _ (by repeat (first | exact HT.out | apply Tab.alloc | apply Tab.more | apply Tab.drewN | apply Tab.drew | (refine Tab.set ?_ (by omega))))).mono ?_); rintro e w1 ⟨rfl, bs, k, rfl⟩) | (go_at_call 20; (with_reducible refine (HY.out _).mono ?_); rintro e w1 ⟨rfl, rfl⟩) | (go_at_call 20; (with_reducible refine (HN.out _).mono ?_); rintro e w1 ⟨rfl, rfl⟩) | (go_at_call 19; (with_reducible refine (H1.out _ (by repeat (first | exact HT.out | apply Tab.alloc | apply Tab.more | apply Tab.drewN | apply Tab.drew | (refine Tab.set ?_ (by omega))))).mono ?_); rintro e w1 ⟨rfl, bs, k, rfl⟩) | (go_at_call 19; (with_reducible refine (H2.out _ (by repeat (first | exact HT.out | apply Tab.alloc | apply Tab.more | apply Tab.drewN | apply Tab.drew | (refine Tab.set ?_ (by omega))))).mono ?_); rintro e w1 ⟨rfl, bs, k, rfl⟩) | (go_at_call 19; (with_reducible refine (H3.out _ (by repeat (first | exact HT.out | apply Tab.alloc | apply Tab.more | apply Tab.drewN | apply Tab.drew | (refine Tab.set ?_ (by omega))))).mono ?_); rintro e w1 ⟨rfl, bs, k, rfl⟩) | (go_at_call 22; (with_reducible refine (HX.out _ (by repeat (first | exact HT.out | apply Tab.alloc | apply Tab.more | apply Tab.drewN | apply Tab.drew | (refine Tab.set ?_ (by omega))))).mono ?_); rintro e w1 ⟨rfl, bs, k, rfl⟩) | (go_at_call 17; (with_reducible refine (HD.out _ (by repeat (first | exact HT.out | apply Tab.alloc | apply Tab.more | apply Tab.drewN | apply Tab.drew | (refine Tab.set ?_ (by omega))))).mono ?_); rintro e w1 ⟨rfl, bs, k, rfl⟩) | (go_at_call 17; (with_reducible refine (HK.out _ (by repeat (first | exact HT.out | apply Tab.alloc | apply Tab.more | apply Tab.drewN | apply Tab.drew | (refine Tab.set ?_ (by omega))))).mono ?_); rintro e w1 ⟨rfl, bs, k, rfl⟩))
      go_ret
      exact ⟨by first | rfl | (refine ret_b ?_; first | (simp; done) | (simp; omega)), Mor.below (by repeat (first | exact Mor.refl _ | apply Mor.alloc | apply Mor.more | apply Mor.drewN | apply Mor.drew))⟩
    · subst c1 c2 c3
      go_enter Tryd.func9, Tryd.ntmps9
      go_wp2_with (first | (go_at_call 18; (with_reducible refine (HB.out _ (by repeat (first | exact HT.out | apply Tab.alloc | apply Tab.more | apply Tab.drewN | apply Tab.drew | (refine Tab.set ?_ (by omega))))).mono ?_); rintro e w1 ⟨rfl, bs, k, rfl⟩) | (go_at_call 20; (with_reducible refine (HY.out _).mono ?_); rintro e w1 ⟨rfl, rfl⟩) | (go_at_call 20; (with_reducible refine (HN.out _).mono ?_); rintro e w1 ⟨rfl, rfl⟩) | (go_at_call 19; (with_reducible refine (H1.out _ (by repeat (first | exact HT.out | apply Tab.alloc | apply Tab.more | apply Tab.drewN | apply Tab.drew | (refine Tab.set ?_ (by omega))))).mono ?_); rintro e w1 ⟨rfl, bs, k, rfl⟩) | (go_at_call 19; (with_reducible refine (H2.out _ (by repeat (first | exact HT.out | apply Tab.alloc | apply Tab.more | apply Tab.drewN | apply Tab.drew | (refine Tab.set ?_ (by omega))))).mono ?_); rintro e w1 ⟨rfl, bs, k, rfl⟩) | (go_at_call 19; (with_reducible refine (H3.out _ (by repeat (first | exact HT.out | apply Tab.alloc | apply Tab.more | apply Tab.drewN | apply Tab.drew | (refine Tab.set ?_ (by omega))))).mono ?_); rintro e w1 ⟨rfl, bs, k, rfl⟩) | (go_at_call 22; (with_reducible refine (HX.out _ (by repeat (first | exact HT.out | apply Tab.alloc | apply Tab.more | apply Tab.drewN | apply Tab.drew | (refine Tab.set ?_ (by omega))))).mono ?_); rintro e w1 ⟨rfl, bs, k, rfl⟩) | (go_at_call 17; (with_reducible refine (HD.out _ (by repeat (first | exact HT.out | apply Tab.alloc | apply Tab.more | apply Tab.drewN | apply Tab.drew | (refine Tab.set ?_ (by omega))))).mono ?_); rintro e w1 ⟨rfl, bs, k, rfl⟩) | (go_at_call 17; (with_reducible refine (HK.out _ (by repeat (first | exact HT.out | apply Tab.alloc | apply Tab.more | apply Tab.drewN | apply Tab.drew | (refine Tab.set ?_ (by omega))))).mono ?_); rintro e w1 ⟨rfl, bs, k, rfl⟩))
      go_ret
      exact ⟨by first | rfl | (refine ret_b ?_; first | (simp; done) | (simp; omega)), Mor.below (by repeat (first | exact Mor.refl _ | apply Mor.alloc | apply Mor.more | apply Mor.drewN | apply Mor.drew))⟩

end Go.Proofs.YtgfjjhojbpheeaaDoor.calYears
