/- The walk of talkeep.EarnMonths. -/
import Derived.Test.YtgfjjhojbpheeaaDoorEarnB
import Derived.Test.YtgfjjhojbpheeaaDoorOwn
namespace Go.Proofs.YtgfjjhojbpheeaaDoor.earnMonths
open Go.ChangeShapes Go.WideShapes Go.ChangeAt Go.RowKit
set_option linter.unusedVariables false

theorem d61 : IsD 61 2 2 := isD_num 2 2 (by decide) (by decide) (by decide) (by decide) (by decide)
theorem beg : lms 62 0 61 3 = [31, 29, 2] := by
  have e0 : em 0 0 = 30 := by unfold em; rw [d00.dk]; decide
  have e1 : em 0 1 = 59 := by unfold em; rw [d00.dk]; decide
  have e2 : em 0 2 = 90 := by unfold em; rw [d00.dk]; decide
  simp only [lms, wv]
  simp [e0, e1, e2]
  decide
theorem wv_all (a f t : Int) (n : Nat) (h0 : 0 ≤ f) (h9 : t ≤ 292193) (h : f ≤ t) (hn : dk f + n = dk t + 1) : wv a f t n = a := by
  have hd := le_dk h0 h9 h
  have ht := isD_of (n := t) (by omega) h9
  unfold wv
  rw [if_neg (by omega)]
  refine ev_all a f t _ h ?_
  unfold em
  rw [show dk f + ((n - 1 : Nat) : Int) + 1 = dk t + 1 by omega, fk_succ]
  have := ht.eq; have := ht.d1; omega

set_option maxRecDepth 100000 in
set_option maxHeartbeats 6400000 in
theorem earnMonths_walk (w : World) (ht : Tab w) (a : Int) (wa : (Lit.int .i64 a).wf = true) (f : Int) (wf : (Lit.int .i64 f).wf = true) (l : Int) (wl : (Lit.int .i64 l).wf = true) (q : Int) (wq : (Lit.int .i64 q).wf = true) :
    Calls Tryd.prog 14 #[.int .i64 a, .int .i64 f, .int .i64 l, .int .i64 q] w fun e w' => e = .returned (.bool true) ∧ Below w.heap.size w w' := by
  clear wf wl wq
  have HT := Lib.hid ht
  clear ht
  have F0 := wi_lo f 292194 (by omega)
  have F9' := wi_hi f 292194 (by omega)
  have HD := Lib.hid (fun w => cday_any f w)
  generalize wi f 292194 = F at *
  have F9 : F ≤ 292193 := by omega
  clear F9'
  have L0 := wi_lo l 1200 (by omega)
  have L9 := wi_hi l 1200 (by omega)
  have HL := Lib.hid (fun w => within_any l 1200 w (by omega) (by omega))
  generalize wi l 1200 = L at *
  obtain ⟨T, hT⟩ : ∃ T, (if F + L < 292193 then F + L else 292193) = T := ⟨_, rfl⟩
  have T9 : T ≤ 292193 := by rw [← hT]; split <;> omega
  have FT : F ≤ T := by rw [← hT]; split <;> omega
  have HB := Lib.hid (fun w h => emonths_any 62 0 61 3 w (by omega) (by omega) (by omega) (by omega) (by omega) (by rw [d00.dk, d61.dk]; rfl) h)
  go_enter Tryd.func14, Tryd.ntmps14
  go_wp2_with fail
  refine (HB.out _ HT.out).mono ?_
  rintro e w1 (⟨-, v, rfl, hown, hm1⟩ | ⟨h, -⟩)
  case inr => omega
  obtain ⟨b, c, rfl, -, -, hc, hr⟩ := own_row hown (by omega)
  rw [beg] at hr
  have HR := Lib.hid hr
  have HM1 := Lib.hid hm1
  have HT1 := Lib.hid (HT.out.mor hm1)
  clear hr hown hm1
  go_wp2_with fail
  refine (equal_yes _ _ _ _ _ _ 3 [31, 29, 2] _ (HR.out.alloc) (row_lit [31, 29, 2] (by simp) rfl) rfl (by omega)).mono ?_
  rintro e w2 ⟨rfl, m0, rfl⟩
  obtain ⟨w2, hw2⟩ : ∃ w2 : World, w2 = w1.alloc (.cells (List.map (Value.int .i64) [31, 29, 2]).toArray 3) := ⟨_, rfl⟩
  have HM2 := Lib.hid (show Mor w w2 by rw [hw2]; exact HM1.out.alloc)
  have HT2 := Lib.hid (HT.out.mor HM2.out)
  rw [← hw2]
  clear hw2 HR HM1 HT1
  by_cases ha : a < -1000000000000 ∨ 1000000000000 < a
  · have HMo := Lib.hid (fun w => emonths_no a F T w ha)
    go_wp2_with (first | (go_at_call 16; (with_reducible refine (HD.out _).mono ?_); rintro e w1 ⟨rfl, rfl⟩) | (go_at_call 20; (with_reducible refine (HL.out _).mono ?_); rintro e w1 ⟨rfl, rfl⟩) | (go_at_call 26; (with_reducible refine (HMo.out _).mono ?_); rintro e w1 ⟨rfl, m, rfl⟩))
    go_ret
    exact ⟨rfl, HM2.out.drewN.below⟩
  · have a1 : -1000000000000 ≤ a := by omega
    have a2 : a ≤ 1000000000000 := by omega
    clear ha
    obtain ⟨n, hn⟩ : ∃ n : Nat, dk F + n = dk T + 1 := by
      have := le_dk F0 T9 FT
      exact ⟨(dk T + 1 - dk F).toNat, by omega⟩
    have HN := Lib.hid hn
    have hn1 : 1 ≤ n := by have := le_dk F0 T9 FT; omega
    have HMo := Lib.hid (fun w h => emonths_any a F T n w a1 a2 F0 T9 FT hn h)
    have HDS := Lib.hid (fun j (hj : j < n) => ds_facts (t := T) j F0 T9 FT (by omega))
    have HBy := Lib.hid (fun A w (h6 : 0 ≤ A) (h7 : A ≤ 292193) => By_ok a F T A w a1 a2 F0 FT T9 h6 h7)
    have HLa := Lib.hid (fun d w (h6 : 0 ≤ d) (h7 : d ≤ 292193) hT => last_yes d w h6 h7 hT)
    have HSum := Lib.hid (show (lms a F T n).sum = a by rw [lms_sum]; exact wv_all a F T n F0 T9 FT hn)
    have HLB := Lib.hid (lms_bd a F T n FT a1 a2)
    clear hn
    go_wp2_with (first | (go_at_call 16; (with_reducible refine (HD.out _).mono ?_); rintro e w1 ⟨rfl, rfl⟩) | (go_at_call 20; (with_reducible refine (HL.out _).mono ?_); rintro e w1 ⟨rfl, rfl⟩))
    refine (HMo.out _ HT2.out.drewN).mono ?_
    rintro e w3 (⟨hn40, v, rfl, hown, hm3⟩ | ⟨hn40, rfl, hm3⟩)
    · obtain ⟨A, c3, rfl, hc3, -, -⟩ := own_shape hown
      have HRi := Lib.hid (own_ri hown)
      have HM3 := Lib.hid (Mor.trans HM2.out.drewN hm3)
      have HT3 := Lib.hid (HT.out.mor HM3.out)
      clear hown hm3 HM2 HT2
      go_wp2_with fail
      refine (sum_ri A n c3 (lms a F T n) w3 HRi.out (lms_len a F T n) HLB.out (by omega)).mono ?_
      rw [HSum.out]
      rintro e w4 ⟨rfl, rfl⟩
      have hn2 : ¬ ((n : Int) = 0) := by omega
      have K0 := wi_lo q n (by omega)
      have K9 := wi_hi q n (by omega)
      have HK := Lib.hid (fun w => within_any q n w (by omega) (by omega))
      generalize wi q n = K at *
      obtain ⟨k, rfl⟩ := Int.eq_ofNat_of_zero_le K0
      have hkn : k < n := by omega
      have HLF := Lib.hid (fun w h => HLa.out F w F0 F9 h)
      obtain ⟨_, _, s2, s3, s4, _⟩ := HDS.out 0 (by omega)
      rw [show ds F 0 = F from rfl] at s2
      rw [s2] at HLF
      have HE0 := Lib.hid (show em F 0 = em F 0 from rfl)
      clear s2
      go_wp2_with (first | (go_at_call 20; (with_reducible refine (HK.out _).mono ?_); rintro e w1 ⟨rfl, rfl⟩) | (go_at_call 15; (with_reducible refine (HLF.out _ HT3.out).mono ?_); rintro e w1 ⟨rfl, bs, dr, rfl⟩))
      go_loopw [13, 14, 67] (fun e d i wr => ∃ j : Nat, j ≤ k ∧ i = .int .i64 j ∧ e = .int .i64 0 ∧ d = .int .i64 (em F j) ∧ Hid (Mor w3 wr)) (fun _ _ i _ => k - (intOf i).toNat)
      case atStart => exact ⟨0, by omega, rfl, rfl, rfl, Lib.hid (Mor.refl _).more⟩
      case round =>
        obtain ⟨j, hjk, rfl, rfl, rfl, HW⟩ := hrel
        obtain ⟨-, -, -, t3, t4, t5⟩ := HDS.out j (by omega)
        by_cases hlt : j < k
        · obtain ⟨u0, u1, u2, u3, u4, -⟩ := HDS.out (j + 1) (by omega)
          have HLj := Lib.hid (fun w h => HLa.out (ds F (j + 1)) w u0 (by omega) h)
          rw [u2, ← t5] at HLj
          have hki : (j : Int) < (k : Int) := by omega
          clear u2 t5 u1 u0
          obtain ⟨E', hE'⟩ : ∃ E', em F (j + 1) = E' := ⟨_, rfl⟩
          rw [hE'] at HLj u3 u4
          have HE' := Lib.hid hE'
          clear hE'
          generalize em F j = E at *
          go_wp2_with ((go_at_call 15; (with_reducible refine (HLj.out _ (HT3.out.mor HW.out)).mono ?_); rintro e w1 ⟨rfl, bs, dr, rfl⟩))
          go_roundw
          case rel => exact ⟨j + 1, by omega, by go_num, rfl, by rw [HE'.out], Lib.hid HW.out.more⟩
          case measure => simp [intOf]; omega
        · have hjk2 : j = k := by omega
          subst hjk2
          have HBk := Lib.hid (fun w => HBy.out (em F j) w t4 t3)
          have HTk := Lib.hid (show (lms a F T n).take (j + 1) = lms a F T (j + 1) from lms_take a F T (j + 1) n (by omega))
          have HSk := Lib.hid (show (lms a F T (j + 1)).sum = ev a F T (em F j) by rw [lms_sum]; unfold wv; rw [if_neg (by omega)]; rfl)
          have HRk := Lib.hid (show Ri wr A (lms a F T (j + 1)) by rw [← HTk.out]; exact (HRi.out.mor HW.out).take)
          have HLk := Lib.hid (show (lms a F T (j + 1)).length = j + 1 from lms_len _ _ _ _)
          have HBd := Lib.hid (lms_bd a F T (j + 1) FT a1 a2)
          generalize em F j = E at *
          generalize ev a F T E = V at *
          have hj1 : (0 : Int) ≤ (j : Int) + 1 := by omega
          have hj2 : (j : Int) + 1 ≤ (c3 : Int) := by omega
          have hj3 : j + 1 ≤ c3 := by omega
          go_wp2_with (first | (go_at_call 29; (with_reducible refine (HBk.out _).mono ?_); rintro e w1 ⟨rfl, m, rfl⟩) | (go_at_call 28; refine (sum_ri A (j + 1) c3 (lms a F T (j + 1)) _ HRk.out.drewN HLk.out HBd.out (by omega)).mono ?_; rw [HSk.out]; rintro e w1 ⟨rfl, rfl⟩))
          go_ret
          exact ⟨by first | rfl | (refine ret_b ?_; first | (simp; done) | (simp; omega)), ((HM3.out.trans HW.out).drewN).below⟩
    · have HM3 := Lib.hid (Mor.trans HM2.out.drewN hm3)
      clear hm3
      go_wp2_with fail
      go_ret
      exact ⟨rfl, HM3.out.below⟩

end Go.Proofs.YtgfjjhojbpheeaaDoor.earnMonths
