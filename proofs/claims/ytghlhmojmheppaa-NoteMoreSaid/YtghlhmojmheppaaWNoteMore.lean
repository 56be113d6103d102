/- The walk of talkeep.NoteMore. -/
import Derived.Test.YtghlhmojmheppaaNoteB
namespace Go.Proofs.Ytghlhmojmheppaa.noteMore
open Go.ChangeShapes Go.WideShapes Go.ChangeAt Go.RowKit
set_option linter.unusedVariables false

theorem beg_ok : okp 10 0 40 5 := .inr ⟨by rw [nint_free]; omega, by rw [nl_free 10 5 (by omega) (by omega)]; decide⟩
theorem beg_T {T : Nat} (h : NT 10 0 5 T) : T = 2 := by
  obtain ⟨a, b⟩ := NT_free 10 5 T (by omega) (by omega) (by omega) h
  omega
theorem beg_sum : nsum 10 0 5 2 = 0 := by simp only [nsum, nint_free]; omega
theorem within_eq (k n v : Int) (w : World) (h1 : 1 ≤ n) (h2 : n ≤ 4000000000000) (h : wi k n = v) :
    Calls Try.prog 17 #[.int .i64 k, .int .i64 n] w fun e w' => e = .returned (.int .i64 v) ∧ w = w' := by
  have := within_any k n w h1 h2
  rw [h] at this
  exact this

set_option maxRecDepth 100000 in
set_option maxHeartbeats 3200000 in
theorem noteMore_walk (w : World) (o : Int) (wo : (Lit.int .i64 o).wf = true) (r : Int) (wr : (Lit.int .i64 r).wf = true) (p : Int) (wp : (Lit.int .i64 p).wf = true) (m : Int) (wm : (Lit.int .i64 m).wf = true) (u : Int) (wu : (Lit.int .i64 u).wf = true) :
    Calls Try.prog 7 #[.int .i64 o, .int .i64 r, .int .i64 p, .int .i64 m, .int .i64 u] w fun e w' => e = .returned (.bool true) ∧ Below w.heap.size w w' := by
  have HB := Lib.hid (fun w => Rows_good 10 0 5 w ⟨⟨by omega, by omega, by omega, by omega⟩, by omega, by omega⟩ beg_ok)
  by_cases h : rowsP o r p ∧ okp o r 40 p
  · obtain ⟨⟨⟨l1, l2, l3, l4⟩, hp1, hp2⟩, ho⟩ := h
    have v1 := wi_lo m (2000000000000 - p + 1) (by omega)
    have v2 := wi_hi m (2000000000000 - p + 1) (by omega)
    have HV := Lib.hid (fun w => within_any m (2000000000000 - p + 1) w (by omega) (by omega))
    have x1 := wi_lo u 100000 (by omega)
    have x2 := wi_hi u 100000 (by omega)
    have HX := Lib.hid (fun w => within_any u 100000 w (by omega) (by omega))
    generalize wi m (2000000000000 - p + 1) = v at *
    generalize wi u 100000 = x at *
    have HC := Lib.hid (fun w => Rows_good o r p w ⟨⟨l1, l2, l3, l4⟩, hp1, hp2⟩ ho)
    have ho2 : okp o r 40 (p + v) := okp_mono o o r r (p + v) p 40 40 l1 (Int.le_refl _) l3 (Int.le_refl _) (by omega) (Nat.le_refl _) (by omega) ho
    have HD := Lib.hid (fun w => Rows_good o r (p + v) w ⟨⟨l1, l2, l3, l4⟩, by omega, by omega⟩ ho2)
    have HE := Lib.hid (fun r2 w => Rows_any o r2 p w)
    have HQ := Lib.hid (fun r2 (h : r ≤ r2) (h' : r2 ≤ 1000000) => show (∀ k, nl o r p k ≤ nl o r2 p k) ∧ ((∀ k, nl o r2 p k ≤ o) → ∀ T T3, T ≤ T3 → nsum o r p T ≤ nsum o r2 p T3) from
      ⟨fun k => nl_mono o o r r2 p p l1 (Int.le_refl _) l3 h (Int.le_refl _) k, fun _ T T3 ht => nsum_mono o o r r2 p p l1 l3 h h' (fun k => nl_mono o o r r2 p p l1 (Int.le_refl _) l3 h (Int.le_refl _) k) l1 T T3 ht⟩)
    have HO := Lib.hid ho
    have HM := Lib.hid (fun k => nl_mono o o r r (p + v) p l1 (Int.le_refl _) l3 (Int.le_refl _) (by omega) k)
    clear ho ho2
    go_enter Try.func7, Try.ntmps7
    go_wp2_with fail
    refine (HB.out _).mono ?_
    rintro e w1 ⟨T0, A0, c0, bs, k, rfl, rfl, ⟨hT, _⟩, h40, hc0, hr⟩
    obtain rfl := beg_T hT
    have HI := Lib.hid (fun W (h : Rd W A0 (nrows 10 0 5 2)) => interest_any A0 2 c0 10 0 5 W ⟨by omega, by omega, by omega, by omega⟩ (by omega) (fun k => by rw [nl_free 10 5 (by omega) (by omega)]; omega) h)
    rw [beg_sum] at HI
    have HR := Lib.hid hr
    clear hT hr h40
    go_wp2_with (first | (go_at_call 25; (with_reducible refine (HI.out _ HR.out).mono ?_); rintro e w1 ⟨rfl, bs1, rfl⟩))
    refine (HC.out _).mono ?_
    rintro e w1 ⟨T, A, c, bs2, k2, rfl, rfl, ⟨hT, hle⟩, h40, hc, hr⟩
    have HLE := Lib.hid hle
    clear hle
    have HT := Lib.hid hT
    simp [go_sem] at hr
    have HR1 := Lib.hid hr
    clear hT hr HI HR
    go_wp2_with (first | (go_at_call 17; (with_reducible refine (HV.out _).mono ?_); rintro e w1 ⟨rfl, rfl⟩))
    refine (HD.out _).mono ?_
    rintro e w1 ⟨T2, A2, c2, bs3, k3, rfl, rfl, ⟨hT2, hle⟩, h402, hc2, hr2⟩
    clear hle
    have tle : T2 ≤ T := hT2.le HT.out HM.out
    have HT2 := Lib.hid hT2
    simp [go_sem] at hr2
    have HR2 := Lib.hid hr2
    have HI1 := Lib.hid (fun (W : World) (h : Rd W A (nrows o r p T)) => interest_any A T c o r p W ⟨l1, l2, l3, l4⟩ (by omega) HLE.out h)
    have HI2 := Lib.hid (fun (W : World) (h : Rd W A2 (nrows o r (p + v) T2)) => interest_any A2 T2 c2 o r (p + v) W ⟨l1, l2, l3, l4⟩ (by omega) (fun k => Int.le_trans (HM.out k) (HLE.out k)) h)
    have s1 := nsum_mono o o r r (p + v) p l1 l3 (Int.le_refl _) l4 HM.out l1 T2 T tle
    have s2 := nsum_bd o r p l1 l2 l3 l4 HLE.out T
    have s3 := nsum_bd o r (p + v) l1 l2 l3 l4 (fun k => Int.le_trans (HM.out k) (HLE.out k)) T2
    generalize nsum o r (p + v) T2 = S2 at *
    generalize hS : nsum o r p T = S at *
    have HS := Lib.hid hS
    clear hS hT2 hr2
    go_wp2_with (first | (go_at_call 25; (with_reducible refine (HI2.out _ (HR2.out.to (by simp))).mono ?_); rintro e w1 ⟨rfl, bs4, rfl⟩) | (go_at_call 25; (with_reducible refine (HI1.out _ (HR1.out.to (by simp))).mono ?_); rintro e w1 ⟨rfl, bs5, rfl⟩) | (go_at_call 17; (with_reducible refine (HX.out _).mono ?_); rintro e w1 ⟨rfl, rfl⟩))
    all_goals
      refine (HE.out _ _).mono ?_
      rintro e w1 (⟨T3, A3, c3, bs6, k6, rfl, rfl, ⟨hT3, hle⟩, h403, hc3, hr3⟩ | ⟨cc, hcc, bs6, k6, rfl, rfl⟩)
      · have tle3 : T ≤ T3 := HT.out.le hT3 (HQ.out _ (by omega) (by omega)).1
        simp [go_sem] at hr3
        have HR3 := Lib.hid hr3
        have HI3 := Lib.hid (fun (W : World) (h : Rd W A3 (nrows o _ p T3)) => interest_any A3 T3 c3 o _ p W ⟨l1, l2, by omega, by omega⟩ (by omega) hle h)
        have s4 := (HQ.out _ (by omega) (by omega)).2 hle T T3 tle3
        rw [HS.out] at s4
        have s5 := nsum_bd o _ p l1 l2 (by omega) (by omega) hle T3
        generalize nsum o _ p T3 = S3 at *
        clear hT3 hr3 hle
        have dS : decide (S ≤ S3) = true := by simpa using s4
        go_wp2_with (first | (go_at_call 25; (with_reducible refine (HI3.out _ (HR3.out.to (by simp))).mono ?_); rintro e w1 ⟨rfl, bs7, rfl⟩) | (go_at_call 25; (with_reducible refine (HI1.out _ (HR1.out.to (by simp))).mono ?_); rintro e w1 ⟨rfl, bs8, rfl⟩))
        go_ret
        exact ⟨ret_b (by first | rfl | (simp; done) | (simp; omega)), (Mor.below (by repeat (first | exact Mor.refl _ | apply Mor.alloc | apply Mor.more | apply Mor.drewN | apply Mor.drew)))⟩
      · go_wp2_with fail
        go_ret
        exact ⟨ret_b (by first | rfl | (simp; done) | (simp; omega)), (Mor.below (by repeat (first | exact Mor.refl _ | apply Mor.alloc | apply Mor.more | apply Mor.drewN | apply Mor.drew)))⟩
  · have HC := Lib.hid (fun w => Rows_bad o r p w h)
    have hc : rcode o r p ≠ 0 := by unfold rcode; split <;> (try split) <;> omega
    generalize rcode o r p = c at *
    clear h
    go_enter Try.func7, Try.ntmps7
    go_wp2_with fail
    refine (HB.out _).mono ?_
    rintro e w1 ⟨T, A, c0, bs, k, rfl, rfl, ⟨hT, _⟩, h40, hc0, hr⟩
    obtain rfl := beg_T hT
    have HI := Lib.hid (fun W (h : Rd W A (nrows 10 0 5 2)) => interest_any A 2 c0 10 0 5 W ⟨by omega, by omega, by omega, by omega⟩ (by omega) (fun k => by rw [nl_free 10 5 (by omega) (by omega)]; omega) h)
    rw [beg_sum] at HI
    have HR := Lib.hid hr
    clear hT hr h40
    go_wp2_with (first | (go_at_call 25; (with_reducible refine (HI.out _ HR.out).mono ?_); rintro e w1 ⟨rfl, bs1, rfl⟩))
    refine (HC.out _).mono ?_
    rintro e w1 ⟨bs2, k2, rfl, rfl⟩
    go_wp2_with fail
    go_ret
    exact ⟨ret_b (by first | rfl | (simp; done) | (simp; omega)), (Mor.below (by repeat (first | exact Mor.refl _ | apply Mor.alloc | apply Mor.more | apply Mor.drewN | apply Mor.drew)))⟩

end Go.Proofs.Ytghlhmojmheppaa.noteMore
