/- The walk of talkeep.BookShutTwice. -/
import Derived.Test.YtpgefclnplmlkaaBookR
import Derived.BigRegion
namespace Go.Proofs.Ytpgefclnplmlkaa.bookShutTwice
open Go.ChangeShapes Go.WideShapes Go.ChangeAt Go.RowKit Go.PlainAid
set_option linter.unusedVariables false

theorem shut_ok {b : Bok} {d : Int} (h : BOk b) (h1 : 0 ≤ d) (h2 : d ≤ 292193) : BOk (shutb b d) :=
  ⟨h.ac, by show -1 ≤ d; omega, h2, h.len, h.enc, h.known, h.keys, h.sorted⟩
theorem plain_ok : bookc plainB = 0 := by decide +kernel
theorem shutc_zero {b : Bok} {d : Int} (h : shutc b d = 0) : bookc b = 0 ∧ 0 ≤ d ∧ d ≤ 292193 ∧ ¬ d < b.shut := by
  unfold shutc at h
  by_cases h1 : bookc b = 0
  · rw [if_neg (by simp [h1])] at h
    by_cases h2 : d < 0 ∨ 292193 < d
    · rw [if_pos h2] at h; omega
    · rw [if_neg h2] at h
      by_cases h3 : d < b.shut
      · rw [if_pos h3] at h; omega
      · exact ⟨h1, by omega, by omega, h3⟩
  · rw [if_pos h1] at h; exact absurd h h1
/-- Shut, where it is refused -/
theorem shut_no (A : Option Addr) (n c : Nat) (X : Option Addr) (m k : Nat) (b : Bok) (day : Int) (w : World) (hb : Bq w A n c X m k b) (hc : shutc b day ≠ 0) :
    Calls Try.prog 15 #[bv A n c X m k b.shut, .int .i64 day] w (PostNo w (shutc b day)) := by
  unfold shutc at hc ⊢
  by_cases h1 : bookc b = 0
  · rw [if_neg (by simp [h1])] at hc ⊢
    by_cases h2 : day < 0 ∨ 292193 < day
    · rw [if_pos h2]; exact shut_bad2 A n c X m k b day w hb h1 h2
    · rw [if_neg h2] at hc ⊢
      by_cases h3 : day < b.shut
      · rw [if_pos h3]; exact shut_bad9 A n c X m k b day w hb h1 (by omega) (by omega) h3
      · rw [if_neg h3] at hc; exact absurd rfl hc
  · rw [if_pos h1]; exact shut_bad1 A n c X m k b day w hb h1

set_option maxRecDepth 100000 in
set_option maxHeartbeats 6400000 in
theorem bookShutTwice_walk (w : World) (A : Option Addr) (n c : Nat) (X : Option Addr) (m k : Nat) (b : Bok) (hb : Bq w A n c X m k b) (v1 : Int) (w1 : (Lit.int .i64 v1).wf = true) (v2 : Int) (w2 : (Lit.int .i64 v2).wf = true) :
    Calls Try.prog 3 #[bv A n c X m k b.shut, .int .i64 v1, .int .i64 v2] w fun e w' => e = .returned (.bool true) ∧ Below w.heap.size w w' := by
  have t0 := wi_lo v1 292194 (by omega)
  have t1 := wi_hi v1 292194 (by omega)
  have u0 := wi_lo v2 292194 (by omega)
  have u1 := wi_hi v2 292194 (by omega)
  have HD1 := Lib.hid (fun w => day_any v1 w)
  have HD2 := Lib.hid (fun w => day_any v2 w)
  generalize wi v1 292194 = t at *
  generalize wi v2 292194 = u at *
  obtain ⟨i, hi⟩ : ∃ i, min t u = i := ⟨_, rfl⟩
  obtain ⟨q, hq⟩ : ∃ q, max t u = q := ⟨_, rfl⟩
  have i0 : 0 ≤ i ∧ i ≤ 292193 ∧ 0 ≤ q ∧ q ≤ 292193 ∧ i ≤ q := by rw [← hi, ← hq]; omega
  obtain ⟨i0, i1, q0, q1, hiq⟩ := i0
  have HSn := Lib.hid (fun w' (h : Mor w w') (hc : shutc b i ≠ 0) => shut_no A n c X m k b i w' (hb.mor h) hc)
  have HSy := Lib.hid (fun w' (h : Mor w w') (hc : shutc b i = 0) => shut_yes A n c X m k b i w' (hb.mor h) (shutc_zero hc).1 i0 i1 (shutc_zero hc).2.2.2)
  have HSq := Lib.hid (fun w' (h : Mor w w') (hc : shutc b i = 0) => shut_yes A n c X m k b q w' (hb.mor h) (shutc_zero hc).1 q0 q1 (by have := (shutc_zero hc).2.2.2; omega))
  have HBo := Lib.hid (fun (hc : shutc b i = 0) => shut_ok ((bookc_iff b).1 (shutc_zero hc).1) i0 i1)
  have HBq := Lib.hid (fun (hc : shutc b i = 0) => shut_ok ((bookc_iff b).1 (shutc_zero hc).1) q0 q1)
  generalize hsh : b.shut = sh at *
  clear hb w1 w2 hsh
  go_enter Try.func3, Try.ntmps3
  go_wp2_with fail
  refine (plain_any _).mono ?_
  rintro e w3 ⟨g, rfl, hp, hm⟩
  have hP := (Bk.new w 25 #[.slice A n c, .slice X m k, .int .i64 sh]).mor hm
  have hM3 := (Mor.refl w).alloc.trans' hm
  obtain ⟨bP, hbP⟩ : ∃ g, g = w.heap.size := ⟨_, rfl⟩
  rw [← hbP] at hP ⊢
  have HP := Lib.hid (fun w' (h : Mor w3 w') => hP.mor h)
  have HPl := Lib.hid hp
  have HM3 := Lib.hid hM3
  have HbP := Lib.hid (show w.heap.size = bP by omega)
  clear hP hp hm hM3 hbP
  go_wp2_with fail
  refine (shut_yes _ _ _ _ _ _ plainB 9 _ HPl.out plain_ok (by omega) (by omega) (by decide)).mono ?_
  intro e w4 h4
  obtain ⟨A4, n4, c4, X4, m4, k4, rfl, hq4, ho4, hm⟩ := postYes_bq h4
  have HQ4 := Lib.hid hq4
  have HM4 := Lib.hid hm
  clear h4 hq4 ho4 hm
  rw [show (shutb plainB 9).shut = 9 from rfl]
  go_wp2_with fail
  have hX0 := Bk.new w4 25 #[.slice A4 n4 c4, .slice X4 m4 k4, .int .i64 9]
  obtain ⟨bX, hbX⟩ : ∃ g, g = w4.heap.size := ⟨_, rfl⟩
  rw [← hbX] at hX0 ⊢
  have HbX := Lib.hid (show bP < bX by have := (HP.out _ HM4.out).lt; omega)
  have HX0 := Lib.hid (fun w' (h : Mor (w4.alloc (.cells #[.slice A4 n4 c4, .slice X4 m4 k4, .int .i64 9] 25)) w') => hX0.mor h)
  clear hX0 hbX
  refine (shut_bad9 _ _ _ _ _ _ (shutb plainB 9) 8 _ (HQ4.out.mor (Mor.refl _).alloc) ((bookc_iff _).2 (shut_ok ((bookc_iff _).1 plain_ok) (by omega) (by omega))) (by omega) (by omega) (by decide)).mono ?_
  rintro e w5 ⟨rfl, hm⟩
  have hX := HX0.out _ hm
  have hM45 : Mor w4 w5 := (Mor.refl _).alloc.trans' hm
  have hP := HP.out _ (HM4.out.trans' hM45)
  have HM5 := Lib.hid ((HM3.out.trans' HM4.out).trans' hM45)
  have HP5 := Lib.hid hP
  have HX5 := Lib.hid hX
  have c0 := hP.cell 0
  have c1 := hP.cell 1
  have c2 := hP.cell 2
  have cl := hP.lt
  have x2 := hX.cell 2
  have xl := hX.lt
  simp at c0 c1 c2 x2
  clear hP hX hM45 hm HX0 HPl HQ4
  go_wp2_with (first | (go_at_call 17; (with_reducible refine (HD1.out _).mono ?_); rintro e w6 ⟨rfl, rfl⟩) | (go_at_call 17; (with_reducible refine (HD2.out _).mono ?_); rintro e w6 ⟨rfl, rfl⟩))
  clear hi hq t0 t1 u0 u1 HD1 HD2
  have hM5a := HM5.out.alloc (o := .cells #[.slice none 0 0, .slice none 0 0, .int .i64 0] 25)
  have hP5a := HP5.out.alloc (.cells #[.slice none 0 0, .slice none 0 0, .int .i64 0] 25)
  have hX5a := HX5.out.alloc (.cells #[.slice none 0 0, .slice none 0 0, .int .i64 0] 25)
  clear HM5 HP5 HX5 c0 c1 c2 cl x2 xl
  obtain ⟨bZ5, hbZ5⟩ : ∃ g, g = w5.heap.size := ⟨_, rfl⟩
  rw [← hbZ5]
  clear hbZ5
  generalize w5.alloc (.cells #[.slice none 0 0, .slice none 0 0, .int .i64 0] 25) = w5 at *
  have HM5 := Lib.hid hM5a
  have HP5 := Lib.hid hP5a
  have HX5 := Lib.hid hX5a
  clear hM5a hP5a hX5a
  by_cases hc : shutc b i = 0
  · refine (HSy.out _ HM5.out hc).mono ?_
    intro e w6 h6
    obtain ⟨A6, n6, c6, X6, m6, k6, rfl, hq6, ho6, hm⟩ := postYes_bq h6
    rw [show (shutb b i).shut = i from rfl]
    have hX6 := HX5.out.mor hm
    have hP6 := HP5.out.mor hm
    have hlt5 := HX5.out.lt
    have hB7 := ((ho6.setlt (i := 0) (u := .slice A6 n6 c6) hlt5).setlt (i := 1) (u := .slice X6 m6 k6) hlt5).setlt (i := 2) (u := .int .i64 i) hlt5
    have hX7 := ((hX6.set_ 0 (.slice A6 n6 c6)).set_ 1 (.slice X6 m6 k6)).set_ 2 (.int .i64 i)
    have hP7 := ((hP6.set_other bX 0 (.slice A6 n6 c6) (by have := HbX.out; omega)).set_other bX 1 (.slice X6 m6 k6) (by have := HbX.out; omega)).set_other bX 2 (.int .i64 i) (by have := HbX.out; omega)
    have hM7 : Mor w (((w6.setCell ⟨bX, 0, none⟩ (.slice A6 n6 c6)).setCell ⟨bX, 1, none⟩ (.slice X6 m6 k6)).setCell ⟨bX, 2, none⟩ (.int .i64 i)) := by
      have hw : w.heap.size ≤ bX := by have := HbX.out; have := HbP.out; omega
      exact Mor.of_below ((((HM5.out.trans' hm).below.setCell (p := ⟨bX, 0, none⟩) hw _).setCell (p := ⟨bX, 1, none⟩) hw _).setCell (p := ⟨bX, 2, none⟩) hw _)
    obtain ⟨w7, hw7⟩ : ∃ w7, w7 = (((w6.setCell ⟨bX, 0, none⟩ (.slice A6 n6 c6)).setCell ⟨bX, 1, none⟩ (.slice X6 m6 k6)).setCell ⟨bX, 2, none⟩ (.int .i64 i)) := ⟨_, rfl⟩
    rw [← hw7] at hB7 hX7 hP7 hM7
    obtain ⟨A7, c7, X7, k7, ea, eb, hq7⟩ := hB7.bq
    injection ea with ea1 _ ea3
    injection eb with eb1 _ eb3
    subst ea1 ea3 eb1 eb3
    have HQ7 := Lib.hid hq7
    have HX7 := Lib.hid (show Bk w7 bX 25 #[.slice A6 n6 c6, .slice X6 m6 k6, .int .i64 i] by simpa using hX7)
    have HP7 := Lib.hid (fun w' (h : Mor w7 w') => hP7.mor h)
    have HM7 := Lib.hid hM7
    have HW7 := Lib.hid hw7
    have x0 := hX6.cell 0
    have x1 := hX6.cell 1
    have x2 := hX6.cell 2
    have xf0 := hX6.frozen 0
    have xf1 := hX6.frozen 1
    have xf2 := hX6.frozen 2
    have xl := hX6.lt
    simp at x0 x1 x2
    clear hX6 hP6 hlt5 hB7 hX7 hP7 hM7 hw7 hq7 h6 hq6 ho6 hm
    have HBo' := Lib.hid (HBo.out hc)
    have HBq' := Lib.hid (HBq.out hc)
    have HSq' := Lib.hid (fun w' (h : Mor w w') => HSq.out w' h hc)
    clear hc HSn HSy HSq HBo HBq
    go_wp2_with fail
    rw [← HW7.out]
    refine (shut_yes _ _ _ _ _ _ (shutb b i) q _ HQ7.out ((bookc_iff _).2 HBo'.out) q0 q1 (by show ¬ q < i; omega)).mono ?_
    intro e w8 h8
    obtain ⟨A8, n8, c8, X8, m8, k8, rfl, hq8, ho8, hm⟩ := postYes_bq h8
    rw [show (shutb (shutb b i) q).shut = q from rfl]
    have HQ8 := Lib.hid (show Bq w8 A8 n8 c8 X8 m8 k8 (shutb b q) from hq8)
    have HM8 := Lib.hid (HM7.out.trans' hm)
    have hP8 := HP7.out _ hm
    have HP8 := Lib.hid (fun w' (h : Mor w8 w') => hP8.mor h)
    have c0 := hP8.cell 0
    have c1 := hP8.cell 1
    have c2 := hP8.cell 2
    have cl := hP8.lt
    simp at c0 c1 c2
    clear hP8 hm hq8 ho8 h8 x0 x1 x2 xf0 xf1 xf2 xl
    go_wp2_with fail
    refine (HSq'.out _ (HM8.out.alloc)).mono ?_
    intro e w9 h9
    obtain ⟨A9, n9, c9, X9, m9, k9, rfl, hq9, ho9, hm⟩ := postYes_bq h9
    rw [show (shutb b q).shut = q from rfl]
    have hY := (Bk.new w8 25 #[.slice A8 n8 c8, .slice X8 m8 k8, .int .i64 q]).mor hm
    have HM89 := Lib.hid ((Mor.refl w8).alloc.trans' hm)
    obtain ⟨bY, hbY⟩ : ∃ g, g = w8.heap.size := ⟨_, rfl⟩
    rw [← hbY] at hY ⊢
    have HY := Lib.hid (fun w' (h : Mor w9 w') => hY.mor h)
    have HQ9 := Lib.hid hq9
    have y0 := hY.cell 0
    have y1 := hY.cell 1
    have y2 := hY.cell 2
    have yl := hY.lt
    simp at y0 y1 y2
    clear hY hm hq9 ho9 h9 hbY c0 c1 c2 cl
    have hn98 : n9 = n8 := by rw [← HQ9.out.ac.length, ← HQ8.out.ac.length]
    have hm98 : m9 = m8 := by rw [← HQ9.out.length, ← HQ8.out.length]
    subst hn98 hm98
    have HSB := Lib.hid (fun w' (h : Mor w9 w') => samebook_yes A8 A9 n9 c8 c9 X8 X9 m9 k8 k9 q (shutb b q) w' (HQ8.out.mor (HM89.out.trans' h)) (HQ9.out.mor h))
    by_cases hiq2 : i < q
    · have H3 := Lib.hid (fun w' (h : Mor w9 w') => shut_bad9 A8 n9 c8 X8 m9 k8 (shutb b q) i w' (HQ8.out.mor (HM89.out.trans' h)) ((bookc_iff _).2 HBq'.out) i0 i1 hiq2)
      go_wp2_with fail
      refine (H3.out _ (Mor.refl _).alloc).mono ?_
      rintro e w10 ⟨rfl, hm⟩
      have hY := HY.out _ ((Mor.refl _).alloc.trans' hm)
      have hZ := (Bk.new w9 25 #[.slice A9 n9 c9, .slice X9 m9 k9, .int .i64 q]).mor hm
      have HM10 := Lib.hid ((Mor.refl w9).alloc.trans' hm)
      obtain ⟨bZ, hbZ⟩ : ∃ g, g = w9.heap.size := ⟨_, rfl⟩
      rw [← hbZ] at hZ ⊢
      clear y0 y1 y2 yl hbZ
      have y0 := hY.cell 0
      have y1 := hY.cell 1
      have y2 := hY.cell 2
      have yl := hY.lt
      have z0 := hZ.cell 0
      have z1 := hZ.cell 1
      have z2 := hZ.cell 2
      have zl := hZ.lt
      simp at y0 y1 y2 z0 z1 z2
      clear hY hZ hm
      go_wp2_with fail
      refine (HSB.out _ (HM10.out.alloc)).mono ?_
      rintro e w11 ⟨rfl, hm⟩
      have HM11 := Lib.hid (HM8.out.trans' (HM89.out.trans' ((HM10.out.alloc).trans' hm)))
      clear hm
      go_wp2_with fail
      go_ret
      exact ⟨by simp, HM11.out.below⟩
    · have H3 := Lib.hid (fun w' (h : Mor w9 w') => shut_yes A8 n9 c8 X8 m9 k8 (shutb b q) i w' (HQ8.out.mor (HM89.out.trans' h)) ((bookc_iff _).2 HBq'.out) i0 i1 hiq2)
      go_wp2_with fail
      refine (H3.out _ (Mor.refl _).alloc).mono ?_
      intro e w10 h10
      obtain ⟨A10, n10, c10, X10, m10, k10, rfl, hq10, ho10, hm⟩ := postYes_bq h10
      have hY := HY.out _ ((Mor.refl _).alloc.trans' hm)
      have hZ := (Bk.new w9 25 #[.slice A9 n9 c9, .slice X9 m9 k9, .int .i64 q]).mor hm
      have HM10 := Lib.hid ((Mor.refl w9).alloc.trans' hm)
      obtain ⟨bZ, hbZ⟩ : ∃ g, g = w9.heap.size := ⟨_, rfl⟩
      rw [← hbZ] at hZ ⊢
      clear y0 y1 y2 yl hbZ h10 hq10 ho10
      have y0 := hY.cell 0
      have y1 := hY.cell 1
      have y2 := hY.cell 2
      have yl := hY.lt
      have z0 := hZ.cell 0
      have z1 := hZ.cell 1
      have z2 := hZ.cell 2
      have zl := hZ.lt
      simp at y0 y1 y2 z0 z1 z2
      clear hY hZ hm
      go_wp2_with fail
      refine (HSB.out _ (HM10.out.alloc)).mono ?_
      rintro e w11 ⟨rfl, hm⟩
      have HM11 := Lib.hid (HM8.out.trans' (HM89.out.trans' ((HM10.out.alloc).trans' hm)))
      clear hm
      go_wp2_with fail
      go_ret
      exact ⟨by simp; omega, HM11.out.below⟩
  · refine (HSn.out _ HM5.out hc).mono ?_
    rintro e w6 ⟨rfl, hm⟩
    have hX := HX5.out.mor hm
    have HM6 := Lib.hid (HM5.out.trans' hm)
    have hr : (shutc b i != 0) = true := by simpa using hc
    generalize shutc b i = r at *
    have x0 := hX.cell 0
    have x1 := hX.cell 1
    have x2 := hX.cell 2
    have xf0 := hX.frozen 0
    have xf1 := hX.frozen 1
    have xf2 := hX.frozen 2
    have xl := hX.lt
    simp at x0 x1 x2
    have hw : w.heap.size ≤ bX := by have := HbX.out; have := HbP.out; omega
    have HFin := Lib.hid (show Below w.heap.size w (((w6.setCell ⟨bX, 0, none⟩ (.slice none 0 0)).setCell ⟨bX, 1, none⟩ (.slice none 0 0)).setCell ⟨bX, 2, none⟩ (.int .i64 0)) from
      ((HM6.out.below.setCell (p := ⟨bX, 0, none⟩) hw _).setCell (p := ⟨bX, 1, none⟩) hw _).setCell (p := ⟨bX, 2, none⟩) hw _)
    clear hX hm hc
    go_wp2_with fail
    go_ret
    exact ⟨by simp, HFin.out⟩

end Go.Proofs.Ytpgefclnplmlkaa.bookShutTwice
