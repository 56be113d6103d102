/- The walk of talkeep.TieWider. -/
import Derived.Test.YtphkckonnogjmaaStepApp
import Derived.Test.YtphkckonnogjmaaWithinA
namespace Go.Proofs.Ytphkckonnogjmaa.tieWider
open Go.ChangeShapes Go.WideShapes Go.ChangeAt Go.RowKit Stb
set_option linter.unusedVariables false

theorem beg : tieF [(0, 2)] [(3, 2)] 3 = [0] := by decide
theorem beg_code : tiec [(0, 2)] [(3, 2)] 3 = 0 := by decide

theorem own_app {w : World} {base n c : Nat} {T : TypeId} {A : Option Addr} {a : List Pr} {d e : Int} (h : w.ownsRow base T 2 (.slice A (n + 1) c) (n + 1) (flat pp a ++ [.int .i64 d, .int .i64 e])) : Pi w A (a ++ [(d, e)]) :=
  own_pi (n := n + 1) (c := c) (T := T) (base := base) (by rw [flat_snoc]; exact h)

set_option maxRecDepth 100000 in
set_option maxHeartbeats 6400000 in
theorem tieWider_walk (w : World) (A : Option Addr) (na capa : Nat) (a : List Pr) (ha : IsPr w A na capa a) (B : Option Addr) (nb capb : Nat) (b : List Pr) (hb : IsPr w B nb capb b) (v0 : Int) (wv : (Lit.int .i64 v0).wf = true) (m0 : Int) (wm : (Lit.int .i64 m0).wf = true) (xd : Int) (wd : (Lit.int .i64 xd).wf = true) (xa : Int) (wa : (Lit.int .i64 xa).wf = true) :
    Calls Try.prog 8 #[.slice A na capa, .slice B nb capb, .int .i64 v0, .int .i64 m0, .agg #[.int .i64 xd, .int .i64 xa]] w fun e w' => e = .returned (.bool true) ∧ Below w.heap.size w w' := by
  obtain ⟨i0, hi, hz0, hz1, hz2⟩ := info_parts info_item
  have HRa := Lib.hid ha.pi
  have HRb := Lib.hid hb.pi
  have HNa := Lib.hid ha.length
  have HNb := Lib.hid hb.length
  have HMa := Lib.hid (Nat.le_trans ha.le ha.max)
  have HMb := Lib.hid (Nat.le_trans hb.le hb.max)
  have hcap := ha.le
  have hnil := ha.nil
  clear ha hb
  have V1 := wi_lo v0 1000 (by omega)
  have V2 := wi_hi v0 1000 (by omega)
  have HW := Lib.hid (fun w => within_any v0 1000 w (by omega) (by omega))
  generalize wi v0 1000 = v at *
  have M1 := wi_lo m0 1000 (by omega)
  have M2 := wi_hi m0 1000 (by omega)
  have HM := Lib.hid (fun w => within_any m0 1000 w (by omega) (by omega))
  generalize wi m0 1000 = m at *
  by_cases hc : tiec a b v = 0
  · obtain ⟨c1, c2, v1, v2⟩ := tiec_zero hc
    obtain ⟨a40, aok⟩ := itc_zero' c1
    obtain ⟨b40, bok⟩ := itc_zero' c2
    rw [HNa.out] at a40
    rw [HNb.out] at b40
    have hc1 : tiec a b (v + m) = 0 := by unfold tiec; rw [if_neg (by simp [c1]), if_neg (by simp [c2]), if_neg (by omega)]
    have hc2 : tiec b a v = 0 := by unfold tiec; rw [if_neg (by simp [c2]), if_neg (by simp [c1]), if_neg (by omega)]
    have HT := Lib.hid (fun w h1 h2 => tie_ok A na capa a B nb capb b v w h1 h2 HNa.out HNb.out hc)
    have HT1 := Lib.hid (fun w h1 h2 => tie_ok A na capa a B nb capb b (v + m) w h1 h2 HNa.out HNb.out hc1)
    have HT2 := Lib.hid (fun w h1 h2 => tie_ok B nb capb b A na capa a v w h1 h2 HNb.out HNa.out hc2)
    have HTd := Lib.hid (fun g xs n w (h : Row w g 0 xs) (hn : xs.length = n) (hl : n ≤ 40) => tied_any (some ⟨g, 0, none⟩) n n xs w (Ri.of_row h) hn (by omega))
    have HL := Lib.hid (show (tieF a b v).length = na by rw [tieF_len, HNa.out])
    have HL1 := Lib.hid (show (tieF a b (v + m)).length = na by rw [tieF_len, HNa.out])
    have HL2 := Lib.hid (show (tieF b a v).length = nb by rw [tieF_len, HNb.out])
    have HL3 := Lib.hid (show (tieF (a ++ [(xd, xa)]) b v).length = na + 1 by rw [tieF_len]; simp [HNa.out])
    have HG1 := Lib.hid (show (tied (tieF a b v) : Int) ≤ (tied (tieF a b (v + m)) : Int) by have := tieF_wider a b v (v := v + m) (by omega); omega)
    have HG2 := Lib.hid (show (tied (tieF b a v) : Int) = (tied (tieF a b v) : Int) by rw [tieF_flip])
    have HG3 := Lib.hid (show (tied (tieF a b v) : Int) ≤ (tied (tieF (a ++ [(xd, xa)]) b v) : Int) by have := tieF_more a b v (xd, xa); omega)
    have HLn := Lib.hid (show (a ++ [(xd, xa)]).length = na + 1 by simp [HNa.out])
    have HCl := Lib.hid (fun w (h : Pi w A a) => clone_it A na capa a w h HNa.out hnil (by omega))
    clear c1 c2 aok bok hc hc1 hc2
    go_enter Try.func8, Try.ntmps8
    go_wp2_with fail
    obtain ⟨w0, hw0⟩ : ∃ w0, w0 = w.alloc (.cells #[.int .i64 xd, .int .i64 xa] 28) := ⟨_, rfl⟩
    obtain ⟨bx, hbx⟩ : ∃ b, b = w.heap.size := ⟨_, rfl⟩
    have hs0 : w.heap.size + 1 = w0.heap.size := by rw [hw0, size_alloc]
    have HPx := Lib.hid (show Pi w0 (some ⟨bx, 0, none⟩) [(xd, xa)] by rw [hw0]; exact pi_new [(xd, xa)] hbx rfl)
    have HMw := Lib.hid (show Mor w w0 by rw [hw0]; exact (Mor.refl _).alloc)
    rw [hs0, ← hw0, ← hbx]
    clear hw0 hbx hs0
    refine (tie_ok _ 1 _ [(0, 2)] _ 1 _ [(3, 2)] 3 _ ((pi_new [(0, 2)] rfl rfl).mor (Mor.refl _).alloc) (pi_new [(3, 2)] (by rw [size_alloc]) rfl) rfl rfl beg_code).mono ?_
    rintro e w1 ⟨g0, rfl, hm0, hr⟩
    have HM0 := Lib.hid (show Mor w0 w1 from Mor.trans' (by repeat (first | exact Mor.refl _ | apply Mor.alloc)) hm0)
    rw [beg] at hr
    have HR := Lib.hid hr
    clear hm0 hr
    go_wp2_with fail
    refine (HTd.out g0 [0] 1 w1 HR.out rfl (by omega)).mono ?_
    rintro e w2 ⟨rfl, rfl⟩
    rw [show ((tied [0] : Nat) : Int) = 1 by decide]
    go_wp2_with (first
      | (go_at_call 19; (with_reducible refine (HW.out _).mono ?_); rintro e w1 ⟨rfl, rfl⟩)
      | (go_at_call 19; (with_reducible refine (HM.out _).mono ?_); rintro e w1 ⟨rfl, rfl⟩))
    refine (HT.out _ (HRa.out.mor (HMw.out.trans' HM0.out)) (HRb.out.mor (HMw.out.trans' HM0.out))).mono ?_
    rintro e w3 ⟨g3, rfl, hm3, hr3⟩
    rw [HNa.out]
    have HM3 := Lib.hid (HM0.out.trans' hm3)
    have HR3 := Lib.hid hr3
    clear hm3 hr3 HR
    go_wp2_with fail
    refine (HT1.out _ (HRa.out.mor (HMw.out.trans' HM3.out)) (HRb.out.mor (HMw.out.trans' HM3.out))).mono ?_
    rintro e w4 ⟨g4, rfl, hm4, hr4⟩
    rw [HNa.out]
    have HM4 := Lib.hid (HM3.out.trans' hm4)
    have HR4 := Lib.hid hr4
    have HR3' := Lib.hid (HR3.out.mor hm4)
    clear hm4 hr4 HR3
    go_wp2_with fail
    refine (HT2.out _ (HRb.out.mor (HMw.out.trans' HM4.out)) (HRa.out.mor (HMw.out.trans' HM4.out))).mono ?_
    rintro e w5 ⟨g5, rfl, hm5, hr5⟩
    rw [HNb.out]
    have HM5 := Lib.hid (HM4.out.trans' hm5)
    have HR5 := Lib.hid hr5
    have HR4' := Lib.hid (HR4.out.mor hm5)
    have HR35 := Lib.hid (HR3'.out.mor hm5)
    clear hm5 hr5 HR4 HR3'
    go_wp2_with fail
    have HX1 := Lib.hid (show w0.cell? ⟨bx, 0, none⟩ = some (.int .i64 xd) by
      obtain ⟨y, hy, _, cx1, cx2⟩ := HPx.out.at_ 0 (by simp)
      injection hy with hy
      subst hy
      simpa [adds, px] using cx1)
    have HX2 := Lib.hid (show w0.cell? ⟨bx, 1, none⟩ = some (.int .i64 xa) by
      obtain ⟨y, hy, _, cx1, cx2⟩ := HPx.out.at_ 0 (by simp)
      injection hy with hy
      subst hy
      simpa [adds, py] using cx2)
    have cx1 := cell_mor HM5.out HX1.out
    have cx2 := cell_mor HM5.out HX2.out
    have HM5w := Lib.hid HM5.out
    by_cases hc3 : tiec (a ++ [(xd, xa)]) b v = 0
    · have HT3 := Lib.hid (fun A7 c7 w h1 h2 => tie_ok A7 (na + 1) c7 (a ++ [(xd, xa)]) B nb capb b v w h1 h2 HLn.out HNb.out hc3)
      clear hc3
      go_wp2
      go_region_law (first
          | (go_simp; go_at_call 26; (refine (HCl.out _ (HRa.out.mor (HMw.out.trans' (HM5.out.trans' (by repeat (first | exact Mor.refl _ | apply Mor.alloc | apply Mor.more | apply Mor.drewN | apply Mor.drew)))))).mono ?_); rintro e w6 ⟨u6, rfl, hown6, hm6⟩; obtain ⟨A6, c6, rfl, hc6, _, _⟩ := own_shape hown6; have cx1' := cell_mor (HM5w.out.trans' (Mor.trans' (by repeat (first | exact Mor.refl _ | apply Mor.alloc | apply Mor.more | apply Mor.drewN | apply Mor.drew)) hm6)) HX1.out; have cx2' := cell_mor (HM5w.out.trans' (Mor.trans' (by repeat (first | exact Mor.refl _ | apply Mor.alloc | apply Mor.more | apply Mor.drewN | apply Mor.drew)) hm6)) HX2.out)
          | (refine step_append_own rfl (.tmp 70) (.tmp 72) 22 rfl _ 28 i0 (.agg #[.int .i64 0, .int .i64 0]) 2 16 Try.underlying22 hi hz0 hz1 hz2 rfl (by decide) _ na (flat pp a) (by simp [Act.eval]) (hown6.alloc _) ⟨_, 0, none⟩ 1 1 [.int .i64 xd, .int .i64 xa] (by simp [Act.eval]) rfl (two_new _ _ _ _) (one_two _ _) (by unfold maxLen; omega) (by omega) (by have := hm6.below.size; simp at this ⊢; omega) ?_; intro u7 w7 hown7 hgrow7; have hX7 := own_stepS (m := 0) hown6 hm6.below hgrow7; obtain ⟨A7, c7, rfl, hc7, _, _⟩ := own_shape hown7; have hm7 : Mor w5 w7 := Mor.trans' (by repeat (first | exact Mor.refl _ | apply Mor.alloc | apply Mor.more | apply Mor.drewN | apply Mor.drew)) (Mor.of_below hX7); have hp7 := own_app hown7)
          | (refine step_append_own rfl (.tmp 70) (.tmp 72) 22 rfl _ 28 i0 (.agg #[.int .i64 0, .int .i64 0]) 2 16 Try.underlying22 hi hz0 hz1 hz2 rfl (by decide) _ na (flat pp a) (by simp [Act.eval]) hown6 ⟨w5.heap.size, 0, none⟩ 1 1 [.int .i64 xd, .int .i64 xa] (by simp [Act.eval]) rfl (fun j u hj => cell_mor hm6 (two_new _ _ _ _ j u hj)) (one_two _ _) (by unfold maxLen; omega) (by omega) (by have := hm6.below.size; omega) ?_; intro u7 w7 hown7 hgrow7; have hX7 := own_step0 hown6 hm6.below hgrow7; obtain ⟨A7, c7, rfl, hc7, _, _⟩ := own_shape hown7; have hm7 : Mor w5 w7 := Mor.trans' (by repeat (first | exact Mor.refl _ | apply Mor.alloc | apply Mor.more | apply Mor.drewN | apply Mor.drew)) (Mor.of_below hX7); have hp7 := own_app hown7)
          | (go_simp; go_at_call 24; (refine (HT3.out _ _ _ hp7 (HRb.out.mor (HMw.out.trans' (HM5.out.trans' hm7)))).mono ?_); rintro e w8 ⟨g8, rfl, hm8, hr8⟩; rw [HLn.out]))
      all_goals
        have HM8 := Lib.hid (HMw.out.trans' (HM5.out.trans' (hm7.trans' hm8)))
        have R3 := Lib.hid (HTd.out g3 (tieF a b v) na w8 (HR35.out.mor (hm7.trans' hm8)) HL.out a40)
        have R4 := Lib.hid (HTd.out g4 (tieF a b (v + m)) na w8 (HR4'.out.mor (hm7.trans' hm8)) HL1.out a40)
        have R5 := Lib.hid (HTd.out g5 (tieF b a v) nb w8 (HR5.out.mor (hm7.trans' hm8)) HL2.out b40)
        have hg1 := HG1.out
        have hg2 := HG2.out
        have R8 := Lib.hid (tied_any (some ⟨g8, 0, none⟩) (na + 1) (na + 1) _ w8 (Ri.of_row hr8) HL3.out (by omega))
        have hg3 := HG3.out
        clear hm7 hm8 HR35 HR4' HR5 HT3 hX7 hown6 hown7 hgrow7 hm6 hp7 cx1' cx2'
        generalize ((tied (tieF a b v) : Nat) : Int) = t at *
        generalize ((tied (tieF a b (v + m)) : Nat) : Int) = t1 at *
        generalize ((tied (tieF b a v) : Nat) : Int) = t2 at *
        generalize ((tied (tieF (a ++ [(xd, xa)]) b v) : Nat) : Int) = t3 at *
        subst hg2
        go_simp
        go_wp2_with (first
          | (go_at_call 25; (with_reducible refine R4.out.mono ?_); rintro e w9 ⟨rfl, rfl⟩)
          | (go_at_call 25; (with_reducible refine R5.out.mono ?_); rintro e w9 ⟨rfl, rfl⟩)
          | (go_at_call 25; (with_reducible refine R3.out.mono ?_); rintro e w9 ⟨rfl, rfl⟩)
          | (go_at_call 25; (with_reducible refine R8.out.mono ?_); rintro e w9 ⟨rfl, rfl⟩))
        go_ret
        exact ⟨rfl, HM8.out.below⟩
    · have HT3 := Lib.hid (fun A7 c7 w h1 h2 => tie_no A7 (na + 1) c7 (a ++ [(xd, xa)]) B nb capb b v w h1 h2 HLn.out HNb.out (by unfold maxLen; omega) HMb.out hc3)
      have hc4 : (tiec (a ++ [(xd, xa)]) b v == 0) = false := by simpa using hc3
      have hc5 : decide (tiec (a ++ [(xd, xa)]) b v = 0) = false := decide_eq_false hc3
      have hc6 : (tiec (a ++ [(xd, xa)]) b v != 0) = true := by simpa using hc3
      generalize tiec (a ++ [(xd, xa)]) b v = c at *
      go_wp2
      go_region_law (first
          | (go_simp; go_at_call 26; (refine (HCl.out _ (HRa.out.mor (HMw.out.trans' (HM5.out.trans' (by repeat (first | exact Mor.refl _ | apply Mor.alloc | apply Mor.more | apply Mor.drewN | apply Mor.drew)))))).mono ?_); rintro e w6 ⟨u6, rfl, hown6, hm6⟩; obtain ⟨A6, c6, rfl, hc6, _, _⟩ := own_shape hown6; have cx1' := cell_mor (HM5w.out.trans' (Mor.trans' (by repeat (first | exact Mor.refl _ | apply Mor.alloc | apply Mor.more | apply Mor.drewN | apply Mor.drew)) hm6)) HX1.out; have cx2' := cell_mor (HM5w.out.trans' (Mor.trans' (by repeat (first | exact Mor.refl _ | apply Mor.alloc | apply Mor.more | apply Mor.drewN | apply Mor.drew)) hm6)) HX2.out)
          | (refine step_append_own rfl (.tmp 70) (.tmp 72) 22 rfl _ 28 i0 (.agg #[.int .i64 0, .int .i64 0]) 2 16 Try.underlying22 hi hz0 hz1 hz2 rfl (by decide) _ na (flat pp a) (by simp [Act.eval]) (hown6.alloc _) ⟨_, 0, none⟩ 1 1 [.int .i64 xd, .int .i64 xa] (by simp [Act.eval]) rfl (two_new _ _ _ _) (one_two _ _) (by unfold maxLen; omega) (by omega) (by have := hm6.below.size; simp at this ⊢; omega) ?_; intro u7 w7 hown7 hgrow7; have hX7 := own_stepS (m := 0) hown6 hm6.below hgrow7; obtain ⟨A7, c7, rfl, hc7, _, _⟩ := own_shape hown7; have hm7 : Mor w5 w7 := Mor.trans' (by repeat (first | exact Mor.refl _ | apply Mor.alloc | apply Mor.more | apply Mor.drewN | apply Mor.drew)) (Mor.of_below hX7); have hp7 := own_app hown7)
          | (refine step_append_own rfl (.tmp 70) (.tmp 72) 22 rfl _ 28 i0 (.agg #[.int .i64 0, .int .i64 0]) 2 16 Try.underlying22 hi hz0 hz1 hz2 rfl (by decide) _ na (flat pp a) (by simp [Act.eval]) hown6 ⟨w5.heap.size, 0, none⟩ 1 1 [.int .i64 xd, .int .i64 xa] (by simp [Act.eval]) rfl (fun j u hj => cell_mor hm6 (two_new _ _ _ _ j u hj)) (one_two _ _) (by unfold maxLen; omega) (by omega) (by have := hm6.below.size; omega) ?_; intro u7 w7 hown7 hgrow7; have hX7 := own_step0 hown6 hm6.below hgrow7; obtain ⟨A7, c7, rfl, hc7, _, _⟩ := own_shape hown7; have hm7 : Mor w5 w7 := Mor.trans' (by repeat (first | exact Mor.refl _ | apply Mor.alloc | apply Mor.more | apply Mor.drewN | apply Mor.drew)) (Mor.of_below hX7); have hp7 := own_app hown7)
          | (go_simp; go_at_call 24; (refine (HT3.out _ _ _ hp7 (HRb.out.mor (HMw.out.trans' (HM5.out.trans' hm7)))).mono ?_); rintro e w8 ⟨rfl, hm8⟩))
      all_goals
        have HM8 := Lib.hid (HMw.out.trans' (HM5.out.trans' (hm7.trans' hm8)))
        have R3 := Lib.hid (HTd.out g3 (tieF a b v) na w8 (HR35.out.mor (hm7.trans' hm8)) HL.out a40)
        have R4 := Lib.hid (HTd.out g4 (tieF a b (v + m)) na w8 (HR4'.out.mor (hm7.trans' hm8)) HL1.out a40)
        have R5 := Lib.hid (HTd.out g5 (tieF b a v) nb w8 (HR5.out.mor (hm7.trans' hm8)) HL2.out b40)
        have hg1 := HG1.out
        have hg2 := HG2.out
        clear hm7 hm8 HR35 HR4' HR5 HT3 hX7 hown6 hown7 hgrow7 hm6 hp7 cx1' cx2'
        generalize ((tied (tieF a b v) : Nat) : Int) = t at *
        generalize ((tied (tieF a b (v + m)) : Nat) : Int) = t1 at *
        generalize ((tied (tieF b a v) : Nat) : Int) = t2 at *
        subst hg2
        go_simp
        go_wp2_with (first
          | (go_at_call 25; (with_reducible refine R4.out.mono ?_); rintro e w9 ⟨rfl, rfl⟩)
          | (go_at_call 25; (with_reducible refine R5.out.mono ?_); rintro e w9 ⟨rfl, rfl⟩)
          | (go_at_call 25; (with_reducible refine R3.out.mono ?_); rintro e w9 ⟨rfl, rfl⟩)
          | fail)
        go_ret
        exact ⟨rfl, HM8.out.below⟩
  · have HF := Lib.hid (fun w h1 h2 => tie_no A na capa a B nb capb b v w h1 h2 HNa.out HNb.out HMa.out HMb.out hc)
    have hc2 : (tiec a b v == 0) = false := by simpa using hc
    have HTd := Lib.hid (fun g xs n w (h : Row w g 0 xs) (hn : xs.length = n) (hl : n ≤ 40) => tied_any (some ⟨g, 0, none⟩) n n xs w (Ri.of_row h) hn (by omega))
    generalize tiec a b v = c at *
    go_enter Try.func8, Try.ntmps8
    go_wp2_with fail
    obtain ⟨w0, hw0⟩ : ∃ w0, w0 = w.alloc (.cells #[.int .i64 xd, .int .i64 xa] 28) := ⟨_, rfl⟩
    obtain ⟨bx, hbx⟩ : ∃ b, b = w.heap.size := ⟨_, rfl⟩
    have hs0 : w.heap.size + 1 = w0.heap.size := by rw [hw0, size_alloc]
    have HPx := Lib.hid (show Pi w0 (some ⟨bx, 0, none⟩) [(xd, xa)] by rw [hw0]; exact pi_new [(xd, xa)] hbx rfl)
    have HMw := Lib.hid (show Mor w w0 by rw [hw0]; exact (Mor.refl _).alloc)
    rw [hs0, ← hw0, ← hbx]
    clear hw0 hbx hs0
    refine (tie_ok _ 1 _ [(0, 2)] _ 1 _ [(3, 2)] 3 _ ((pi_new [(0, 2)] rfl rfl).mor (Mor.refl _).alloc) (pi_new [(3, 2)] (by rw [size_alloc]) rfl) rfl rfl beg_code).mono ?_
    rintro e w1 ⟨g0, rfl, hm0, hr⟩
    have HM0 := Lib.hid (show Mor w0 w1 from Mor.trans' (by repeat (first | exact Mor.refl _ | apply Mor.alloc)) hm0)
    rw [beg] at hr
    have HR := Lib.hid hr
    clear hm0 hr
    go_wp2_with fail
    refine (HTd.out g0 [0] 1 w1 HR.out rfl (by omega)).mono ?_
    rintro e w2 ⟨rfl, rfl⟩
    rw [show ((tied [0] : Nat) : Int) = 1 by decide]
    go_wp2_with (first
      | (go_at_call 19; (with_reducible refine (HW.out _).mono ?_); rintro e w1 ⟨rfl, rfl⟩)
      | (go_at_call 19; (with_reducible refine (HM.out _).mono ?_); rintro e w1 ⟨rfl, rfl⟩))
    refine (HF.out _ (HRa.out.mor (HMw.out.trans' HM0.out)) (HRb.out.mor (HMw.out.trans' HM0.out))).mono ?_
    rintro e w3 ⟨rfl, hm3⟩
    have HM3 := Lib.hid (HMw.out.trans' (HM0.out.trans' hm3))
    go_wp2_with fail
    go_ret
    exact ⟨rfl, HM3.out.below⟩

end Go.Proofs.Ytphkckonnogjmaa.tieWider
