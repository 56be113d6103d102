/- The walk of talkeep.CloseZero. -/
import Derived.Test.YtdfacejepmolbaaCloD
import Derived.BigRegion
namespace Go.Proofs.Ytdfacejepmolbaa.closeZero
open Go.ChangeShapes Go.WideShapes Go.ChangeAt Go.RowKit Go.PlainAid
set_option linter.unusedVariables false

abbrev kz : ByteArray := { data := #[122] }
def cB : Bok := closeb oneB kz 6 s30
theorem cl_one : closec oneB kz 6 s30 = 0 ∧ balv cB s30 6 = -7 ∧ balc cB s30 6 = 0 ∧ cB.shut = 6 := by decide +kernel

set_option maxRecDepth 100000 in
set_option maxHeartbeats 3200000 in
theorem closeZero_walk (w : World) (A : Option Addr) (n c : Nat) (X : Option Addr) (m k : Nat) (b : Bok) (hb : Bq w A n c X m k b) (ky : ByteArray) (wk : ky.size ≤ maxLen) (v1 : Int) (w1 : (Lit.int .i64 v1).wf = true) (code : ByteArray) (wy : code.size ≤ maxLen) :
    Calls Try.prog 6 #[bv A n c X m k b.shut, .string ky, .int .i64 v1, .string code] w fun e w' => e = .returned (.bool true) ∧ Below w.heap.size w w' := by
  have HC := Lib.hid (fun w' (h : Mor w w') => close_any A n c X m k b ky v1 code w' (hb.mor h) wk wy)
  have HG := Lib.hid (fun w' (h : Mor w w') => get_any A n c X m k b ky w' (hb.mor h))
  have HB := Lib.hid hb
  have HWk := Lib.hid (And.intro wk wy)
  have HN := Lib.hid hb.ac.length
  have hn63 : n ≤ maxLen := Nat.le_trans hb.ac.le hb.ac.max
  unfold maxLen at hn63
  generalize hsh : b.shut = sh at *
  have HSh := Lib.hid hsh
  clear hb w1 hsh wk wy
  go_enter Try.func6, Try.ntmps6
  go_wp2_with fail
  refine (plain_any _).mono ?_
  rintro e w2 ⟨g, rfl, hq, hm⟩
  have hP := (C3.new w (.slice A n c) (.slice X m k) (.int .i64 sh) 25).mor hm
  have hM2 := (Mor.refl w).alloc.trans' hm
  obtain ⟨bP, hbP⟩ : ∃ g, g = w.heap.size := ⟨_, rfl⟩
  rw [← hbP] at hP ⊢
  have HP := Lib.hid (fun w' (h : Mor w2 w') => hP.mor h)
  have HQ := Lib.hid hq
  have HM2 := Lib.hid hM2
  have HwP := Lib.hid (show w.heap.size ≤ bP by omega)
  clear hP hM2 hq hm hbP
  go_wp2_with fail
  refine (sale_any ka 5 7 _ (by omega) (by omega)).mono ?_
  rintro e w3 ⟨g2, rfl, hs, hm⟩
  have HQ3 := Lib.hid (HQ.out.mor hm)
  have HS2 := Lib.hid (lq_two hs two_max two_max)
  have HM23 := Lib.hid hm
  clear hs hm HQ
  go_wp2_with fail
  refine (post_yes _ _ _ _ _ _ plainB (saleE ka 5 7) _ _ _ _ HQ3.out HS2.out one_max (plain_post 7 rfl)).mono ?_
  intro e w4 h4
  obtain ⟨A4, n4, c4, X4, m4, k4, rfl, hq4, ho4, hm⟩ := postYes_bq h4
  have HM24 := Lib.hid (HM23.out.trans' hm)
  have hUo := close_any A4 n4 c4 X4 m4 k4 oneB kz 6 s30 (w4.alloc (.cells #[.slice A4 n4 c4, .slice X4 m4 k4, .int .i64 (-1)] 25)) (hq4.mor (Mor.refl _).alloc) one_max two_max
  rw [show oneB.shut = -1 from one_look.2.2.2.2, cl_one.1] at hUo
  have HUo := Lib.hid hUo
  rw [show (postb plainB (saleE ka 5 7)).shut = -1 from one_look.2.2.2.2]
  clear h4 hq4 ho4 hm HQ3 HS2 hUo
  go_wp2_with fail
  refine HUo.out.mono ?_
  rintro e w5 ⟨A5, n5, c5, X5, m5, k5, rfl, ho5, hm⟩
  have hq5 := own_bq ho5
  rw [show (closeb oneB kz 6 s30).shut = 6 from cl_one.2.2.2]
  have hM25 := (HM24.out.alloc (o := .cells #[.slice A4 n4 c4, .slice X4 m4 k4, .int .i64 (-1)] 25)).trans' hm
  have hBa := bal_any A5 n5 c5 X5 m5 k5 cB s30 6 (w5.alloc (.cells #[.slice A5 n5 c5, .slice X5 m5 k5, .int .i64 6] 25)) (hq5.mor (Mor.refl _).alloc)
  rw [cl_one.2.1, cl_one.2.2.1, cl_one.2.2.2] at hBa
  have HBa := Lib.hid hBa
  have hY := Bk.new w5 25 #[.slice A5 n5 c5, .slice X5 m5 k5, .int .i64 6]
  have hM26 := hM25.alloc (o := .cells #[.slice A5 n5 c5, .slice X5 m5 k5, .int .i64 6] 25)
  have HltP := Lib.hid (show bP < w5.heap.size from (HP.out _ hM25).2.2.2)
  clear ho5 hq5 hm hBa HUo hM25
  go_wp2_with fail
  obtain ⟨bY, hbY⟩ : ∃ g, g = w5.heap.size := ⟨_, rfl⟩
  rw [← hbY] at hY ⊢
  have hPY : bP < bY := by have := HltP.out; omega
  clear hbY HltP
  generalize w5.alloc (.cells #[.slice A5 n5 c5, .slice X5 m5 k5, .int .i64 6] 25) = w6 at *
  refine HBa.out.mono ?_
  rintro e w7 ⟨rfl, hm⟩
  have HY7 := Lib.hid (fun w' (h : Mor w7 w') => (hY.mor hm).mor h)
  have HM27 := Lib.hid (hM26.trans' hm)
  clear hY hM26 hm HBa
  obtain ⟨c0, c1, c2, cl⟩ := HP.out _ HM27.out
  have hyi := HY7.out _ (Mor.refl _)
  have yi2 := hyi.cell 2
  have yil := hyi.lt
  simp at yi2
  clear hyi
  go_wp2_with fail
  clear yi2 yil
  refine (HC.out _ (HM2.out.trans' HM27.out)).mono ?_
  rintro e w8 ⟨A8, n8, c8, X8, m8, k8, rfl, ho8, hm8⟩
  obtain ⟨y, hyy⟩ : ∃ y, y = closeb b ky v1 code := ⟨_, rfl⟩
  have hyl : closec b ky v1 code ≠ 0 → y = zeroB := fun h => by rw [hyy]; unfold closeb; rw [if_neg h]
  have hr0 : closec b ky v1 code = 0 → BOk b ∧ BOk y ∧ y.ac = b.ac ∧ y.shut = v1 ∧ 0 ≤ v1 ∧ v1 ≤ 292193 ∧ (findE b.en ky < 0 →
      (kS y.en 0 v1 0 b.ac = kS b.en 0 v1 0 b.ac ∧ kS y.en 0 v1 1 b.ac = kS b.en 0 v1 1 b.ac ∧ kS y.en 0 v1 2 b.ac = kS b.en 0 v1 2 b.ac + cls b v1 b.ac ∧ kS y.en 0 v1 3 b.ac = 0 ∧ kS y.en 0 v1 4 b.ac = 0) ∧
      closec y ky v1 code = 4 ∧ ∀ j, j < b.ac.length → balc y (cd b.ac j) v1 = 0 ∧ (3 ≤ am b.ac j → balv y (cd b.ac j) v1 = 0)) := fun h => by
    obtain ⟨h1, d0, d9, _⟩ := closec_zero h
    obtain ⟨h2, h3, h4, _⟩ := closed h
    rw [hyy]
    exact ⟨h1, h2, h3, h4, d0, d9, fun hf => ⟨closed_kS h hf, closed_again h hf, fun j hj => closed_bals h hf hj⟩⟩
  have HR0 := Lib.hid hr0
  rw [← hyy] at ho8 ⊢
  generalize closec b ky v1 code = r at *
  generalize hsy : y.shut = sy at *
  have HYs := Lib.hid hsy
  have HYl := Lib.hid hyl
  have hy8 := HY7.out _ hm8
  have HMw := Lib.hid ((HM2.out.trans' HM27.out).trans' hm8)
  have HPw := Lib.hid (HP.out _ (HM27.out.trans' hm8))
  have f0 := hy8.frozen 0
  have f1 := hy8.frozen 1
  have f2 := hy8.frozen 2
  clear c0 c1 c2 cl hyy hsy hyl hr0
  have y0 := hy8.cell 0
  have y1 := hy8.cell 1
  have y2 := hy8.cell 2
  have yl := hy8.lt
  simp at y0 y1 y2
  have hwY : w.heap.size ≤ bY := by have := HwP.out; omega
  have hb9 := ((hy8.set_ 0 (.slice A8 n8 c8)).set_ 1 (.slice X8 m8 k8)).set_ 2 (.int .i64 sy)
  simp only [List.setIfInBounds_toArray, List.set_cons_zero, List.set_cons_succ] at hb9
  have hO9 := own3 (a := .slice A8 n8 c8) (a' := .slice X8 m8 k8) (a'' := .int .i64 sy) ho8 hy8
  have hm9 := ((HMw.out.setC (i := 0) (u := .slice A8 n8 c8) hwY).setC (i := 1) (u := .slice X8 m8 k8) hwY).setC (i := 2) (u := .int .i64 sy) hwY
  have hP9 : C3 (((w8.setCell ⟨bY, 0, none⟩ (.slice A8 n8 c8)).setCell ⟨bY, 1, none⟩ (.slice X8 m8 k8)).setCell ⟨bY, 2, none⟩ (.int .i64 sy)) bP (.slice A n c) (.slice X m k) (.int .i64 sh) := by
    obtain ⟨c0, c1, c2, cl⟩ := HPw.out
    refine ⟨?_, ?_, ?_, ?_⟩ <;> simp [go_sem, c0, c1, c2, cl]
  have Hb9 := Lib.hid hb9
  have HO9 := Lib.hid hO9
  have Hm9 := Lib.hid hm9
  have HP9 := Lib.hid hP9
  clear hb9 hO9 hm9 hP9 hy8 ho8 hm8 HY7 HP
  by_cases hr : r = 0
  · subst hr
    obtain ⟨hbo, hyo, hya, hys, d0, d9, hnew⟩ := HR0.out rfl
    have HBo := Lib.hid (And.intro hbo (And.intro hyo (And.intro hya hys)))
    have HNew := Lib.hid hnew
    have hsv : sy = v1 := hys
    subst hsv
    obtain ⟨c0, c1, c2, cl⟩ := HPw.out
    clear hbo hyo hya hys hnew HR0
    go_wp2_with fail
    clear c0 c1 c2 cl y0 y1 y2 yl f0 f1 f2
    generalize ((w8.setCell ⟨bY, 0, none⟩ (.slice A8 n8 c8)).setCell ⟨bY, 1, none⟩ (.slice X8 m8 k8)).setCell ⟨bY, 2, none⟩ (.int .i64 sy) = w9 at *
    refine (HG.out _ Hm9.out).mono ?_
    rintro e w10 ⟨s10', d10, A10, n10, c10, rfl, hm⟩
    have HM910 := Lib.hid (hm.alloc (o := .cells #[.string s10', .int .i64 d10, .slice A10 n10 c10] 32))
    have HM910' := Lib.hid hm
    clear hm
    by_cases hg : getcB b ky = 0
    · rw [hg]
      go_wp2_with fail
      go_ret
      exact ⟨by simp, (Hm9.out.trans' HM910.out).below⟩
    · have hgb : (getcB b ky == 0) = false := by simpa using hg
      have hf : findE b.en ky < 0 := by
        have hg2 := hg
        unfold getcB at hg2
        rw [if_neg (by simp [(bookc_iff b).2 HBo.out.1])] at hg2
        by_cases h2 : findE b.en ky < 0
        · exact h2
        · rw [if_neg h2] at hg2; exact absurd rfl hg2
      obtain ⟨⟨ks0, ks1, ks2, ks3, ks4⟩, hca, hbl⟩ := HNew.out hf
      have hS := cls_kinds b sy b.ac
      have b2 := kS_bdb HBo.out.1 0 sy 2
      have b3 := kS_bdb HBo.out.1 0 sy 3
      have b4 := kS_bdb HBo.out.1 0 sy 4
      have hpb : profv b 0 sy = -cls b sy b.ac := by unfold profv; rw [hS]; omega
      have hpy : profv y 0 sy = 0 := by unfold profv; rw [HBo.out.2.2.1, ks3, ks4]; rfl
      have HSb := Lib.hid (fun w' (h : Mor w w') => sheet_ok A n c X m k b sy w' (HB.out.mor h) (lookc_of HBo.out.1 d0 d9))
      have HPb := Lib.hid (fun w' (h : Mor w w') => profit_ok A n c X m k b 0 sy w' (HB.out.mor h) (profc_of HBo.out.1 (by omega) d0 d9))
      have HQy := Lib.hid (fun w' (h : Mor w9 w') => (own_bq HO9.out).mor h)
      have HSy := Lib.hid (fun w' (h : Mor w9 w') => sheet_ok A8 n8 c8 X8 m8 k8 y sy w' (HQy.out w' h) (lookc_of HBo.out.2.1 d0 d9))
      have HPy := Lib.hid (fun w' (h : Mor w9 w') => profit_ok A8 n8 c8 X8 m8 k8 y 0 sy w' (HQy.out w' h) (profc_of HBo.out.2.1 (by omega) d0 d9))
      have HBal := Lib.hid (fun w' (h : Mor w9 w') s => bal_any A8 n8 c8 X8 m8 k8 y s sy w' (HQy.out w' h))
      have HCl := Lib.hid (fun w' (h : Mor w9 w') => close_any A8 n8 c8 X8 m8 k8 y ky sy code w' (HQy.out w' h) HWk.out.1 HWk.out.2)
      have HCk := Lib.hid (fun w' (h : Mor w9 w') => bcheck_any A8 n8 c8 X8 m8 k8 y w' (HQy.out w' h))
      rw [HSh.out] at HSb HPb
      rw [HYs.out] at HSy HPy HBal HCl HCk
      rw [HBo.out.2.2.1, ks0, ks1, ks2] at HSy
      rw [hpb] at HPb
      rw [hpy] at HPy
      rw [hca] at HCl
      rw [(bookc_iff _).2 HBo.out.2.1] at HCk
      have HBl := Lib.hid hbl
      have hn8 : n8 = n := by rw [← (own_bq HO9.out).ac.length, HBo.out.2.2.1, HN.out]
      subst hn8
      have HAy := Lib.hid (fun w' (h : Mor w9 w') => show Lq w' A8 n8 c8 b.ac by have := (HQy.out w' h).ac; rw [HBo.out.2.2.1] at this; exact this)
      have hn24 : n8 ≤ 24 := by rw [← HN.out]; exact (acc_ok HBo.out.1.ac).1
      have bS : -34560000000000000 ≤ cls b sy b.ac ∧ cls b sy b.ac ≤ 34560000000000000 := by omega
      have b2' : -17280000000000000 ≤ -kS b.en 0 sy 2 b.ac ∧ -kS b.en 0 sy 2 b.ac ≤ 17280000000000000 := by omega
      have he2 : -(kS b.en 0 sy 2 b.ac + cls b sy b.ac) = -kS b.en 0 sy 2 b.ac + -cls b sy b.ac := by omega
      rw [he2] at HSy
      clear ks0 ks1 ks2 ks3 ks4 hca hbl hS b2 b3 b4 hpb hpy he2 HQy HG HC
      generalize kS b.en 0 sy 0 b.ac = q0 at *
      generalize -kS b.en 0 sy 1 b.ac = q1 at *
      generalize -kS b.en 0 sy 2 b.ac = q2 at *
      have bS' : -34560000000000000 ≤ -cls b sy b.ac ∧ -cls b sy b.ac ≤ 34560000000000000 := by omega
      clear bS
      generalize -cls b sy b.ac = q3 at *
      generalize getcB b ky = gg at *
      obtain ⟨bS1, bS2⟩ := bS'
      obtain ⟨b21, b22⟩ := b2'
      obtain ⟨c0, c1, c2, cl⟩ := HP9.out.mor HM910'.out
      go_wp2_with fail
      refine (HSb.out _ (Hm9.out.trans' HM910.out)).mono ?_
      rintro e w11 ⟨rfl, hm⟩
      have HM911 := Lib.hid (HM910.out.trans' hm)
      clear hm c0 c1 c2 cl
      have hy := Hb9.out.mor HM911.out
      have y0 := hy.cell 0
      have y1 := hy.cell 1
      have y2 := hy.cell 2
      have yl := hy.lt
      simp at y0 y1 y2
      clear hy
      go_wp2_with fail
      refine (HSy.out _ HM911.out).mono ?_
      rintro e w12 ⟨rfl, hm⟩
      have HM912 := Lib.hid (HM911.out.trans' hm)
      clear hm y0 y1 y2 yl
      obtain ⟨c0, c1, c2, cl⟩ := HP9.out.mor HM912.out
      go_wp2_with fail
      refine (HPb.out _ (Hm9.out.trans' HM912.out)).mono ?_
      rintro e w13 ⟨rfl, hm⟩
      have HM913 := Lib.hid (HM912.out.trans' hm)
      clear hm c0 c1 c2 cl
      have hy := Hb9.out.mor HM913.out
      have y0 := hy.cell 0
      have y1 := hy.cell 1
      have y2 := hy.cell 2
      have yl := hy.lt
      simp at y0 y1 y2
      clear hy
      go_wp2_with fail
      refine (HPy.out _ HM913.out).mono ?_
      rintro e w14 ⟨rfl, hm⟩
      have HM914 := Lib.hid (HM913.out.trans' hm)
      clear hm y0 y1 y2 yl HSb HSy HPb HPy
      have hy := Hb9.out.mor HM914.out
      have y0 := hy.cell 0
      have yl := hy.lt
      simp at y0
      clear hy
      go_wp2_with fail
      clear y0 yl
      go_loopw [152] (fun i wr => ∃ (j : Nat), j ≤ n8 ∧ i = .int .i64 j ∧ Hid (Mor w9 wr)) (fun i _ => n8 - (intOf i).toNat)
      case atStart => exact ⟨0, Nat.zero_le _, rfl, HM914⟩
      case round =>
        obtain ⟨j, hj, rfl, HMq⟩ := hrel
        have hy := Hb9.out.mor HMq.out
        have y0 := hy.cell 0
        have y1 := hy.cell 1
        have y2 := hy.cell 2
        have yl := hy.lt
        simp at y0 y1 y2
        clear hy
        by_cases hlt : j < n8
        · have hji : (j : Int) < (n8 : Int) := by omega
          have hj0 : (0 : Int) ≤ (j : Int) := by omega
          have hjl : j < b.ac.length := by rw [HN.out]; exact hlt
          obtain ⟨z, hA, hzb, z0, z1⟩ := (HAy.out _ HMq.out).si.at_ j hjl
          subst hA
          have HBj := Lib.hid (fun w' (h : Mor wr w') => HBal.out w' (HMq.out.trans' h) (cd b.ac j))
          rw [(HBl.out j hjl).1] at HBj
          have hz := (HBl.out j hjl).2
          generalize balv y (cd b.ac j) sy = bvj at *
          generalize cd b.ac j = sj at *
          generalize am b.ac j = aj at *
          have HZ := Lib.hid hz
          clear hz
          go_wp2_with fail
          refine (HBj.out _ (Mor.refl _).alloc).mono ?_
          rintro e w15 ⟨rfl, hm⟩
          have hbA := (Bk.new wr 46 #[.string sj, .int .i64 aj]).mor hm
          have HMq2 := Lib.hid ((HMq.out.alloc (o := .cells #[.string sj, .int .i64 aj] 46)).trans' hm)
          have a1 := hbA.cell 1
          have al := hbA.lt
          simp at a1
          clear hbA hm y0 y1 y2 yl z0 z1
          by_cases h3 : 3 ≤ aj
          · have hb0 := HZ.out h3
            subst hb0
            have hd3 : decide (3 ≤ aj) = true := by simpa using h3
            go_wp2_with fail
            go_roundw
            case rel => exact ⟨j + 1, by omega, by go_num, HMq2⟩
            case measure => simp [intOf]; omega
          · have hd3 : decide (3 ≤ aj) = false := by simpa using h3
            go_wp2_with fail
            go_roundw
            case rel => exact ⟨j + 1, by omega, by go_num, HMq2⟩
            case measure => simp [intOf]; omega
        · obtain rfl : j = n8 := by omega
          go_wp2_with fail
          refine (HCl.out _ HMq.out).mono ?_
          rintro e w15 ⟨A15, n15, c15, X15, m15, k15, rfl, ho15, hm⟩
          have HM915 := Lib.hid (HMq.out.trans' hm)
          clear hm y0 y1 y2 yl ho15
          have hy := Hb9.out.mor HM915.out
          have y0 := hy.cell 0
          have y1 := hy.cell 1
          have y2 := hy.cell 2
          have yl := hy.lt
          simp at y0 y1 y2
          clear hy
          go_wp2_with fail
          refine (HCk.out _ HM915.out).mono ?_
          rintro e w16 ⟨rfl, hm⟩
          have HM916 := Lib.hid (HM915.out.trans' hm)
          clear hm
          go_wp2_with fail
          go_ret
          exact ⟨by simp, (Hm9.out.trans' HM916.out).below⟩
  · have hyz := HYl.out hr
    have hm0 : m8 = 0 := by rw [← (own_bq HO9.out).length, hyz]; rfl
    subst hm0
    have hrb : (r != 0) = true := by simpa using hr
    go_wp2_with fail
    go_ret
    exact ⟨by simp, Hm9.out.below⟩

end Go.Proofs.Ytdfacejepmolbaa.closeZero
