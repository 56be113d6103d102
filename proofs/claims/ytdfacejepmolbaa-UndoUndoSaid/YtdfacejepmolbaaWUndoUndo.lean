/- The walk of talkeep.UndoUndo. -/
import Derived.Test.YtdfacejepmolbaaAnyA
import Derived.BigRegion
namespace Go.Proofs.Ytdfacejepmolbaa.undoUndo
open Go.ChangeShapes Go.WideShapes Go.ChangeAt Go.RowKit Go.PlainAid
set_option linter.unusedVariables false

abbrev kc : ByteArray := { data := #[99] }
abbrev u1 : ByteArray := { data := #[117, 110, 100, 111, 45, 49] }
abbrev u2 : ByteArray := { data := #[117, 110, 100, 111, 45, 50] }
def yB : Bok := undob oneB ka kb 5
def zB : Bok := undob yB kb kc 5
theorem three : undoc oneB ka kb 5 = 0 ∧ undoc yB kb kc 5 = 0 ∧ balv zB s10 5 = 7 ∧ balc zB s10 5 = 0 ∧ yB.shut = -1 ∧ zB.shut = -1 := by decide +kernel
theorem u1_max : u1.size ≤ maxLen := by show 6 ≤ maxLen; unfold maxLen; omega
theorem u2_max : u2.size ≤ maxLen := by show 6 ≤ maxLen; unfold maxLen; omega
theorem u12 : u1 ≠ u2 := by decide
theorem getc_none {b : Bok} {key : ByteArray} (h1 : bookc b = 0) (h : getcB b key ≠ 0) : findE b.en key < 0 := by
  unfold getcB at h
  rw [if_neg (by simp [h1])] at h
  by_cases h2 : findE b.en key < 0
  · exact h2
  · rw [if_neg h2] at h; exact absurd rfl h
theorem back {b : Bok} {ky : ByteArray} {at' : Int} (h1 : undoc b ky u1 at' = 0) (h2 : undoc (undob b ky u1 at') u1 u2 at' = 0) (hg : getcB b u1 ≠ 0) (hh : getcB b u2 ≠ 0) (s : ByteArray) :
    (undob (undob b ky u1 at') u1 u2 at').en.length = b.en.length + 2 ∧ balc (undob (undob b ky u1 at') u1 u2 at') s 292193 = balc b s 292193 ∧ balv (undob (undob b ky u1 at') u1 u2 at') s 292193 = balv b s 292193 := by
  have ey : undob b ky u1 at' = postb b (undoE b ky u1 at') := by unfold undob; rw [if_pos h1]
  rw [ey] at h2 ⊢
  have ez : undob (postb b (undoE b ky u1 at')) u1 u2 at' = postb (postb b (undoE b ky u1 at')) (undoE (postb b (undoE b ky u1 at')) u1 u2 at') := by unfold undob; rw [if_pos h2]
  rw [ez]
  obtain ⟨hbo, ⟨i, hi, hf, hky, hu⟩, hkb, hv0, hv9, hp⟩ := undoc_zero h1
  obtain ⟨hyo, ⟨j, hj, hfj, hkj, hv⟩, hkc, -, -, hp2⟩ := undoc_zero h2
  have hb0 := (bookc_iff b).2 hbo
  have n1 := getc_none hb0 hg
  have n2 := getc_none hb0 hh
  have k1 : (undoE b ky u1 at').key = u1 := by rw [hu]
  have hf1 : ¬ 0 ≤ findE b.en (undoE b ky u1 at').key := by rw [k1]; omega
  obtain ⟨_, _, _, _, _, _, hy⟩ := post_new hp hf1
  have hye : (postb b (undoE b ky u1 at')).en = ins (undoE b ky u1 at') b.en := by rw [hy]
  have hno : ∀ e ∈ b.en, e.key ≠ u2 := by
    rcases findE_cases b.en u2 with ⟨_, h⟩ | ⟨q, hq, e, _⟩
    · exact h
    · rw [e] at n2; omega
  have k2 : (undoE (postb b (undoE b ky u1 at')) u1 u2 at').key = u2 := by rw [hv]
  have hf2 : ¬ 0 ≤ findE (postb b (undoE b ky u1 at')).en (undoE (postb b (undoE b ky u1 at')) u1 u2 at').key := by
    rw [k2]
    rcases findE_cases (postb b (undoE b ky u1 at')).en u2 with ⟨e, _⟩ | ⟨q, hq, e, hk⟩
    · rw [e]; omega
    · exfalso
      have hm := List.getElem_mem hq
      generalize (postb b (undoE b ky u1 at')).en[q] = e0 at hm hk
      rw [hye] at hm
      rcases mem_ins.1 hm with e1 | e1
      · rw [e1, k1] at hk; exact u12 hk
      · exact hno _ e1 hk
  -- the entry that is turned back is the one that turned
  obtain ⟨j', hj', hfj', hnj'⟩ := posted_at hp
  rw [k1] at hfj'
  have hjj : j' = j := by rw [hfj] at hfj'; omega
  subst hjj
  have hls : ∀ s, lnOf (ne (postb b (undoE b ky u1 at')).en j').ls s = - lnOf (ne b.en i).ls s := fun s => by
    rw [hnj', hu]
    exact lnOf_turn _ _
  have hd1 := undo_does h1 hu
  have hd2 := undo_does h2 hv
  have l1 := post_len hp
  have l2 := post_len hp2
  rw [if_neg hf1] at l1
  rw [if_neg hf2] at l2
  have hc : balc (postb (postb b (undoE b ky u1 at')) (undoE (postb b (undoE b ky u1 at')) u1 u2 at')) s 292193 = balc b s 292193 := (posted_balc hp2 s 292193).trans (posted_balc hp s 292193)
  refine ⟨by omega, hc, ?_⟩
  unfold balv
  rw [hc]
  by_cases h0 : balc b s 292193 = 0
  · rw [if_neg (by simp [h0]), if_neg (by simp [h0])]
    rcases hd1 with e | ⟨_, e1⟩
    · omega
    · rcases hd2 with e | ⟨_, e2⟩
      · omega
      · rw [e2 s 292193 hv9, e1 s 292193 hv9, hls s]; omega
  · rw [if_pos h0, if_pos h0]

set_option maxRecDepth 100000 in
set_option maxHeartbeats 3200000 in
theorem undoUndo_walk (w : World) (A : Option Addr) (n c : Nat) (X : Option Addr) (m k : Nat) (b : Bok) (hb : Bq w A n c X m k b) (ky : ByteArray) (wk : ky.size ≤ maxLen) (v1 : Int) (w1 : (Lit.int .i64 v1).wf = true) (s : ByteArray) (ws : s.size ≤ maxLen) :
    Calls Try.prog 4 #[bv A n c X m k b.shut, .string ky, .int .i64 v1, .string s] w fun e w' => e = .returned (.bool true) ∧ Below w.heap.size w w' := by
  have HU1 := Lib.hid (fun w' (h : Mor w w') => undo_any A n c X m k b ky u1 v1 w' (hb.mor h) u1_max)
  have HG1 := Lib.hid (fun w' (h : Mor w w') => get_any A n c X m k b u1 w' (hb.mor h))
  have HG2 := Lib.hid (fun w' (h : Mor w w') => get_any A n c X m k b u2 w' (hb.mor h))
  have HBb := Lib.hid (fun w' (h : Mor w w') => bal_any A n c X m k b s 292193 w' (hb.mor h))
  have HN := Lib.hid hb.length
  have hm63 : m ≤ maxLen := Nat.le_trans hb.le hb.max
  unfold maxLen at hm63
  have HBk := Lib.hid (fun h1 h2 hg hh => back (b := b) (ky := ky) (at' := v1) h1 h2 hg hh s)
  generalize hsh : b.shut = sh at *
  clear hb w1 hsh wk ws
  go_enter Try.func4, Try.ntmps4
  go_wp2_with fail
  refine (plain_any _).mono ?_
  rintro e w2 ⟨g, rfl, hq, hm⟩
  have hP := (C3.new w (.slice A n c) (.slice X m k) (.int .i64 sh) 25).mor hm
  have hM2 := (Mor.refl w).alloc.trans' hm
  obtain ⟨bP, hbP⟩ : ∃ g, g = w.heap.size := ⟨_, rfl⟩
  rw [← hbP] at hP ⊢
  have HP := Lib.hid (fun w' (h : Mor w2 w') => hP.mor h)
  have HQ := Lib.hid hq
  have HM2 := Lib.hid hM2
  have HwP := Lib.hid (show w.heap.size ≤ bP by omega)
  clear hP hM2 hq hm hbP
  go_wp2_with fail
  refine (sale_any ka 5 7 _ (by omega) (by omega)).mono ?_
  rintro e w3 ⟨g2, rfl, hs, hm⟩
  have HQ3 := Lib.hid (HQ.out.mor hm)
  have HS2 := Lib.hid (lq_two hs two_max two_max)
  have HM23 := Lib.hid hm
  clear hs hm HQ
  go_wp2_with fail
  refine (post_yes _ _ _ _ _ _ plainB (saleE ka 5 7) _ _ _ _ HQ3.out HS2.out one_max (plain_post 7 rfl)).mono ?_
  intro e w4 h4
  obtain ⟨A4, n4, c4, X4, m4, k4, rfl, hq4, ho4, hm⟩ := postYes_bq h4
  have HM24 := Lib.hid (HM23.out.trans' hm)
  have hUo := undo_any A4 n4 c4 X4 m4 k4 oneB ka kb 5 (w4.alloc (.cells #[.slice A4 n4 c4, .slice X4 m4 k4, .int .i64 (-1)] 25)) (hq4.mor (Mor.refl _).alloc) one_max
  rw [show oneB.shut = -1 from one_look.2.2.2.2, three.1] at hUo
  have HUo := Lib.hid hUo
  rw [show (postb plainB (saleE ka 5 7)).shut = -1 from one_look.2.2.2.2]
  clear h4 hq4 ho4 hm HQ3 HS2 hUo
  go_wp2_with fail
  refine HUo.out.mono ?_
  rintro e w5 ⟨A5, n5, c5, X5, m5, k5, rfl, ho5, hm⟩
  rw [show (undob oneB ka kb 5).shut = -1 from three.2.2.2.2.1]
  have hM25 := (HM24.out.alloc (o := .cells #[.slice A4 n4 c4, .slice X4 m4 k4, .int .i64 (-1)] 25)).trans' hm
  have hUo := undo_any A5 n5 c5 X5 m5 k5 yB kb kc 5 (w5.alloc (.cells #[.slice A5 n5 c5, .slice X5 m5 k5, .int .i64 (-1)] 25)) ((own_bq ho5).mor (Mor.refl _).alloc) one_max
  rw [three.2.2.2.2.1, three.2.1] at hUo
  have HUo := Lib.hid hUo
  have hY := Bk.new w5 25 #[.slice A5 n5 c5, .slice X5 m5 k5, .int .i64 (-1)]
  have hM26 := hM25.alloc (o := .cells #[.slice A5 n5 c5, .slice X5 m5 k5, .int .i64 (-1)] 25)
  have HltP := Lib.hid (show bP < w5.heap.size from (HP.out _ hM25).2.2.2)
  clear ho5 hm hUo hM25
  go_wp2_with fail
  obtain ⟨bY, hbY⟩ : ∃ g, g = w5.heap.size := ⟨_, rfl⟩
  rw [← hbY] at hY ⊢
  have hPY : bP < bY := by have := HltP.out; omega
  clear hbY HltP
  generalize w5.alloc (.cells #[.slice A5 n5 c5, .slice X5 m5 k5, .int .i64 (-1)] 25) = w6 at *
  refine HUo.out.mono ?_
  rintro e w7 ⟨A7, n7, c7, X7, m7, k7, rfl, ho7, hm⟩
  rw [show (undob yB kb kc 5).shut = -1 from three.2.2.2.2.2]
  have hBa := bal_any A7 n7 c7 X7 m7 k7 zB s10 5 (w7.alloc (.cells #[.slice A7 n7 c7, .slice X7 m7 k7, .int .i64 (-1)] 25)) ((own_bq ho7).mor (Mor.refl _).alloc)
  rw [three.2.2.1, three.2.2.2.1, three.2.2.2.2.2] at hBa
  have HBa := Lib.hid hBa
  have hY7 := hY.mor (hm.alloc (o := .cells #[.slice A7 n7 c7, .slice X7 m7 k7, .int .i64 (-1)] 25))
  have hZ7 := Bk.new w7 25 #[.slice A7 n7 c7, .slice X7 m7 k7, .int .i64 (-1)]
  have hM27 := (hM26.trans' hm).alloc (o := .cells #[.slice A7 n7 c7, .slice X7 m7 k7, .int .i64 (-1)] 25)
  have hYlt := (hY.mor hm).lt
  clear hY hM26 hm HUo ho7 hBa
  go_wp2_with fail
  obtain ⟨bZ, hbZ⟩ : ∃ g, g = w7.heap.size := ⟨_, rfl⟩
  rw [← hbZ] at hZ7 hYlt ⊢
  clear hbZ
  generalize w7.alloc (.cells #[.slice A7 n7 c7, .slice X7 m7 k7, .int .i64 (-1)] 25) = w8 at *
  refine HBa.out.mono ?_
  rintro e w9 ⟨rfl, hm⟩
  have HY9 := Lib.hid (hY7.mor hm)
  have HZ9 := Lib.hid (hZ7.mor hm)
  have HM29 := Lib.hid (hM27.trans' hm)
  clear hY7 hZ7 hM27 hm HBa
  obtain ⟨c0, c1, c2, cl⟩ := HP.out _ HM29.out
  go_wp2_with fail
  refine (HU1.out _ (HM2.out.trans' HM29.out)).mono ?_
  rintro e w10 ⟨A10, n10, c10, X10, m10, k10, rfl, ho10, hm10⟩
  have hy := HY9.out.mor hm10
  have hz := HZ9.out.mor hm10
  have hMw := (HM2.out.trans' HM29.out).trans' hm10
  have HPw := Lib.hid (HP.out _ (HM29.out.trans' hm10))
  obtain ⟨y, hyy⟩ : ∃ y, y = undob b ky u1 v1 := ⟨_, rfl⟩
  rw [← hyy] at ho10 HBk ⊢
  generalize hr1 : undoc b ky u1 v1 = r1 at *
  have HR1 := Lib.hid hr1
  generalize hsy : y.shut = sy at *
  have HYs := Lib.hid hsy
  have HYy := Lib.hid hyy
  have f0 := hy.frozen 0
  have f1 := hy.frozen 1
  have f2 := hy.frozen 2
  clear c0 c1 c2 cl hyy hr1 hsy
  have y0 := hy.cell 0
  have y1 := hy.cell 1
  have y2 := hy.cell 2
  have yl := hy.lt
  simp at y0 y1 y2
  go_wp2_with fail
  have hwY : w.heap.size ≤ bY := by have := HwP.out; omega
  have hwZ : w.heap.size ≤ bZ := by omega
  have hZY : bZ ≠ bY := by omega
  have hb11 := ((hy.set_ 0 (.slice A10 n10 c10)).set_ 1 (.slice X10 m10 k10)).set_ 2 (.int .i64 sy)
  simp only [List.setIfInBounds_toArray, List.set_cons_zero, List.set_cons_succ] at hb11
  have hz11 := ((hz.set_other bY 0 (.slice A10 n10 c10) hZY).set_other bY 1 (.slice X10 m10 k10) hZY).set_other bY 2 (.int .i64 sy) hZY
  have hO11 := own3 (a := .slice A10 n10 c10) (a' := .slice X10 m10 k10) (a'' := .int .i64 sy) ho10 hy
  have hm11 := ((hMw.setC (i := 0) (u := .slice A10 n10 c10) hwY).setC (i := 1) (u := .slice X10 m10 k10) hwY).setC (i := 2) (u := .int .i64 sy) hwY
  have hP11 : C3 (((w10.setCell ⟨bY, 0, none⟩ (.slice A10 n10 c10)).setCell ⟨bY, 1, none⟩ (.slice X10 m10 k10)).setCell ⟨bY, 2, none⟩ (.int .i64 sy)) bP (.slice A n c) (.slice X m k) (.int .i64 sh) := by
    obtain ⟨c0, c1, c2, cl⟩ := HPw.out
    refine ⟨?_, ?_, ?_, ?_⟩ <;> simp [go_sem, c0, c1, c2, cl]
  clear y0 y1 y2 yl f0 f1 f2 hy hz hMw HPw ho10 hm10
  generalize ((w10.setCell ⟨bY, 0, none⟩ (.slice A10 n10 c10)).setCell ⟨bY, 1, none⟩ (.slice X10 m10 k10)).setCell ⟨bY, 2, none⟩ (.int .i64 sy) = w11 at *
  have hU2 := undo_any A10 n10 c10 X10 m10 k10 y u1 u2 v1 w11 (own_bq hO11) u2_max
  rw [HYs.out] at hU2
  refine hU2.mono ?_
  rintro e w12 ⟨A12, n12, c12, X12, m12, k12, rfl, ho12, hm12⟩
  have hz := hz11.mor hm12
  have hMw := hm11.trans' hm12
  have HPw := Lib.hid (hP11.mor hm12)
  obtain ⟨z, hzz⟩ : ∃ z, z = undob y u1 u2 v1 := ⟨_, rfl⟩
  rw [← hzz] at ho12 HBk ⊢
  generalize hr2 : undoc y u1 u2 v1 = r2 at *
  have HR2 := Lib.hid hr2
  generalize hsz : z.shut = sz at *
  have HZs := Lib.hid hsz
  have f0 := hz.frozen 0
  have f1 := hz.frozen 1
  have f2 := hz.frozen 2
  have z0 := hz.cell 0
  have z1 := hz.cell 1
  have z2 := hz.cell 2
  have zl := hz.lt
  simp at z0 z1 z2
  obtain ⟨c0, c1, c2, cl⟩ := HPw.out
  clear hzz hr2 hsz hU2 hb11 hz11 hO11 hm11 hP11 hm12
  go_wp2_with fail
  have hb13 := ((hz.set_ 0 (.slice A12 n12 c12)).set_ 1 (.slice X12 m12 k12)).set_ 2 (.int .i64 sz)
  simp only [List.setIfInBounds_toArray, List.set_cons_zero, List.set_cons_succ] at hb13
  have hO13 := own3 (a := .slice A12 n12 c12) (a' := .slice X12 m12 k12) (a'' := .int .i64 sz) ho12 hz
  have hm13 := ((hMw.setC (i := 0) (u := .slice A12 n12 c12) hwZ).setC (i := 1) (u := .slice X12 m12 k12) hwZ).setC (i := 2) (u := .int .i64 sz) hwZ
  have hP13 : C3 (((w12.setCell ⟨bZ, 0, none⟩ (.slice A12 n12 c12)).setCell ⟨bZ, 1, none⟩ (.slice X12 m12 k12)).setCell ⟨bZ, 2, none⟩ (.int .i64 sz)) bP (.slice A n c) (.slice X m k) (.int .i64 sh) := by
    refine ⟨?_, ?_, ?_, ?_⟩ <;> simp [go_sem, c0, c1, c2, cl]
  clear z0 z1 z2 zl f0 f1 f2 hz hMw HPw ho12 c0 c1 c2 cl
  generalize ((w12.setCell ⟨bZ, 0, none⟩ (.slice A12 n12 c12)).setCell ⟨bZ, 1, none⟩ (.slice X12 m12 k12)).setCell ⟨bZ, 2, none⟩ (.int .i64 sz) = w13 at *
  have hq13 := own_bq hO13
  have HZq := Lib.hid (fun w' (h : Mor w13 w') => hq13.mor h)
  have HZ13 := Lib.hid (fun w' (h : Mor w13 w') => hb13.mor h)
  have HP13 := Lib.hid (fun w' (h : Mor w13 w') => hP13.mor h)
  have HM13 := Lib.hid hm13
  have hzl := hq13.length
  clear hq13 hb13 hm13 hP13 hO13
  refine (HG1.out _ HM13.out).mono ?_
  rintro e w14 ⟨s14, d14, A14, n14, c14, rfl, hm14⟩
  have HM14 := Lib.hid (hm14.alloc (o := .cells #[.string s14, .int .i64 d14, .slice A14 n14 c14] 32))
  generalize hg1 : getcB b u1 = g1 at *
  generalize hg2 : getcB b u2 = g2' at *
  obtain ⟨c0, c1, c2, cl⟩ := HP13.out _ hm14
  clear hm14
  go_wp2_with fail
  refine (HG2.out _ (HM13.out.trans' HM14.out)).mono ?_
  rintro e w15 ⟨s15, d15, A15, n15, c15, rfl, hm15⟩
  have HM15 := Lib.hid ((HM14.out.trans' hm15).alloc (o := .cells #[.string s15, .int .i64 d15, .slice A15 n15 c15] 32))
  have HM15' := Lib.hid (HM14.out.trans' hm15)
  clear hm15 c0 c1 c2 cl
  obtain ⟨c0, c1, c2, cl⟩ := HP13.out _ HM15'.out
  have hzq := HZ13.out _ HM15'.out
  have z1 := hzq.cell 1
  have z0 := hzq.cell 0
  have z2 := hzq.cell 2
  have zl := hzq.lt
  simp at z0 z1 z2
  clear hzq
  by_cases h1 : r1 = 0
  · subst h1
    by_cases h2 : r2 = 0
    · subst h2
      by_cases h3 : g1 = 0
      · subst h3
        clear HBk
        go_wp2_with fail
        go_ret
        exact ⟨rfl, (HM13.out.trans' HM15.out).below⟩
      · have hb3 : (g1 == 0) = false := by simpa using h3
        by_cases h4 : g2' = 0
        · subst h4
          clear HBk
          go_wp2_with fail
          go_ret
          exact ⟨rfl, (HM13.out.trans' HM15.out).below⟩
        · have hb4 : (g2' == 0) = false := by simpa using h4
          obtain ⟨l1, l2, l3⟩ := HBk.out rfl rfl h3 h4
          have hBz := fun w' (h : Mor w13 w') => bal_any A12 n12 c12 X12 m12 k12 z s 292193 w' (HZq.out w' h)
          rw [HZs.out, l2, l3] at hBz
          have HBz := Lib.hid hBz
          rw [hzl, HN.out] at l1
          subst l1
          generalize balv b s 292193 = bb at *
          generalize balc b s 292193 = bc at *
          clear HBk hBz l2 l3 z0 z1 z2 zl
          go_wp2_with fail
          refine (HBb.out _ (HM13.out.trans' HM15.out)).mono ?_
          rintro e w16 ⟨rfl, hm16⟩
          have HM16 := Lib.hid (HM15.out.trans' hm16)
          have hzq := HZ13.out _ HM16.out
          have z0 := hzq.cell 0
          have z1 := hzq.cell 1
          have z2 := hzq.cell 2
          have zl := hzq.lt
          simp at z0 z1 z2
          clear hzq hm16 c0 c1 c2 cl
          go_wp2_with fail
          refine (HBz.out _ HM16.out).mono ?_
          rintro e w17 ⟨rfl, hm17⟩
          have HM17 := Lib.hid (HM16.out.trans' hm17)
          clear hm17 z0 z1 z2 zl
          have hzq := HZ13.out _ HM17.out
          have z1 := hzq.cell 1
          have zl := hzq.lt
          simp at z1
          obtain ⟨c0, c1, c2, cl⟩ := HP13.out _ HM17.out
          clear hzq
          have hm60 : (m : Int) + 2 ≤ 9223372036854775807 := by
            have := (HZq.out _ (Mor.refl _)).le
            have h3 := (HZq.out _ (Mor.refl _)).max
            unfold maxLen at h3
            omega
          have hwr : IntKind.i64.wrap ((m : Int) + 2) = (m : Int) + 2 := IntWalk.i64_in _ (by omega)
          go_wp2_with fail
          go_ret
          exact ⟨by simp, (HM13.out.trans' HM17.out).below⟩
    · have hb2 : (r2 != 0) = true := by simpa using h2
      clear HBk
      go_wp2_with fail
      go_ret
      exact ⟨rfl, (HM13.out.trans' HM15.out).below⟩
  · have hb1 : (r1 != 0) = true := by simpa using h1
    clear HBk
    go_wp2_with fail
    go_ret
    exact ⟨rfl, (HM13.out.trans' HM15.out).below⟩

end Go.Proofs.Ytdfacejepmolbaa.undoUndo
