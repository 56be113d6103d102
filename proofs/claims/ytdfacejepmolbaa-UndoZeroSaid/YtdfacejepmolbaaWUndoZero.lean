/- The walk of talkeep.UndoZero. -/
import Derived.Test.YtdfacejepmolbaaUndoC
import Derived.BigRegion
namespace Go.Proofs.Ytdfacejepmolbaa.undoZero
open Go.ChangeShapes Go.WideShapes Go.ChangeAt Go.RowKit Go.PlainAid
set_option linter.unusedVariables false

set_option maxRecDepth 100000 in
set_option maxHeartbeats 3200000 in
theorem undoZero_walk (w : World) (A : Option Addr) (n c : Nat) (X : Option Addr) (m k : Nat) (b : Bok) (hb : Bq w A n c X m k b) (ky : ByteArray) (wk : ky.size ≤ maxLen) (by' : ByteArray) (wy : by'.size ≤ maxLen) (v1 : Int) (w1 : (Lit.int .i64 v1).wf = true) (s : ByteArray) (ws : s.size ≤ maxLen) (v2 : Int) (w2 : (Lit.int .i64 v2).wf = true) :
    Calls Try.prog 3 #[bv A n c X m k b.shut, .string ky, .string by', .int .i64 v1, .string s, .int .i64 v2] w fun e w' => e = .returned (.bool true) ∧ Below w.heap.size w w' := by
  have t0 := wi_lo v2 292194 (by omega)
  have t1 := wi_hi v2 292194 (by omega)
  have HD := Lib.hid (fun w => day_any v2 w)
  generalize wi v2 292194 = t at *
  have HUn := Lib.hid (fun w' (h : Mor w w') (hc : undoc b ky by' v1 ≠ 0) => undo_no A n c X m k b ky by' v1 w' (hb.mor h) wy hc)
  have HUy := Lib.hid (fun w' (h : Mor w w') (hc : undoc b ky by' v1 = 0) => undo_yes A n c X m k b ky by' v1 w' (hb.mor h) wy hc)
  have HB := Lib.hid hb
  generalize hsh : b.shut = sh at *
  have HSh := Lib.hid hsh
  clear hb w1 w2 hsh wk wy ws
  go_enter Try.func3, Try.ntmps3
  go_wp2_with fail
  refine (plain_any _).mono ?_
  rintro e w2 ⟨g, rfl, hq, hm⟩
  have hP := (C3.new w (.slice A n c) (.slice X m k) (.int .i64 sh) 25).mor hm
  have hM2 := (Mor.refl w).alloc.trans' hm
  obtain ⟨bP, hbP⟩ : ∃ g, g = w.heap.size := ⟨_, rfl⟩
  rw [← hbP] at hP ⊢
  have HP := Lib.hid (fun w' (h : Mor w2 w') => hP.mor h)
  have HQ := Lib.hid hq
  have HM2 := Lib.hid hM2
  have HwP := Lib.hid (show w.heap.size ≤ bP by omega)
  clear hP hM2 hq hm hbP
  go_wp2_with fail
  refine (sale_any ka 5 7 _ (by omega) (by omega)).mono ?_
  rintro e w3 ⟨g2, rfl, hs, hm⟩
  have HQ3 := Lib.hid (HQ.out.mor hm)
  have HS2 := Lib.hid (lq_two hs two_max two_max)
  have HM23 := Lib.hid hm
  clear hs hm HQ
  go_wp2_with fail
  refine (post_yes _ _ _ _ _ _ plainB (saleE ka 5 7) _ _ _ _ HQ3.out HS2.out one_max (plain_post 7 rfl)).mono ?_
  intro e w4 h4
  obtain ⟨A4, n4, c4, X4, m4, k4, rfl, hq4, ho4, hm⟩ := postYes_bq h4
  have HM24 := Lib.hid (HM23.out.trans' hm)
  have hUo := undo_yes A4 n4 c4 X4 m4 k4 oneB ka kb 9 (w4.alloc (.cells #[.slice A4 n4 c4, .slice X4 m4 k4, .int .i64 (-1)] 25)) (hq4.mor (Mor.refl _).alloc) one_max two_undo.1
  rw [show oneB.shut = -1 from one_look.2.2.2.2] at hUo
  have HUo := Lib.hid hUo
  rw [show (postb plainB (saleE ka 5 7)).shut = -1 from one_look.2.2.2.2]
  clear h4 hq4 ho4 hm HQ3 HS2 hUo
  go_wp2_with fail
  refine HUo.out.mono ?_
  intro e w5 h5
  obtain ⟨A5, n5, c5, X5, m5, k5, rfl, hq5, -, hm⟩ := postYes_bq h5
  have hm52 : m5 = 2 := by rw [← hq5.length]; exact two_undo.2.2.2.1
  subst hm52
  have hM25 := (HM24.out.alloc (o := .cells #[.slice A4 n4 c4, .slice X4 m4 k4, .int .i64 (-1)] 25)).trans' hm
  have hBa := bal_any A5 n5 c5 X5 2 k5 twoB s10 9 (w5.alloc (.cells #[.slice A5 n5 c5, .slice X5 2 k5, .int .i64 (-1)] 25)) (hq5.mor (Mor.refl _).alloc)
  rw [two_undo.2.1, two_undo.2.2.1, two_undo.2.2.2.2] at hBa
  have HBa := Lib.hid hBa
  rw [show (postb oneB (undoE oneB ka kb 9)).shut = -1 from two_undo.2.2.2.2]
  have hY := Bk.new w5 25 #[.slice A5 n5 c5, .slice X5 2 k5, .int .i64 (-1)]
  have hM26 := hM25.alloc (o := .cells #[.slice A5 n5 c5, .slice X5 2 k5, .int .i64 (-1)] 25)
  have HltP := Lib.hid (show bP < w5.heap.size from (HP.out _ hM25).2.2.2)
  clear h5 hq5 hm hBa HUo hM25
  go_wp2_with fail
  obtain ⟨bY, hbY⟩ : ∃ g, g = w5.heap.size := ⟨_, rfl⟩
  rw [← hbY] at hY ⊢
  have hPY : bP < bY := by have := HltP.out; omega
  clear hbY HltP
  generalize w5.alloc (.cells #[.slice A5 n5 c5, .slice X5 2 k5, .int .i64 (-1)] 25) = w6 at *
  refine HBa.out.mono ?_
  rintro e w7 ⟨rfl, hm⟩
  have HY7 := Lib.hid (fun w' (h : Mor w7 w') => (hY.mor hm).mor h)
  have HM27 := Lib.hid (hM26.trans' hm)
  clear hY hM26 hm HBa
  obtain ⟨c0, c1, c2, cl⟩ := HP.out _ HM27.out
  have hy := HY7.out _ (Mor.refl _)
  have y1 := hy.cell 1
  have yl := hy.lt
  simp at y1
  clear hy
  go_wp2_with fail
  by_cases hc : undoc b ky by' v1 = 0
  · refine (HUy.out _ (HM2.out.trans' HM27.out) hc).mono ?_
    intro e w8 h8
    obtain ⟨A8, n8, c8, X8, m8, k8, rfl, hq8, ho8, hm8⟩ := postYes_bq h8
    have hys : (postb b (undoE b ky by' v1)).shut = sh := by rw [(post_ac _ _).2, HSh.out]
    rw [hys]
    obtain ⟨hbo, ⟨i, hi, hf, hky, hu⟩, hkb, hv0, hv9, hp⟩ := undoc_zero hc
    have hdo := undo_does hc hu
    rw [hq8.length, HB.out.length] at hdo
    have HDo := Lib.hid hdo
    have HGb := Lib.hid (fun w' (h : Mor w w') => show Calls Try.prog 12 #[bv A n c X m k sh, .string ky] w' (fun e w'' => ∃ A n c, e = .returned (.tuple #[.agg #[.string (ne b.en i).key, .int .i64 (ne b.en i).day, .slice A n c], .int .i64 0]) ∧ Lq w'' A n c (ne b.en i).ls ∧ Mor w' w'') by
      have h3 := get_yes A n c X m k b ky w' (HB.out.mor h) ((bookc_iff b).2 hbo) i (by rw [← HB.out.length]; exact hi) hf
      rw [HSh.out] at h3
      exact h3.mono fun e w'' h => getYes_lq h)
    rw [hky] at HGb
    have he : enc (ne b.en i) = 0 := by rw [ne_eq _ _ hi]; exact hbo.enc _ (List.getElem_mem hi)
    obtain ⟨hl12, -, -, hok, hnd, hd0, hd9, -⟩ := en_lines he
    obtain ⟨j, hj, hfj, hnj⟩ := posted_at hp
    have hfj' : findE (postb b (undoE b ky by' v1)).en by' = j := by rw [hu] at hfj ⊢; exact hfj
    rw [hu] at hnj
    have HGy := Lib.hid (fun w' (h : Bq w' A8 n8 c8 X8 m8 k8 (postb b (undoE b ky by' v1))) => show Calls Try.prog 12 #[bv A8 n8 c8 X8 m8 k8 sh, .string by'] w' (fun e w'' => ∃ A n c, e = .returned (.tuple #[.agg #[.string by', .int .i64 v1, .slice A n c], .int .i64 0]) ∧ Lq w'' A n c (turn (ne b.en i).ls) ∧ Mor w' w'') by
      have h3 := get_yes A8 n8 c8 X8 m8 k8 _ by' w' h ((bookc_iff _).2 (post_ok hp)) j (by rw [← h.length]; exact hj) hfj'
      rw [hys, hu, hnj] at h3
      exact h3.mono fun e w'' h => getYes_lq h)
    have HBb := Lib.hid (fun w' (h : Mor w w') d => show Calls Try.prog 11 #[bv A n c X m k sh, .string s, .int .i64 d] w' (fun e w'' => e = .returned (.tuple #[.int .i64 (balv b s d), .int .i64 (balc b s d)]) ∧ Mor w' w'') by
      have h3 := bal_any A n c X m k b s d w' (HB.out.mor h)
      rw [HSh.out] at h3
      exact h3)
    have HBy := Lib.hid (fun w' (h : Bq w' A8 n8 c8 X8 m8 k8 (postb b (undoE b ky by' v1))) d => show Calls Try.prog 11 #[bv A8 n8 c8 X8 m8 k8 sh, .string s, .int .i64 d] w' (fun e w'' => e = .returned (.tuple #[.int .i64 (balv (postb b (undoE b ky by' v1)) s d), .int .i64 (balc b s d)]) ∧ Mor w' w'') by
      have h3 := bal_any A8 n8 c8 X8 m8 k8 _ s d w' h
      rw [hys, posted_balc hp] at h3
      exact h3)
    have HBd := Lib.hid (fun d => ofS_bd hbo.enc hbo.len s 0 d)
    have HOk := Lib.hid hok
    have HNd := Lib.hid hnd
    have HPc := Lib.hid (fun d => posted_balc hp s d)
    generalize postb b (undoE b ky by' v1) = y at *
    have hy8 := HY7.out _ hm8
    have HO8 := Lib.hid ho8
    have HYb := Lib.hid hy8
    have HM78 := Lib.hid hm8
    have f0 := hy8.frozen 0
    have f1 := hy8.frozen 1
    have f2 := hy8.frozen 2
    clear y1 yl c0 c1 c2 cl
    have y0 := hy8.cell 0
    have y1 := hy8.cell 1
    have y2 := hy8.cell 2
    have yl := hy8.lt
    simp at y0 y1 y2
    clear HUn HUy h8 hq8 ho8 hm8 hdo hy8 hp he hj hfj hfj' hnj hok hnd hu hkb hf hi hc hys hky
    obtain ⟨c0, c1, c2, cl⟩ := HP.out _ (HM27.out.trans' HM78.out)
    have hne : bP ≠ bY := by omega
    go_wp2_with fail
    have hwY : w.heap.size ≤ bY := by have := HwP.out; omega
    have hb9 := ((HYb.out.set_ 0 (.slice A8 n8 c8)).set_ 1 (.slice X8 m8 k8)).set_ 2 (.int .i64 sh)
    simp only [List.setIfInBounds_toArray, List.set_cons_zero, List.set_cons_succ] at hb9
    have hO9 := own3 (a := .slice A8 n8 c8) (a' := .slice X8 m8 k8) (a'' := .int .i64 sh) HO8.out HYb.out
    have hm9 := ((((HM2.out.trans' HM27.out).trans' HM78.out).setC (i := 0) (u := .slice A8 n8 c8) hwY).setC (i := 1) (u := .slice X8 m8 k8) hwY).setC (i := 2) (u := .int .i64 sh) hwY
    have hP9 : C3 (((w8.setCell ⟨bY, 0, none⟩ (.slice A8 n8 c8)).setCell ⟨bY, 1, none⟩ (.slice X8 m8 k8)).setCell ⟨bY, 2, none⟩ (.int .i64 sh)) bP (.slice A n c) (.slice X m k) (.int .i64 sh) := by
      refine ⟨?_, ?_, ?_, ?_⟩ <;> simp [go_sem, c0, c1, c2, cl]
    clear c0 c1 c2 cl y0 y1 y2 yl f0 f1 f2
    generalize ((w8.setCell ⟨bY, 0, none⟩ (.slice A8 n8 c8)).setCell ⟨bY, 1, none⟩ (.slice X8 m8 k8)).setCell ⟨bY, 2, none⟩ (.int .i64 sh) = w9 at *
    have hq9 := own_bq hO9
    have HB9 := Lib.hid (fun w' (h : Mor w9 w') => hq9.mor h)
    have HM9 := Lib.hid hm9
    have HP9 := Lib.hid (fun w' (h : Mor w9 w') => hP9.mor h)
    have HY9 := Lib.hid (fun w' (h : Mor w9 w') => hb9.mor h)
    clear hq9 hm9 hP9 hb9 hO9 HO8 HYb HM78 HY7 HP
    refine (HGb.out _ HM9.out).mono ?_
    rintro e w10 ⟨A10, n10, c10, rfl, hl10, hm10⟩
    have hE := (C3.new w10 (.string ky) (.int .i64 (ne b.en i).day) (.slice A10 n10 c10) 32)
    have hM10 := hm10.alloc (o := .cells #[.string ky, .int .i64 (ne b.en i).day, .slice A10 n10 c10] 32)
    have hL10 := hl10.mor ((Mor.refl w10).alloc (o := .cells #[.string ky, .int .i64 (ne b.en i).day, .slice A10 n10 c10] 32))
    have hy10 := HY9.out _ hm10
    have y0 := hy10.cell 0
    have y1 := hy10.cell 1
    have y2 := hy10.cell 2
    have yl := hy10.lt
    simp at y0 y1 y2
    generalize (ne b.en i).day = d1 at *
    generalize (ne b.en i).ls = ls at *
    clear hl10 hm10 hy10 HGb
    go_wp2_with fail
    obtain ⟨bE, hbE⟩ : ∃ g, g = w10.heap.size := ⟨_, rfl⟩
    rw [← hbE] at hE ⊢
    clear hbE y0 y1 y2 yl
    generalize w10.alloc (.cells #[.string ky, .int .i64 d1, .slice A10 n10 c10] 32) = w11 at *
    have HE11 := Lib.hid (fun w' (h : Mor w11 w') => hE.mor h)
    have HL11 := Lib.hid hL10
    have HM911 := Lib.hid hM10
    refine (HGy.out _ (HB9.out _ hM10)).mono ?_
    rintro e w12 ⟨A12, n12, c12, rfl, hl12', hm12⟩
    have hnn : n12 = n10 := by rw [← hl12'.length, turn_len, hL10.length]
    subst hnn
    have HM1112 := Lib.hid (hm12.alloc (o := .cells #[.string by', .int .i64 v1, .slice A12 n12 c12] 32))
    have hO := (C3.new w12 (.string by') (.int .i64 v1) (.slice A12 n12 c12) 32)
    obtain ⟨e0, e1, e2, el⟩ := HE11.out _ hm12
    clear hE hM10 hL10 hl12' hm12 HGy
    obtain ⟨L, hL⟩ : ∃ L, max (max v1 d1) t = L := ⟨_, rfl⟩
    have hL0 : 0 ≤ L ∧ L ≤ 292193 ∧ v1 ≤ L := by rw [← hL]; omega
    obtain ⟨hL0, hL9, hLv⟩ := hL0
    go_wp2_with fail
    clear hO
    obtain ⟨e0, e1, e2, el⟩ := HE11.out _ HM1112.out
    generalize w12.alloc (.cells #[.string by', .int .i64 v1, .slice A12 n12 c12] 32) = w13 at *
    obtain ⟨c0, c1, c2, cl⟩ := HP9.out _ (HM911.out.trans' HM1112.out)
    have HBL := Lib.hid (fun w' (h : Mor w w') => HBb.out w' h L)
    have HYL := Lib.hid (fun w' (h : Mor w9 w') => HBy.out w' (HB9.out _ h) L)
    have HM913 := Lib.hid (HM911.out.trans' HM1112.out)
    have HLx := Lib.hid hL
    clear hL
    go_cut [5] (fun s5 wx => s5 = .int .i64 L ∧ Hid (Mor w13 wx))
    case first =>
      go_quiet ((go_at_call 13; (with_reducible exact quiet_eq (HD.out _))))
      all_goals (go_wp2_with fail)
      all_goals go_meet
      all_goals exact ⟨by have := HLx.out; first | rfl | (congr 1; omega), Lib.hid (Mor.refl _).drewN⟩
    case rest =>
    obtain ⟨rfl, HM13c⟩ := hcut
    clear c0 c1 c2 cl
    obtain ⟨c0, c1, c2, cl⟩ := HP9.out _ (HM913.out.trans' HM13c.out)
    clear e0 e1 e2 el
    go_wp2_with fail
    refine (HBL.out _ (HM9.out.trans' (HM913.out.trans' HM13c.out))).mono ?_
    rintro e w14 ⟨rfl, hm⟩
    have HM914 := Lib.hid ((HM913.out.trans' HM13c.out).trans' hm)
    have HM1114 := Lib.hid ((HM1112.out.trans' HM13c.out).trans' hm)
    have hy14 := HY9.out _ HM914.out
    have y0 := hy14.cell 0
    have y1 := hy14.cell 1
    have y2 := hy14.cell 2
    have yl := hy14.lt
    simp at y0 y1 y2
    clear hm c0 c1 c2 cl hy14 HBL HM1112
    go_wp2_with fail
    refine (HYL.out _ HM914.out).mono ?_
    rintro e w15 ⟨rfl, hm⟩
    have HM915 := Lib.hid (HM914.out.trans' hm)
    have HM1115 := Lib.hid (HM1114.out.trans' hm)
    clear hm y0 y1 y2 yl HYL HM914 HM1114
    obtain ⟨e0, e1, e2, el⟩ := HE11.out _ HM1115.out
    have HBv := Lib.hid (fun (h0 : balc b s L = 0) => show (-720000000000000 ≤ balv b s L ∧ balv b s L ≤ 720000000000000) ∧ (m8 = m ∨ (m8 = m + 1 ∧ balv y s L = balv b s L - lnOf ls s)) by
      obtain ⟨_, _, _, _, e1⟩ := balc_zero h0
      obtain ⟨_, _, _, _, e2⟩ := balc_zero ((HPc.out L).trans h0)
      rw [e1, e2]
      refine ⟨HBd.out L, ?_⟩
      rcases HDo.out with h | ⟨h1, h2⟩
      · exact .inl h
      · exact .inr ⟨h1, h2 s L hLv⟩)
    generalize balv y s L = nv at *
    generalize balv b s L = bw at *
    generalize balc b s L = cc at *
    go_wp2_with fail
    clear e0 e1 e2 el
    have hn12 : n12 ≤ 12 := by rw [← HL11.out.length]; exact hl12
    go_loopw [25, 124] (fun v i wq => ∃ (q : Nat), q ≤ n12 ∧ i = .int .i64 q ∧ v = .int .i64 (lnOf (ls.take q) s) ∧ Hid (Mor w15 wq)) (fun _ i _ => n12 - (intOf i).toNat)
    case atStart => exact ⟨0, Nat.zero_le _, rfl, by simp; rfl, Lib.hid (Mor.refl _)⟩
    case round =>
      obtain ⟨q, hq, rfl, rfl, HMq⟩ := hrel
      have HLq := Lib.hid ((HL11.out.mor HM1115.out).mor HMq.out)
      by_cases hqt : q < n12
      · have hqi : (q : Int) < (n12 : Int) := by omega
        have hq0 : (0 : Int) ≤ (q : Int) := by omega
        obtain ⟨z, hA5, hzb, z0, z1⟩ := HLq.out.si.at_ q (by rw [HLq.out.length]; exact hqt)
        subst hA5
        have HLt := Lib.hid (last_ln HNd.out s q (by rw [HLq.out.length]; exact hqt))
        by_cases hcs : cd ls q = s
        · rw [if_pos hcs] at HLt
          rw [hcs] at z0
          generalize am ls q = a at *
          clear hcs
          go_wp2_with fail
          go_roundw
          case rel => exact ⟨q + 1, by omega, by go_num, by rw [HLt.out], Lib.hid (HMq.out.alloc)⟩
          case measure => simp [intOf]; omega
        · rw [if_neg hcs] at HLt
          have hcb : ((cd ls q).toList == s.toList) = false := by rw [str_eq, decide_eq_false hcs]
          generalize am ls q = a at *
          generalize cd ls q = t9 at *
          go_wp2_with fail
          go_roundw
          case rel => exact ⟨q + 1, by omega, by go_num, by rw [HLt.out], Lib.hid (HMq.out.alloc)⟩
          case measure => simp [intOf]; omega
      · obtain rfl : q = n12 := by omega
        have hyq := HY9.out _ (HM915.out.trans' HMq.out)
        have y0 := hyq.cell 0
        have y1 := hyq.cell 1
        have y2 := hyq.cell 2
        have yl := hyq.lt
        simp at y0 y1 y2
        obtain ⟨c0, c1, c2, cl⟩ := HP9.out _ (HM915.out.trans' HMq.out)
        have hall : lnOf (ls.take q) s = lnOf ls s := by rw [List.take_of_length_le (by rw [HLq.out.length]; exact Nat.le_refl _)]
        rw [hall]
        have hlb := lnOf_bd HOk.out s
        have hlen : ls.length ≤ 12 := hl12
        clear hall hyq
        by_cases hcc : cc = 0
        · subst hcc
          obtain ⟨⟨hw1, hw2⟩, hor⟩ := HBv.out rfl
          have hM : (ls.length : Int) ≤ 12 := by omega
          have hm1 : -12000000000000 ≤ lnOf ls s ∧ lnOf ls s ≤ 12000000000000 := by omega
          generalize lnOf ls s = mi at *
          clear hlb hM hlen
          obtain ⟨hm1, hm2⟩ := hm1
          rcases hor with hor | ⟨hor, hnv⟩
          · subst hor
            go_wp2_with fail
            go_ret
            exact ⟨by simp, (HM9.out.trans' (HM915.out.trans' HMq.out)).below⟩
          · subst hnv
            have hne : ((m8 : Int) == (m : Int)) = false := beq_eq_false_iff_ne.2 (by omega)
            have hne2 : ¬ m8 = m := by omega
            have hne3 : ¬ (m8 : Int) = (m : Int) := by omega
            have hne4 : decide (m8 = m) = false := by simpa using hne2
            clear hor
            go_wp2_with fail
            go_ret
            exact ⟨by simp, (HM9.out.trans' (HM915.out.trans' HMq.out)).below⟩
        · have hcb : (cc != 0) = true := by simpa using hcc
          go_wp2_with fail
          go_ret
          exact ⟨by simp, (HM9.out.trans' (HM915.out.trans' HMq.out)).below⟩
  · refine (HUn.out _ (HM2.out.trans' HM27.out) hc).mono ?_
    rintro e w8 ⟨rfl, hm8⟩
    have hr : (undoc b ky by' v1 != 0) = true := by simpa using hc
    generalize undoc b ky by' v1 = r at *
    have hy8 := HY7.out _ hm8
    have HM8 := Lib.hid ((HM2.out.trans' HM27.out).trans' hm8)
    have f0 := hy8.frozen 0
    have f1 := hy8.frozen 1
    have f2 := hy8.frozen 2
    clear y1 yl c0 c1 c2 cl
    have y0 := hy8.cell 0
    have y1 := hy8.cell 1
    have y2 := hy8.cell 2
    have yl := hy8.lt
    simp at y0 y1 y2
    have hwY : w.heap.size ≤ bY := by have := HwP.out; omega
    clear HUn HUy hc hm8 hy8
    go_wp2_with fail
    go_ret
    exact ⟨by simp, (((HM8.out.setC hwY).setC hwY).setC hwY).below⟩

end Go.Proofs.Ytdfacejepmolbaa.undoZero
