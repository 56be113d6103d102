/- The walk of talkeep.CloseLeaves. -/
import Derived.Test.YtdfacejepmolbaaCloC
import Derived.BigRegion
namespace Go.Proofs.Ytdfacejepmolbaa.closeLeaves
open Go.ChangeShapes Go.WideShapes Go.ChangeAt Go.RowKit Go.PlainAid
set_option linter.unusedVariables false

abbrev kz : ByteArray := { data := #[122] }
def cB : Bok := closeb oneB kz 6 s30
theorem cl_one : closec oneB kz 6 s30 = 0 ∧ balv cB s40 5 = -7 ∧ balc cB s40 5 = 0 ∧ cB.shut = 6 := by decide +kernel
/-- no balance ahead of the closing changes, none of what there is and what is owed -/
theorem leaves {b : Bok} {key : ByteArray} {day : Int} {code : ByteArray} (h : closec b key day code = 0) {s : ByteArray} {t : Int} (h0 : balc b s t = 0) :
    ∃ j : Nat, j < b.ac.length ∧ cd b.ac j = s ∧ (balv (closeb b key day code) s t = balv b s t ∨ (day ≤ t ∧ 2 ≤ am b.ac j)) := by
  obtain ⟨hbo, hhas, t0, t9, e1⟩ := balc_zero h0
  obtain ⟨_, _, _, _, e2⟩ := balc_zero ((closed_balc h s t).trans h0)
  rw [hasB_mem] at hhas
  obtain ⟨a, ha, hs⟩ := List.mem_map.1 hhas
  obtain ⟨j, hj, rfl⟩ := List.mem_iff_getElem.1 ha
  have hcj : cd b.ac j = s := by rw [(cd_at b.ac j hj).1]; exact hs
  refine ⟨j, hj, hcj, ?_⟩
  rw [e1, e2, closed_of h]
  by_cases hf : 0 ≤ findE b.en key
  · left; rw [if_pos hf, Int.add_zero]
  · rw [if_neg hf]
    by_cases ht : t < day
    · left; rw [if_pos ht, Int.add_zero]
    · rw [if_neg ht, ← hcj, close_ln h hj]
      by_cases h2 : 2 ≤ am b.ac j
      · exact .inr ⟨by omega, h2⟩
      · left
        obtain ⟨_, _, _, ⟨i, hi, _, hci, hk2⟩, _, _, _⟩ := closec_zero h
        rw [if_neg (by omega), if_neg, Int.add_zero]
        intro e
        have hnd := (acc_ok hbo.ac).2.1
        have := nodup_at hnd (j := j) hj (a := b.ac[i]) (List.getElem_mem hi) (by rw [← (cd_at b.ac i hi).1, hci, e])
        rw [← (cd_at b.ac i hi).2, hk2] at this
        omega

set_option maxRecDepth 100000 in
set_option maxHeartbeats 3200000 in
theorem closeLeaves_walk (w : World) (A : Option Addr) (n c : Nat) (X : Option Addr) (m k : Nat) (b : Bok) (hb : Bq w A n c X m k b) (ky : ByteArray) (wk : ky.size ≤ maxLen) (v1 : Int) (w1 : (Lit.int .i64 v1).wf = true) (code : ByteArray) (wy : code.size ≤ maxLen) (s : ByteArray) (ws : s.size ≤ maxLen) (v2 : Int) (w2 : (Lit.int .i64 v2).wf = true) :
    Calls Try.prog 5 #[bv A n c X m k b.shut, .string ky, .int .i64 v1, .string code, .string s, .int .i64 v2] w fun e w' => e = .returned (.bool true) ∧ Below w.heap.size w w' := by
  have t0 := wi_lo v2 292194 (by omega)
  have t1 := wi_hi v2 292194 (by omega)
  have HD := Lib.hid (fun w => day_any v2 w)
  generalize wi v2 292194 = t at *
  have HC := Lib.hid (fun w' (h : Mor w w') => close_any A n c X m k b ky v1 code w' (hb.mor h) wk wy)
  have HBb := Lib.hid (fun w' (h : Mor w w') => bal_any A n c X m k b s t w' (hb.mor h))
  have HN := Lib.hid hb.ac.length
  have HNd := Lib.hid (fun (h : BOk b) => (acc_ok h.ac).2.1)
  have hn63 : n ≤ maxLen := Nat.le_trans hb.ac.le hb.ac.max
  unfold maxLen at hn63
  have HAc := Lib.hid (fun w' (h : Mor w w') => hb.ac.mor h)
  have HLv := Lib.hid (fun (h : closec b ky v1 code = 0) (h0 : balc b s t = 0) => leaves h h0)
  have HBc := Lib.hid (fun (h : closec b ky v1 code = 0) => closed_balc h s t)
  have HBo := Lib.hid (fun (h : balc b s t = 0) => (balc_zero h).1)
  generalize hsh : b.shut = sh at *
  clear hb w1 w2 hsh wk wy ws
  go_enter Try.func5, Try.ntmps5
  go_wp2_with fail
  refine (plain_any _).mono ?_
  rintro e w2 ⟨g, rfl, hq, hm⟩
  have hP := (C3.new w (.slice A n c) (.slice X m k) (.int .i64 sh) 25).mor hm
  have hM2 := (Mor.refl w).alloc.trans' hm
  obtain ⟨bP, hbP⟩ : ∃ g, g = w.heap.size := ⟨_, rfl⟩
  rw [← hbP] at hP ⊢
  have HP := Lib.hid (fun w' (h : Mor w2 w') => hP.mor h)
  have HQ := Lib.hid hq
  have HM2 := Lib.hid hM2
  have HwP := Lib.hid (show w.heap.size ≤ bP by omega)
  clear hP hM2 hq hm hbP
  go_wp2_with fail
  refine (sale_any ka 5 7 _ (by omega) (by omega)).mono ?_
  rintro e w3 ⟨g2, rfl, hs, hm⟩
  have HQ3 := Lib.hid (HQ.out.mor hm)
  have HS2 := Lib.hid (lq_two hs two_max two_max)
  have HM23 := Lib.hid hm
  clear hs hm HQ
  go_wp2_with fail
  refine (post_yes _ _ _ _ _ _ plainB (saleE ka 5 7) _ _ _ _ HQ3.out HS2.out one_max (plain_post 7 rfl)).mono ?_
  intro e w4 h4
  obtain ⟨A4, n4, c4, X4, m4, k4, rfl, hq4, ho4, hm⟩ := postYes_bq h4
  have HM24 := Lib.hid (HM23.out.trans' hm)
  have hUo := close_any A4 n4 c4 X4 m4 k4 oneB kz 6 s30 (w4.alloc (.cells #[.slice A4 n4 c4, .slice X4 m4 k4, .int .i64 (-1)] 25)) (hq4.mor (Mor.refl _).alloc) one_max two_max
  rw [show oneB.shut = -1 from one_look.2.2.2.2, cl_one.1] at hUo
  have HUo := Lib.hid hUo
  rw [show (postb plainB (saleE ka 5 7)).shut = -1 from one_look.2.2.2.2]
  clear h4 hq4 ho4 hm HQ3 HS2 hUo
  go_wp2_with fail
  refine HUo.out.mono ?_
  rintro e w5 ⟨A5, n5, c5, X5, m5, k5, rfl, ho5, hm⟩
  have hq5 := own_bq ho5
  rw [show (closeb oneB kz 6 s30).shut = 6 from cl_one.2.2.2]
  have hM25 := (HM24.out.alloc (o := .cells #[.slice A4 n4 c4, .slice X4 m4 k4, .int .i64 (-1)] 25)).trans' hm
  have hBa := bal_any A5 n5 c5 X5 m5 k5 cB s40 5 (w5.alloc (.cells #[.slice A5 n5 c5, .slice X5 m5 k5, .int .i64 6] 25)) (hq5.mor (Mor.refl _).alloc)
  rw [cl_one.2.1, cl_one.2.2.1, cl_one.2.2.2] at hBa
  have HBa := Lib.hid hBa
  have hY := Bk.new w5 25 #[.slice A5 n5 c5, .slice X5 m5 k5, .int .i64 6]
  have hM26 := hM25.alloc (o := .cells #[.slice A5 n5 c5, .slice X5 m5 k5, .int .i64 6] 25)
  have HltP := Lib.hid (show bP < w5.heap.size from (HP.out _ hM25).2.2.2)
  clear ho5 hq5 hm hBa HUo hM25
  go_wp2_with fail
  obtain ⟨bY, hbY⟩ : ∃ g, g = w5.heap.size := ⟨_, rfl⟩
  rw [← hbY] at hY ⊢
  have hPY : bP < bY := by have := HltP.out; omega
  clear hbY HltP
  generalize w5.alloc (.cells #[.slice A5 n5 c5, .slice X5 m5 k5, .int .i64 6] 25) = w6 at *
  refine HBa.out.mono ?_
  rintro e w7 ⟨rfl, hm⟩
  have HY7 := Lib.hid (fun w' (h : Mor w7 w') => (hY.mor hm).mor h)
  have HM27 := Lib.hid (hM26.trans' hm)
  clear hY hM26 hm HBa
  obtain ⟨c0, c1, c2, cl⟩ := HP.out _ HM27.out
  go_wp2_with fail
  refine (HC.out _ (HM2.out.trans' HM27.out)).mono ?_
  rintro e w8 ⟨A8, n8, c8, X8, m8, k8, rfl, ho8, hm8⟩
  obtain ⟨y, hyy⟩ : ∃ y, y = closeb b ky v1 code := ⟨_, rfl⟩
  have hyl : closec b ky v1 code ≠ 0 → y = zeroB := fun h => by rw [hyy]; unfold closeb; rw [if_neg h]
  rw [← hyy] at ho8 HLv HBc ⊢
  generalize closec b ky v1 code = r at *
  generalize hsy : y.shut = sy at *
  have HYs := Lib.hid hsy
  have HYl := Lib.hid hyl
  have hy8 := HY7.out _ hm8
  have HMw := Lib.hid ((HM2.out.trans' HM27.out).trans' hm8)
  have HPw := Lib.hid (HP.out _ (HM27.out.trans' hm8))
  have f0 := hy8.frozen 0
  have f1 := hy8.frozen 1
  have f2 := hy8.frozen 2
  clear c0 c1 c2 cl hyy hsy hyl
  have y0 := hy8.cell 0
  have y1 := hy8.cell 1
  have y2 := hy8.cell 2
  have yl := hy8.lt
  simp at y0 y1 y2
  have hwY : w.heap.size ≤ bY := by have := HwP.out; omega
  have hb9 := ((hy8.set_ 0 (.slice A8 n8 c8)).set_ 1 (.slice X8 m8 k8)).set_ 2 (.int .i64 sy)
  simp only [List.setIfInBounds_toArray, List.set_cons_zero, List.set_cons_succ] at hb9
  have hO9 := own3 (a := .slice A8 n8 c8) (a' := .slice X8 m8 k8) (a'' := .int .i64 sy) ho8 hy8
  have hm9 := ((HMw.out.setC (i := 0) (u := .slice A8 n8 c8) hwY).setC (i := 1) (u := .slice X8 m8 k8) hwY).setC (i := 2) (u := .int .i64 sy) hwY
  have hP9 : C3 (((w8.setCell ⟨bY, 0, none⟩ (.slice A8 n8 c8)).setCell ⟨bY, 1, none⟩ (.slice X8 m8 k8)).setCell ⟨bY, 2, none⟩ (.int .i64 sy)) bP (.slice A n c) (.slice X m k) (.int .i64 sh) := by
    obtain ⟨c0, c1, c2, cl⟩ := HPw.out
    refine ⟨?_, ?_, ?_, ?_⟩ <;> simp [go_sem, c0, c1, c2, cl]
  have Hb9 := Lib.hid hb9
  have HO9 := Lib.hid hO9
  have Hm9 := Lib.hid hm9
  have HP9 := Lib.hid hP9
  clear hb9 hO9 hm9 hP9 hy8 ho8 hm8 HY7 HP
  by_cases hr : r = 0
  · subst hr
    obtain ⟨c0, c1, c2, cl⟩ := HPw.out
    go_wp2_with (go_at_call 13; (with_reducible refine (HD.out _).mono ?_); rintro e w10 ⟨rfl, rfl⟩)
    clear c0 c1 c2 cl y0 y1 y2 yl f0 f1 f2
    generalize ((w8.setCell ⟨bY, 0, none⟩ (.slice A8 n8 c8)).setCell ⟨bY, 1, none⟩ (.slice X8 m8 k8)).setCell ⟨bY, 2, none⟩ (.int .i64 sy) = w9 at *
    have HBy := Lib.hid (fun w' (h : Mor w9 w') => bal_any A8 n8 c8 X8 m8 k8 y s t w' ((own_bq HO9.out).mor h))
    rw [HYs.out, HBc.out (by first | rfl | trivial)] at HBy
    have HLw := Lib.hid (HLv.out (by first | rfl | trivial))
    generalize balv y s t = qv at *
    generalize balv b s t = pv at *
    generalize balc b s t = cc at *
    clear HLv HBc
    refine (HBb.out _ Hm9.out).mono ?_
    rintro e w10 ⟨rfl, hm⟩
    have HM910 := Lib.hid hm
    have hy := Hb9.out.mor hm
    have y0 := hy.cell 0
    have y1 := hy.cell 1
    have y2 := hy.cell 2
    have yl := hy.lt
    simp at y0 y1 y2
    clear hm hy
    go_wp2_with fail
    refine (HBy.out _ HM910.out).mono ?_
    rintro e w11 ⟨rfl, hm⟩
    have HM911 := Lib.hid (HM910.out.trans' hm)
    clear hm y0 y1 y2 yl
    obtain ⟨c0, c1, c2, cl⟩ := HP9.out.mor HM911.out
    by_cases hcc : cc = 0
    · subst hcc
      obtain ⟨jj, hjj, hjs, hor⟩ := HLw.out rfl
      have hnd := HNd.out (HBo.out rfl)
      have hn24 : n ≤ 24 := by rw [← HN.out]; exact (acc_ok (HBo.out rfl).ac).1
      have HJ := Lib.hid (And.intro hjj (And.intro hjs hor))
      have HND := Lib.hid hnd
      clear hjj hjs hor hnd
      go_wp2_with fail
      clear c0 c1 c2 cl
      go_loopw [23, 94] (fun v i wr => ∃ (j : Nat) (kd : Int), j ≤ n ∧ i = .int .i64 j ∧ v = .int .i64 kd ∧ Hid (∀ q, q < j → cd b.ac q = s → kd = am b.ac q) ∧ Hid (Mor w11 wr)) (fun _ i _ => n - (intOf i).toNat)
      case atStart => exact ⟨0, -1, Nat.zero_le _, rfl, rfl, Lib.hid (fun q hq => absurd hq (Nat.not_lt_zero _)), Lib.hid (Mor.refl _)⟩
      case round =>
        obtain ⟨j, kd, hj, rfl, rfl, HK, HMq⟩ := hrel
        by_cases hlt : j < n
        · have hji : (j : Int) < (n : Int) := by omega
          have hj0 : (0 : Int) ≤ (j : Int) := by omega
          have hjl : j < b.ac.length := by rw [HN.out]; exact hlt
          obtain ⟨z, hA, hzb, z0, z1⟩ := (HAc.out _ (Hm9.out.trans' (HM911.out.trans' HMq.out))).si.at_ j hjl
          subst hA
          by_cases hcs : cd b.ac j = s
          · have HK2 := Lib.hid (show ∀ q, q < j + 1 → cd b.ac q = s → am b.ac j = am b.ac q from fun q hq hqs => by
              have hql : q < b.ac.length := by omega
              have := nodup_at HND.out (j := j) hjl (a := b.ac[q]) (List.getElem_mem hql) (by rw [← (cd_at b.ac q hql).1, hqs, hcs])
              rw [(cd_at b.ac q hql).2]; exact this.symm)
            rw [hcs] at z0
            generalize am b.ac j = a at *
            clear hcs
            go_wp2_with fail
            go_roundw
            case rel => exact ⟨j + 1, a, by omega, by go_num, rfl, HK2, Lib.hid (HMq.out.alloc)⟩
            case measure => simp [intOf]; omega
          · have hcb : ((cd b.ac j).toList == s.toList) = false := by rw [str_eq, decide_eq_false hcs]
            have HK2 := Lib.hid (show ∀ q, q < j + 1 → cd b.ac q = s → kd = am b.ac q from fun q hq hqs => by
              by_cases e : q = j
              · subst e; exact absurd hqs hcs
              · exact HK.out q (by omega) hqs)
            generalize am b.ac j = a at *
            generalize cd b.ac j = t9 at *
            go_wp2_with fail
            go_roundw
            case rel => exact ⟨j + 1, kd, by omega, by go_num, rfl, HK2, Lib.hid (HMq.out.alloc)⟩
            case measure => simp [intOf]; omega
        · obtain rfl : j = n := by omega
          obtain ⟨hjj, hjs, hor⟩ := HJ.out
          have hkd := HK.out jj (by rw [← HN.out]; exact hjj) hjs
          rw [← hkd] at hor
          by_cases hpq : qv = pv
          · subst hpq
            go_wp2_with fail
            go_ret
            exact ⟨by simp, (Hm9.out.trans' (HM911.out.trans' HMq.out)).below⟩
          · obtain ⟨h8, h9⟩ : v1 ≤ t ∧ 2 ≤ kd := by
              rcases hor with h | h
              · exact absurd h hpq
              · exact h
            have hpb : (pv == qv) = false := beq_eq_false_iff_ne.2 (fun e => hpq e.symm)
            have hpn : ¬ pv = qv := fun e => hpq e.symm
            have hpd : decide (pv = qv) = false := by simpa using hpn
            have hg1 : decide (v1 ≤ t) = true := by simpa using h8
            have hg2 : decide (2 ≤ kd) = true := by simpa using h9
            clear hor hkd
            go_wp2_with fail
            go_ret
            exact ⟨by simp, (Hm9.out.trans' (HM911.out.trans' HMq.out)).below⟩
    · have hcb : (cc != 0) = true := by simpa using hcc
      go_wp2_with fail
      go_ret
      exact ⟨by simp, (Hm9.out.trans' HM911.out).below⟩
  · have hyz := HYl.out hr
    have hm0 : m8 = 0 := by rw [← (own_bq HO9.out).length, hyz]; rfl
    subst hm0
    have hrb : (r != 0) = true := by simpa using hr
    go_wp2_with fail
    go_ret
    exact ⟨by simp, Hm9.out.below⟩

end Go.Proofs.Ytdfacejepmolbaa.closeLeaves
