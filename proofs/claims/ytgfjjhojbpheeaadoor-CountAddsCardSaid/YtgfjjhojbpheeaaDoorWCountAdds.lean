/- The walk of talkeep.CountAdds. -/
import Derived.Test.YtgfjjhojbpheeaaDoorCalK
import Derived.Test.YtgfjjhojbpheeaaDoorSortB
import Derived.Deep.RegionWith
import Derived.Deep.DeepCutAuto
namespace Go.Proofs.YtgfjjhojbpheeaaDoor.countAdds
open Go.ChangeShapes Go.WideShapes Go.ChangeAt Go.RowKit
set_option linter.unusedVariables false

theorem cnt_add (way a b c : Int) : cnt way a b + cnt way b c = cnt way a c := by
  unfold cnt; split
  · exact eu_add a b c
  · omega
theorem cnt_bd {way a b : Int} (h0 : 0 ≤ a) (h9 : b ≤ 292193) (h : a ≤ b) : 0 ≤ cnt way a b ∧ cnt way a b ≤ 300000 := by
  unfold cnt; split
  · exact eu_bd h0 h9 h
  · omega
theorem mor_cell {w w' : World} {g i : Nat} {v : Option Value} (h : Mor w w') (hg : g < w.heap.size) (c : w.cell? ⟨g, i, none⟩ = v) : w'.cell? ⟨g, i, none⟩ = v := by
  obtain ⟨bs, k, rfl⟩ := h
  rw [cell?_more _ _ _ _ _ hg]; exact c
theorem mor_lt {w w' : World} {g : Nat} (h : Mor w w') (hg : g < w.heap.size) : g < w'.heap.size := by
  have := h.below.size; omega

set_option maxRecDepth 100000 in
set_option maxHeartbeats 6400000 in
theorem countAdds_walk (w : World) (ht : Tab w) (p : Int) (wp : (Lit.int .i64 p).wf = true) (a0 : Int) (wa0 : (Lit.int .i64 a0).wf = true) (a1 : Int) (wa1 : (Lit.int .i64 a1).wf = true) (a2 : Int) (wa2 : (Lit.int .i64 a2).wf = true) :
    Calls Tryd.prog 13 #[.int .i64 p, .int .i64 a0, .int .i64 a1, .int .i64 a2] w fun e w' => e = .returned (.bool true) ∧ Below w.heap.size w w' := by
  clear wp wa0 wa1 wa2
  have HT := Lib.hid ht
  clear ht
  have p0 := wi_lo p 3 (by omega)
  have p9 := wi_hi p 3 (by omega)
  have HW := Lib.hid (fun w => within_any p 3 w (by omega) (by omega))
  generalize wi p 3 = way at *
  have x0 := wi_lo a0 292194 (by omega)
  have x9 := wi_hi a0 292194 (by omega)
  have H0 := Lib.hid (fun w => cday_any a0 w)
  generalize wi a0 292194 = x at *
  have y0 := wi_lo a1 292194 (by omega)
  have y9 := wi_hi a1 292194 (by omega)
  have H1 := Lib.hid (fun w => cday_any a1 w)
  generalize wi a1 292194 = y at *
  have z0 := wi_lo a2 292194 (by omega)
  have z9 := wi_hi a2 292194 (by omega)
  have H2 := Lib.hid (fun w => cday_any a2 w)
  generalize wi a2 292194 = z at *
  have HB := Lib.hid (fun w h => between_yes 2 0 366 w (by omega) (by omega) (by omega) (by omega) (by omega) h)
  rw [show cnt 2 0 366 = 360 from eu0_366, show den 2 = 360 from rfl] at HB
  have HS := Lib.hid (fun W => sort3_any x y z W)
  go_enter Tryd.func13, Tryd.ntmps13
  go_wp2_with fail
  refine (HB.out _ HT.out).mono ?_
  rintro e w1 ⟨rfl, hm1⟩
  have HM1 := Lib.hid hm1
  clear hm1
  go_wp2_with (first | (go_at_call 20; (with_reducible refine (HW.out _).mono ?_); rintro e w1 ⟨rfl, rfl⟩) | (go_at_call 16; (with_reducible refine (H0.out _).mono ?_); rintro e w1 ⟨rfl, rfl⟩) | (go_at_call 16; (with_reducible refine (H1.out _).mono ?_); rintro e w1 ⟨rfl, rfl⟩) | (go_at_call 16; (with_reducible refine (H2.out _).mono ?_); rintro e w1 ⟨rfl, rfl⟩))
  obtain ⟨w1', hw1⟩ : ∃ w1' : World, w1' = w1.alloc (.cells #[.int .i64 360, .int .i64 360] 42) := ⟨_, rfl⟩
  have HM1' := Lib.hid (show Mor w w1' by rw [hw1]; exact HM1.out.alloc)
  have HS' := Lib.hid (HS.out w1')
  rw [hw1] at HS'
  rw [show (w1.alloc (.cells #[.int .i64 360, .int .i64 360] 42)).heap.size = w1.heap.size + 1 from by show (w1.heap.push _).size = _; rw [Array.size_push]] at HS'
  refine HS'.out.mono ?_
  rintro e w2 ⟨rfl, a, b, c, k0, hab, hbc, hP, hw2⟩
  rw [← hw1] at hw2
  rw [show w1.heap.size + 1 = w1'.heap.size by rw [hw1]; show w1.heap.size + 1 = (w1.heap.push _).size; rw [Array.size_push]]
  clear HS' hw1
  have hbd := hP (fun v => 0 ≤ v ∧ v < 292194) ⟨x0, x9⟩ ⟨y0, y9⟩ ⟨z0, z9⟩
  have ha0 : 0 ≤ a := hbd.1.1
  have hc9 : c ≤ 292193 := by have := hbd.2.2.2; omega
  clear hP hbd
  have hg : w1'.heap.size < w2.heap.size := by rw [hw2]; show w1'.heap.size < (w1'.heap.push _).size; rw [Array.size_push]; omega
  have c0 : w2.cell? ⟨w1'.heap.size, 0, none⟩ = some (.int .i64 a) := by rw [hw2]; simp [go_sem]
  have c1 : w2.cell? ⟨w1'.heap.size, 1, none⟩ = some (.int .i64 b) := by rw [hw2]; simp [go_sem]
  have c2 : w2.cell? ⟨w1'.heap.size, 2, none⟩ = some (.int .i64 c) := by rw [hw2]; simp [go_sem]
  have HM2 := Lib.hid (show Mor w w2 by rw [hw2]; exact (HM1'.out.alloc).drewN)
  have HT2 := Lib.hid (HT.out.mor HM2.out)
  clear hw2
  generalize w1'.heap.size = g at *
  have HX := Lib.hid (fun w h => between_yes way a b w p0 (by omega) ha0 (by omega) hab h)
  have HY := Lib.hid (fun w h => between_yes way b c w p0 (by omega) (by omega) hc9 hbc h)
  have HZ := Lib.hid (fun w h => between_yes way a c w p0 (by omega) ha0 hc9 (by omega) h)
  have q1 := cnt_add way a b c
  obtain ⟨p1, p2⟩ := cnt_bd (way := way) ha0 (show b ≤ 292193 by omega) hab
  obtain ⟨p3, p4⟩ := cnt_bd (way := way) (show 0 ≤ b by omega) hc9 hbc
  generalize cnt way a b = X at *
  generalize cnt way b c = Y at *
  generalize cnt way a c = Z at *
  generalize den way = D at *
  clear HM1 HB HS H0 H1 H2 HW HM1'
  go_wp2_with fail
  go_cut [12, 13] (fun s t wx => ∃ gx, s = .pointer (some ⟨gx, 0, none⟩) ∧ t = .int .i64 0 ∧ Mor w2 wx ∧ gx < wx.heap.size ∧ wx.cell? ⟨gx, 0, none⟩ = some (.int .i64 X) ∧ wx.cell? ⟨gx, 1, none⟩ = some (.int .i64 D))
  case first =>
    go_region_with ((go_at_call 25; (with_reducible refine (HX.out _ (by repeat (first | exact HT2.out | apply Tab.alloc | apply Tab.more | apply Tab.drewN | apply Tab.drew))).mono ?_); rintro e w1 ⟨rfl, bs, k, rfl⟩))
    all_goals (go_wp2_with fail; go_meet; refine ⟨_, rfl, rfl, (by repeat (first | exact Mor.refl _ | apply Mor.alloc | apply Mor.more | apply Mor.drewN | apply Mor.drew)), ?_, ?_, ?_⟩ <;> simp [go_sem])
  case rest =>
    obtain ⟨gx, rfl, rfl, hm, hgx, d0, d1⟩ := hcut
    obtain ⟨w3, rfl⟩ : ∃ w3 : World, w3 = wc := ⟨_, rfl⟩
    have c0' := mor_cell hm hg c0
    have c1' := mor_cell hm hg c1
    have c2' := mor_cell hm hg c2
    have hg' := mor_lt hm hg
    have HM3 := Lib.hid (HM2.out.trans hm)
    have HT3 := Lib.hid (HT2.out.mor hm)
    clear hm c0 c1 c2 hg
    go_wp2_with fail
    go_cut [14, 15] (fun s t wx => ∃ gx, s = .pointer (some ⟨gx, 0, none⟩) ∧ t = .int .i64 0 ∧ Mor w3 wx ∧ gx < wx.heap.size ∧ wx.cell? ⟨gx, 0, none⟩ = some (.int .i64 Y) ∧ wx.cell? ⟨gx, 1, none⟩ = some (.int .i64 D))
    case first =>
      go_region_with ((go_at_call 25; (with_reducible refine (HY.out _ (by repeat (first | exact HT3.out | apply Tab.alloc | apply Tab.more | apply Tab.drewN | apply Tab.drew))).mono ?_); rintro e w1 ⟨rfl, bs, k, rfl⟩))
      all_goals (go_wp2_with fail; go_meet; refine ⟨_, rfl, rfl, (by repeat (first | exact Mor.refl _ | apply Mor.alloc | apply Mor.more | apply Mor.drewN | apply Mor.drew)), ?_, ?_, ?_⟩ <;> simp [go_sem])
    case rest =>
      obtain ⟨gy, rfl, rfl, hm, hgy, e0, e1⟩ := hcut
      obtain ⟨w4, rfl⟩ : ∃ w4 : World, w4 = wc := ⟨_, rfl⟩
      have c0 := mor_cell hm hg' c0'
      have c1 := mor_cell hm hg' c1'
      have c2 := mor_cell hm hg' c2'
      have d0' := mor_cell hm hgx d0
      have d1' := mor_cell hm hgx d1
      have hgx' := mor_lt hm hgx
      have hg := mor_lt hm hg'
      have HM4 := Lib.hid (HM3.out.trans hm)
      have HT4 := Lib.hid (HT3.out.mor hm)
      clear hm c0' c1' c2' d0 d1 hg' hgx
      go_wp2_with fail
      go_cut [16, 17] (fun s t wx => ∃ gx, s = .pointer (some ⟨gx, 0, none⟩) ∧ t = .int .i64 0 ∧ Mor w4 wx ∧ gx < wx.heap.size ∧ wx.cell? ⟨gx, 0, none⟩ = some (.int .i64 Z) ∧ wx.cell? ⟨gx, 1, none⟩ = some (.int .i64 D))
      case first =>
        go_region_with ((go_at_call 25; (with_reducible refine (HZ.out _ (by repeat (first | exact HT4.out | apply Tab.alloc | apply Tab.more | apply Tab.drewN | apply Tab.drew))).mono ?_); rintro e w1 ⟨rfl, bs, k, rfl⟩))
        all_goals (go_wp2_with fail; go_meet; refine ⟨_, rfl, rfl, (by repeat (first | exact Mor.refl _ | apply Mor.alloc | apply Mor.more | apply Mor.drewN | apply Mor.drew)), ?_, ?_, ?_⟩ <;> simp [go_sem])
      case rest =>
        obtain ⟨gz, rfl, rfl, hm, hgz, f0, f1⟩ := hcut
        obtain ⟨w5, rfl⟩ : ∃ w5 : World, w5 = wc := ⟨_, rfl⟩
        have d0 := mor_cell hm hgx' d0'
        have d1 := mor_cell hm hgx' d1'
        have e0' := mor_cell hm hgy e0
        have e1' := mor_cell hm hgy e1
        have HM5 := Lib.hid (HM4.out.trans hm)
        clear hm c0 c1 c2 d0' d1' e0 e1
        go_wp2_with fail
        go_ret
        exact ⟨by first | rfl | (refine ret_b ?_; first | (simp; done) | (simp; omega)), HM5.out.below⟩

end Go.Proofs.YtgfjjhojbpheeaaDoor.countAdds
