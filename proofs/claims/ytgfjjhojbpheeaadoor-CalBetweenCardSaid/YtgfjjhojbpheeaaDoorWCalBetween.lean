/- The walk of talkeep.CalBetween. -/
import Derived.Test.YtgfjjhojbpheeaaDoorCalW
import Derived.Test.YtgfjjhojbpheeaaDoorSortB
import Derived.Deep.RegionWith
import Derived.Deep.DeepCutAuto
namespace Go.Proofs.YtgfjjhojbpheeaaDoor.calBetween
open Go.ChangeShapes Go.WideShapes Go.ChangeAt Go.RowKit
set_option linter.unusedVariables false

theorem mos_mono2 {a b c : Int} (h0 : 0 ≤ a) (h9 : c ≤ 292193) (h : a ≤ b) (h' : b ≤ c) : mos a b ≤ mos a c := by
  have g1 := (galois h0 (show b ≤ 292193 by omega) h (mos_ge h0 (by omega) h).1).1 (Int.le_refl _)
  exact (galois h0 h9 (by omega) (mos_ge h0 (by omega) h).1).2 ⟨g1.1, by omega⟩
theorem mos_mono1 {a b c : Int} (h0 : 0 ≤ a) (h9 : c ≤ 292193) (h : a ≤ b) (h' : b ≤ c) : mos b c ≤ mos a c := by
  have m0 := (mos_ge (show 0 ≤ b by omega) h9 h').1
  have g1 := (galois (show 0 ≤ b by omega) h9 h' m0).1 (Int.le_refl _)
  have hd := le_dk h0 (show b ≤ 292193 by omega) h
  have k0 := (isD_of h0 (show a ≤ 292193 by omega)).k0
  refine (galois h0 h9 (by omega) m0).2 ⟨by omega, ?_⟩
  have := ad_mono1 (m := mos b c) h0 (show b ≤ 292193 by omega) h (by omega) g1.1
  omega
theorem mos_sum {a b c : Int} (h0 : 0 ≤ a) (h9 : c ≤ 292193) (h : a ≤ b) (h' : b ≤ c) : mos a b + mos b c ≤ mos a c + 1 := by
  have a9 : a ≤ 292193 := by omega
  have b9 : b ≤ 292193 := by omega
  have b0 : 0 ≤ b := by omega
  have m0 := (mos_ge h0 b9 h).1
  have n0 := (mos_ge b0 h9 h').1
  have z0 := (mos_ge h0 h9 (show a ≤ c by omega)).1
  have g1 := (galois h0 b9 h m0).1 (Int.le_refl _)
  have g2 := (galois b0 h9 h' n0).1 (Int.le_refl _)
  have hk0 := (isD_of h0 a9).k0
  generalize mos a b = x at *
  generalize mos b c = y at *
  by_cases e : x + y = 0
  · omega
  · have hp := ad_isD (m := x) h0 a9 (by omega) g1.1
    have hdp : dk a + x ≤ dk b := by have := le_dk hp.bd.1 b9 g1.2; rw [hp.dk] at this; exact this
    have h1 := ad_mono1 (m := y) hp.bd.1 b9 g1.2 (by rw [hp.dk]; omega) g2.1
    have hq := ad_isD (m := y) hp.bd.1 hp.bd.2 (by rw [hp.dk]; omega) (by rw [hp.dk]; omega)
    have hr := ad_isD (m := x + y - 1) h0 a9 (by omega) (by omega)
    rw [hp.dk] at hq
    have h2 := (hr.le hq).2 (.inl (by omega))
    have := (galois h0 h9 (show a ≤ c by omega) (show 0 ≤ x + y - 1 by omega)).2 ⟨by omega, by omega⟩
    omega
theorem mos_sum2 {a b c : Int} (h0 : 0 ≤ a) (h9 : c ≤ 292193) (h : a ≤ b) (h' : b ≤ c) : mos a c ≤ mos a b + mos b c + 1 := by
  have a9 : a ≤ 292193 := by omega
  have b9 : b ≤ 292193 := by omega
  have b0 : 0 ≤ b := by omega
  have m0 := (mos_ge h0 b9 h).1
  have n0 := (mos_ge b0 h9 h').1
  have z0 := (mos_ge h0 h9 (show a ≤ c by omega)).1
  have g1 := galois h0 b9 h (show 0 ≤ mos a b + 1 by omega)
  have g2 := galois b0 h9 h' (show 0 ≤ mos b c + 1 by omega)
  have g3 := (galois h0 h9 (show a ≤ c by omega) z0).1 (Int.le_refl _)
  have hk0 := (isD_of h0 a9).k0
  have hkb := le_dk h0 b9 h
  generalize mos a b = x at *
  generalize mos b c = y at *
  generalize mos a c = z at *
  rcases Int.lt_or_le (x + y + 1) z with hz | hz
  · exfalso
    have hlt : b < ad a (x + 1) := by
      rcases Int.lt_or_le b (ad a (x + 1)) with g | g
      · exact g
      · have := g1.2 ⟨by omega, g⟩; omega
    have hq := ad_isD (m := x + 1) h0 a9 (by omega) (by omega)
    have hdb : dk b ≤ dk a + (x + 1) := by have := le_dk b0 hq.bd.2 (show b ≤ ad a (x + 1) by omega); rw [hq.dk] at this; exact this
    have h1 := ad_mono1 (m := y + 1) b0 hq.bd.2 (show b ≤ ad a (x + 1) by omega) (by omega) (by rw [hq.dk]; omega)
    have h2 : ad (ad a (x + 1)) (y + 1) ≤ ad a (x + y + 2) := by
      rw [ad_eq (ad a (x + 1)), ad_eq a (x + y + 2), hq.dk, show dk a + (x + 1) + (y + 1) = dk a + (x + y + 2) by omega]
      unfold cut
      rw [hq.dm]
      have hc := (cut_bd (n := a) (k := dk a + (x + 1)) h0 a9).2.2
      split <;> split <;> omega
    have h3 : ad a (x + y + 2) ≤ c := by
      have := ad_mono2 (n := a) (m := x + y + 2) (m' := z) h0 a9 (by omega) (by omega) g3.1
      omega
    have := g2.2 ⟨by omega, by omega⟩
    omega
  · omega

set_option maxRecDepth 100000 in
set_option maxHeartbeats 6400000 in
theorem calBetween_walk (w : World) (ht : Tab w) (a0 : Int) (wa0 : (Lit.int .i64 a0).wf = true) (a1 : Int) (wa1 : (Lit.int .i64 a1).wf = true) (a2 : Int) (wa2 : (Lit.int .i64 a2).wf = true) :
    Calls Tryd.prog 10 #[.int .i64 a0, .int .i64 a1, .int .i64 a2] w fun e w' => e = .returned (.bool true) ∧ Below w.heap.size w w' := by
  clear wa0 wa1 wa2
  have HT := Lib.hid ht
  clear ht
  have x0 := wi_lo a0 292194 (by omega)
  have x9 := wi_hi a0 292194 (by omega)
  have H0 := Lib.hid (fun w => cday_any a0 w)
  generalize wi a0 292194 = x at *
  have y0 := wi_lo a1 292194 (by omega)
  have y9 := wi_hi a1 292194 (by omega)
  have H1 := Lib.hid (fun w => cday_any a1 w)
  generalize wi a1 292194 = y at *
  have z0 := wi_lo a2 292194 (by omega)
  have z9 := wi_hi a2 292194 (by omega)
  have H2 := Lib.hid (fun w => cday_any a2 w)
  generalize wi a2 292194 = z at *
  have HB := Lib.hid (fun w h => months_yes 0 31 w (by omega) (by omega) (by omega) h)
  rw [mos0_31] at HB
  have HS := Lib.hid (fun W => sort3_any x y z W)
  go_enter Tryd.func10, Tryd.ntmps10
  go_wp2_with fail
  refine (HB.out _ HT.out).mono ?_
  rintro e w1 ⟨rfl, hm1⟩
  have HM1 := Lib.hid hm1
  clear hm1
  go_wp2_with (first | (go_at_call 16; (with_reducible refine (H0.out _).mono ?_); rintro e w1 ⟨rfl, rfl⟩) | (go_at_call 16; (with_reducible refine (H1.out _).mono ?_); rintro e w1 ⟨rfl, rfl⟩) | (go_at_call 16; (with_reducible refine (H2.out _).mono ?_); rintro e w1 ⟨rfl, rfl⟩))
  refine (HS.out _).mono ?_
  rintro e w2 ⟨rfl, a, b, c, k0, hab, hbc, hP, hw2⟩
  have hbd := hP (fun v => 0 ≤ v ∧ v < 292194) ⟨x0, x9⟩ ⟨y0, y9⟩ ⟨z0, z9⟩
  have ha0 : 0 ≤ a := hbd.1.1
  have hc9 : c ≤ 292193 := by have := hbd.2.2.2; omega
  clear hP hbd
  have hg : w1.heap.size < w2.heap.size := by rw [hw2]; show w1.heap.size < (w1.heap.push _).size; rw [Array.size_push]; omega
  have c0 : w2.cell? ⟨w1.heap.size, 0, none⟩ = some (.int .i64 a) := by rw [hw2]; simp [go_sem]
  have c1 : w2.cell? ⟨w1.heap.size, 1, none⟩ = some (.int .i64 b) := by rw [hw2]; simp [go_sem]
  have c2 : w2.cell? ⟨w1.heap.size, 2, none⟩ = some (.int .i64 c) := by rw [hw2]; simp [go_sem]
  have HM2 := Lib.hid (show Mor w w2 by rw [hw2]; exact (HM1.out.alloc).drewN)
  have HT2 := Lib.hid (HT.out.mor HM2.out)
  clear hw2
  generalize w1.heap.size = g at *
  have HX := Lib.hid (fun w h => months_yes a b w ha0 (by omega) hab h)
  have HY := Lib.hid (fun w h => months_yes b c w (by omega) hc9 hbc h)
  have HZ := Lib.hid (fun w h => months_yes a c w ha0 hc9 (by omega) h)
  have q1 := mos_mono2 ha0 hc9 hab hbc
  have q2 := mos_mono1 ha0 hc9 hab hbc
  have q3 := mos_sum ha0 hc9 hab hbc
  have q4 := mos_sum2 ha0 hc9 hab hbc
  have p1 := (mos_ge ha0 (show b ≤ 292193 by omega) hab).1
  have p2 := (mos_ge (show 0 ≤ b by omega) hc9 hbc).1
  have p3 := mos_le ha0 hc9 (show a ≤ c by omega)
  generalize mos a b = X at *
  generalize mos b c = Y at *
  generalize mos a c = Z at *
  clear HM1 HB HS H0 H1 H2
  go_wp2_with fail
  go_cut [10, 11] (fun s t wx => s = .int .i64 X ∧ t = .int .i64 0 ∧ ∃ bs k, wx = more w2 bs k)
  case first =>
    go_region_with ((go_at_call 23; (with_reducible refine (HX.out _ (by repeat (first | exact HT2.out | apply Tab.alloc | apply Tab.more | apply Tab.drewN | apply Tab.drew))).mono ?_); rintro e w1 ⟨rfl, bs, k, rfl⟩))
    all_goals (go_wp2_with fail; go_meet; exact ⟨rfl, rfl, _, _, rfl⟩)
  case rest =>
    obtain ⟨rfl, rfl, bs, k, rfl⟩ := hcut
    go_wp2_with fail
    go_cut [12, 13] (fun s t wx => s = .int .i64 Y ∧ t = .int .i64 0 ∧ ∃ bs k, wx = more w2 bs k)
    case first =>
      go_region_with ((go_at_call 23; (with_reducible refine (HY.out _ (by repeat (first | exact HT2.out | apply Tab.alloc | apply Tab.more | apply Tab.drewN | apply Tab.drew))).mono ?_); rintro e w1 ⟨rfl, bs, k, rfl⟩))
      all_goals (go_wp2_with fail; go_meet; exact ⟨rfl, rfl, _, _, rfl⟩)
    case rest =>
      obtain ⟨rfl, rfl, bs, k, rfl⟩ := hcut
      go_wp2_with fail
      go_cut [14, 15] (fun s t wx => s = .int .i64 Z ∧ t = .int .i64 0 ∧ ∃ bs k, wx = more w2 bs k)
      case first =>
        go_region_with ((go_at_call 23; (with_reducible refine (HZ.out _ (by repeat (first | exact HT2.out | apply Tab.alloc | apply Tab.more | apply Tab.drewN | apply Tab.drew))).mono ?_); rintro e w1 ⟨rfl, bs, k, rfl⟩))
        all_goals (go_wp2_with fail; go_meet; exact ⟨rfl, rfl, _, _, rfl⟩)
      case rest =>
        obtain ⟨rfl, rfl, bs, k, rfl⟩ := hcut
        go_wp2_with fail
        go_ret
        exact ⟨by first | rfl | (refine ret_b ?_; first | (simp; done) | (simp; omega)), HM2.out.more.below⟩

end Go.Proofs.YtgfjjhojbpheeaaDoor.calBetween
