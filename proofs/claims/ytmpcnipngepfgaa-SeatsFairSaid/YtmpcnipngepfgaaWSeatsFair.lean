/- The walk of talkeep.SeatsFair. -/
import Derived.Test.YtmpcnipngepfgaaSeatsC
import Derived.Deep.RegionWith
import Derived.Deep.DrawnRows
import Derived.Deep.RegionHeld3
namespace Go.Proofs.Ytmpcnipngepfgaa.seatsFair
open Go.ChangeShapes Go.WideShapes Go.ChangeAt Go.RowKit
set_option linter.unusedVariables false

theorem beg {xs : List Int} (h : DealInv 1 [1, 2] xs 1) : xs = [0, 1] := deal_beg (by decide) h (by decide) rfl (by decide)
theorem beg_code : lcode 1 [1, 2] = 0 := by decide

attribute [local go_sem ↓] Go.wp_at_zero Go.wp_at_succ

set_option maxHeartbeats 800000 in
theorem clo_any (b : Nat) (way s : Int) (W : World) (h1 : 0 ≤ way) (h2 : way ≤ 2) (h3 : 0 ≤ s) (h4 : s ≤ 1000) (hb : b < W.heap.size) (hc : W.cell? ⟨b, 0, none⟩ = some (.int .i64 way)) :
    Calls Try.prog 19 #[.int .i64 s, .pointer (some ⟨b, 0, none⟩)] W fun e w' => e = .returned (.int .i64 (dv way s)) ∧ Mor W w' := by
  have hw : way = 0 ∨ way = 1 ∨ way = 2 := by omega
  rcases hw with rfl | rfl | rfl
  · rw [dv_0]
    go_enter Try.func19, Try.ntmps19
    go_wp2
    go_ret
    exact ⟨rfl, Mor.alloc (Mor.refl _)⟩
  · rw [dv_1]
    go_enter Try.func19, Try.ntmps19
    go_wp2
    go_ret
    exact ⟨rfl, Mor.alloc (Mor.refl _)⟩
  · rw [dv_2]
    go_enter Try.func19, Try.ntmps19
    go_wp2
    go_ret
    exact ⟨rfl, Mor.alloc (Mor.refl _)⟩

set_option maxRecDepth 100000 in
set_option maxHeartbeats 6400000 in
theorem seatsFair_walk (w : World) (way : Int) (wway : (Lit.int .i64 way).wf = true) (n : Int) (wn : (Lit.int .i64 n).wf = true) (A : Option Addr) (len cap : Nat) (zs : List Int) (hz : IsRow .i64 w A len cap zs) :
    Calls Try.prog 5 #[.int .i64 way, .int .i64 n, .slice A len cap] w fun e w' => e = .returned (.bool true) ∧ Below w.heap.size w w' := by
  obtain ⟨hri, hlen, hcap, hmax, hwf, hnil⟩ := Ri.of_isRow hz
  generalize zs.take len = vs at *
  have HRI := Lib.hid hri
  have HLEN := Lib.hid hlen
  have hml : (len : Int) ≤ 9223372036854775807 := by unfold maxLen at hmax; omega
  clear hri hz hwf hmax
  have W1 := wi_lo way 3 (by omega)
  have W2 := wi_hi way 3 (by omega)
  have HW := Lib.hid (fun w => within_any way 3 w (by omega) (by omega))
  generalize wi way 3 = W at *
  have n01 := wi_lo n 300 (by omega)
  have n02 := wi_hi n 300 (by omega)
  have Hn0 := Lib.hid (fun w => within_any n 300 w (by omega) (by omega))
  generalize wi n 300 = n0 at *
  obtain ⟨N, rfl⟩ := Int.eq_ofNat_of_zero_le n01
  have HD := Lib.hid (fun w (h : Ri w A vs) => deal_any W N N A len cap vs w (fun _ => rfl) h HLEN.out)
  go_enter Try.func5, Try.ntmps5
  go_wp2_with fail
  refine (deal_int 1 1 1 _ 2 2 [1, 2] _ rfl (by omega) (by omega) (Ri.of_row (row_lit [1, 2] (by simp) rfl)) rfl beg_code).mono ?_
  rintro e w1 ⟨xs0, g0, bs0, k0, rfl, rfl, hinv, hr⟩
  obtain rfl := beg hinv
  have HR := Lib.hid hr
  clear hinv hr
  go_wp2_with fail
  refine (equal_yes _ _ _ _ _ _ 2 [0, 1] _ (HR.out.alloc) (row_lit [0, 1] (by simp) rfl) rfl (by omega)).mono ?_
  rintro e w1 ⟨rfl, m0, rfl⟩
  clear HR
  go_wp2_with (first | (go_at_call 18; (with_reducible refine (HW.out _).mono ?_); rintro e w1 ⟨rfl, rfl⟩) | (go_at_call 18; (with_reducible refine (Hn0.out _).mono ?_); rintro e w1 ⟨rfl, rfl⟩))
  refine (HD.out _ (HRI.out.mor (by repeat (first | exact Mor.refl _ | apply Mor.alloc | apply Mor.more | apply Mor.drewN | apply Mor.drew)))).mono ?_
  rintro e w1 (⟨hc, xs, g, bs, k, rfl, rfl, hinv, hr⟩ | ⟨hc, rfl, rfl⟩)
  · have HV := Lib.hid (lcode_zero (dcode_zero hc).2.2).2.1
    have m40 := (lcode_zero (dcode_zero hc).2.2).1
    rw [HLEN.out] at m40 ⊢
    (try simp [go_sem] at hr)
    have HRX := Lib.hid hr
    have HXL := Lib.hid (show xs.length = len by rw [hinv.1, HLEN.out])
    have HXB := Lib.hid (fun i (hi : i < len) => hinv.bd i (by rw [HLEN.out]; exact hi))
    have HF := Lib.hid (fun i k (hi : i < len) (hk : k < len) (h1 : 0 < xs.getD k 0) (h2 : 0 < vs.getD i 0) => show vs.getD i 0 * dv W (xs.getD k 0 - 1) ≤ vs.getD k 0 * dv W (xs.getD i 0) from
      fair_claim (fun i hi => (voteOk_get HV.out i).1) hinv.2.1 (by rw [HLEN.out]; exact hi) (by rw [HLEN.out]; exact hk) h1 h2)
    clear hc hinv hr HD
    go_wp2_with fail
    go_loopw [59] (fun i wr => ∃ i0 : Nat, i0 ≤ len ∧ i = .int .i64 i0 ∧ Hid (Mor w wr ∧ Row wr g 0 xs ∧ Ri wr A vs ∧ wr.cell? ⟨w.heap.size, 0, none⟩ = some (.int .i64 W))) (fun i _ => len - (intOf i).toNat)
    case atStart => exact ⟨0, Nat.zero_le _, rfl, Lib.hid ⟨by repeat (first | exact Mor.refl _ | apply Mor.alloc | apply Mor.more | apply Mor.drewN | apply Mor.drew), HRX.out, HRI.out.mor (by repeat (first | exact Mor.refl _ | apply Mor.alloc | apply Mor.more | apply Mor.drewN | apply Mor.drew)), by go_simp⟩⟩
    case round =>
      obtain ⟨i0, hi0, rfl, hw⟩ := hrel
      by_cases hlt0 : i0 < len
      · obtain ⟨wo, rfl⟩ : ∃ wo : World, wo = wr := ⟨_, rfl⟩
        have hki0 : ((i0 : Nat) : Int) < (len : Int) := by omega
        obtain ⟨x, hA, hxb, cv⟩ := hw.out.2.2.1.at_ i0 (by rw [HLEN.out]; exact hlt0)
        subst hA
        obtain ⟨v1, v2⟩ := voteOk_get HV.out i0
        obtain ⟨x1, x2⟩ := HXB.out i0 hlt0
        have HF0 := Lib.hid (fun k hk => HF.out i0 k hlt0 hk)
        obtain ⟨v, hv0⟩ : ∃ v, vs.getD i0 0 = v := ⟨_, rfl⟩
        obtain ⟨y, hy0⟩ : ∃ y, xs.getD i0 0 = y := ⟨_, rfl⟩
        have HYI := Lib.hid hy0
        rw [hv0] at v1 v2 HF0 cv
        rw [hy0] at x1 x2 HF0
        clear hv0 hy0
        go_wp2
        go_loopw [66] (fun i wr => ∃ k1 : Nat, k1 ≤ len ∧ i = .int .i64 k1 ∧ Hid (Mor w wr ∧ Row wr g 0 xs ∧ Ri wr (some x) vs ∧ wr.cell? ⟨w.heap.size, 0, none⟩ = some (.int .i64 W))) (fun i _ => len - (intOf i).toNat)
        case atStart => exact ⟨0, Nat.zero_le _, rfl, hw⟩
        case round =>
          clear hw
          obtain ⟨k1, hk1, rfl, hw⟩ := hrel
          by_cases hlt1 : k1 < len
          · obtain ⟨w2, rfl⟩ : ∃ w2 : World, w2 = wr := ⟨_, rfl⟩
            have hki1 : ((k1 : Nat) : Int) < (len : Int) := by omega
            obtain ⟨x', hA', hxb', cv'⟩ := hw.out.2.2.1.at_ k1 (by rw [HLEN.out]; exact hlt1)
            injection hA' with hA'
            subst hA'
            have cx' := hw.out.2.1.get k1 (by rw [HXL.out]; exact hlt1)
            have cx0 := hw.out.2.1.get i0 (by rw [HXL.out]; exact hlt0)
            rw [Nat.zero_add] at cx' cx0
            rw [HYI.out] at cx0
            have cbx := hw.out.2.2.2
            have gb := hw.out.2.1.1
            have wb : w.heap.size < w2.heap.size := World.block_lt_of_cell? _ _ cbx
            obtain ⟨u1, u2⟩ := voteOk_get HV.out k1
            obtain ⟨z1, z2⟩ := HXB.out k1 hlt1
            have HF1 := Lib.hid (HF0.out k1 hlt1)
            generalize vs.getD k1 0 = u at *
            generalize xs.getD k1 0 = z at *
            by_cases hz : 0 < z
            · by_cases hv : 0 < v
              · have hf := HF1.out hz hv
                obtain ⟨d1, d2⟩ := dv_bd W (z - 1) (by omega) (by omega)
                obtain ⟨d3, d4⟩ := dv_bd W y (by omega) (by omega)
                have HCZ := Lib.hid (fun (W' : World) (h : Mor w2 W') => clo_any w.heap.size W (z - 1) W' (by omega) (by omega) (by omega) (by omega) (by have := h.below.size; omega) ((h.below.cell (p := ⟨w.heap.size, 0, none⟩) wb).trans cbx))
                have HCY := Lib.hid (fun (W' : World) (h : Mor w2 W') => clo_any w.heap.size W y W' (by omega) (by omega) (by omega) (by omega) (by have := h.below.size; omega) ((h.below.cell (p := ⟨w.heap.size, 0, none⟩) wb).trans cbx))
                have HK := Lib.hid (fun (W' : World) (h : Mor w2 W') => show Mor w W' ∧ Row W' g 0 xs ∧ Ri W' (some x) vs ∧ W'.cell? ⟨w.heap.size, 0, none⟩ = some (.int .i64 W) from ⟨hw.out.1.trans h, hw.out.2.1.mor h, hw.out.2.2.1.mor h, (h.below.cell (p := ⟨w.heap.size, 0, none⟩) wb).trans cbx⟩)
                generalize dv W (z - 1) = dz at *
                generalize dv W y = dy at *
                obtain ⟨p1, p2⟩ := prod_bd v dz 1000000 2001 (by omega) (by omega) d1 d2 (by omega)
                obtain ⟨p3, p4⟩ := prod_bd u dy 1000000 2001 (by omega) (by omega) d3 d4 (by omega)
                have f1 : decide (u * dy < v * dz) = false := by simp; omega
                have k1w : IntKind.i64.wrap (v * dz) = v * dz := IntWalk.i64_in _ (by omega)
                have k2w : IntKind.i64.wrap (u * dy) = u * dy := IntWalk.i64_in _ (by omega)
                have k3w : IntKind.i64.wrap (z - 1) = z - 1 := IntWalk.i64_in _ (by omega)
                have hz0 : (0 : Int) ≤ (k1 : Int) := by omega
                have hz1 : (0 : Int) ≤ (i0 : Int) := by omega
                go_wp2
                go_region_held3 (fun w' => w'.cell? ⟨g, k1, none⟩ = some (.int .i64 z) ∧ w'.cell? ⟨g, i0, none⟩ = some (.int .i64 y)) (simp [go_sem, cx', cx0, gb]) (first | ((go_at_call 19; (with_reducible refine (HCZ.out _ (by repeat (first | exact Mor.refl _ | apply Mor.alloc | apply Mor.more | apply Mor.drewN | apply Mor.drew))).mono ?_)); rintro e w1 ⟨rfl, bs1, n1, rfl⟩) | ((go_at_call 19; (with_reducible refine (HCY.out _ (by repeat (first | exact Mor.refl _ | apply Mor.alloc | apply Mor.more | apply Mor.drewN | apply Mor.drew))).mono ?_)); rintro e w1 ⟨rfl, bs1, n1, rfl⟩))
                clear k1w k2w k3w
                go_wp2
                go_roundw
                case rel => exact ⟨k1 + 1, by omega, by go_num, Lib.hid (HK.out _ (by repeat (first | exact Mor.refl _ | apply Mor.alloc | apply Mor.more | apply Mor.drewN | apply Mor.drew)))⟩
                case measure => simp [intOf]; omega
              · have f1 : decide (0 < v) = false := by simp; omega
                go_wp2
                go_quiet (fail)
                go_wp2
                go_roundw
                case rel => exact ⟨k1 + 1, by omega, by go_num, Lib.hid ⟨hw.out.1.drewN, hw.out.2.1, hw.out.2.2.1.drewN, hw.out.2.2.2⟩⟩
                case measure => simp [intOf]; omega
            · have f1 : decide (0 < z) = false := by simp; omega
              go_wp2
              go_quiet (fail)
              go_wp2
              go_roundw
              case rel => exact ⟨k1 + 1, by omega, by go_num, Lib.hid ⟨hw.out.1.drewN, hw.out.2.1, hw.out.2.2.1.drewN, hw.out.2.2.2⟩⟩
              case measure => simp [intOf]; omega
          · have e : k1 = len := by omega
            subst e
            go_wp2
            go_roundw
            case rel => exact ⟨i0 + 1, by omega, by go_num, hw⟩
            case measure => simp [intOf]; omega
      · have e : i0 = len := by omega
        subst e
        go_wp2
        go_ret
        exact ⟨rfl, hw.out.1.below⟩
  · have c0 : (dcode W N vs != 0) = true := by simpa using hc
    generalize dcode W N vs = c at *
    by_cases hl0 : len = 0
    · subst hl0
      go_wp2_with fail
      go_ret
      exact ⟨ret_b (by first | rfl | (simp; done) | (simp; omega)), (Mor.below (by repeat (first | exact Mor.refl _ | apply Mor.alloc | apply Mor.more | apply Mor.drewN | apply Mor.drew)))⟩
    · have l0 : (0 : Int) < (len : Int) := by omega
      have l1 : ((0 : Int) == (len : Int)) = false := by simp; omega
      have l2 : ((0 : Int) != (len : Int)) = true := by simp; omega
      go_wp2_with fail
      go_ret
      exact ⟨ret_b (by first | rfl | (simp; done) | (simp; omega)), (Mor.below (by repeat (first | exact Mor.refl _ | apply Mor.alloc | apply Mor.more | apply Mor.drewN | apply Mor.drew)))⟩

end Go.Proofs.Ytmpcnipngepfgaa.seatsFair
