/- The walk of talkeep.SeatsHouse. -/
import Derived.Test.YtmpcnipngepfgaaSeatsC
namespace Go.Proofs.Ytmpcnipngepfgaa.seatsHouse
open Go.ChangeShapes Go.WideShapes Go.ChangeAt Go.RowKit
set_option linter.unusedVariables false

theorem beg {xs : List Int} (h : DealInv 0 [50, 30] xs 3) : xs = [2, 1] := deal_beg (by decide) h (by decide) rfl (by decide)
theorem beg_code : lcode 3 [50, 30] = 0 := by decide

theorem more_one {way : Int} {vs xs ys : List Int} {n : Nat} (hv : ∀ v ∈ vs, voteOk v) (h : DealInv way vs xs n) (h' : DealInv way vs ys (n + 1)) :
    (∀ i, i < vs.length → xs.getD i 0 ≤ ys.getD i 0) ∧ sumTo (fun i => ys.getD i 0 - xs.getD i 0) vs.length = 1 := by
  refine ⟨fair_le (fun i hi => (voteOk_get hv i).1) h.2.1 h'.2.1 (by have a := h.2.2; have b := h'.2.2; unfold at0 at a b; rw [a, b]; omega), ?_⟩
  have e := sumTo_add (fun i => ys.getD i 0 - xs.getD i 0) (at0 xs) vs.length
  have e2 : sumTo (fun i => (ys.getD i 0 - xs.getD i 0) + at0 xs i) vs.length = sumTo (at0 ys) vs.length := sumTo_congr _ _ _ (fun i hi => by unfold at0; omega)
  rw [e2, h.2.2, h'.2.2] at e
  omega

set_option maxRecDepth 100000 in
set_option maxHeartbeats 3200000 in
theorem seatsHouse_walk (w : World) (way : Int) (wway : (Lit.int .i64 way).wf = true) (n : Int) (wn : (Lit.int .i64 n).wf = true) (A : Option Addr) (len cap : Nat) (zs : List Int) (hz : IsRow .i64 w A len cap zs) :
    Calls Try.prog 4 #[.int .i64 way, .int .i64 n, .slice A len cap] w fun e w' => e = .returned (.bool true) ∧ Below w.heap.size w w' := by
  obtain ⟨hri, hlen, hcap, hmax, hwf, hnil⟩ := Ri.of_isRow hz
  generalize zs.take len = vs at *
  have HRI := Lib.hid hri
  have HLEN := Lib.hid hlen
  have hml : (len : Int) ≤ 9223372036854775807 := by unfold maxLen at hmax; omega
  clear hri hz hwf hmax
  have W1 := wi_lo way 3 (by omega)
  have W2 := wi_hi way 3 (by omega)
  have HW := Lib.hid (fun w => within_any way 3 w (by omega) (by omega))
  generalize wi way 3 = W at *
  have n01 := wi_lo n 1000 (by omega)
  have n02 := wi_hi n 1000 (by omega)
  have Hn0 := Lib.hid (fun w => within_any n 1000 w (by omega) (by omega))
  generalize wi n 1000 = n0 at *
  obtain ⟨N, rfl⟩ := Int.eq_ofNat_of_zero_le n01
  have HD := Lib.hid (fun w (h : Ri w A vs) => deal_any W N N A len cap vs w (fun _ => rfl) h HLEN.out)
  have HE := Lib.hid (fun (hc : dcode W N vs = 0) w (h : Ri w A vs) => show Calls Try.prog 15 #[.int .i64 W, .int .i64 ((N : Int) + 1), .slice A len cap] w (DealPost w W (N + 1) vs) from by
    obtain ⟨a, b, c⟩ := dcode_zero hc
    have d : lcode ((N : Int) + 1) vs = 0 := by
      obtain ⟨c1, c2, c3, c4, c5⟩ := lcode_zero c
      unfold lcode; rw [if_neg (by omega), if_pos c2, if_neg (by omega), if_neg c5]
    exact deal_int W _ (N + 1) A len cap vs w (by omega) a b h HLEN.out d)
  go_enter Try.func4, Try.ntmps4
  go_wp2_with fail
  refine (deal_int 0 3 3 _ 2 2 [50, 30] _ rfl (by omega) (by omega) (Ri.of_row (row_lit [50, 30] (by simp) rfl)) rfl beg_code).mono ?_
  rintro e w1 ⟨xs0, g0, bs0, k0, rfl, rfl, hinv, hr⟩
  obtain rfl := beg hinv
  have HR := Lib.hid hr
  clear hinv hr
  go_wp2_with fail
  refine (equal_yes _ _ _ _ _ _ 2 [2, 1] _ (HR.out.alloc) (row_lit [2, 1] (by simp) rfl) rfl (by omega)).mono ?_
  rintro e w1 ⟨rfl, m0, rfl⟩
  clear HR
  go_wp2_with (first | (go_at_call 18; (with_reducible refine (HW.out _).mono ?_); rintro e w1 ⟨rfl, rfl⟩) | (go_at_call 18; (with_reducible refine (Hn0.out _).mono ?_); rintro e w1 ⟨rfl, rfl⟩))
  refine (HD.out _ (HRI.out.mor (by repeat (first | exact Mor.refl _ | apply Mor.alloc | apply Mor.more | apply Mor.drewN | apply Mor.drew)))).mono ?_
  rintro e w1 (⟨hc, xs, g, bs, k, rfl, rfl, hinv, hr⟩ | ⟨hc, rfl, rfl⟩)
  · have HE' := Lib.hid (HE.out hc)
    have HX := Lib.hid hinv
    have HV := Lib.hid (lcode_zero (dcode_zero hc).2.2).2.1
    have m40 := (lcode_zero (dcode_zero hc).2.2).1
    rw [HLEN.out] at m40 ⊢
    (try simp [go_sem] at hr)
    have HRX := Lib.hid hr
    have HXL := Lib.hid hinv.1
    clear hc hinv hr HE HD
    go_wp2_with fail
    refine (HE'.out _ (HRI.out.mor (by repeat (first | exact Mor.refl _ | apply Mor.alloc | apply Mor.more | apply Mor.drewN | apply Mor.drew)))).mono ?_
    rintro e w1 ⟨ys, g2, bs2, k2, rfl, rfl, hinv2, hr2⟩
    rw [HLEN.out]
    (try simp [go_sem] at hr2)
    have HYL := Lib.hid hinv2.1
    have HXB := Lib.hid (fun i (hi : i < len) => HX.out.bd i (by rw [HLEN.out]; exact hi))
    have HYB := Lib.hid (fun i (hi : i < len) => hinv2.bd i (by rw [HLEN.out]; exact hi))
    have HRY := Lib.hid hr2
    have HM := Lib.hid (more_one HV.out HX.out hinv2)
    clear hinv2 hr2
    go_wp2_with fail
    go_loopw [12, 62] (fun s i wr => ∃ k : Nat, k ≤ len ∧ i = .int .i64 k ∧ s = .int .i64 (sumTo (fun i => ys.getD i 0 - xs.getD i 0) k) ∧ 0 ≤ sumTo (fun i => ys.getD i 0 - xs.getD i 0) k ∧ sumTo (fun i => ys.getD i 0 - xs.getD i 0) k ≤ k * 2000 ∧ Hid (Mor w wr ∧ Row wr g 0 xs ∧ Row wr g2 0 ys)) (fun _ i _ => len - (intOf i).toNat)
    case atStart => exact ⟨0, Nat.zero_le _, rfl, rfl, by simp [sumTo], by simp [sumTo], Lib.hid ⟨by repeat (first | exact Mor.refl _ | apply Mor.alloc | apply Mor.more | apply Mor.drewN | apply Mor.drew), HRX.out.app, HRY.out⟩⟩
    case round =>
      obtain ⟨k, hk, rfl, rfl, s1, s2, hw⟩ := hrel
      by_cases hlt : k < len
      · have hki : ((k : Nat) : Int) < (len : Int) := by omega
        have cx := hw.out.2.1.get k (by rw [HXL.out, HLEN.out]; exact hlt)
        have cy := hw.out.2.2.get k (by rw [HYL.out, HLEN.out]; exact hlt)
        obtain ⟨x1, x2⟩ := HXB.out k hlt
        obtain ⟨y1, y2⟩ := HYB.out k hlt
        have hle := HM.out.1 k (by rw [HLEN.out]; exact hlt)
        have HS := Lib.hid (show sumTo (fun i => ys.getD i 0 - xs.getD i 0) (k + 1) = sumTo (fun i => ys.getD i 0 - xs.getD i 0) k + (ys.getD k 0 - xs.getD k 0) from rfl)
        generalize sumTo (fun i => ys.getD i 0 - xs.getD i 0) k = s at *
        generalize xs.getD k 0 = x at *
        generalize ys.getD k 0 = y at *
        rw [Nat.zero_add] at cx cy
        have kw : IntKind.i64.wrap (y - x) = y - x := IntWalk.i64_in _ (by omega)
        have kw2 : IntKind.i64.wrap (s + (y - x)) = s + (y - x) := IntWalk.i64_in _ (by omega)
        go_wp2
        go_quiet (fail)
        go_wp2
        go_quiet (fail)
        clear kw kw2
        go_wp2
        go_roundw
        case rel => exact ⟨k + 1, by omega, by go_num, by rw [HS.out], by rw [HS.out]; omega, by rw [HS.out]; omega, Lib.hid ⟨by repeat (first | exact hw.out.1 | apply Mor.drewN), hw.out.2.1, hw.out.2.2⟩⟩
        case measure => simp [intOf]; omega
      · have e : k = len := by omega
        subst e
        have he : sumTo (fun i => ys.getD i 0 - xs.getD i 0) k = 1 := by have := HM.out.2; rw [HLEN.out] at this; exact this
        rw [he]
        clear he
        go_wp2
        go_ret
        exact ⟨rfl, hw.out.1.below⟩
  · go_wp2_with fail
    go_ret
    exact ⟨ret_b (by first | rfl | (simp; done) | (simp; omega)), (Mor.below (by repeat (first | exact Mor.refl _ | apply Mor.alloc | apply Mor.more | apply Mor.drewN | apply Mor.drew)))⟩

end Go.Proofs.Ytmpcnipngepfgaa.seatsHouse
