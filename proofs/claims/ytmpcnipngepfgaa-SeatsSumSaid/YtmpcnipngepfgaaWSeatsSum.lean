/- The walk of talkeep.SeatsSum. -/
import Derived.Test.YtmpcnipngepfgaaSeatsC
namespace Go.Proofs.Ytmpcnipngepfgaa.seatsSum
open Go.ChangeShapes Go.WideShapes Go.ChangeAt Go.RowKit
set_option linter.unusedVariables false

theorem beg {xs : List Int} (h : DealInv 1 [30, 20, 0] xs 4) : xs = [2, 2, 0] := deal_beg (by decide) h (by decide) rfl (by decide)
theorem beg_code : lcode 4 [30, 20, 0] = 0 := by decide

set_option maxRecDepth 100000 in
set_option maxHeartbeats 3200000 in
theorem seatsSum_walk (w : World) (way : Int) (wway : (Lit.int .i64 way).wf = true) (n : Int) (wn : (Lit.int .i64 n).wf = true) (A : Option Addr) (len cap : Nat) (zs : List Int) (hz : IsRow .i64 w A len cap zs) :
    Calls Try.prog 3 #[.int .i64 way, .int .i64 n, .slice A len cap] w fun e w' => e = .returned (.bool true) ∧ Below w.heap.size w w' := by
  obtain ⟨hri, hlen, hcap, hmax, hwf, hnil⟩ := Ri.of_isRow hz
  generalize zs.take len = vs at *
  have HRI := Lib.hid hri
  have HLEN := Lib.hid hlen
  have hml : (len : Int) ≤ 9223372036854775807 := by unfold maxLen at hmax; omega
  clear hri hz hwf hmax
  by_cases hc : dcode way n vs = 0
  · obtain ⟨hw1, hw2, hl⟩ := dcode_zero hc
    obtain ⟨c1, c2, c3, c4, c5⟩ := lcode_zero hl
    obtain ⟨N, rfl⟩ := Int.eq_ofNat_of_zero_le c3
    have HD := Lib.hid (fun w (h : Ri w A vs) => deal_int way N N A len cap vs w rfl hw1 hw2 h HLEN.out hl)
    have HV := Lib.hid c2
    have m40 : len ≤ 40 := by have := HLEN.out; omega
    clear hc hl c1 c2 c5
    go_enter Try.func3, Try.ntmps3
    go_wp2_with fail
    refine (deal_int 1 4 4 _ 3 3 [30, 20, 0] _ rfl (by omega) (by omega) (Ri.of_row (row_lit [30, 20, 0] (by simp) rfl)) rfl beg_code).mono ?_
    rintro e w1 ⟨xs0, g0, bs0, k0, rfl, rfl, hinv, hr⟩
    obtain rfl := beg hinv
    have HR := Lib.hid hr
    clear hinv hr
    go_wp2_with fail
    refine (equal_yes _ _ _ _ _ _ 3 [2, 2, 0] _ (HR.out.alloc) (row_lit [2, 2, 0] (by simp) rfl) rfl (by omega)).mono ?_
    rintro e w1 ⟨rfl, m0, rfl⟩
    clear HR
    go_wp2_with fail
    refine (HD.out _ (HRI.out.mor (by repeat (first | exact Mor.refl _ | apply Mor.alloc | apply Mor.more | apply Mor.drewN | apply Mor.drew)))).mono ?_
    rintro e w1 ⟨xs, g, bs, k, rfl, rfl, hinv, hr⟩
    rw [HLEN.out]
    (try simp [go_sem] at hr)
    have HX := Lib.hid hinv
    have HXL := Lib.hid (show xs.length = len by rw [hinv.1, HLEN.out])
    have HXS := Lib.hid (show xs.sum = N by rw [← sumTo_list xs len HXL.out]; have := hinv.2.2; rw [HLEN.out] at this; exact this)
    have HXB := Lib.hid (fun i (hi : i < len) => hinv.bd i (by rw [HLEN.out]; exact hi))
    have HXE := Lib.hid (show ∀ x ∈ xs, -1000000000000000 ≤ x ∧ x ≤ 1000000000000000 from by
      intro x hx
      obtain ⟨i, hi, e⟩ := List.getElem_of_mem hx
      have := hinv.bd i (by rw [← hinv.1]; exact hi)
      rw [List.getD_eq_getElem?_getD, List.getElem?_eq_getElem hi, Option.getD_some, e] at this
      omega)
    have HRX := Lib.hid hr
    clear hinv hr HD
    go_wp2_with fail
    refine (sum_row _ _ _ _ xs _ HRX.out HXL.out HXE.out (by omega)).mono ?_
    rw [HXS.out]
    rintro e w1 ⟨rfl, rfl⟩
    go_wp2_with fail
    go_loopw [11, 56] (fun s i wr => ∃ k : Nat, k ≤ len ∧ i = .int .i64 k ∧ s = .int .i64 (sumTo (fun j => min (at0 vs j) 1) k) ∧ 0 ≤ sumTo (fun j => min (at0 vs j) 1) k ∧ sumTo (fun j => min (at0 vs j) 1) k ≤ k ∧ Hid (Mor w wr ∧ Row wr g 0 xs ∧ Ri wr A vs)) (fun _ i _ => len - (intOf i).toNat)
    case atStart => exact ⟨0, Nat.zero_le _, rfl, rfl, by simp [sumTo], by simp [sumTo], Lib.hid ⟨by repeat (first | exact Mor.refl _ | apply Mor.alloc | apply Mor.more | apply Mor.drewN | apply Mor.drew), HRX.out, HRI.out.mor (by repeat (first | exact Mor.refl _ | apply Mor.alloc | apply Mor.more | apply Mor.drewN | apply Mor.drew))⟩⟩
    case round =>
      obtain ⟨k, hk, rfl, rfl, s1, s2, hw⟩ := hrel
      by_cases hlt : k < len
      · have hki : ((k : Nat) : Int) < (len : Int) := by omega
        obtain ⟨x, hA, hxb, cv⟩ := hw.out.2.2.at_ k (by rw [HLEN.out]; exact hlt)
        have HA := Lib.hid hA
        obtain ⟨v1, v2⟩ := voteOk_get HV.out k
        have HS := Lib.hid (show sumTo (fun j => min (at0 vs j) 1) (k + 1) = sumTo (fun j => min (at0 vs j) 1) k + min (vs.getD k 0) 1 from rfl)
        generalize sumTo (fun j => min (at0 vs j) 1) k = s at *
        generalize vs.getD k 0 = v at *
        subst hA
        by_cases hv : v < 1
        · have hm : min v 1 = v := by omega
          rw [hm] at HS
          clear hm
          go_wp2
          go_roundw
          case rel => exact ⟨k + 1, by omega, by go_num, by rw [HS.out], by rw [HS.out]; omega, by rw [HS.out]; omega, hw⟩
          case measure => simp [intOf]; omega
        · have hv' : 1 ≤ v := by omega
          have hm : min v 1 = 1 := by omega
          rw [hm] at HS
          clear hm hv
          go_wp2
          go_roundw
          case rel => exact ⟨k + 1, by omega, by go_num, by rw [HS.out]; exact congrArg (Value.int .i64) (by split <;> omega), by rw [HS.out]; omega, by rw [HS.out]; omega, hw⟩
          case measure => simp [intOf]; omega
      · have e : k = len := by omega
        subst e
        have HSOME := Lib.hid (show ∀ i j, i < k → j < k → at0 vs j < at0 vs i → at0 xs i < at0 xs j → way = 2 ∧ (N : Int) < sumTo (fun j => min (at0 vs j) 1) k from by
          intro i j hi hj a b
          have := fair_more (show way = 0 ∨ way = 1 ∨ way = 2 by omega) (fun i hi => (voteOk_get HV.out i).1) HX.out.2.1 (by rw [HLEN.out]; exact hi) (by rw [HLEN.out]; exact hj) a b
          rw [HX.out.2.2, HLEN.out] at this
          exact this)
        generalize sumTo (fun j => min (at0 vs j) 1) k = S at *
        go_wp2
        go_loopw [67] (fun i wr => ∃ i0 : Nat, i0 ≤ k ∧ i = .int .i64 i0 ∧ Hid (Mor w wr ∧ Row wr g 0 xs ∧ Ri wr A vs)) (fun i _ => k - (intOf i).toNat)
        case atStart => exact ⟨0, Nat.zero_le _, rfl, hw⟩
        case round =>
          clear hw
          obtain ⟨i0, hi0, rfl, hw⟩ := hrel
          by_cases hlt0 : i0 < k
          · obtain ⟨wo, rfl⟩ : ∃ wo : World, wo = wr := ⟨_, rfl⟩
            have hki0 : ((i0 : Nat) : Int) < (k : Int) := by omega
            obtain ⟨x, hA, hxb, cv⟩ := hw.out.2.2.at_ i0 (by rw [HLEN.out]; exact hlt0)
            subst hA
            have cx := hw.out.2.1.get i0 (by rw [HXL.out]; exact hlt0)
            rw [Nat.zero_add] at cx
            obtain ⟨v1, v2⟩ := voteOk_get HV.out i0
            obtain ⟨x1, x2⟩ := HXB.out i0 hlt0
            have hz := HX.out.2.1.2.1 i0 (by rw [HLEN.out]; exact hlt0)
            have HSO := Lib.hid (fun j hj => HSOME.out i0 j hlt0 hj)
            unfold at0 at hz HSO
            obtain ⟨v, hv0⟩ : ∃ v, vs.getD i0 0 = v := ⟨_, rfl⟩
            obtain ⟨y, hy0⟩ : ∃ y, xs.getD i0 0 = y := ⟨_, rfl⟩
            have HYI := Lib.hid hy0
            rw [hv0] at v1 v2 hz HSO cv
            rw [hy0] at x1 x2 hz HSO cx
            clear hv0 hy0
            have hcase : ((v == 0) = true ∧ (y != 0) = false) ∨ (1 ≤ v ∧ (v == 0) = false) := by
              by_cases hv : v = 0
              · exact .inl ⟨by simp [hv], by simp [hz hv]⟩
              · exact .inr ⟨by omega, by simp; omega⟩
            clear hz
            rcases hcase with ⟨hv1, hv2⟩ | ⟨hv1, hv2⟩
            all_goals
              go_wp2
              go_loopw [90] (fun i wr => ∃ k1 : Nat, k1 ≤ k ∧ i = .int .i64 k1 ∧ Hid (Mor w wr ∧ Row wr g 0 xs ∧ Ri wr (some x) vs)) (fun i _ => k - (intOf i).toNat)
              case atStart => exact ⟨0, Nat.zero_le _, rfl, hw⟩
              case round =>
                have hw0 := hw
                clear hw
                obtain ⟨k1, hk1, rfl, hw⟩ := hrel
                by_cases hlt1 : k1 < k
                · obtain ⟨w2, rfl⟩ : ∃ w2 : World, w2 = wr := ⟨_, rfl⟩
                  have hki1 : ((k1 : Nat) : Int) < (k : Int) := by omega
                  obtain ⟨x', hA', hxb', cv'⟩ := hw.out.2.2.at_ k1 (by rw [HLEN.out]; exact hlt1)
                  injection hA' with hA'
                  subst hA'
                  have cx' := hw.out.2.1.get k1 (by rw [HXL.out]; exact hlt1)
                  have cx0 := hw.out.2.1.get i0 (by rw [HXL.out]; exact hlt0)
                  rw [Nat.zero_add] at cx' cx0
                  have HSO' := Lib.hid (HSO.out k1 hlt1)
                  rw [HYI.out] at cx0
                  obtain ⟨u1, u2⟩ := voteOk_get HV.out k1
                  obtain ⟨z1, z2⟩ := HXB.out k1 hlt1
                  generalize vs.getD k1 0 = u at *
                  generalize xs.getD k1 0 = z at *
                  by_cases hb : u < v
                  · by_cases hb2 : y < z
                    · obtain ⟨e1, e2⟩ := HSO'.out hb hb2
                      subst e1
                      go_wp2
                      go_quiet (fail)
                      go_wp2
                      go_roundw
                      case rel => exact ⟨k1 + 1, by omega, by go_num, Lib.hid ⟨hw.out.1.drewN, hw.out.2.1, hw.out.2.2.drewN⟩⟩
                      case measure => simp [intOf]; omega
                    · have hb3 : decide (y < z) = false := by simpa using hb2
                      go_wp2
                      go_quiet (fail)
                      go_wp2
                      go_roundw
                      case rel => exact ⟨k1 + 1, by omega, by go_num, Lib.hid ⟨hw.out.1.drewN, hw.out.2.1, hw.out.2.2.drewN⟩⟩
                      case measure => simp [intOf]; omega
                  · have hb3 : decide (u < v) = false := by simpa using hb
                    go_wp2
                    go_quiet (fail)
                    go_wp2
                    go_roundw
                    case rel => exact ⟨k1 + 1, by omega, by go_num, Lib.hid ⟨hw.out.1.drewN, hw.out.2.1, hw.out.2.2.drewN⟩⟩
                    case measure => simp [intOf]; omega
                · have e : k1 = k := by omega
                  subst e
                  go_wp2
                  go_roundw
                  case rel => exact ⟨i0 + 1, by omega, by go_num, hw⟩
                  case measure => simp [intOf]; omega
          · have e : i0 = k := by omega
            subst e
            go_wp2
            go_ret
            exact ⟨rfl, hw.out.1.below⟩
  · have HD := Lib.hid (fun w (h : Ri w A vs) => deal_no way n A len cap vs w h HLEN.out hc)
    generalize dcode way n vs = c at *
    go_enter Try.func3, Try.ntmps3
    go_wp2_with fail
    refine (deal_int 1 4 4 _ 3 3 [30, 20, 0] _ rfl (by omega) (by omega) (Ri.of_row (row_lit [30, 20, 0] (by simp) rfl)) rfl beg_code).mono ?_
    rintro e w1 ⟨xs0, g0, bs0, k0, rfl, rfl, hinv, hr⟩
    obtain rfl := beg hinv
    have HR := Lib.hid hr
    clear hinv hr
    go_wp2_with fail
    refine (equal_yes _ _ _ _ _ _ 3 [2, 2, 0] _ (HR.out.alloc) (row_lit [2, 2, 0] (by simp) rfl) rfl (by omega)).mono ?_
    rintro e w1 ⟨rfl, m0, rfl⟩
    clear HR
    go_wp2_with fail
    refine (HD.out _ (HRI.out.mor (by repeat (first | exact Mor.refl _ | apply Mor.alloc | apply Mor.more | apply Mor.drewN | apply Mor.drew)))).mono ?_
    rintro e w1 ⟨rfl, rfl⟩
    go_wp2_with fail
    go_ret
    exact ⟨ret_b (by first | rfl | (simp; done) | (simp; omega)), (Mor.below (by repeat (first | exact Mor.refl _ | apply Mor.alloc | apply Mor.more | apply Mor.drewN | apply Mor.drew)))⟩

end Go.Proofs.Ytmpcnipngepfgaa.seatsSum
