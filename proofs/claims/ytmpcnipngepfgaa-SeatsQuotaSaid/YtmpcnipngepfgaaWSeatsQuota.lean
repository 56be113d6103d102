/- The walk of talkeep.SeatsQuota. -/
import Derived.Test.YtmpcnipngepfgaaSeatsD
namespace Go.Proofs.Ytmpcnipngepfgaa.seatsQuota
open Go.ChangeShapes Go.WideShapes Go.ChangeAt Go.RowKit
set_option linter.unusedVariables false

theorem beg_code : lcode 10 [1, 2] = 0 := by decide
theorem beg_quo : quo 10 (List.sum [1, 2]) [1, 2] = [3, 6] := by decide

theorem low {vs xs : List Int} {n : Nat} (hv : ∀ v ∈ vs, voteOk v) (h : DealInv 0 vs xs n) (hs : 1 ≤ vs.sum) (i : Nat) (hi : i < vs.length) : (n : Int) * vs.getD i 0 / vs.sum ≤ xs.getD i 0 := by
  have v0 := (voteOk_get hv i).1
  have x0 := h.2.1.1 i hi
  by_cases hp : 0 < vs.getD i 0
  · have := fair_lower (fun i hi => (voteOk_get hv i).1) h.2.1 hi hp
    have e : sumTo (fun i => vs.getD i 0) vs.length = vs.sum := sumTo_list vs _ rfl
    rw [h.2.2, e] at this
    have a : (n : Int) * vs.getD i 0 < (xs.getD i 0 + 1) * vs.sum := by
      rw [Int.mul_comm (n : Int), Int.mul_comm _ vs.sum]; exact this
    have := Int.ediv_lt_of_lt_mul (show 0 < vs.sum by omega) a
    omega
  · have e : vs.getD i 0 = 0 := by omega
    rw [e, Int.mul_zero, Int.zero_ediv]; exact x0
theorem high {vs ys : List Int} {n : Nat} (hv : ∀ v ∈ vs, voteOk v) (h : DealInv 2 vs ys n) (hs : 1 ≤ vs.sum) (i : Nat) (hi : i < vs.length) : (ys.getD i 0 - 1) * vs.sum < (n : Int) * vs.getD i 0 := by
  have v0 := (voteOk_get hv i).1
  have y0 := h.2.1.1 i hi
  by_cases hp : 0 < ys.getD i 0
  · have := fair_upper (fun i hi => (voteOk_get hv i).1) h.2.1 hi hp
    have e : sumTo (fun i => vs.getD i 0) vs.length = vs.sum := sumTo_list vs _ rfl
    rw [h.2.2, e] at this
    exact this
  · have e : ys.getD i 0 = 0 := by have : at0 ys i = ys.getD i 0 := rfl; omega
    rw [e]
    have := Int.mul_nonneg (show (0 : Int) ≤ n by omega) v0
    omega

set_option maxRecDepth 100000 in
set_option maxHeartbeats 3200000 in
theorem seatsQuota_walk (w : World) (n : Int) (wn : (Lit.int .i64 n).wf = true) (A : Option Addr) (len cap : Nat) (zs : List Int) (hz : IsRow .i64 w A len cap zs) :
    Calls Try.prog 9 #[.int .i64 n, .slice A len cap] w fun e w' => e = .returned (.bool true) ∧ Below w.heap.size w w' := by
  obtain ⟨hri, hlen, hcap, hmax, hwf, hnil⟩ := Ri.of_isRow hz
  generalize zs.take len = vs at *
  have HRI := Lib.hid hri
  have HLEN := Lib.hid hlen
  have hml : (len : Int) ≤ 9223372036854775807 := by unfold maxLen at hmax; omega
  clear hri hz hwf hmax
  have n01 := wi_lo n 400 (by omega)
  have n02 := wi_hi n 400 (by omega)
  have Hn0 := Lib.hid (fun w => within_any n 400 w (by omega) (by omega))
  generalize wi n 400 = n0 at *
  obtain ⟨N, rfl⟩ := Int.eq_ofNat_of_zero_le n01
  by_cases hl : lcode N vs = 0
  · obtain ⟨c1, c2, c3, c4, c5⟩ := lcode_zero hl
    have HD := Lib.hid (fun w (h : Ri w A vs) => deal_int 0 N N A len cap vs w rfl (by omega) (by omega) h HLEN.out hl)
    have HE := Lib.hid (fun w (h : Ri w A vs) => deal_int 2 N N A len cap vs w rfl (by omega) (by omega) h HLEN.out hl)
    have HQ := Lib.hid (fun w (h : Ri w A vs) => quotas_ok N A len cap vs w h HLEN.out hl)
    have HV := Lib.hid c2
    have m40 : len ≤ 40 := by have := HLEN.out; omega
    have hsb : ∀ l : List Int, (∀ v ∈ l, voteOk v) → 0 ≤ l.sum ∧ l.sum ≤ l.length * 1000000 := by
      intro l
      induction l with
      | nil => intro _; simp
      | cons x l ih =>
        intro h
        have a := h x (by simp)
        have b := ih (fun v hv => h v (by simp [hv]))
        unfold voteOk at a
        simp only [List.sum_cons, List.length_cons]
        rw [show ((l.length + 1 : Nat) : Int) * 1000000 = l.length * 1000000 + 1000000 by omega]
        omega
    have s1 := (hsb vs c2).1
    have s2 := (hsb vs c2).2
    have s3 : 1 ≤ vs.sum := by omega
    have HVE := Lib.hid (show ∀ x ∈ vs, -1000000000000000 ≤ x ∧ x ≤ 1000000000000000 from fun x hx => by have := c2 x hx; unfold voteOk at this; omega)
    obtain ⟨S, hS⟩ : ∃ S, vs.sum = S := ⟨_, rfl⟩
    have HS := Lib.hid hS
    rw [hS] at s1 s2 s3
    have HLO := Lib.hid (fun xs (h : DealInv 0 vs xs N) i (hi : i < len) => low c2 h (by omega) i (by rw [HLEN.out]; exact hi))
    have HHI := Lib.hid (fun xs (h : DealInv 2 vs xs N) i (hi : i < len) => high c2 h (by omega) i (by rw [HLEN.out]; exact hi))
    rw [hS] at HLO HHI
    clear hl c1 c2 c3 c4 c5 hsb hS
    rw [HLEN.out] at s2
    go_enter Try.func9, Try.ntmps9
    go_wp2_with fail
    refine (quotas_ok 10 _ 2 2 [1, 2] _ (Ri.of_row (row_lit [1, 2] (by simp) rfl)) rfl beg_code).mono ?_
    rintro e w1 ⟨g0, bs0, k0, rfl, rfl, hr⟩
    rw [beg_quo] at hr
    have HR := Lib.hid hr
    clear hr
    go_wp2_with fail
    refine (equal_yes _ _ _ _ _ _ 2 [3, 6] _ (HR.out.alloc) (row_lit [3, 6] (by simp) rfl) rfl (by omega)).mono ?_
    rintro e w1 ⟨rfl, m0, rfl⟩
    clear HR
    go_wp2_with (first | (go_at_call 18; (with_reducible refine (Hn0.out _).mono ?_); rintro e w1 ⟨rfl, rfl⟩))
    refine (HD.out _ (HRI.out.mor (by repeat (first | exact Mor.refl _ | apply Mor.alloc | apply Mor.more | apply Mor.drewN | apply Mor.drew)))).mono ?_
    rintro e w1 ⟨xs, g, bs, k, rfl, rfl, hinv, hr⟩
    rw [HLEN.out]
    (try simp [go_sem] at hr)
    have HXL := Lib.hid (show xs.length = len by rw [hinv.1, HLEN.out])
    have HXB := Lib.hid (fun i (hi : i < len) => hinv.bd i (by rw [HLEN.out]; exact hi))
    have HLO' := Lib.hid (HLO.out xs hinv)
    have HRX := Lib.hid hr
    clear hinv hr HD HLO
    go_wp2_with fail
    refine (HE.out _ (HRI.out.mor (by repeat (first | exact Mor.refl _ | apply Mor.alloc | apply Mor.more | apply Mor.drewN | apply Mor.drew)))).mono ?_
    rintro e w1 ⟨ys, g2, bs2, k2, rfl, rfl, hinv, hr⟩
    rw [HLEN.out]
    (try simp [go_sem] at hr)
    have HYL := Lib.hid (show ys.length = len by rw [hinv.1, HLEN.out])
    have HYB := Lib.hid (fun i (hi : i < len) => hinv.bd i (by rw [HLEN.out]; exact hi))
    have HHI' := Lib.hid (HHI.out ys hinv)
    have HRY := Lib.hid hr
    clear hinv hr HE HHI
    go_wp2_with fail
    refine (HQ.out _ (HRI.out.mor (by repeat (first | exact Mor.refl _ | apply Mor.alloc | apply Mor.more | apply Mor.drewN | apply Mor.drew)))).mono ?_
    rintro e w1 ⟨g3, bs3, k3, rfl, rfl, hr⟩
    rw [HLEN.out]
    rw [HS.out] at hr
    (try simp [go_sem] at hr)
    have HRQ := Lib.hid hr
    clear hr HQ
    go_wp2_with fail
    refine (sum_ri _ _ _ vs _ (HRI.out.mor (by repeat (first | exact Mor.refl _ | apply Mor.alloc | apply Mor.more | apply Mor.drewN | apply Mor.drew))) HLEN.out HVE.out (by omega)).mono ?_
    rw [HS.out]
    rintro e w1 ⟨rfl, rfl⟩
    go_wp2_with fail
    go_loopw [71] (fun i wr => ∃ k : Nat, k ≤ len ∧ i = .int .i64 k ∧ Hid (Mor w wr ∧ Row wr g 0 xs ∧ Row wr g2 0 ys ∧ Row wr g3 0 (quo N S vs) ∧ Ri wr A vs)) (fun i _ => len - (intOf i).toNat)
    case atStart => exact ⟨0, Nat.zero_le _, rfl, Lib.hid ⟨by repeat (first | exact Mor.refl _ | apply Mor.alloc | apply Mor.more | apply Mor.drewN | apply Mor.drew), by first | exact HRX.out.app | (rw [← List.append_assoc]; exact HRX.out.app.app), by first | exact HRY.out.app | (rw [← List.append_assoc]; exact HRY.out.app), HRQ.out, HRI.out.mor (by repeat (first | exact Mor.refl _ | apply Mor.alloc | apply Mor.more | apply Mor.drewN | apply Mor.drew))⟩⟩
    case round =>
      obtain ⟨k, hk, rfl, hw⟩ := hrel
      by_cases hlt : k < len
      · have hki : ((k : Nat) : Int) < (len : Int) := by omega
        have cx := hw.out.2.1.get k (by rw [HXL.out]; exact hlt)
        have cy := hw.out.2.2.1.get k (by rw [HYL.out]; exact hlt)
        have cq := hw.out.2.2.2.1.get k (by rw [quo_len, HLEN.out]; exact hlt)
        obtain ⟨a, hA, hab, cv⟩ := hw.out.2.2.2.2.at_ k (by rw [HLEN.out]; exact hlt)
        subst hA
        rw [Nat.zero_add] at cx cy cq
        rw [quo_get _ _ _ _ (by rw [HLEN.out]; exact hlt)] at cq
        obtain ⟨x1, x2⟩ := HXB.out k hlt
        obtain ⟨y1, y2⟩ := HYB.out k hlt
        have hlo := HLO'.out k hlt
        have hhi := HHI'.out k hlt
        obtain ⟨v1, v2⟩ := voteOk_get HV.out k
        generalize (N : Int) * vs.getD k 0 / S = q at *
        generalize xs.getD k 0 = x at *
        generalize ys.getD k 0 = y at *
        generalize vs.getD k 0 = v at *
        obtain ⟨p1, p2⟩ := prod_bd (y - 1) S 400 40000000 (by omega) (by omega) (by omega) (by omega) (by omega)
        obtain ⟨p3, p4⟩ := prod_bd (N : Int) v 400 1000000 (by omega) (by omega) v1 v2 (by omega)
        have k1 : IntKind.i64.wrap (y - 1) = y - 1 := IntWalk.i64_in _ (by omega)
        have k2 : IntKind.i64.wrap ((y - 1) * S) = (y - 1) * S := IntWalk.i64_in _ (by omega)
        have k3 : IntKind.i64.wrap ((N : Int) * v) = (N : Int) * v := IntWalk.i64_in _ (by omega)
        have f1 : decide (x < q) = false := by simp; omega
        have f2 : decide ((N : Int) * v ≤ (y - 1) * S) = false := by simp; omega
        go_wp2
        go_quiet (fail)
        clear k1 k2 k3
        go_wp2
        go_roundw
        case rel => exact ⟨k + 1, by omega, by go_num, Lib.hid ⟨hw.out.1.drewN, hw.out.2.1, hw.out.2.2.1, hw.out.2.2.2.1, hw.out.2.2.2.2.drewN⟩⟩
        case measure => simp [intOf]; omega
      · have e : k = len := by omega
        subst e
        go_wp2
        go_ret
        exact ⟨rfl, hw.out.1.below⟩
  · have hd0 : dcode 0 N vs = lcode N vs := by unfold dcode; rw [if_neg (by omega)]
    have hd2 : dcode 2 N vs = lcode N vs := by unfold dcode; rw [if_neg (by omega)]
    have HD := Lib.hid (fun w (h : Ri w A vs) => deal_no 0 N A len cap vs w h HLEN.out (by rw [hd0]; exact hl))
    have HE := Lib.hid (fun w (h : Ri w A vs) => deal_no 2 N A len cap vs w h HLEN.out (by rw [hd2]; exact hl))
    have HQ := Lib.hid (fun w (h : Ri w A vs) => quotas_no N A len cap vs w h HLEN.out hl)
    rw [hd0] at HD
    rw [hd2] at HE
    clear hd0 hd2
    generalize lcode N vs = c at *
    have c0 : (c == 0) = false := by simp; omega
    go_enter Try.func9, Try.ntmps9
    go_wp2_with fail
    refine (quotas_ok 10 _ 2 2 [1, 2] _ (Ri.of_row (row_lit [1, 2] (by simp) rfl)) rfl beg_code).mono ?_
    rintro e w1 ⟨g0, bs0, k0, rfl, rfl, hr⟩
    rw [beg_quo] at hr
    have HR := Lib.hid hr
    clear hr
    go_wp2_with fail
    refine (equal_yes _ _ _ _ _ _ 2 [3, 6] _ (HR.out.alloc) (row_lit [3, 6] (by simp) rfl) rfl (by omega)).mono ?_
    rintro e w1 ⟨rfl, m0, rfl⟩
    clear HR
    go_wp2_with (first | (go_at_call 18; (with_reducible refine (Hn0.out _).mono ?_); rintro e w1 ⟨rfl, rfl⟩))
    refine (HD.out _ (HRI.out.mor (by repeat (first | exact Mor.refl _ | apply Mor.alloc | apply Mor.more | apply Mor.drewN | apply Mor.drew)))).mono ?_
    rintro e w1 ⟨rfl, rfl⟩
    go_wp2_with fail
    refine (HE.out _ (HRI.out.mor (by repeat (first | exact Mor.refl _ | apply Mor.alloc | apply Mor.more | apply Mor.drewN | apply Mor.drew)))).mono ?_
    rintro e w1 ⟨rfl, rfl⟩
    go_wp2_with fail
    refine (HQ.out _ (HRI.out.mor (by repeat (first | exact Mor.refl _ | apply Mor.alloc | apply Mor.more | apply Mor.drewN | apply Mor.drew)))).mono ?_
    rintro e w1 ⟨rfl, rfl⟩
    go_wp2_with fail
    go_ret
    exact ⟨ret_b (by first | rfl | (simp; done) | (simp; omega)), (Mor.below (by repeat (first | exact Mor.refl _ | apply Mor.alloc | apply Mor.more | apply Mor.drewN | apply Mor.drew)))⟩

end Go.Proofs.Ytmpcnipngepfgaa.seatsQuota
