/- The walk of talkeep.SeatsScale. -/
import Derived.Test.YtmpcnipngepfgaaSeatsC
import Derived.Test.YtmpcnipngepfgaaSeatsD
import Derived.Test.YtmpcnipngepfgaaClone
import Derived.Test.YtmpcnipngepfgaaWeights
import Derived.Test.YtmpcnipngepfgaaGuardApp
namespace Go.Proofs.Ytmpcnipngepfgaa.seatsScale
open Go.ChangeShapes Go.WideShapes Go.ChangeAt Go.RowKit
set_option linter.unusedVariables false

theorem beg {xs : List Int} (h : DealInv 0 [0, 1] xs 1) : xs = [0, 1] := deal_beg (by decide) h (by decide) rfl (by decide)
theorem beg_code : lcode 1 [0, 1] = 0 := by decide

theorem sum_scale (vs : List Int) (c : Int) : (vs.map (fun v => v * c)).sum = vs.sum * c := by
  induction vs with
  | nil => simp
  | cons x xs ih => simp only [List.map_cons, List.sum_cons]; rw [ih, Int.add_mul]
theorem at0_scale (vs : List Int) (c : Int) (i : Nat) : at0 (vs.map (fun v => v * c)) i = at0 vs i * c := by
  unfold at0
  rw [List.getD_eq_getElem?_getD, List.getD_eq_getElem?_getD, List.getElem?_map]
  cases vs[i]? <;> simp
theorem quo_scale (n S c : Int) (vs : List Int) (hc : 1 ≤ c) : quo n (S * c) (vs.map (fun v => v * c)) = quo n S vs := by
  unfold quo
  rw [List.map_map]
  refine List.map_congr_left (fun v _ => ?_)
  show n * (v * c) / (S * c) = n * v / S
  rw [← Int.mul_assoc, Int.mul_ediv_mul_of_pos_left _ _ (by omega)]
theorem deal_scale {way : Int} {vs xs ys : List Int} {n : Nat} {c : Int} (hc : 1 ≤ c) (hv : ∀ v ∈ vs, voteOk v) (hv' : ∀ v ∈ vs.map (fun v => v * c), voteOk v) (h : DealInv way vs xs n) (h' : DealInv way (vs.map (fun v => v * c)) ys n) : ys = xs := by
  refine deal_known hv' h' ⟨by rw [h.1]; simp, ?_, ?_⟩
  · rw [List.length_map]
    exact h.2.1.scale c (by omega) (fun i hi => at0_scale vs c i)
  · rw [List.length_map]; exact h.2.2
theorem at0_snoc (xs : List Int) (i : Nat) : at0 (xs ++ [0]) i = at0 xs i := by
  unfold at0
  rw [List.getD_eq_getElem?_getD, List.getD_eq_getElem?_getD, List.getElem?_append]
  by_cases h : i < xs.length
  · rw [if_pos h]
  · have e2 : xs[i]? = none := List.getElem?_eq_none (by omega)
    rw [if_neg h, e2]
    cases e : i - xs.length <;> simp
theorem deal_snoc {way : Int} {vs xs ys : List Int} {n : Nat} (hv' : ∀ v ∈ vs ++ [0], voteOk v) (h : DealInv way vs xs n) (h' : DealInv way (vs ++ [0]) ys n) : ys = xs ++ [0] := by
  have hl : (vs ++ [0]).length = vs.length + 1 := by simp
  have z1 : at0 (vs ++ [0]) vs.length = 0 := by unfold at0; simp [List.getD_eq_getElem?_getD]
  have z2 : at0 (xs ++ [0]) vs.length = 0 := by unfold at0; rw [← h.1]; simp [List.getD_eq_getElem?_getD]
  refine deal_known hv' h' ⟨by rw [hl]; simp [h.1], ?_, ?_⟩
  · rw [hl]
    exact h.2.1.snoc (fun i hi => at0_snoc vs i) z1 (fun i hi => at0_snoc xs i) z2
  · rw [hl]
    show sumTo (at0 (xs ++ [0])) vs.length + at0 (xs ++ [0]) vs.length = n
    rw [z2, sumTo_congr _ (at0 xs) _ (fun i hi => at0_snoc xs i), h.2.2]; omega

set_option maxRecDepth 100000 in
set_option maxHeartbeats 6400000 in
theorem seatsScale_walk (w : World) (way : Int) (wway : (Lit.int .i64 way).wf = true) (n : Int) (wn : (Lit.int .i64 n).wf = true) (A : Option Addr) (len cap : Nat) (zs : List Int) (hz : IsRow .i64 w A len cap zs) (k : Int) (wk : (Lit.int .i64 k).wf = true) :
    Calls Try.prog 10 #[.int .i64 way, .int .i64 n, .slice A len cap, .int .i64 k] w fun e w' => e = .returned (.bool true) ∧ Below w.heap.size w w' := by
  obtain ⟨i0, hi, hz0, hz1, hz2⟩ := info_parts info_int'
  have hmx := (Ri.of_isRow hz).2.2.2.1
  obtain ⟨hri, hlen, hcap, hmax, hwf, hnil⟩ := Ri.of_isRow hz
  generalize zs.take len = vs at *
  have HRI := Lib.hid hri
  have HLEN := Lib.hid hlen
  have hml : (len : Int) ≤ 9223372036854775807 := by unfold maxLen at hmax; omega
  clear hri hz hwf hmax
  have W1 := wi_lo way 3 (by omega)
  have W2 := wi_hi way 3 (by omega)
  have HW := Lib.hid (fun w => within_any way 3 w (by omega) (by omega))
  generalize wi way 3 = W at *
  have n01 := wi_lo n 200 (by omega)
  have n02 := wi_hi n 200 (by omega)
  have Hn0 := Lib.hid (fun w => within_any n 200 w (by omega) (by omega))
  generalize wi n 200 = n0 at *
  have C1 := wi_lo k 1000 (by omega)
  have C2 := wi_hi k 1000 (by omega)
  have HC := Lib.hid (fun w => within_any k 1000 w (by omega) (by omega))
  generalize wi k 1000 = C at *
  obtain ⟨N, rfl⟩ := Int.eq_ofNat_of_zero_le n01
  have HWt := Lib.hid (fun w (h : Ri w A vs) => weights_any A len cap vs w h HLEN.out hcap (Nat.le_trans hcap hmx))
  obtain ⟨m, hm⟩ : ∃ m, (wl vs).length = m := ⟨_, rfl⟩
  have hm40 : m ≤ 40 := by rw [← hm, wl_len]; omega
  obtain ⟨ws, hws⟩ : ∃ ws, ws = (wl vs).take 39 := ⟨_, rfl⟩
  obtain ⟨m', hm'⟩ : ∃ m', ws.length = m' := ⟨_, rfl⟩
  have hmm : m' ≤ m ∧ m' ≤ 39 ∧ (m' = m ∨ m' = 39) := by rw [hws, List.length_take] at hm'; omega
  obtain ⟨hmm1, hmm2, hmm3⟩ := hmm
  have hif : (if 39 < m then (39 : Int) else (m : Int)) = (m' : Int) := by
    rw [hws, List.length_take] at hm'; split <;> omega
  have hif2 : (if (39 : Int) < (m : Int) then (39 : Int) else (m : Int)) = (m' : Int) := by split <;> omega
  have hbd : ∀ v ∈ ws, 0 ≤ v ∧ v < 1000 := fun v hv => wl_bd vs v (List.mem_of_mem_take (by rw [← hws]; exact hv))
  have hok : ∀ v ∈ ws, voteOk v := fun v hv => ⟨(hbd v hv).1, by have := (hbd v hv).2; omega⟩
  have hok2 : ∀ v ∈ ws.map (fun v => v * (1 + C)), voteOk v := by
    intro v hv
    simp only [List.mem_map] at hv
    obtain ⟨u, hu, rfl⟩ := hv
    have b := hbd u hu
    have p := prod_bd u (1 + C) 999 1000 (by omega) (by omega) (by omega) (by omega) (by omega)
    exact ⟨Int.mul_nonneg b.1 (by omega), by omega⟩
  have hok3 : ∀ v ∈ ws ++ [0], voteOk v := by
    intro v hv
    simp only [List.mem_append, List.mem_singleton] at hv
    rcases hv with h | rfl
    · exact hok v h
    · exact ⟨by omega, by omega⟩
  have HM' := Lib.hid hm'
  have HBD := Lib.hid hbd
  have HWS := Lib.hid hws
  have HM := Lib.hid hm
  have hsE : ∀ x ∈ ws, -1000000000000000 ≤ x ∧ x ≤ 1000000000000000 := fun x hx => by have := hbd x hx; omega
  have HSE := Lib.hid hsE
  by_cases hs : ws.sum = 0
  · have hc : dcode W N ws = 6 := by
      unfold dcode lcode
      rw [if_neg (by omega), if_neg (by omega), if_pos hok, if_neg (by omega), if_pos hs]
    have HD := Lib.hid (fun A2 c2 w (h : Ri w A2 ws) => deal_no W N A2 m' c2 ws w h HM'.out (by rw [hc]; omega))
    rw [hc] at HD
    have HS := Lib.hid hs
    clear hc hs hok hok2 hok3 hbd hsE hws hm hm'
    go_enter Try.func10, Try.ntmps10
    go_wp2_with fail
    refine (deal_int 0 1 1 _ 2 2 [0, 1] _ rfl (by omega) (by omega) (Ri.of_row (row_lit [0, 1] (by simp) rfl)) rfl beg_code).mono ?_
    rintro e w1 ⟨xs0, g0, bs0, k0, rfl, rfl, hinv, hr⟩
    obtain rfl := beg hinv
    have HR := Lib.hid hr
    clear hinv hr
    go_wp2_with fail
    refine (equal_yes _ _ _ _ _ _ 2 [0, 1] _ (HR.out.alloc) (row_lit [0, 1] (by simp) rfl) rfl (by omega)).mono ?_
    rintro e w1 ⟨rfl, m0, rfl⟩
    clear HR
    go_wp2_with (first | (go_at_call 18; (with_reducible refine (HW.out _).mono ?_); rintro e w1 ⟨rfl, rfl⟩) | (go_at_call 18; (with_reducible refine (Hn0.out _).mono ?_); rintro e w1 ⟨rfl, rfl⟩) | (go_at_call 18; (with_reducible refine (HC.out _).mono ?_); rintro e w1 ⟨rfl, rfl⟩))
    refine (HWt.out _ (HRI.out.mor (by repeat (first | exact Mor.refl _ | apply Mor.alloc | apply Mor.more | apply Mor.drewN | apply Mor.drew)))).mono ?_
    rintro e w2 ⟨v, rfl, hown, hmor⟩
    rw [HM.out] at hown
    have HM2 := Lib.hid (show Mor w w2 from Mor.trans (by repeat (first | exact Mor.refl _ | apply Mor.alloc | apply Mor.more | apply Mor.drewN | apply Mor.drew)) hmor)
    obtain ⟨A2, c2, rfl, hc2, _, _⟩ := own_shape hown
    have HRW := Lib.hid (show Ri w2 A2 ws by rw [HWS.out]; exact (own_ri hown).take)
    clear hown hmor
    have z1 : (0 : Int) ≤ (m' : Int) := by omega
    have z2 : (m' : Int) ≤ (c2 : Int) := by omega
    have z3 : m' ≤ c2 := by omega
    go_wp2_with fail
    refine (HD.out _ _ _ HRW.out).mono ?_
    rintro e w3 ⟨rfl, rfl⟩
    have HSU := Lib.hid (sum_ri A2 m' c2 ws w2 HRW.out HM'.out HSE.out (by omega))
    rw [HS.out] at HSU
    go_wp2_with ((go_at_call 17; (with_reducible refine HSU.out.mono ?_); rintro e w3 ⟨rfl, rfl⟩))
    go_ret
    exact ⟨rfl, HM2.out.below⟩
  · have hm1 : 1 ≤ m' := by
      rcases Nat.eq_zero_or_pos m' with e | e
      · have : ws = [] := List.eq_nil_of_length_eq_zero (by rw [hm', e])
        subst this; simp at hs
      · exact e
    have hc1 : lcode N ws = 0 := by
      unfold lcode; rw [if_neg (by omega), if_pos hok, if_neg (by omega), if_neg hs]
    have hc2 : lcode N (ws.map (fun v => v * (1 + C))) = 0 := by
      unfold lcode; rw [if_neg (by simp; omega), if_pos hok2, if_neg (by omega), if_neg]
      rw [sum_scale]
      intro h
      rcases Int.mul_eq_zero.1 h with e | e
      · exact hs e
      · omega
    have hc3 : lcode N (ws ++ [0]) = 0 := by
      unfold lcode; rw [if_neg (by simp; omega), if_pos hok3, if_neg (by omega), if_neg (by simpa using hs)]
    have HD := Lib.hid (fun A2 c2 w (h : Ri w A2 ws) => deal_int W N N A2 m' c2 ws w rfl (by omega) (by omega) h HM'.out hc1)
    have HE := Lib.hid (fun A2 c2 w (h : Ri w A2 (ws.map (fun v => v * (1 + C)))) => deal_int W N N A2 m' c2 _ w rfl (by omega) (by omega) h (by rw [List.length_map]; exact HM'.out) hc2)
    have HF := Lib.hid (fun A2 c2 w (h : Ri w A2 (ws ++ [0])) => deal_int W N N A2 (m' + 1) c2 _ w rfl (by omega) (by omega) h (by simp [HM'.out]) hc3)
    have HP := Lib.hid (fun A2 c2 w (h : Ri w A2 ws) => quotas_ok N A2 m' c2 ws w h HM'.out hc1)
    have HQ := Lib.hid (fun A2 c2 w (h : Ri w A2 (ws.map (fun v => v * (1 + C)))) => quotas_ok N A2 m' c2 _ w h (by rw [List.length_map]; exact HM'.out) hc2)
    have HEQ1 := Lib.hid (fun xs ys (h : DealInv W ws xs N) (h' : DealInv W (ws.map (fun v => v * (1 + C))) ys N) => deal_scale (by omega) hok hok2 h h')
    have HEQ2 := Lib.hid (fun xs ys (h : DealInv W ws xs N) (h' : DealInv W (ws ++ [0]) ys N) => deal_snoc hok3 h h')
    have HEQ3 := Lib.hid (show quo N (ws.map (fun v => v * (1 + C))).sum (ws.map (fun v => v * (1 + C))) = quo N ws.sum ws by rw [sum_scale]; exact quo_scale _ _ _ _ (by omega))
    have HL2 := Lib.hid (show (ws.map (fun v => v * (1 + C))).length = m' by rw [List.length_map]; exact hm')
    have HTK := Lib.hid (fun j (hj : j < m') => show (ws.map (fun v => v * (1 + C))).take (j + 1) = (ws.map (fun v => v * (1 + C))).take j ++ [ws.getD j 0 * (1 + C)] from by
      rw [List.take_succ_eq_append_getElem (by rw [List.length_map]; omega)]
      congr 2
      simp [List.getD_eq_getElem?_getD, show j < ws.length by omega])
    clear hc1 hc2 hc3 hs hok hok2 hok3 hbd hsE hws hm hm'
    generalize hmu : ws.map (fun v => v * (1 + C)) = us at *
    clear hmu
    go_enter Try.func10, Try.ntmps10
    go_wp2_with fail
    refine (deal_int 0 1 1 _ 2 2 [0, 1] _ rfl (by omega) (by omega) (Ri.of_row (row_lit [0, 1] (by simp) rfl)) rfl beg_code).mono ?_
    rintro e w1 ⟨xs0, g0, bs0, k0, rfl, rfl, hinv, hr⟩
    obtain rfl := beg hinv
    have HR := Lib.hid hr
    clear hinv hr
    go_wp2_with fail
    refine (equal_yes _ _ _ _ _ _ 2 [0, 1] _ (HR.out.alloc) (row_lit [0, 1] (by simp) rfl) rfl (by omega)).mono ?_
    rintro e w1 ⟨rfl, m0, rfl⟩
    clear HR
    go_wp2_with (first | (go_at_call 18; (with_reducible refine (HW.out _).mono ?_); rintro e w1 ⟨rfl, rfl⟩) | (go_at_call 18; (with_reducible refine (Hn0.out _).mono ?_); rintro e w1 ⟨rfl, rfl⟩) | (go_at_call 18; (with_reducible refine (HC.out _).mono ?_); rintro e w1 ⟨rfl, rfl⟩))
    refine (HWt.out _ (HRI.out.mor (by repeat (first | exact Mor.refl _ | apply Mor.alloc | apply Mor.more | apply Mor.drewN | apply Mor.drew)))).mono ?_
    rintro e w2 ⟨v, rfl, hown, hmor⟩
    rw [HM.out] at hown
    have HM2 := Lib.hid (show Mor w w2 from Mor.trans (by repeat (first | exact Mor.refl _ | apply Mor.alloc | apply Mor.more | apply Mor.drewN | apply Mor.drew)) hmor)
    obtain ⟨A2, c2, rfl, hc2, _, hA2⟩ := own_shape hown
    obtain ⟨gA, rfl, _⟩ := hA2 (by omega)
    clear hA2
    have HRW := Lib.hid (show Ri w2 (some ⟨gA, 0, none⟩) ws by rw [HWS.out]; exact (own_ri hown).take)
    clear hown hmor
    have z1 : (0 : Int) ≤ (m' : Int) := by omega
    have z2 : (m' : Int) ≤ (c2 : Int) := by omega
    have z3 : m' ≤ c2 := by omega
    go_wp2_with fail
    refine (HD.out _ _ _ HRW.out).mono ?_
    rintro e w3 ⟨xs, g3, bs3, k3, rfl, rfl, hinv, hr⟩
    rw [HM'.out]
    obtain ⟨w3, hw3⟩ : ∃ w3 : World, w3 = more w2 bs3 k3 := ⟨_, rfl⟩
    have HXI := Lib.hid hinv
    have HXL := Lib.hid (show xs.length = m' by rw [hinv.1, HM'.out])
    have HRX := Lib.hid (show Row w3 g3 0 xs by rw [hw3]; exact hr)
    have HM3 := Lib.hid (show Mor w w3 by rw [hw3]; exact HM2.out.more)
    have HRW3 := Lib.hid (show Ri w3 (some ⟨gA, 0, none⟩) ws by rw [hw3]; exact HRW.out.up)
    rw [← hw3]
    clear hw3 hinv hr HRW
    go_wp2_with fail
    go_loopw [14, 70] (fun v i wr => ∃ j : Nat, j ≤ m' ∧ i = .int .i64 j ∧ Hid (wr.ownsRow w3.heap.size 3 1 v j ((us.take j).map (Value.int .i64))) ∧ Hid (Below w3.heap.size w3 wr)) (fun _ i _ => m' - (intOf i).toNat)
    case atStart => exact ⟨0, by omega, rfl, Lib.hid (by simp; exact World.ownsRow_nil _ _ _ _), Lib.hid (Below.refl _ _)⟩
    case round =>
      obtain ⟨j, hjm, rfl, HO, HX⟩ := hrel
      by_cases hlt : j < m'
      · obtain ⟨x, hA, hxb, cv⟩ := (HRW3.out.below HX.out).at_ j (by rw [HM'.out]; exact hlt)
        injection hA with hA
        subst hA
        simp only [add_mk, Nat.zero_add] at cv
        have hz : (0 : Int) ≤ (j : Int) := by omega
        have hki : (j : Int) < (m' : Int) := by omega
        have HS := Lib.hid (HTK.out j hlt)
        obtain ⟨yb1, yb2⟩ := HBD.out _ (getD_mem ws j (by rw [HM'.out]; exact hlt))
        generalize ws.getD j 0 = y at *
        have pb := prod_bd y (1 + C) 999 1000 (by omega) (by omega) (by omega) (by omega) (by omega)
        have p0 : 0 ≤ y * (1 + C) := Int.mul_nonneg yb1 (by omega)
        have p1 : y * (1 + C) ≤ 999000 := by omega
        clear pb
        have kw : IntKind.i64.wrap (y * (1 + C)) = y * (1 + C) := IntWalk.i64_in _ (by omega)
        go_wp2_with (at_builtin; refine wpList_append_own _ rfl _ _ 22 rfl w3.heap.size 3 i0 (.int .i64 0) 1 8 Try.underlying22 hi hz0 hz1 hz2 rfl (by decide) _ _ _ rfl (HO.out.alloc _) ⟨wr.heap.size, 0, none⟩ 1 1 [.int .i64 (y * (1 + C))] rfl rfl ?_ ?_ ?_ ?_ ?_ ?_)
        all_goals try (first | (exact rfl) | (intro u hu; simp at hu; subst hu; rfl) | (unfold maxLen; omega) | omega | (have := HX.out.size; simp; omega) | (intro j u hj; match j, hj with | 0, hj => simp at hj; subst hj; simp [Addr.add]))
        case refine_6 =>
          intro v' w4 hown' hgrow _
          have HO' := Lib.hid hown'
          have HX' := Lib.hid (own_stepS (m := 0) HO.out HX.out hgrow)
          clear hown' hgrow
          go_wp2
          go_roundw
          case rel => exact ⟨j + 1, by omega, by go_num, Lib.hid (by rw [HS.out, List.map_append, List.map_take]; exact HO'.out), HX'⟩
          case measure => simp [intOf]; omega
      · obtain rfl : j = m' := by omega
        have HO4 := Lib.hid (show wr.ownsRow w3.heap.size 3 1 _ j (us.map (Value.int .i64)) from by have := HO.out; rw [List.take_of_length_le (by rw [HL2.out]; exact Nat.le_refl _)] at this; exact this)
        clear HO
        obtain ⟨A4, c4, rfl, hc4, _, _⟩ := own_shape HO4.out
        have HRu := Lib.hid (own_ri HO4.out)
        have HM4 := Lib.hid (Mor.of_below HX.out)
        clear HO4 HX
        obtain ⟨w4, rfl⟩ : ∃ w4 : World, w4 = wr := ⟨_, rfl⟩
        go_wp2_with fail
        refine (HE.out A4 c4 w4 HRu.out).mono ?_
        rintro e w5 ⟨ys, g5, bs5, k5, rfl, hw5, hinv5, hr5⟩
        obtain rfl := HEQ1.out xs ys HXI.out hinv5
        rw [HL2.out]
        have HR5 := Lib.hid (show Row w5 g5 0 ys by rw [hw5]; exact hr5)
        have HM5 := Lib.hid (show Mor w4 w5 by rw [hw5]; exact (Mor.refl _).more)
        clear hw5 hinv5 hr5
        have HW5 := Lib.hid (HRW3.out.mor (Mor.trans HM4.out HM5.out))
        go_wp2_with fail
        refine (clone_any (some ⟨gA, 0, none⟩) j c2 ws w5 HW5.out HM'.out (by intro h; cases h) (by omega)).mono ?_
        rintro e w6 ⟨v6, rfl, hown6, hm6⟩
        obtain ⟨A6, c6, rfl, hc6, _, _⟩ := own_shape hown6
        have HO6 := Lib.hid hown6
        have HB6 := Lib.hid hm6.below
        clear hown6 hm6
        go_wp2_with (at_builtin; refine wpList_append_own _ rfl _ _ 22 rfl w5.heap.size 3 i0 (.int .i64 0) 1 8 Try.underlying22 hi hz0 hz1 hz2 rfl (by decide) _ _ _ rfl (HO6.out.alloc _) ⟨w6.heap.size, 0, none⟩ 1 1 [.int .i64 0] rfl rfl ?_ ?_ ?_ ?_ ?_ ?_)
        all_goals try (first | (exact rfl) | (intro u hu; simp at hu; subst hu; rfl) | (unfold maxLen; omega) | omega | (have := HB6.out.size; simp; omega) | (intro j u hj; match j, hj with | 0, hj => simp at hj; subst hj; simp [Addr.add]))
        case refine_6 =>
          intro v7 w7 hown7 hgrow _
          have HX7 := Lib.hid (own_stepS (m := 0) HO6.out HB6.out hgrow)
          obtain ⟨A7, c7, rfl, hc7, _, _⟩ := own_shape hown7
          have HR7 := Lib.hid (show Ri w7 A7 (ws ++ [0]) from own_ri (n := j + 1) (by simpa using hown7))
          clear hown7 hgrow HO6 HB6
          have HM7 := Lib.hid (Mor.trans HM4.out (Mor.trans HM5.out (Mor.of_below HX7.out)))
          go_wp2_with fail
          refine (HF.out A7 c7 w7 HR7.out).mono ?_
          rintro e w8 ⟨zs, g8, bs8, k8, rfl, hw8, hinv8, hr8⟩
          obtain rfl := HEQ2.out ys zs HXI.out hinv8
          rw [show (ws ++ [(0 : Int)]).length = j + 1 by simp [HM'.out]]
          have HR8 := Lib.hid (show Row w8 g8 0 (ys ++ [0]) by rw [hw8]; exact hr8)
          have HM8 := Lib.hid (show Mor w7 w8 by rw [hw8]; exact (Mor.refl _).more)
          clear hw8 hinv8 hr8
          have HW8 := Lib.hid (HRW3.out.mor (Mor.trans HM7.out HM8.out))
          go_wp2_with fail
          refine (HP.out _ c2 w8 HW8.out).mono ?_
          rintro e w9 ⟨g9, bs9, k9, rfl, hw9, hr9⟩
          rw [HM'.out]
          have HR9 := Lib.hid (show Row w9 g9 0 (quo N ws.sum ws) by rw [hw9]; exact hr9)
          have HM9 := Lib.hid (show Mor w8 w9 by rw [hw9]; exact (Mor.refl _).more)
          clear hw9 hr9
          have HW9 := Lib.hid (HRu.out.mor (Mor.trans HM5.out (Mor.trans (Mor.of_below HX7.out) (Mor.trans HM8.out HM9.out))))
          go_wp2_with fail
          refine (HQ.out A4 c4 w9 HW9.out).mono ?_
          rintro e wA ⟨gB, bsA, kA, rfl, hwA, hrA⟩
          rw [HL2.out]
          rw [HEQ3.out] at hrA
          have HRB := Lib.hid (show Row wA gB 0 (quo N ws.sum ws) by rw [hwA]; exact hrA)
          have HMA := Lib.hid (show Mor w9 wA by rw [hwA]; exact (Mor.refl _).more)
          clear hwA hrA
          have HQL := Lib.hid (show (quo N ws.sum ws).length = j by rw [quo_len, HM'.out])
          generalize quo N ws.sum ws = qs at *
          have HMf := Lib.hid (show Mor w wA from Mor.trans HM3.out (Mor.trans HM7.out (Mor.trans HM8.out (Mor.trans HM9.out HMA.out))))
          have R3 := Lib.hid (HRX.out.mor (Mor.trans HM7.out (Mor.trans HM8.out (Mor.trans HM9.out HMA.out))))
          have R5 := Lib.hid (HR5.out.mor (Mor.trans (Mor.of_below HX7.out) (Mor.trans HM8.out (Mor.trans HM9.out HMA.out))))
          have R8 := Lib.hid (HR8.out.mor (Mor.trans HM9.out HMA.out))
          have R9 := Lib.hid (HR9.out.mor HMA.out)
          clear HM3 HM4 HM5 HM7 HM8 HM9 HMA HX7 HRX HR5 HR8 HR9 HW5 HW8 HW9 HR7 HRu HRW3
          go_wp2_with fail
          refine (equal_yes g3 0 j g5 0 j j ys wA R3.out R5.out HXL.out (by omega)).mono ?_
          rintro e wC ⟨rfl, kC, rfl⟩
          obtain ⟨wC, hwC⟩ : ∃ wC : World, wC = wA.drewN kC := ⟨_, rfl⟩
          have HMC := Lib.hid (show Mor wA wC by rw [hwC]; exact (Mor.refl _).drewN)
          rw [← hwC]
          clear hwC
          go_wp2_with fail
          refine (clone_any (some ⟨g3, 0, none⟩) j j ys wC (Ri.of_row (R3.out.mor HMC.out)) HXL.out (by intro h; cases h) (by omega)).mono ?_
          rintro e wD ⟨v6, rfl, hown6, hm6⟩
          obtain ⟨A6, c6, rfl, hc6, _, _⟩ := own_shape hown6
          have HO6 := Lib.hid hown6
          have HB6 := Lib.hid hm6.below
          clear hown6 hm6
          go_wp2_with (at_builtin; refine wpList_append_guarded _ rfl _ _ 22 rfl wC.heap.size 3 i0 (.int .i64 0) 1 8 Try.underlying22 hi hz0 hz1 hz2 rfl (by decide) _ _ _ rfl (HO6.out.alloc _) ⟨wD.heap.size, 0, none⟩ 1 1 [.int .i64 0] rfl rfl ?_ ?_ ?_ ?_ ?_ ?_)
          all_goals try (first | (exact rfl) | (intro u hu; simp at hu; subst hu; rfl) | (unfold maxLen; omega) | omega | (have := HB6.out.size; simp; omega) | (intro j u hj; match j, hj with | 0, hj => simp at hj; subst hj; simp [Addr.add]))
          case refine_6 =>
            intro v7 wE hown7 hgrow _
            have HX7 := Lib.hid (own_stepS (m := 0) HO6.out HB6.out hgrow)
            obtain ⟨gE, cE, cur, rfl, _, hcE, hblk, hcur⟩ := own_blk (n := j + 1) (xs := ys ++ [0]) (by simpa using hown7) (by omega)
            have HRE := Lib.hid (hcur.row hblk)
            have HME := Lib.hid (Mor.trans HMC.out (Mor.of_below HX7.out))
            clear hown7 hgrow HO6 HB6 hblk hcur HX7 HMC
            go_wp2_with fail
            refine (equal_yes gE 0 cE g8 0 (j + 1) (j + 1) (ys ++ [0]) wE HRE.out (R8.out.mor HME.out) (by simp [HXL.out]) (by omega)).mono ?_
            rintro e wF ⟨rfl, kF, rfl⟩
            go_wp2_with fail
            refine (equal_yes g9 0 j gB 0 j j qs _ ((R9.out.mor HME.out).mor (Mor.refl _).drewN) ((HRB.out.mor HME.out).mor (Mor.refl _).drewN) HQL.out (by omega)).mono ?_
            rintro e wG ⟨rfl, kG, rfl⟩
            go_wp2_with fail
            go_ret
            exact ⟨rfl, (Mor.trans HMf.out HME.out).drewN.below⟩

end Go.Proofs.Ytmpcnipngepfgaa.seatsScale
