/- The walk of talkeep.SplitOrder. -/
import Derived.Test.YtphkckonnogjmaaSplD
import Derived.Test.YtphkckonnogjmaaWeights2
import Derived.Test.YtphkckonnogjmaaTwoRows
namespace Go.Proofs.Ytphkckonnogjmaa.splitOrder
open Go.ChangeShapes Go.WideShapes Go.ChangeAt Go.RowKit Stb
set_option linter.unusedVariables false

theorem beg : byl (-10) [2, 1] = [-7, -3] := by decide
theorem beg_code : byc (-10) [2, 1] = 0 := by decide
theorem byl_scale {A k : Int} {l : List Int} (hk : 0 < k) (h0 : 0 ≤ A) : byl A (l.map (k * ·)) = byl A l := by
  unfold byl
  rw [if_pos h0, if_pos h0, sum_scale, prts_scale hk]
  have h1 := pord_ok A (l.map (k * ·))
  rw [sum_scale] at h1
  rw [ordp_one (ordp_scale hk h1) (pord_ok A l)]
theorem prt_zero (S : Int) (l ys : List Int) (i : Nat) : prt 0 S l ys i = 0 := by
  have e : left 0 S l = 0 := by
    unfold left flos
    rw [sumr_congr (g := fun _ => 0) (fun i _ => by simp), sumr_const]; simp
  unfold prt
  rw [e]; simp
theorem byl_neg {A : Int} {l : List Int} (h0 : 0 ≤ A) : byl (-A) l = (byl A l).map fun x => -x := by
  unfold byl
  rw [if_pos h0]
  by_cases c : A = 0
  · subst c
    rw [show (-0 : Int) = 0 from rfl, if_pos (Int.le_refl 0)]
    unfold prts
    rw [List.map_map]
    refine List.map_congr_left fun i _ => ?_
    show _ = -prt 0 l.sum l (pord 0 l) i
    rw [prt_zero]; rfl
  · rw [if_neg (by omega), Int.neg_neg]
theorem byl_mono {A : Int} {l : List Int} (h0 : 0 ≤ A) (hS : 0 < l.sum) (i j : Nat) (hi : i < l.length) (hj : j < l.length) (h : l.getD j 0 < l.getD i 0) : (byl A l).getD j 0 ≤ (byl A l).getD i 0 := by
  rw [byl_get _ _ _ hi, byl_get _ _ _ hj, if_pos h0, if_pos h0]
  exact prt_mono (pord_ok A l) hS i j hi hj h0 (Int.le_of_lt h) h
theorem code_ok {A : Int} {l : List Int} (h1 : -1000000000000 ≤ A) (h2 : A ≤ 1000000000000) (hn : l.length ≤ 40) (hw : ∀ x ∈ l, 0 ≤ x ∧ x ≤ 1000000) : byc A l = if l.sum = 0 then 6 else 0 := by
  have e : swc l = 0 := by
    unfold swc
    rw [if_neg (by omega), if_pos]
    rw [List.all_eq_true]
    intro x hx
    have := hw x hx
    unfold swOk
    simp; omega
  unfold byc
  rw [if_neg (by simp [e]), if_neg (by omega)]

set_option maxRecDepth 100000 in
set_option maxHeartbeats 6400000 in
theorem splitOrder_walk (w : World) (a0 : Int) (wa : (Lit.int .i64 a0).wf = true) (A : Option Addr) (len cap : Nat) (zs : List Int) (hz : IsRow .i64 w A len cap zs) (k0 : Int) (wk : (Lit.int .i64 k0).wf = true) :
    Calls Try.prog 13 #[.int .i64 a0, .slice A len cap, .int .i64 k0] w fun e w' => e = .returned (.bool true) ∧ Below w.heap.size w w' := by
  obtain ⟨i0, hi, hz0, hz1, hz2⟩ := info_parts info_int'
  obtain ⟨hri, hlen, hcap, hmax, hwf, hnil⟩ := Ri.of_isRow hz
  generalize zs.take len = vs at *
  have HRI := Lib.hid hri
  have HLEN := Lib.hid hlen
  have hml : (len : Int) ≤ 9223372036854775807 := by unfold maxLen at hmax; omega
  have HWt := Lib.hid (fun w (h : Ri w A vs) => weights_any A len cap vs w h HLEN.out hcap (Nat.le_trans hcap hmax))
  clear hri hz hwf hmax
  have a1 := wi_lo a0 1000000000001 (by omega)
  have a2 := wi_hi a0 1000000000001 (by omega)
  have HWa := Lib.hid (fun w => within_any a0 1000000000001 w (by omega) (by omega))
  generalize wi a0 1000000000001 = a at *
  have C1 := wi_lo k0 1000 (by omega)
  have C2 := wi_hi k0 1000 (by omega)
  have HC := Lib.hid (fun w => within_any k0 1000 w (by omega) (by omega))
  generalize wi k0 1000 = C at *
  have hBD := wl_bd vs
  obtain ⟨n, hn⟩ : ∃ n, (wl vs).length = n := ⟨_, rfl⟩
  have hn40 : n ≤ 40 := by rw [← hn, wl_len]; omega
  obtain ⟨ws, hws⟩ : ∃ ws, ws = wl vs := ⟨_, rfl⟩
  rw [← hws] at hBD hn
  have HWS := Lib.hid hws
  clear hws
  have HN := Lib.hid hn
  have hw1 : ∀ x ∈ ws, 0 ≤ x ∧ x ≤ 1000000 := fun x hx => by have := hBD x hx; omega
  have hw2 : ∀ x ∈ ws.map ((1 + C) * ·), 0 ≤ x ∧ x ≤ 1000000 := by
    intro x hx
    simp only [List.mem_map] at hx
    obtain ⟨u, hu, rfl⟩ := hx
    have b := hBD u hu
    have p := prod_bd (1 + C) u 1000 999 (by omega) (by omega) (by omega) (by omega) (by omega)
    exact ⟨Int.mul_nonneg (by omega) b.1, by omega⟩
  have c1 := code_ok (A := a) (l := ws) (by omega) (by omega) (by omega) hw1
  have c2 := code_ok (A := a) (l := ws.map ((1 + C) * ·)) (by omega) (by omega) (by simp; omega) hw2
  have c3 := code_ok (A := -a) (l := ws) (by omega) (by omega) (by omega) hw1
  have HBD := Lib.hid hw1
  by_cases hs : ws.sum = 0
  · rw [if_pos hs] at c1
    have HD := Lib.hid (fun A2 c w (h : Ri w A2 ws) => by_no a A2 n c ws w h HN.out (by unfold maxLen; omega) (by rw [c1]; omega))
    rw [c1] at HD
    have HS := Lib.hid hs
    clear c1 c2 c3 hs hw1 hw2 hBD hn
    go_enter Try.func13, Try.ntmps13
    go_wp2_with fail
    refine (by_any (-10) _ 2 2 [2, 1] _ (Ri.of_row (row_lit [2, 1] (by simp) rfl)) rfl beg_code).mono ?_
    rintro e w1 ⟨g0, rfl, ⟨bs0, m0, rfl⟩, hr⟩
    rw [beg] at hr
    have HR := Lib.hid hr
    clear hr
    go_wp2_with fail
    refine (equal_yes _ _ _ _ _ _ 2 [-7, -3] _ (HR.out.alloc) (row_lit [-7, -3] (by simp) rfl) rfl (by omega)).mono ?_
    rintro e w1 ⟨rfl, m1, rfl⟩
    clear HR
    go_wp2_with fail
    refine (HWt.out _ (HRI.out.mor (by repeat (first | exact Mor.refl _ | apply Mor.alloc | apply Mor.more | apply Mor.drewN | apply Mor.drew)))).mono ?_
    rintro e w2 ⟨v, rfl, hown, hmor⟩
    rw [← HWS.out, HN.out] at hown
    have HM2 := Lib.hid (show Mor w w2 from Mor.trans (by repeat (first | exact Mor.refl _ | apply Mor.alloc | apply Mor.more | apply Mor.drewN | apply Mor.drew)) hmor)
    obtain ⟨A2, c2, rfl, hc2, _, HGA⟩ := own_shape hown
    have HRW := Lib.hid (own_ri hown)
    clear hown hmor HWt HRI
    go_wp2_with (first
      | (go_at_call 19; (with_reducible refine (HC.out _).mono ?_); rintro e w1 ⟨rfl, rfl⟩)
      | (go_at_call 19; (with_reducible refine (HWa.out _).mono ?_); rintro e w1 ⟨rfl, rfl⟩))
    refine (HD.out _ _ _ HRW.out).mono ?_
    rintro e w3 ⟨rfl, bs3, k3, rfl⟩
    have HSU := Lib.hid (sum_ri A2 n c2 ws (more w2 bs3 k3) HRW.out.up HN.out (fun x hx => by have := HBD.out x hx; omega) (by omega))
    rw [HS.out] at HSU
    go_wp2_with ((go_at_call 17; (with_reducible refine HSU.out.mono ?_); rintro e w3 ⟨rfl, rfl⟩))
    go_ret
    exact ⟨rfl, (HM2.out.more).below⟩
  · rw [if_neg hs] at c1 c3
    have hs0 : 0 < ws.sum := by
      have := (getD_le_sum (fun x hx => (hw1 x hx).1) 0).2
      omega
    rw [sum_scale, if_neg (by
      intro h
      rcases Int.mul_eq_zero.1 h with e | e
      · omega
      · exact hs e)] at c2
    have hn1 : 1 ≤ n := by
      rcases Nat.eq_zero_or_pos n with e | e
      · have : ws = [] := List.eq_nil_of_length_eq_zero (by rw [hn, e])
        subst this; simp at hs
      · exact e
    have HX1 := Lib.hid (fun A2 c w (h : Ri w A2 ws) => by_any a A2 n c ws w h HN.out c1)
    have HX2 := Lib.hid (fun A2 c w (h : Ri w A2 (ws.map ((1 + C) * ·))) => by_any a A2 n c _ w h (by rw [List.length_map]; exact HN.out) c2)
    have HX3 := Lib.hid (fun A2 c w (h : Ri w A2 ws) => by_any (-a) A2 n c ws w h HN.out c3)
    have HL := Lib.hid (show (byl a ws).length = n by rw [byl_len, hn])
    have HXB := Lib.hid (byk c1).bd
    have HMono := Lib.hid (fun i j (hi : i < n) (hj : j < n) (h : ws.getD j 0 < ws.getD i 0) => byl_mono (A := a) a1 hs0 i j (by omega) (by omega) h)
    have HSc := Lib.hid (byl_scale (A := a) (k := 1 + C) (l := ws) (by omega) a1)
    have HNg := Lib.hid (byl_neg (A := a) (l := ws) a1)
    have HTK := Lib.hid (fun j (hj : j < n) => show (ws.map ((1 + C) * ·)).take (j + 1) = (ws.map ((1 + C) * ·)).take j ++ [(1 + C) * ws.getD j 0] from by
      rw [List.take_succ_eq_append_getElem (by rw [List.length_map]; omega)]
      congr 2
      simp [List.getD_eq_getElem?_getD, show j < ws.length by omega])
    have HTL := Lib.hid (fun j (hj : j < n) => show ((byl a ws).map fun x => -x).take (j + 1) = ((byl a ws).map fun x => -x).take j ++ [-(byl a ws).getD j 0] from by
      have := HL.out
      rw [List.take_succ_eq_append_getElem (by rw [List.length_map]; omega)]
      congr 2
      simp [List.getD_eq_getElem?_getD, show j < (byl a ws).length by omega])
    have HLu := Lib.hid (show (ws.map ((1 + C) * ·)).length = n by rw [List.length_map]; exact hn)
    have HLz := Lib.hid (show ((byl a ws).map fun x => -x).length = n by rw [List.length_map]; exact HL.out)
    clear c1 c2 c3 hs hw1 hw2 hBD hn hs0
    generalize hus : ws.map ((1 + C) * ·) = us at *
    generalize hzs : (byl a ws).map (fun x => -x) = nx at *
    clear hus hzs
    go_enter Try.func13, Try.ntmps13
    go_wp2_with fail
    refine (by_any (-10) _ 2 2 [2, 1] _ (Ri.of_row (row_lit [2, 1] (by simp) rfl)) rfl beg_code).mono ?_
    rintro e w1 ⟨g0, rfl, ⟨bs0, m0, rfl⟩, hr⟩
    rw [beg] at hr
    have HR := Lib.hid hr
    clear hr
    go_wp2_with fail
    refine (equal_yes _ _ _ _ _ _ 2 [-7, -3] _ (HR.out.alloc) (row_lit [-7, -3] (by simp) rfl) rfl (by omega)).mono ?_
    rintro e w1 ⟨rfl, m1, rfl⟩
    clear HR
    go_wp2_with fail
    refine (HWt.out _ (HRI.out.mor (by repeat (first | exact Mor.refl _ | apply Mor.alloc | apply Mor.more | apply Mor.drewN | apply Mor.drew)))).mono ?_
    rintro e w2 ⟨v, rfl, hown, hmor⟩
    rw [← HWS.out, HN.out] at hown
    have HM2 := Lib.hid (show Mor w w2 from Mor.trans (by repeat (first | exact Mor.refl _ | apply Mor.alloc | apply Mor.more | apply Mor.drewN | apply Mor.drew)) hmor)
    obtain ⟨A2, c2, rfl, hc2, _, HGA⟩ := own_shape hown
    have HRW := Lib.hid (own_ri hown)
    clear hown hmor HWt HRI
    go_wp2_with (first
      | (go_at_call 19; (with_reducible refine (HC.out _).mono ?_); rintro e w1 ⟨rfl, rfl⟩)
      | (go_at_call 19; (with_reducible refine (HWa.out _).mono ?_); rintro e w1 ⟨rfl, rfl⟩))
    refine (HX1.out _ _ _ HRW.out).mono ?_
    rintro e w3 ⟨g, rfl, hm3, hr⟩
    rw [HN.out]
    have HXR := Lib.hid hr
    have HM3 := Lib.hid (Mor.trans HM2.out hm3)
    have HRW3 := Lib.hid (HRW.out.mor hm3)
    clear hr hm3 HRW HM2
    go_wp2_with fail
    go_loopw [11, 12, 63] (fun v u i wr => ∃ j : Nat, j ≤ n ∧ i = .int .i64 j ∧ Hid (wr.ownsRow w3.heap.size 3 1 v j ((us.take j).map (Value.int .i64))) ∧ Hid (wr.ownsRow w3.heap.size 3 1 u j ((nx.take j).map (Value.int .i64))) ∧ Hid (Apart v u) ∧ Hid (Below w3.heap.size w3 wr)) (fun _ _ i _ => n - (intOf i).toNat)
    case atStart => exact ⟨0, by omega, rfl, Lib.hid (by simp; exact World.ownsRow_nil _ _ _ _), Lib.hid (by simp; exact World.ownsRow_nil _ _ _ _), Lib.hid apart_nil, Lib.hid (Below.refl _ _)⟩
    case round =>
      obtain ⟨j, hjn, rfl, HV, HU, HAP, HX⟩ := hrel
      by_cases hlt : j < n
      · obtain ⟨xA, hA, hxb, cv⟩ := (HRW3.out.below HX.out).at_ j (by rw [HN.out]; exact hlt)
        subst hA
        have hz : (0 : Int) ≤ (j : Int) := by omega
        have hki : (j : Int) < (n : Int) := by omega
        have HS := Lib.hid (HTK.out j hlt)
        have HT := Lib.hid (HTL.out j hlt)
        have HM1 := Lib.hid (fun i (hi : i < n) => HMono.out j i hlt hi)
        obtain ⟨yb1, yb2⟩ := HBD.out _ (getD_mem ws j (by rw [HN.out]; exact hlt))
        obtain ⟨xb1, xb2⟩ := HXB.out j (by rw [HN.out]; exact hlt)
        have HXj := Lib.hid (fun W (h : Below w3.heap.size w3 W) => (HXR.out.below h).get j (by rw [HL.out]; exact hlt))
        simp only [Nat.zero_add] at HXj
        generalize ws.getD j 0 = y at *
        generalize (byl a ws).getD j 0 = x at *
        have pb := prod_bd (1 + C) y 1000 1000000 (by omega) (by omega) (by omega) (by omega) (by omega)
        obtain ⟨pb1, pb2⟩ := pb
        go_wp2_with (at_builtin; refine wpList_append_own_at _ rfl _ _ 23 rfl w3.heap.size 3 i0 (.int .i64 0) 1 8 Try.underlying23 hi hz0 hz1 hz2 rfl (by decide) _ _ _ rfl (HV.out.alloc _) ⟨wr.heap.size, 0, none⟩ 1 1 [.int .i64 ((1 + C) * y)] rfl rfl ?_ ?_ ?_ ?_ ?_ ?_)
        all_goals try (first | (exact rfl) | (intro u hu; simp at hu; subst hu; rfl) | (unfold maxLen; omega) | omega | (have := HX.out.size; simp; omega) | (intro j u hj; match j, hj with | 0, hj => simp at hj; subst hj; simp [Addr.add]))
        case refine_6 =>
          intro v4 w4 hown4 hgrow _ hor
          obtain ⟨hU4, hAp4⟩ := two_step (k := 0) HU.out HAP.out hgrow hor
          have HX4 := Lib.hid (own_stepS (m := 0) HV.out HX.out hgrow)
          have HV4 := Lib.hid hown4
          have HU4 := Lib.hid hU4
          have HAP4 := Lib.hid hAp4
          have cx := HXj.out w4 HX4.out
          clear hown4 hgrow hor hU4 hAp4
          go_wp2_with (at_builtin; refine wpList_append_own_at _ rfl _ _ 23 rfl w3.heap.size 3 i0 (.int .i64 0) 1 8 Try.underlying23 hi hz0 hz1 hz2 rfl (by decide) _ _ _ rfl (HU4.out.alloc _) ⟨w4.heap.size, 0, none⟩ 1 1 [.int .i64 (-x)] rfl rfl ?_ ?_ ?_ ?_ ?_ ?_)
          all_goals try (first | (exact rfl) | (intro u hu; simp at hu; subst hu; rfl) | (unfold maxLen; omega) | omega | (have := HX4.out.size; simp; omega) | (intro j u hj; match j, hj with | 0, hj => simp at hj; subst hj; simp [Addr.add]))
          case refine_6 =>
            intro u5 w5 hown5 hgrow _ hor
            obtain ⟨hV5, hAp5⟩ := two_step (k := 0) HV4.out HAP4.out.symm hgrow hor
            have HX5 := Lib.hid (own_stepS (m := 0) HU4.out HX4.out hgrow)
            have HU5 := Lib.hid hown5
            have HV5 := Lib.hid hV5
            have HAP5 := Lib.hid hAp5.symm
            have cx5 := HXj.out w5 HX5.out
            clear hown5 hgrow hor hV5 hAp5
            go_wp2
            go_loopw [84] (fun i wq => ∃ p : Nat, p ≤ n ∧ i = .int .i64 p ∧ Hid (Below w3.heap.size w3 wq) ∧ Hid (wq.ownsRow w3.heap.size 3 1 v4 (j + 1) ((us.map (Value.int .i64)).take j ++ [.int .i64 ((1 + C) * y)])) ∧ Hid (wq.ownsRow w3.heap.size 3 1 u5 (j + 1) ((nx.map (Value.int .i64)).take j ++ [.int .i64 (-x)]))) (fun i _ => n - (intOf i).toNat)
            case atStart => exact ⟨0, by omega, rfl, HX5, HV5, HU5⟩
            case round =>
              obtain ⟨p, hp, rfl, HXq, HVq, HUq⟩ := hrel
              by_cases hpt : p < n
              · obtain ⟨xB, hB, hxb2, cq⟩ := (HRW3.out.below HXq.out).at_ p (by rw [HN.out]; exact hpt)
                injection hB with hB
                subst hB
                have cxp := (HXR.out.below HXq.out).get p (by rw [HL.out]; exact hpt)
                rw [Nat.zero_add] at cxp
                have cxj := HXj.out _ HXq.out
                have hz2 : (0 : Int) ≤ (p : Int) := by omega
                have hpi : (p : Int) < (n : Int) := by omega
                have HM2 := Lib.hid (HM1.out p hpt)
                generalize ws.getD p 0 = yp at *
                generalize (byl a ws).getD p 0 = xp at *
                by_cases hc : yp < y
                · have t := HM2.out hc
                  have t2 : ¬ (x < xp) := by omega
                  go_wp2
                  go_region
                  go_wp2
                  go_roundw
                  case rel => exact ⟨p + 1, by omega, by go_num, Lib.hid ⟨HXq.out.os, HXq.out.tape, HXq.out.output, HXq.out.size, HXq.out.block⟩, HVq, HUq⟩
                  case measure => simp [intOf]; omega
                · have hcb : decide (yp < y) = false := decide_eq_false hc
                  have hcn : y ≤ yp := by omega
                  go_wp2
                  go_region
                  go_wp2
                  go_roundw
                  case rel => exact ⟨p + 1, by omega, by go_num, Lib.hid ⟨HXq.out.os, HXq.out.tape, HXq.out.output, HXq.out.size, HXq.out.block⟩, HVq, HUq⟩
                  case measure => simp [intOf]; omega
              · obtain rfl : p = n := by omega
                go_wp2
                go_roundw
                case rel => exact ⟨j + 1, by omega, by go_num, Lib.hid (by rw [HS.out, List.map_append, List.map_take]; exact HVq.out), Lib.hid (by rw [HT.out, List.map_append, List.map_take]; exact HUq.out), HAP5, HXq⟩
                case measure => simp [intOf]; omega
      · obtain rfl : j = n := by omega
        have HV' := Lib.hid (show wr.ownsRow w3.heap.size 3 1 _ j (us.map (Value.int .i64)) from by have := HV.out; rw [List.take_of_length_le (by rw [HLu.out]; exact Nat.le_refl _)] at this; exact this)
        have HU' := Lib.hid (show wr.ownsRow w3.heap.size 3 1 _ j (nx.map (Value.int .i64)) from by have := HU.out; rw [List.take_of_length_le (by rw [HLz.out]; exact Nat.le_refl _)] at this; exact this)
        clear HV HU
        obtain ⟨gv, cv, cur, rfl, _, _, hbl, hcur⟩ := own_blk HV'.out hn1
        have HRv := Lib.hid (hcur.row hbl)
        clear hbl hcur
        obtain ⟨gu, cu, cur, rfl, _, _, hbl, hcur⟩ := own_blk HU'.out hn1
        have HRu := Lib.hid (hcur.row hbl)
        clear hbl hcur HV' HU'
        have HMr := Lib.hid (Mor.trans HM3.out (Mor.of_below HX.out))
        go_wp2_with fail
        refine (HX2.out _ _ wr (Ri.of_row HRv.out)).mono ?_
        rintro e w4 ⟨g4, rfl, hm4, hr4⟩
        rw [HLu.out]
        rw [HSc.out] at hr4
        have HR4 := Lib.hid hr4
        have HM4 := Lib.hid hm4
        clear hr4 hm4
        go_wp2_with fail
        refine (HX3.out _ _ w4 (HRW3.out.mor (Mor.trans (Mor.of_below HX.out) HM4.out))).mono ?_
        rintro e w5 ⟨g5, rfl, hm5, hr5⟩
        rw [HN.out]
        rw [HNg.out] at hr5
        have HR5 := Lib.hid hr5
        have HM5 := Lib.hid hm5
        clear hr5 hm5
        have R3 := Lib.hid (HXR.out.mor (Mor.trans (Mor.of_below HX.out) (Mor.trans HM4.out HM5.out)))
        have R4 := Lib.hid (HR4.out.mor HM5.out)
        have RU := Lib.hid (HRu.out.mor (Mor.trans HM4.out HM5.out))
        have HMF := Lib.hid (Mor.trans HMr.out (Mor.trans HM4.out HM5.out))
        clear HXR HR4 HRu HMr HM4 HM5 HRv HRW3 HX
        go_wp2_with fail
        refine (equal_yes g 0 j g4 0 j j (byl a ws) w5 R3.out R4.out HL.out (by omega)).mono ?_
        rintro e w6 ⟨rfl, m6, rfl⟩
        go_wp2_with fail
        refine (equal_yes g5 0 j gu 0 cu j nx _ (HR5.out.mor (Mor.refl _).drewN) (RU.out.mor (Mor.refl _).drewN) HLz.out (by omega)).mono ?_
        rintro e w7 ⟨rfl, m7, rfl⟩
        go_wp2_with fail
        go_ret
        exact ⟨rfl, HMF.out.drewN.below⟩

end Go.Proofs.Ytphkckonnogjmaa.splitOrder
