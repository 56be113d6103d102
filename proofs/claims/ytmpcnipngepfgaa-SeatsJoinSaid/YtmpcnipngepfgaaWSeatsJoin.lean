/- The walk of talkeep.SeatsJoin. -/
import Derived.Test.YtmpcnipngepfgaaSeatsC
import Derived.Test.YtmpcnipngepfgaaClone
import Derived.Deep.RegionWith
namespace Go.Proofs.Ytmpcnipngepfgaa.seatsJoin
open Go.ChangeShapes Go.WideShapes Go.ChangeAt Go.RowKit
set_option linter.unusedVariables false

theorem beg {xs : List Int} (h : DealInv 0 [3, 3] xs 2) : xs = [1, 1] := deal_beg (by decide) h (by decide) rfl (by decide)
theorem beg_code : lcode 2 [3, 3] = 0 := by decide

/-- those who join may still be dealt to -/
theorem code_join {n : Int} {vs us : List Int} (h : lcode n vs = 0) (i k : Nat) (hik : i ≠ k) (hi : i < vs.length) (hk : k < vs.length) (hs : vs.getD i 0 + vs.getD k 0 ≤ 1000000) (hl : us.length = vs.length)
    (hu : ∀ j, j < vs.length → at0 us j = if j = i then vs.getD i 0 + vs.getD k 0 else if j = k then 0 else at0 vs j) : lcode n us = 0 := by
  obtain ⟨c1, c2, c3, c4, c5⟩ := lcode_zero h
  have vi := voteOk_get c2 i
  have vk := voteOk_get c2 k
  have hsum : us.sum = vs.sum := by
    rw [← sumTo_list us vs.length hl, ← sumTo_list vs _ rfl]
    have e1 := sumTo_upd (at0 vs) vs.length i hi (vs.getD k 0)
    have e2 := sumTo_upd (fun j => if j = i then at0 vs j + vs.getD k 0 else at0 vs j) vs.length k hk (-vs.getD k 0)
    have e3 : sumTo (at0 us) vs.length = sumTo (fun j => if j = k then (if j = i then at0 vs j + vs.getD k 0 else at0 vs j) + -vs.getD k 0 else (if j = i then at0 vs j + vs.getD k 0 else at0 vs j)) vs.length := by
      refine sumTo_congr _ _ _ (fun j hj => ?_)
      rw [hu j hj]
      by_cases a : j = i
      · subst a; simp only [if_true]; rw [if_neg hik]; rfl
      · by_cases b : j = k
        · subst b; simp only [if_true]; rw [if_neg a, if_neg a]; unfold at0; omega
        · (try simp only); rw [if_neg a, if_neg b, if_neg b, if_neg a]
    omega
  unfold lcode
  rw [if_neg (by rw [hl]; omega), if_pos, if_neg (by omega), if_neg (by omega)]
  intro v hv
  obtain ⟨j, hj, e⟩ := List.getElem_of_mem hv
  have := hu j (by rw [← hl]; exact hj)
  have e2 : at0 us j = v := by unfold at0; rw [List.getD_eq_getElem?_getD, List.getElem?_eq_getElem hj]; exact e
  rw [e2] at this
  rw [this]
  split
  · exact ⟨by omega, hs⟩
  · split
    · exact ⟨by omega, by omega⟩
    · exact voteOk_get c2 j
theorem front_at (vs : List Int) (i k : Nat) (u : Int) (hik : i ≠ k) (hi : i < vs.length) (hk : k < vs.length) (j : Nat) : at0 ((vs.set i u).set k 0) j = if j = i then u else if j = k then 0 else at0 vs j := by
  rw [at0_set _ k j (by rw [List.length_set]; exact hk), at0_set vs i j hi]
  by_cases a : j = k
  · subst a; rw [if_pos rfl, if_neg (Ne.symm hik), if_pos rfl]
  · rw [if_neg a]
    by_cases b : j = i
    · subst b; rw [if_pos rfl, if_pos rfl]
    · rw [if_neg b, if_neg b, if_neg a]
theorem back_at (vs : List Int) (i k : Nat) (u : Int) (hik : i ≠ k) (hi : i < vs.length) (hk : k < vs.length) (j : Nat) : at0 ((vs.set i 0).set k u) j = if j = k then u else if j = i then 0 else at0 vs j := by
  rw [at0_set _ k j (by rw [List.length_set]; exact hk), at0_set vs i j hi]

set_option maxRecDepth 100000 in
set_option maxHeartbeats 6400000 in
theorem rest_lt (w : World) (n : Int) (A : Option Addr) (len cap : Nat) (vs : List Int) (i k : Int) (N : Nat) (I K : Nat) (HRI : Hid (Ri w A vs)) (HLEN : Hid (vs.length = len)) (hnil : A = none → len = 0)
    (n01 : (0 : Int) ≤ N) (n02 : (N : Int) < 200) (Hn0 : Hid (∀ w, Calls Try.prog 18 #[.int .i64 n, .int .i64 200] w fun e w' => e = .returned (.int .i64 (N : Int)) ∧ w = w'))
    (HI0 : Hid (∀ w, Calls Try.prog 18 #[.int .i64 i, .int .i64 len] w fun e w' => e = .returned (.int .i64 (I : Int)) ∧ w = w'))
    (HK0 : Hid (∀ w, Calls Try.prog 18 #[.int .i64 k, .int .i64 len] w fun e w' => e = .returned (.int .i64 (K : Int)) ∧ w = w'))
    (hl : lcode N vs = 0) (hIK : I < K) (hK : K < len) (hs : vs.getD I 0 + vs.getD K 0 ≤ 1000000) :
    Calls Try.prog 8 #[.int .i64 n, .slice A len cap, .int .i64 i, .int .i64 k] w fun e w' => e = .returned (.bool true) ∧ Below w.heap.size w w' := by
  obtain ⟨c1, c2, c3, c4, c5⟩ := lcode_zero hl
  have m40 : len ≤ 40 := by have := HLEN.out; omega
  have hI : I < len := by omega
  have hlv := HLEN.out
  obtain ⟨v1, v2⟩ := voteOk_get c2 I
  obtain ⟨v3, v4⟩ := voteOk_get c2 K
  have HD := Lib.hid (fun w (h : Ri w A vs) => deal_int 0 N N A len cap vs w rfl (by omega) (by omega) h HLEN.out hl)
  have HE := Lib.hid (fun w (h : Ri w A vs) => deal_int 2 N N A len cap vs w rfl (by omega) (by omega) h HLEN.out hl)
  have hik : I ≠ K := by omega
  have HP := Lib.hid (fun A2 cap2 w (h : Ri w A2 ((vs.set I (vs.getD I 0 + vs.getD K 0)).set K 0)) => deal_int 0 N N A2 len cap2 _ w rfl (by omega) (by omega) h (by simp [hlv])
    (code_join hl I K hik (by omega) (by omega) hs (by simp) (fun j hj => front_at vs I K _ hik (by omega) (by omega) j)))
  have HQ := Lib.hid (fun A2 cap2 w (h : Ri w A2 ((vs.set I 0).set K (vs.getD I 0 + vs.getD K 0))) => deal_int 2 N N A2 len cap2 _ w rfl (by omega) (by omega) h (by simp [hlv])
    (code_join hl K I (Ne.symm hik) (by omega) (by omega) (by omega) (by simp) (fun j hj => by rw [back_at vs I K _ hik (by omega) (by omega) j, Int.add_comm])))
  have HC := Lib.hid (fun w (h : Ri w A vs) => clone_any A len cap vs w h HLEN.out hnil (by omega))
  have hv0 : ∀ i, i < vs.length → 0 ≤ at0 vs i := fun i _ => (voteOk_get c2 i).1
  have HFP := Lib.hid (fun xs ps (h : DealInv 0 vs xs N) (h' : DealInv 0 ((vs.set I (vs.getD I 0 + vs.getD K 0)).set K 0) ps N) => show xs.getD I 0 + xs.getD K 0 ≤ ps.getD I 0 from by
    have a := h'.2.1
    have b := h'.2.2
    rw [List.length_set, List.length_set] at a b
    refine fair_join hv0 h.2.1 a (by rw [h.2.2, b]) hIK (by omega) ?_ ?_ ?_
    · rw [front_at vs I K _ hik (by omega) (by omega), if_pos rfl]; rfl
    · rw [front_at vs I K _ hik (by omega) (by omega), if_neg (Ne.symm hik), if_pos rfl]
    · intro j hj e1 e2; rw [front_at vs I K _ hik (by omega) (by omega), if_neg e1, if_neg e2])
  have HFQ := Lib.hid (fun ys qs (h : DealInv 2 vs ys N) (h' : DealInv 2 ((vs.set I 0).set K (vs.getD I 0 + vs.getD K 0)) qs N) => show qs.getD K 0 ≤ ys.getD I 0 + ys.getD K 0 from by
    have a := h'.2.1
    have b := h'.2.2
    rw [List.length_set, List.length_set] at a b
    refine fair_join2 hv0 h.2.1 a (by rw [h.2.2, b]) hIK (by omega) ?_ ?_ ?_
    · rw [back_at vs I K _ hik (by omega) (by omega), if_neg hik, if_pos rfl]
    · rw [back_at vs I K _ hik (by omega) (by omega), if_pos rfl]; rfl
    · intro j hj e1 e2; rw [back_at vs I K _ hik (by omega) (by omega), if_neg e2, if_neg e1])
  have HV := Lib.hid c2
  have l2 : ¬ ((len : Int) < 2) := by omega
  have hz3 : (0 : Int) ≤ (I : Int) := by omega
  have hz4 : (0 : Int) ≤ (K : Int) := by omega
  have hb3 : (I : Int) < (len : Int) := by omega
  have hb4 : (K : Int) < (len : Int) := by omega
  have e0 : ((I : Int) == (K : Int)) = false := by simp; omega
  have lt1 : (I : Int) < (K : Int) := by omega
  have HN1 : Hid (I ≠ K) := Lib.hid hik
  clear hl c1 c2 c3 c4 c5 hlv hv0 hik
  go_enter Try.func8, Try.ntmps8
  go_wp2_with fail
  refine (deal_int 0 2 2 _ 2 2 [3, 3] _ rfl (by omega) (by omega) (Ri.of_row (row_lit [3, 3] (by simp) rfl)) rfl beg_code).mono ?_
  rintro e w1 ⟨xs0, g0, bs0, k0, rfl, rfl, hinv, hr⟩
  obtain rfl := beg hinv
  have HR := Lib.hid hr
  clear hinv hr
  go_wp2_with fail
  refine (equal_yes _ _ _ _ _ _ 2 [1, 1] _ (HR.out.alloc) (row_lit [1, 1] (by simp) rfl) rfl (by omega)).mono ?_
  rintro e w1 ⟨rfl, m0, rfl⟩
  clear HR
  go_wp2_with (first | (go_at_call 18; (with_reducible refine (Hn0.out _).mono ?_); rintro e w1 ⟨rfl, rfl⟩))
  refine (HD.out _ (HRI.out.mor (by repeat (first | exact Mor.refl _ | apply Mor.alloc | apply Mor.more | apply Mor.drewN | apply Mor.drew)))).mono ?_
  rintro e w1 ⟨xs, g, bs, kk, rfl, rfl, hinv, hr⟩
  rw [HLEN.out]
  (try simp [go_sem] at hr)
  have HXL := Lib.hid (show xs.length = len by rw [hinv.1, HLEN.out])
  have HXB := Lib.hid (fun i (hi : i < len) => hinv.bd i (by rw [HLEN.out]; exact hi))
  have HX := Lib.hid hinv
  have HRX := Lib.hid hr
  clear hinv hr HD
  go_wp2_with fail
  refine (HE.out _ (HRI.out.mor (by repeat (first | exact Mor.refl _ | apply Mor.alloc | apply Mor.more | apply Mor.drewN | apply Mor.drew)))).mono ?_
  rintro e w1 ⟨ys, g1, bs1, kk1, rfl, rfl, hinv, hr⟩
  rw [HLEN.out]
  (try simp [go_sem] at hr)
  have HYL := Lib.hid (show ys.length = len by rw [hinv.1, HLEN.out])
  have HYB := Lib.hid (fun i (hi : i < len) => hinv.bd i (by rw [HLEN.out]; exact hi))
  have HY := Lib.hid hinv
  have HRY := Lib.hid hr
  clear hinv hr HE
  obtain ⟨w2, hw2⟩ : ∃ w2 : World, w2 = more (((more (w.alloc (.cells #[.int .i64 3, .int .i64 3] 3)) bs0 k0).alloc (.cells #[.int .i64 1, .int .i64 1] 3))) (bs ++ bs1) kk1 := ⟨_, rfl⟩
  have HRX2 := Lib.hid (show Row w2 g 0 xs by rw [hw2]; exact HRX.out.app)
  have HRY2 := Lib.hid (show Row w2 g1 0 ys by rw [hw2]; exact HRY.out)
  have HM2 := Lib.hid (show Mor w w2 by rw [hw2]; exact Mor.more (Mor.alloc (Mor.more (Mor.alloc (Mor.refl _)))))
  have HRI2 := Lib.hid (HRI.out.mor HM2.out)
  clear HRX HRY
  go_wp2_with (first | (go_at_call 18; (with_reducible refine (HI0.out _).mono ?_); rintro e w1 ⟨rfl, rfl⟩) | (go_at_call 18; (with_reducible refine (HK0.out _).mono ?_); rintro e w1 ⟨rfl, rfl⟩))
  rw [← hw2]
  clear hw2
  obtain ⟨x, hA, hxb, cI0⟩ := HRI2.out.at_ I (by rw [HLEN.out]; omega)
  obtain ⟨x', hA', _, cK0⟩ := HRI2.out.at_ K (by rw [HLEN.out]; omega)
  subst hA
  injection hA' with hA'
  subst hA'
  have HIK := Lib.hid (fun j (hj : j < len) W (hW : Ri W (some x) vs) => show W.cell? (x.add j) = some (.int .i64 (vs.getD j 0)) from by
    obtain ⟨x2, hA2, _, c⟩ := hW.at_ j (by rw [HLEN.out]; exact hj)
    injection hA2 with hA2
    subst hA2
    exact c)
  obtain ⟨vI, hvI⟩ : ∃ v, vs.getD I 0 = v := ⟨_, rfl⟩
  obtain ⟨vK, hvK⟩ : ∃ v, vs.getD K 0 = v := ⟨_, rfl⟩
  have HVI := Lib.hid hvI
  have HVK := Lib.hid hvK
  rw [hvI] at v1 v2
  rw [hvK] at v3 v4
  rw [hvI, hvK] at hs HP HQ HFP HFQ
  rw [hvI] at cI0
  rw [hvK] at cK0
  clear hvI hvK
  have kw : IntKind.i64.wrap (vI + vK) = vI + vK := IntWalk.i64_in _ (by omega)
  have f1 : decide (1000000 < vI + vK) = false := by simp; omega
  go_quiet (fail)
  clear kw f1 cI0 cK0
  have HRI3 := Lib.hid (show Ri (w2.drewN nq) (some x) vs from HRI2.out)
  go_wp2_with fail
  refine (HC.out _ HRI3.out).mono ?_
  rintro e w3 ⟨vv, rfl, hown, hmor⟩
  obtain ⟨g2, cap2, cur, rfl, hg2, hcap2, hblk, hcur⟩ := own_blk hown (by omega)
  have HM3 := Lib.hid (show Mor w w3 from Mor.trans HM2.out.drewN hmor)
  have HX3 := Lib.hid (show Row w3 g 0 xs from Row.mor (Row.drewN HRX2.out) hmor)
  have HY3 := Lib.hid (show Row w3 g1 0 ys from Row.mor (Row.drewN HRY2.out) hmor)
  have HRI4 := Lib.hid (HRI3.out.mor hmor)
  have HG2 := Lib.hid (show g < g2 ∧ g1 < g2 ∧ x.block < g2 ∧ w.heap.size ≤ g2 ∧ g2 < w3.heap.size from by
    have a := HRX2.out.1
    have b := HRY2.out.1
    have c := HM2.out.below.size
    have d := hblk.lt
    simp at hg2
    exact ⟨by omega, by omega, by omega, by omega, by omega⟩)
  have HBK := Lib.hid hblk
  have HCU := Lib.hid hcur
  clear hown hmor hblk hcur hg2 HRI3 HRX2 HRY2 HRI2
  go_wp2_with fail
  refine (HC.out _ HRI4.out).mono ?_
  rintro e w4 ⟨vv, rfl, hown, hmor⟩
  obtain ⟨g3, cap3, cur3, rfl, hg3, hcap3, hblk, hcur⟩ := own_blk hown (by omega)
  have HM4 := Lib.hid (show Mor w w4 from Mor.trans HM3.out hmor)
  have HX4 := Lib.hid (HX3.out.mor hmor)
  have HY4 := Lib.hid (HY3.out.mor hmor)
  have HBK2 := Lib.hid (HBK.out.below hmor.below HG2.out.2.2.2.2)
  have HG3 : g2 < g3 := by have := HG2.out.2.2.2.2; omega
  have HBK3 := Lib.hid hblk
  have HCU3 := Lib.hid hcur
  have cI : w4.cell? (x.add I) = some (.int .i64 vI) := by rw [← HVI.out]; exact HIK.out I hI w4 (HRI4.out.mor hmor)
  have cK : w4.cell? (x.add K) = some (.int .i64 vK) := by rw [← HVK.out]; exact HIK.out K hK w4 (HRI4.out.mor hmor)
  have hxb4 : x.block < w4.heap.size := by have := hmor.below.size; have := HG2.out; omega
  clear hown hmor hblk hcur hg3 HX3 HY3 HBK HM3 HRI4 hxb
  have d1 : w4.cell? ⟨g2, I, none⟩ = some (.int .i64 vI) := by rw [← HVI.out, HBK2.out.cell]; exact HCU.out I (by rw [HLEN.out]; exact hI)
  have d2 : w4.cell? ⟨g2, K, none⟩ = some (.int .i64 vK) := by rw [← HVK.out, HBK2.out.cell]; exact HCU.out K (by rw [HLEN.out]; exact hK)
  have d3 : w4.cell? ⟨g3, I, none⟩ = some (.int .i64 vI) := by rw [← HVI.out, HBK3.out.cell]; exact HCU3.out I (by rw [HLEN.out]; exact hI)
  have d4 : w4.cell? ⟨g3, K, none⟩ = some (.int .i64 vK) := by rw [← HVK.out, HBK3.out.cell]; exact HCU3.out K (by rw [HLEN.out]; exact hK)
  have d5 : w4.frozen? ⟨g2, I, none⟩ = false := HBK2.out.frozen I
  have d6 : w4.frozen? ⟨g2, K, none⟩ = false := HBK2.out.frozen K
  have d7 : w4.frozen? ⟨g3, I, none⟩ = false := HBK3.out.frozen I
  have d8 : w4.frozen? ⟨g3, K, none⟩ = false := HBK3.out.frozen K
  have kw : IntKind.i64.wrap (vI + vK) = vI + vK := IntWalk.i64_in _ (by omega)
  have ne1 : ¬ I = K := by omega
  have ne2 : ¬ K = I := by omega
  go_wp2_with fail
  go_region
  obtain ⟨w5, hw5⟩ : ∃ w5 : World, w5 = ((w4.setCell ⟨g2, I, none⟩ (.int .i64 (vI + vK))).setCell ⟨g2, K, none⟩ (.int .i64 0)).drew := ⟨_, rfl⟩
  have HF5 := Lib.hid (show ∀ q : Addr, q.block ≠ g2 → w5.cell? q = w4.cell? q ∧ w5.frozen? q = w4.frozen? q from fun q hq => by
    rw [hw5, World.cell?_drew, World.frozen?_drew]
    have a := set_far w4 ⟨g2, I, none⟩ q (.int .i64 (vI + vK)) hq
    have b := set_far (w4.setCell ⟨g2, I, none⟩ (.int .i64 (vI + vK))) ⟨g2, K, none⟩ q (.int .i64 0) hq
    exact ⟨b.1.trans a.1, b.2.trans a.2⟩)
  have HZ5 := Lib.hid (show w5.heap.size = w4.heap.size by rw [hw5]; simp)
  have HB5 := Lib.hid (show Blk w5 g2 3 ((cur.setIfInBounds I (.int .i64 (vI + vK))).setIfInBounds K (.int .i64 0)) by rw [hw5]; exact ((HBK2.out.set_ I _).set_ K _).drew)
  have HC5 := Lib.hid ((HCU.out.set I (vI + vK)).set K 0)
  have HM5 := Lib.hid (show Mor w w5 by rw [hw5]; exact Mor.drew (Mor.of_below ((HM4.out.below.setCell HG2.out.2.2.2.1 _).setCell HG2.out.2.2.2.1 _)))
  have HB5' := Lib.hid (show Blk w5 g3 3 cur3 by
    rw [hw5]
    have a := HBK3.out
    unfold Blk at a ⊢
    rw [← a]
    show ((w4.setCell _ _).setCell _ _).heap[g3]? = _
    rw [Below.heap_setCell _ _ _ _ (by show g3 ≠ g2; omega), Below.heap_setCell _ _ _ _ (by show g3 ≠ g2; omega)])
  rw [← hw5]
  clear hw5 kw d1 d2 d5 d6
  have hxg2 : x.block ≠ g2 := by have := HG2.out.2.2.1; omega
  have cI5 : w5.cell? (x.add I) = some (.int .i64 vI) := ((HF5.out _ (by rw [add_block]; exact hxg2)).1).trans cI
  have cK5 : w5.cell? (x.add K) = some (.int .i64 vK) := ((HF5.out _ (by rw [add_block]; exact hxg2)).1).trans cK
  have d3' : w5.cell? ⟨g3, I, none⟩ = some (.int .i64 vI) := ((HF5.out _ (by show g3 ≠ g2; omega)).1).trans d3
  have d4' : w5.cell? ⟨g3, K, none⟩ = some (.int .i64 vK) := ((HF5.out _ (by show g3 ≠ g2; omega)).1).trans d4
  have d7' : w5.frozen? ⟨g3, I, none⟩ = false := ((HF5.out _ (by show g3 ≠ g2; omega)).2).trans d7
  have d8' : w5.frozen? ⟨g3, K, none⟩ = false := ((HF5.out _ (by show g3 ≠ g2; omega)).2).trans d8
  clear cI cK d3 d4 d7 d8
  have kw : IntKind.i64.wrap (vI + vK) = vI + vK := IntWalk.i64_in _ (by omega)
  go_wp2_with fail
  go_region
  obtain ⟨w6, hw6⟩ : ∃ w6 : World, w6 = ((w5.setCell ⟨g3, I, none⟩ (.int .i64 0)).setCell ⟨g3, K, none⟩ (.int .i64 (vI + vK))).drew := ⟨_, rfl⟩
  have HF6 := Lib.hid (show ∀ q : Addr, q.block ≠ g3 → w6.cell? q = w5.cell? q from fun q hq => by
    rw [hw6, World.cell?_drew]
    have a := set_far w5 ⟨g3, I, none⟩ q (.int .i64 0) hq
    have b := set_far (w5.setCell ⟨g3, I, none⟩ (.int .i64 0)) ⟨g3, K, none⟩ q (.int .i64 (vI + vK)) hq
    exact b.1.trans a.1)
  have HZ6 := Lib.hid (show w6.heap.size = w4.heap.size by rw [hw6]; simp [HZ5.out])
  have HM6 := Lib.hid (show Mor w w6 by rw [hw6]; exact Mor.drew (Mor.of_below ((HM5.out.below.setCell (by have := HG2.out.2.2.2.1; show w.heap.size ≤ g3; omega) _).setCell (by have := HG2.out.2.2.2.1; show w.heap.size ≤ g3; omega) _)))
  have HR6 := Lib.hid (show Ri w6 (some ⟨g2, 0, none⟩) ((vs.set I (vI + vK)).set K 0) from by
    have hb : Blk w6 g2 3 ((cur.setIfInBounds I (.int .i64 (vI + vK))).setIfInBounds K (.int .i64 0)) := by
      rw [hw6]
      have a := HB5.out
      unfold Blk at a ⊢
      rw [← a]
      show ((w5.setCell _ _).setCell _ _).heap[g2]? = _
      rw [Below.heap_setCell _ _ _ _ (by show g2 ≠ g3; omega), Below.heap_setCell _ _ _ _ (by show g2 ≠ g3; omega)]
    exact HC5.out.ri hb)
  have HR6' := Lib.hid (show Ri w6 (some ⟨g3, 0, none⟩) ((vs.set I 0).set K (vI + vK)) from by
    rw [hw6]; exact ((HCU3.out.set I 0).set K (vI + vK)).ri (((HB5'.out.set_ I _).set_ K _).drew))
  have HX6 := Lib.hid (show Row w6 g 0 xs from HX4.out.far (by rw [HZ6.out]; exact HX4.out.1) (fun q hq => (HF6.out q (by rw [hq]; have := HG2.out; omega)).trans (HF5.out q (by rw [hq]; have := HG2.out; omega)).1))
  have HY6 := Lib.hid (show Row w6 g1 0 ys from HY4.out.far (by rw [HZ6.out]; exact HY4.out.1) (fun q hq => (HF6.out q (by rw [hq]; have := HG2.out; omega)).trans (HF5.out q (by rw [hq]; have := HG2.out; omega)).1))
  rw [← hw6]
  clear hw6 kw cI5 cK5 d3' d4' d7' d8'
  go_wp2_with fail
  refine (HP.out _ _ _ HR6.out).mono ?_
  rintro e w7 ⟨ps, g4, bs4, kk4, rfl, rfl, hinv, hr⟩
  rw [List.length_set, List.length_set, HLEN.out]
  have HPB := Lib.hid (fun i (hi : i < len) => hinv.bd i (by rw [List.length_set, List.length_set, HLEN.out]; exact hi))
  have hfp := HFP.out xs ps HX.out hinv
  have HPL := Lib.hid (show ps.length = len by rw [hinv.1, List.length_set, List.length_set, HLEN.out])
  have HRP := Lib.hid hr
  clear hinv hr HP HFP
  go_wp2_with fail
  refine (HQ.out _ _ _ HR6'.out.up).mono ?_
  rintro e w8 ⟨qs, g5, bs5, kk5, rfl, rfl, hinv, hr⟩
  rw [List.length_set, List.length_set, HLEN.out]
  have HQB := Lib.hid (fun i (hi : i < len) => hinv.bd i (by rw [List.length_set, List.length_set, HLEN.out]; exact hi))
  have hfq := HFQ.out ys qs HY.out hinv
  have HQL := Lib.hid (show qs.length = len by rw [hinv.1, List.length_set, List.length_set, HLEN.out])
  (try simp [go_sem] at hr)
  have HRQ := Lib.hid hr
  clear hinv hr HQ HFQ
  obtain ⟨w9, hw9⟩ : ∃ w9 : World, w9 = more w6 (bs4 ++ bs5) kk5 := ⟨_, rfl⟩
  have c1 : w9.cell? ⟨g4, 0 + I, none⟩ = some (.int .i64 (ps.getD I 0)) := by rw [hw9]; exact HRP.out.app.get I (by rw [HPL.out]; exact hI)
  have c2 : w9.cell? ⟨g5, 0 + K, none⟩ = some (.int .i64 (qs.getD K 0)) := by rw [hw9]; exact HRQ.out.get K (by rw [HQL.out]; exact hK)
  have c3 : w9.cell? ⟨g, 0 + I, none⟩ = some (.int .i64 (xs.getD I 0)) := by rw [hw9]; exact HX6.out.more.get I (by rw [HXL.out]; exact hI)
  have c4 : w9.cell? ⟨g, 0 + K, none⟩ = some (.int .i64 (xs.getD K 0)) := by rw [hw9]; exact HX6.out.more.get K (by rw [HXL.out]; exact hK)
  have c5 : w9.cell? ⟨g1, 0 + I, none⟩ = some (.int .i64 (ys.getD I 0)) := by rw [hw9]; exact HY6.out.more.get I (by rw [HYL.out]; exact hI)
  have c6 : w9.cell? ⟨g1, 0 + K, none⟩ = some (.int .i64 (ys.getD K 0)) := by rw [hw9]; exact HY6.out.more.get K (by rw [HYL.out]; exact hK)
  have HM9 := Lib.hid (show Mor w w9 by rw [hw9]; exact HM6.out.more)
  rw [Nat.zero_add] at c1 c2 c3 c4 c5 c6
  obtain ⟨x1, x2⟩ := HXB.out I hI
  obtain ⟨x3, x4⟩ := HXB.out K hK
  obtain ⟨y1, y2⟩ := HYB.out I hI
  obtain ⟨y3, y4⟩ := HYB.out K hK
  obtain ⟨z1, z2⟩ := HPB.out I hI
  obtain ⟨z3, z4⟩ := HQB.out K hK
  generalize ps.getD I 0 = pI at *
  generalize qs.getD K 0 = qK at *
  generalize xs.getD I 0 = xI at *
  generalize xs.getD K 0 = xK at *
  generalize ys.getD I 0 = yI at *
  generalize ys.getD K 0 = yK at *
  go_wp2_with fail
  rw [← hw9]
  clear hw9
  have k1 : IntKind.i64.wrap (xI + xK) = xI + xK := IntWalk.i64_in _ (by omega)
  have k2 : IntKind.i64.wrap (yI + yK) = yI + yK := IntWalk.i64_in _ (by omega)
  have f1 : decide (xI + xK ≤ pI) = true := by simp; omega
  have f2 : decide (qK ≤ yI + yK) = true := by simp; omega
  go_quiet (fail)
  clear k1 k2
  go_wp2_with fail
  go_ret
  exact ⟨rfl, HM9.out.drewN.below⟩

set_option maxRecDepth 100000 in
set_option maxHeartbeats 6400000 in
theorem rest_gt (w : World) (n : Int) (A : Option Addr) (len cap : Nat) (vs : List Int) (i k : Int) (N : Nat) (I K : Nat) (HRI : Hid (Ri w A vs)) (HLEN : Hid (vs.length = len)) (hnil : A = none → len = 0)
    (n01 : (0 : Int) ≤ N) (n02 : (N : Int) < 200) (Hn0 : Hid (∀ w, Calls Try.prog 18 #[.int .i64 n, .int .i64 200] w fun e w' => e = .returned (.int .i64 (N : Int)) ∧ w = w'))
    (HI0 : Hid (∀ w, Calls Try.prog 18 #[.int .i64 i, .int .i64 len] w fun e w' => e = .returned (.int .i64 (K : Int)) ∧ w = w'))
    (HK0 : Hid (∀ w, Calls Try.prog 18 #[.int .i64 k, .int .i64 len] w fun e w' => e = .returned (.int .i64 (I : Int)) ∧ w = w'))
    (hl : lcode N vs = 0) (hIK : I < K) (hK : K < len) (hs : vs.getD I 0 + vs.getD K 0 ≤ 1000000) :
    Calls Try.prog 8 #[.int .i64 n, .slice A len cap, .int .i64 i, .int .i64 k] w fun e w' => e = .returned (.bool true) ∧ Below w.heap.size w w' := by
  obtain ⟨c1, c2, c3, c4, c5⟩ := lcode_zero hl
  have m40 : len ≤ 40 := by have := HLEN.out; omega
  have hI : I < len := by omega
  have hlv := HLEN.out
  obtain ⟨v1, v2⟩ := voteOk_get c2 I
  obtain ⟨v3, v4⟩ := voteOk_get c2 K
  have HD := Lib.hid (fun w (h : Ri w A vs) => deal_int 0 N N A len cap vs w rfl (by omega) (by omega) h HLEN.out hl)
  have HE := Lib.hid (fun w (h : Ri w A vs) => deal_int 2 N N A len cap vs w rfl (by omega) (by omega) h HLEN.out hl)
  have hik : I ≠ K := by omega
  have HP := Lib.hid (fun A2 cap2 w (h : Ri w A2 ((vs.set I (vs.getD I 0 + vs.getD K 0)).set K 0)) => deal_int 0 N N A2 len cap2 _ w rfl (by omega) (by omega) h (by simp [hlv])
    (code_join hl I K hik (by omega) (by omega) hs (by simp) (fun j hj => front_at vs I K _ hik (by omega) (by omega) j)))
  have HQ := Lib.hid (fun A2 cap2 w (h : Ri w A2 ((vs.set I 0).set K (vs.getD I 0 + vs.getD K 0))) => deal_int 2 N N A2 len cap2 _ w rfl (by omega) (by omega) h (by simp [hlv])
    (code_join hl K I (Ne.symm hik) (by omega) (by omega) (by omega) (by simp) (fun j hj => by rw [back_at vs I K _ hik (by omega) (by omega) j, Int.add_comm])))
  have HC := Lib.hid (fun w (h : Ri w A vs) => clone_any A len cap vs w h HLEN.out hnil (by omega))
  have hv0 : ∀ i, i < vs.length → 0 ≤ at0 vs i := fun i _ => (voteOk_get c2 i).1
  have HFP := Lib.hid (fun xs ps (h : DealInv 0 vs xs N) (h' : DealInv 0 ((vs.set I (vs.getD I 0 + vs.getD K 0)).set K 0) ps N) => show xs.getD I 0 + xs.getD K 0 ≤ ps.getD I 0 from by
    have a := h'.2.1
    have b := h'.2.2
    rw [List.length_set, List.length_set] at a b
    refine fair_join hv0 h.2.1 a (by rw [h.2.2, b]) hIK (by omega) ?_ ?_ ?_
    · rw [front_at vs I K _ hik (by omega) (by omega), if_pos rfl]; rfl
    · rw [front_at vs I K _ hik (by omega) (by omega), if_neg (Ne.symm hik), if_pos rfl]
    · intro j hj e1 e2; rw [front_at vs I K _ hik (by omega) (by omega), if_neg e1, if_neg e2])
  have HFQ := Lib.hid (fun ys qs (h : DealInv 2 vs ys N) (h' : DealInv 2 ((vs.set I 0).set K (vs.getD I 0 + vs.getD K 0)) qs N) => show qs.getD K 0 ≤ ys.getD I 0 + ys.getD K 0 from by
    have a := h'.2.1
    have b := h'.2.2
    rw [List.length_set, List.length_set] at a b
    refine fair_join2 hv0 h.2.1 a (by rw [h.2.2, b]) hIK (by omega) ?_ ?_ ?_
    · rw [back_at vs I K _ hik (by omega) (by omega), if_neg hik, if_pos rfl]
    · rw [back_at vs I K _ hik (by omega) (by omega), if_pos rfl]; rfl
    · intro j hj e1 e2; rw [back_at vs I K _ hik (by omega) (by omega), if_neg e2, if_neg e1])
  have HV := Lib.hid c2
  have l2 : ¬ ((len : Int) < 2) := by omega
  have hz3 : (0 : Int) ≤ (I : Int) := by omega
  have hz4 : (0 : Int) ≤ (K : Int) := by omega
  have hb3 : (I : Int) < (len : Int) := by omega
  have hb4 : (K : Int) < (len : Int) := by omega
  have e0 : ((K : Int) == (I : Int)) = false := by simp; omega
  have lt1 : (I : Int) < (K : Int) := by omega
  have HN1 : Hid (I ≠ K) := Lib.hid hik
  clear hl c1 c2 c3 c4 c5 hlv hv0 hik
  go_enter Try.func8, Try.ntmps8
  go_wp2_with fail
  refine (deal_int 0 2 2 _ 2 2 [3, 3] _ rfl (by omega) (by omega) (Ri.of_row (row_lit [3, 3] (by simp) rfl)) rfl beg_code).mono ?_
  rintro e w1 ⟨xs0, g0, bs0, k0, rfl, rfl, hinv, hr⟩
  obtain rfl := beg hinv
  have HR := Lib.hid hr
  clear hinv hr
  go_wp2_with fail
  refine (equal_yes _ _ _ _ _ _ 2 [1, 1] _ (HR.out.alloc) (row_lit [1, 1] (by simp) rfl) rfl (by omega)).mono ?_
  rintro e w1 ⟨rfl, m0, rfl⟩
  clear HR
  go_wp2_with (first | (go_at_call 18; (with_reducible refine (Hn0.out _).mono ?_); rintro e w1 ⟨rfl, rfl⟩))
  refine (HD.out _ (HRI.out.mor (by repeat (first | exact Mor.refl _ | apply Mor.alloc | apply Mor.more | apply Mor.drewN | apply Mor.drew)))).mono ?_
  rintro e w1 ⟨xs, g, bs, kk, rfl, rfl, hinv, hr⟩
  rw [HLEN.out]
  (try simp [go_sem] at hr)
  have HXL := Lib.hid (show xs.length = len by rw [hinv.1, HLEN.out])
  have HXB := Lib.hid (fun i (hi : i < len) => hinv.bd i (by rw [HLEN.out]; exact hi))
  have HX := Lib.hid hinv
  have HRX := Lib.hid hr
  clear hinv hr HD
  go_wp2_with fail
  refine (HE.out _ (HRI.out.mor (by repeat (first | exact Mor.refl _ | apply Mor.alloc | apply Mor.more | apply Mor.drewN | apply Mor.drew)))).mono ?_
  rintro e w1 ⟨ys, g1, bs1, kk1, rfl, rfl, hinv, hr⟩
  rw [HLEN.out]
  (try simp [go_sem] at hr)
  have HYL := Lib.hid (show ys.length = len by rw [hinv.1, HLEN.out])
  have HYB := Lib.hid (fun i (hi : i < len) => hinv.bd i (by rw [HLEN.out]; exact hi))
  have HY := Lib.hid hinv
  have HRY := Lib.hid hr
  clear hinv hr HE
  obtain ⟨w2, hw2⟩ : ∃ w2 : World, w2 = more (((more (w.alloc (.cells #[.int .i64 3, .int .i64 3] 3)) bs0 k0).alloc (.cells #[.int .i64 1, .int .i64 1] 3))) (bs ++ bs1) kk1 := ⟨_, rfl⟩
  have HRX2 := Lib.hid (show Row w2 g 0 xs by rw [hw2]; exact HRX.out.app)
  have HRY2 := Lib.hid (show Row w2 g1 0 ys by rw [hw2]; exact HRY.out)
  have HM2 := Lib.hid (show Mor w w2 by rw [hw2]; exact Mor.more (Mor.alloc (Mor.more (Mor.alloc (Mor.refl _)))))
  have HRI2 := Lib.hid (HRI.out.mor HM2.out)
  clear HRX HRY
  go_wp2_with (first | (go_at_call 18; (with_reducible refine (HI0.out _).mono ?_); rintro e w1 ⟨rfl, rfl⟩) | (go_at_call 18; (with_reducible refine (HK0.out _).mono ?_); rintro e w1 ⟨rfl, rfl⟩))
  rw [← hw2]
  clear hw2
  obtain ⟨x, hA, hxb, cI0⟩ := HRI2.out.at_ K (by rw [HLEN.out]; omega)
  obtain ⟨x', hA', _, cK0⟩ := HRI2.out.at_ I (by rw [HLEN.out]; omega)
  subst hA
  injection hA' with hA'
  subst hA'
  have HIK := Lib.hid (fun j (hj : j < len) W (hW : Ri W (some x) vs) => show W.cell? (x.add j) = some (.int .i64 (vs.getD j 0)) from by
    obtain ⟨x2, hA2, _, c⟩ := hW.at_ j (by rw [HLEN.out]; exact hj)
    injection hA2 with hA2
    subst hA2
    exact c)
  obtain ⟨vI, hvI⟩ : ∃ v, vs.getD I 0 = v := ⟨_, rfl⟩
  obtain ⟨vK, hvK⟩ : ∃ v, vs.getD K 0 = v := ⟨_, rfl⟩
  have HVI := Lib.hid hvI
  have HVK := Lib.hid hvK
  rw [hvI] at v1 v2
  rw [hvK] at v3 v4
  rw [hvI, hvK] at hs HP HQ HFP HFQ
  rw [hvK] at cI0
  rw [hvI] at cK0
  clear hvI hvK
  have kw : IntKind.i64.wrap (vK + vI) = vK + vI := IntWalk.i64_in _ (by omega)
  have f1 : decide (1000000 < vK + vI) = false := by simp; omega
  go_quiet (fail)
  clear kw f1 cI0 cK0
  have HRI3 := Lib.hid (show Ri (w2.drewN nq) (some x) vs from HRI2.out)
  go_wp2_with fail
  refine (HC.out _ HRI3.out).mono ?_
  rintro e w3 ⟨vv, rfl, hown, hmor⟩
  obtain ⟨g2, cap2, cur, rfl, hg2, hcap2, hblk, hcur⟩ := own_blk hown (by omega)
  have HM3 := Lib.hid (show Mor w w3 from Mor.trans HM2.out.drewN hmor)
  have HX3 := Lib.hid (show Row w3 g 0 xs from Row.mor (Row.drewN HRX2.out) hmor)
  have HY3 := Lib.hid (show Row w3 g1 0 ys from Row.mor (Row.drewN HRY2.out) hmor)
  have HRI4 := Lib.hid (HRI3.out.mor hmor)
  have HG2 := Lib.hid (show g < g2 ∧ g1 < g2 ∧ x.block < g2 ∧ w.heap.size ≤ g2 ∧ g2 < w3.heap.size from by
    have a := HRX2.out.1
    have b := HRY2.out.1
    have c := HM2.out.below.size
    have d := hblk.lt
    simp at hg2
    exact ⟨by omega, by omega, by omega, by omega, by omega⟩)
  have HBK := Lib.hid hblk
  have HCU := Lib.hid hcur
  clear hown hmor hblk hcur hg2 HRI3 HRX2 HRY2 HRI2
  go_wp2_with fail
  refine (HC.out _ HRI4.out).mono ?_
  rintro e w4 ⟨vv, rfl, hown, hmor⟩
  obtain ⟨g3, cap3, cur3, rfl, hg3, hcap3, hblk, hcur⟩ := own_blk hown (by omega)
  have HM4 := Lib.hid (show Mor w w4 from Mor.trans HM3.out hmor)
  have HX4 := Lib.hid (HX3.out.mor hmor)
  have HY4 := Lib.hid (HY3.out.mor hmor)
  have HBK2 := Lib.hid (HBK.out.below hmor.below HG2.out.2.2.2.2)
  have HG3 : g2 < g3 := by have := HG2.out.2.2.2.2; omega
  have HBK3 := Lib.hid hblk
  have HCU3 := Lib.hid hcur
  have cI : w4.cell? (x.add I) = some (.int .i64 vI) := by rw [← HVI.out]; exact HIK.out I hI w4 (HRI4.out.mor hmor)
  have cK : w4.cell? (x.add K) = some (.int .i64 vK) := by rw [← HVK.out]; exact HIK.out K hK w4 (HRI4.out.mor hmor)
  have hxb4 : x.block < w4.heap.size := by have := hmor.below.size; have := HG2.out; omega
  clear hown hmor hblk hcur hg3 HX3 HY3 HBK HM3 HRI4 hxb
  have d1 : w4.cell? ⟨g2, I, none⟩ = some (.int .i64 vI) := by rw [← HVI.out, HBK2.out.cell]; exact HCU.out I (by rw [HLEN.out]; exact hI)
  have d2 : w4.cell? ⟨g2, K, none⟩ = some (.int .i64 vK) := by rw [← HVK.out, HBK2.out.cell]; exact HCU.out K (by rw [HLEN.out]; exact hK)
  have d3 : w4.cell? ⟨g3, I, none⟩ = some (.int .i64 vI) := by rw [← HVI.out, HBK3.out.cell]; exact HCU3.out I (by rw [HLEN.out]; exact hI)
  have d4 : w4.cell? ⟨g3, K, none⟩ = some (.int .i64 vK) := by rw [← HVK.out, HBK3.out.cell]; exact HCU3.out K (by rw [HLEN.out]; exact hK)
  have d5 : w4.frozen? ⟨g2, I, none⟩ = false := HBK2.out.frozen I
  have d6 : w4.frozen? ⟨g2, K, none⟩ = false := HBK2.out.frozen K
  have d7 : w4.frozen? ⟨g3, I, none⟩ = false := HBK3.out.frozen I
  have d8 : w4.frozen? ⟨g3, K, none⟩ = false := HBK3.out.frozen K
  have kw : IntKind.i64.wrap (vI + vK) = vI + vK := IntWalk.i64_in _ (by omega)
  have ne1 : ¬ I = K := by omega
  have ne2 : ¬ K = I := by omega
  go_wp2_with fail
  go_region
  obtain ⟨w5, hw5⟩ : ∃ w5 : World, w5 = ((w4.setCell ⟨g2, I, none⟩ (.int .i64 (vI + vK))).setCell ⟨g2, K, none⟩ (.int .i64 0)).drew := ⟨_, rfl⟩
  have HF5 := Lib.hid (show ∀ q : Addr, q.block ≠ g2 → w5.cell? q = w4.cell? q ∧ w5.frozen? q = w4.frozen? q from fun q hq => by
    rw [hw5, World.cell?_drew, World.frozen?_drew]
    have a := set_far w4 ⟨g2, I, none⟩ q (.int .i64 (vI + vK)) hq
    have b := set_far (w4.setCell ⟨g2, I, none⟩ (.int .i64 (vI + vK))) ⟨g2, K, none⟩ q (.int .i64 0) hq
    exact ⟨b.1.trans a.1, b.2.trans a.2⟩)
  have HZ5 := Lib.hid (show w5.heap.size = w4.heap.size by rw [hw5]; simp)
  have HB5 := Lib.hid (show Blk w5 g2 3 ((cur.setIfInBounds I (.int .i64 (vI + vK))).setIfInBounds K (.int .i64 0)) by rw [hw5]; exact ((HBK2.out.set_ I _).set_ K _).drew)
  have HC5 := Lib.hid ((HCU.out.set I (vI + vK)).set K 0)
  have HM5 := Lib.hid (show Mor w w5 by rw [hw5]; exact Mor.drew (Mor.of_below ((HM4.out.below.setCell HG2.out.2.2.2.1 _).setCell HG2.out.2.2.2.1 _)))
  have HB5' := Lib.hid (show Blk w5 g3 3 cur3 by
    rw [hw5]
    have a := HBK3.out
    unfold Blk at a ⊢
    rw [← a]
    show ((w4.setCell _ _).setCell _ _).heap[g3]? = _
    rw [Below.heap_setCell _ _ _ _ (by show g3 ≠ g2; omega), Below.heap_setCell _ _ _ _ (by show g3 ≠ g2; omega)])
  rw [← hw5]
  clear hw5 kw d1 d2 d5 d6
  have hxg2 : x.block ≠ g2 := by have := HG2.out.2.2.1; omega
  have cI5 : w5.cell? (x.add I) = some (.int .i64 vI) := ((HF5.out _ (by rw [add_block]; exact hxg2)).1).trans cI
  have cK5 : w5.cell? (x.add K) = some (.int .i64 vK) := ((HF5.out _ (by rw [add_block]; exact hxg2)).1).trans cK
  have d3' : w5.cell? ⟨g3, I, none⟩ = some (.int .i64 vI) := ((HF5.out _ (by show g3 ≠ g2; omega)).1).trans d3
  have d4' : w5.cell? ⟨g3, K, none⟩ = some (.int .i64 vK) := ((HF5.out _ (by show g3 ≠ g2; omega)).1).trans d4
  have d7' : w5.frozen? ⟨g3, I, none⟩ = false := ((HF5.out _ (by show g3 ≠ g2; omega)).2).trans d7
  have d8' : w5.frozen? ⟨g3, K, none⟩ = false := ((HF5.out _ (by show g3 ≠ g2; omega)).2).trans d8
  clear cI cK d3 d4 d7 d8
  have kw : IntKind.i64.wrap (vI + vK) = vI + vK := IntWalk.i64_in _ (by omega)
  go_wp2_with fail
  go_region
  obtain ⟨w6, hw6⟩ : ∃ w6 : World, w6 = ((w5.setCell ⟨g3, I, none⟩ (.int .i64 0)).setCell ⟨g3, K, none⟩ (.int .i64 (vI + vK))).drew := ⟨_, rfl⟩
  have HF6 := Lib.hid (show ∀ q : Addr, q.block ≠ g3 → w6.cell? q = w5.cell? q from fun q hq => by
    rw [hw6, World.cell?_drew]
    have a := set_far w5 ⟨g3, I, none⟩ q (.int .i64 0) hq
    have b := set_far (w5.setCell ⟨g3, I, none⟩ (.int .i64 0)) ⟨g3, K, none⟩ q (.int .i64 (vI + vK)) hq
    exact b.1.trans a.1)
  have HZ6 := Lib.hid (show w6.heap.size = w4.heap.size by rw [hw6]; simp [HZ5.out])
  have HM6 := Lib.hid (show Mor w w6 by rw [hw6]; exact Mor.drew (Mor.of_below ((HM5.out.below.setCell (by have := HG2.out.2.2.2.1; show w.heap.size ≤ g3; omega) _).setCell (by have := HG2.out.2.2.2.1; show w.heap.size ≤ g3; omega) _)))
  have HR6 := Lib.hid (show Ri w6 (some ⟨g2, 0, none⟩) ((vs.set I (vI + vK)).set K 0) from by
    have hb : Blk w6 g2 3 ((cur.setIfInBounds I (.int .i64 (vI + vK))).setIfInBounds K (.int .i64 0)) := by
      rw [hw6]
      have a := HB5.out
      unfold Blk at a ⊢
      rw [← a]
      show ((w5.setCell _ _).setCell _ _).heap[g2]? = _
      rw [Below.heap_setCell _ _ _ _ (by show g2 ≠ g3; omega), Below.heap_setCell _ _ _ _ (by show g2 ≠ g3; omega)]
    exact HC5.out.ri hb)
  have HR6' := Lib.hid (show Ri w6 (some ⟨g3, 0, none⟩) ((vs.set I 0).set K (vI + vK)) from by
    rw [hw6]; exact ((HCU3.out.set I 0).set K (vI + vK)).ri (((HB5'.out.set_ I _).set_ K _).drew))
  have HX6 := Lib.hid (show Row w6 g 0 xs from HX4.out.far (by rw [HZ6.out]; exact HX4.out.1) (fun q hq => (HF6.out q (by rw [hq]; have := HG2.out; omega)).trans (HF5.out q (by rw [hq]; have := HG2.out; omega)).1))
  have HY6 := Lib.hid (show Row w6 g1 0 ys from HY4.out.far (by rw [HZ6.out]; exact HY4.out.1) (fun q hq => (HF6.out q (by rw [hq]; have := HG2.out; omega)).trans (HF5.out q (by rw [hq]; have := HG2.out; omega)).1))
  rw [← hw6]
  clear hw6 kw cI5 cK5 d3' d4' d7' d8'
  go_wp2_with fail
  refine (HP.out _ _ _ HR6.out).mono ?_
  rintro e w7 ⟨ps, g4, bs4, kk4, rfl, rfl, hinv, hr⟩
  rw [List.length_set, List.length_set, HLEN.out]
  have HPB := Lib.hid (fun i (hi : i < len) => hinv.bd i (by rw [List.length_set, List.length_set, HLEN.out]; exact hi))
  have hfp := HFP.out xs ps HX.out hinv
  have HPL := Lib.hid (show ps.length = len by rw [hinv.1, List.length_set, List.length_set, HLEN.out])
  have HRP := Lib.hid hr
  clear hinv hr HP HFP
  go_wp2_with fail
  refine (HQ.out _ _ _ HR6'.out.up).mono ?_
  rintro e w8 ⟨qs, g5, bs5, kk5, rfl, rfl, hinv, hr⟩
  rw [List.length_set, List.length_set, HLEN.out]
  have HQB := Lib.hid (fun i (hi : i < len) => hinv.bd i (by rw [List.length_set, List.length_set, HLEN.out]; exact hi))
  have hfq := HFQ.out ys qs HY.out hinv
  have HQL := Lib.hid (show qs.length = len by rw [hinv.1, List.length_set, List.length_set, HLEN.out])
  (try simp [go_sem] at hr)
  have HRQ := Lib.hid hr
  clear hinv hr HQ HFQ
  obtain ⟨w9, hw9⟩ : ∃ w9 : World, w9 = more w6 (bs4 ++ bs5) kk5 := ⟨_, rfl⟩
  have c1 : w9.cell? ⟨g4, 0 + I, none⟩ = some (.int .i64 (ps.getD I 0)) := by rw [hw9]; exact HRP.out.app.get I (by rw [HPL.out]; exact hI)
  have c2 : w9.cell? ⟨g5, 0 + K, none⟩ = some (.int .i64 (qs.getD K 0)) := by rw [hw9]; exact HRQ.out.get K (by rw [HQL.out]; exact hK)
  have c3 : w9.cell? ⟨g, 0 + I, none⟩ = some (.int .i64 (xs.getD I 0)) := by rw [hw9]; exact HX6.out.more.get I (by rw [HXL.out]; exact hI)
  have c4 : w9.cell? ⟨g, 0 + K, none⟩ = some (.int .i64 (xs.getD K 0)) := by rw [hw9]; exact HX6.out.more.get K (by rw [HXL.out]; exact hK)
  have c5 : w9.cell? ⟨g1, 0 + I, none⟩ = some (.int .i64 (ys.getD I 0)) := by rw [hw9]; exact HY6.out.more.get I (by rw [HYL.out]; exact hI)
  have c6 : w9.cell? ⟨g1, 0 + K, none⟩ = some (.int .i64 (ys.getD K 0)) := by rw [hw9]; exact HY6.out.more.get K (by rw [HYL.out]; exact hK)
  have HM9 := Lib.hid (show Mor w w9 by rw [hw9]; exact HM6.out.more)
  rw [Nat.zero_add] at c1 c2 c3 c4 c5 c6
  obtain ⟨x1, x2⟩ := HXB.out I hI
  obtain ⟨x3, x4⟩ := HXB.out K hK
  obtain ⟨y1, y2⟩ := HYB.out I hI
  obtain ⟨y3, y4⟩ := HYB.out K hK
  obtain ⟨z1, z2⟩ := HPB.out I hI
  obtain ⟨z3, z4⟩ := HQB.out K hK
  generalize ps.getD I 0 = pI at *
  generalize qs.getD K 0 = qK at *
  generalize xs.getD I 0 = xI at *
  generalize xs.getD K 0 = xK at *
  generalize ys.getD I 0 = yI at *
  generalize ys.getD K 0 = yK at *
  go_wp2_with fail
  rw [← hw9]
  clear hw9
  have k1 : IntKind.i64.wrap (xI + xK) = xI + xK := IntWalk.i64_in _ (by omega)
  have k2 : IntKind.i64.wrap (yI + yK) = yI + yK := IntWalk.i64_in _ (by omega)
  have f1 : decide (xI + xK ≤ pI) = true := by simp; omega
  have f2 : decide (qK ≤ yI + yK) = true := by simp; omega
  go_quiet (fail)
  clear k1 k2
  go_wp2_with fail
  go_ret
  exact ⟨rfl, HM9.out.drewN.below⟩

set_option maxRecDepth 100000 in
set_option maxHeartbeats 6400000 in
theorem same_walk (w : World) (n : Int) (A : Option Addr) (len cap : Nat) (vs : List Int) (i k : Int) (N : Nat) (I0 K0 : Nat) (HRI : Hid (Ri w A vs)) (HLEN : Hid (vs.length = len))
    (n01 : (0 : Int) ≤ N) (n02 : (N : Int) < 200) (Hn0 : Hid (∀ w, Calls Try.prog 18 #[.int .i64 n, .int .i64 200] w fun e w' => e = .returned (.int .i64 (N : Int)) ∧ w = w'))
    (HI0 : Hid (∀ w, Calls Try.prog 18 #[.int .i64 i, .int .i64 len] w fun e w' => e = .returned (.int .i64 (I0 : Int)) ∧ w = w'))
    (HK0 : Hid (∀ w, Calls Try.prog 18 #[.int .i64 k, .int .i64 len] w fun e w' => e = .returned (.int .i64 (K0 : Int)) ∧ w = w'))
    (hl : lcode N vs = 0) (hI0 : I0 < len) (hK0 : K0 < len) (h2 : 2 ≤ len) (hcase : I0 = K0 ∨ (I0 ≠ K0 ∧ 1000000 < vs.getD I0 0 + vs.getD K0 0)) :
    Calls Try.prog 8 #[.int .i64 n, .slice A len cap, .int .i64 i, .int .i64 k] w fun e w' => e = .returned (.bool true) ∧ Below w.heap.size w w' := by
  obtain ⟨c1, c2, c3, c4, c5⟩ := lcode_zero hl
  have HD := Lib.hid (fun w (h : Ri w A vs) => deal_int 0 N N A len cap vs w rfl (by omega) (by omega) h HLEN.out hl)
  have HE := Lib.hid (fun w (h : Ri w A vs) => deal_int 2 N N A len cap vs w rfl (by omega) (by omega) h HLEN.out hl)
  have l2 : ¬ ((len : Int) < 2) := by omega
  have hz : (0 : Int) ≤ (I0 : Int) := by omega
  have hz2 : (0 : Int) ≤ (K0 : Int) := by omega
  have hb1 : (I0 : Int) < (len : Int) := by omega
  have hb2 : (K0 : Int) < (len : Int) := by omega
  obtain ⟨v1, v2⟩ := voteOk_get c2 I0
  obtain ⟨v3, v4⟩ := voteOk_get c2 K0
  have m40 : len ≤ 40 := by have := HLEN.out; omega
  clear hl c1 c2 c3 c4 c5
  go_enter Try.func8, Try.ntmps8
  go_wp2_with fail
  refine (deal_int 0 2 2 _ 2 2 [3, 3] _ rfl (by omega) (by omega) (Ri.of_row (row_lit [3, 3] (by simp) rfl)) rfl beg_code).mono ?_
  rintro e w1 ⟨xs0, g0, bs0, k0, rfl, rfl, hinv, hr⟩
  obtain rfl := beg hinv
  have HR := Lib.hid hr
  clear hinv hr
  go_wp2_with fail
  refine (equal_yes _ _ _ _ _ _ 2 [1, 1] _ (HR.out.alloc) (row_lit [1, 1] (by simp) rfl) rfl (by omega)).mono ?_
  rintro e w1 ⟨rfl, m0, rfl⟩
  clear HR
  go_wp2_with (first | (go_at_call 18; (with_reducible refine (Hn0.out _).mono ?_); rintro e w1 ⟨rfl, rfl⟩))
  refine (HD.out _ (HRI.out.mor (by repeat (first | exact Mor.refl _ | apply Mor.alloc | apply Mor.more | apply Mor.drewN | apply Mor.drew)))).mono ?_
  rintro e w1 ⟨xs, g, bs, kk, rfl, rfl, hinv, hr⟩
  rw [HLEN.out]
  clear hinv hr HD
  go_wp2_with fail
  refine (HE.out _ (HRI.out.mor (by repeat (first | exact Mor.refl _ | apply Mor.alloc | apply Mor.more | apply Mor.drewN | apply Mor.drew)))).mono ?_
  rintro e w1 ⟨ys, g1, bs1, kk1, rfl, rfl, hinv, hr⟩
  rw [HLEN.out]
  clear hinv hr HE
  have HRI2 := Lib.hid (show Ri (more ((more (w.alloc (.cells #[.int .i64 3, .int .i64 3] 3)) bs0 k0).alloc (.cells #[.int .i64 1, .int .i64 1] 3)) (bs ++ bs1) kk1) A vs from HRI.out.mor (by repeat (first | exact Mor.refl _ | apply Mor.alloc | apply Mor.more | apply Mor.drewN | apply Mor.drew)))
  have HM2 := Lib.hid (show Mor w (more ((more (w.alloc (.cells #[.int .i64 3, .int .i64 3] 3)) bs0 k0).alloc (.cells #[.int .i64 1, .int .i64 1] 3)) (bs ++ bs1) kk1) from (by repeat (first | exact Mor.refl _ | apply Mor.alloc | apply Mor.more | apply Mor.drewN | apply Mor.drew)))
  go_wp2_with (first | (go_at_call 18; (with_reducible refine (HI0.out _).mono ?_); rintro e w1 ⟨rfl, rfl⟩) | (go_at_call 18; (with_reducible refine (HK0.out _).mono ?_); rintro e w1 ⟨rfl, rfl⟩))
  generalize more ((more (w.alloc (.cells #[.int .i64 3, .int .i64 3] 3)) bs0 k0).alloc (.cells #[.int .i64 1, .int .i64 1] 3)) (bs ++ bs1) kk1 = w2 at *
  obtain ⟨x, hA, hxb, cI0⟩ := HRI2.out.at_ I0 (by rw [HLEN.out]; exact hI0)
  obtain ⟨x', hA', _, cK0⟩ := HRI2.out.at_ K0 (by rw [HLEN.out]; exact hK0)
  subst hA
  injection hA' with hA'
  subst hA'
  generalize vs.getD I0 0 = vI at *
  generalize vs.getD K0 0 = vK at *
  rcases hcase with hc | ⟨hc, hc2⟩
  · have e0 : ((I0 : Int) == (K0 : Int)) = true := by simp [hc]
    clear hc
    go_quiet (fail)
    go_wp2_with fail
    go_ret
    exact ⟨rfl, HM2.out.drewN.below⟩
  · have e0 : ((I0 : Int) == (K0 : Int)) = false := by simp; omega
    have kw : IntKind.i64.wrap (vI + vK) = vI + vK := IntWalk.i64_in _ (by omega)
    have f1 : decide (1000000 < vI + vK) = true := by simp; omega
    clear hc
    go_quiet (fail)
    clear kw
    go_wp2_with fail
    go_ret
    exact ⟨rfl, HM2.out.drewN.below⟩

set_option maxRecDepth 100000 in
set_option maxHeartbeats 3200000 in
theorem seatsJoin_walk (w : World) (n : Int) (wn : (Lit.int .i64 n).wf = true) (A : Option Addr) (len cap : Nat) (zs : List Int) (hz : IsRow .i64 w A len cap zs) (i : Int) (wi' : (Lit.int .i64 i).wf = true) (k : Int) (wk : (Lit.int .i64 k).wf = true) :
    Calls Try.prog 8 #[.int .i64 n, .slice A len cap, .int .i64 i, .int .i64 k] w fun e w' => e = .returned (.bool true) ∧ Below w.heap.size w w' := by
  obtain ⟨hri, hlen, hcap, hmax, hwf, hnil⟩ := Ri.of_isRow hz
  generalize zs.take len = vs at *
  have HRI := Lib.hid hri
  have HLEN := Lib.hid hlen
  have hml : (len : Int) ≤ 9223372036854775807 := by unfold maxLen at hmax; omega
  clear hri hz hwf hmax
  have n01 := wi_lo n 200 (by omega)
  have n02 := wi_hi n 200 (by omega)
  have Hn0 := Lib.hid (fun w => within_any n 200 w (by omega) (by omega))
  generalize wi n 200 = n0 at *
  obtain ⟨N, rfl⟩ := Int.eq_ofNat_of_zero_le n01
  by_cases hl : lcode N vs = 0
  · obtain ⟨c1, c2, c3, c4, c5⟩ := lcode_zero hl
    have m40 : len ≤ 40 := by have := HLEN.out; omega
    by_cases h2 : 2 ≤ len
    · have i1 := wi_lo i len (by omega)
      have i2 := wi_hi i len (by omega)
      have k1 := wi_lo k len (by omega)
      have k2 := wi_hi k len (by omega)
      obtain ⟨I0, hI0⟩ := Int.eq_ofNat_of_zero_le i1
      obtain ⟨K0, hK0⟩ := Int.eq_ofNat_of_zero_le k1
      have HI0 := Lib.hid (fun w => within_eq i len I0 w (by omega) (by omega) hI0)
      have HK0 := Lib.hid (fun w => within_eq k len K0 w (by omega) (by omega) hK0)
      by_cases hc : I0 = K0 ∨ 1000000 < vs.getD I0 0 + vs.getD K0 0
      · exact same_walk w n A len cap vs i k N I0 K0 HRI HLEN n01 n02 Hn0 HI0 HK0 hl (by omega) (by omega) h2 (by
          by_cases e : I0 = K0
          · exact .inl e
          · rcases hc with a | a
            · exact absurd a e
            · exact .inr ⟨e, a⟩)
      · have hne : I0 ≠ K0 := fun e => hc (.inl e)
        have hsm : vs.getD I0 0 + vs.getD K0 0 ≤ 1000000 := by
          by_cases a : 1000000 < vs.getD I0 0 + vs.getD K0 0
          · exact absurd (.inr a) hc
          · omega
        rcases Nat.lt_or_ge I0 K0 with hlt | hge
        · exact rest_lt w n A len cap vs i k N I0 K0 HRI HLEN hnil n01 n02 Hn0 HI0 HK0 hl hlt (by omega) hsm
        · exact rest_gt w n A len cap vs i k N K0 I0 HRI HLEN hnil n01 n02 Hn0 HI0 HK0 hl (by omega) (by omega) (by omega)
    · have HD := Lib.hid (fun w (h : Ri w A vs) => deal_int 0 N N A len cap vs w rfl (by omega) (by omega) h HLEN.out hl)
      have HE := Lib.hid (fun w (h : Ri w A vs) => deal_int 2 N N A len cap vs w rfl (by omega) (by omega) h HLEN.out hl)
      have l2 : (len : Int) < 2 := by omega
      clear hl c1 c2 c3 c4 c5 h2
      go_enter Try.func8, Try.ntmps8
      go_wp2_with fail
      refine (deal_int 0 2 2 _ 2 2 [3, 3] _ rfl (by omega) (by omega) (Ri.of_row (row_lit [3, 3] (by simp) rfl)) rfl beg_code).mono ?_
      rintro e w1 ⟨xs0, g0, bs0, k0, rfl, rfl, hinv, hr⟩
      obtain rfl := beg hinv
      have HR := Lib.hid hr
      clear hinv hr
      go_wp2_with fail
      refine (equal_yes _ _ _ _ _ _ 2 [1, 1] _ (HR.out.alloc) (row_lit [1, 1] (by simp) rfl) rfl (by omega)).mono ?_
      rintro e w1 ⟨rfl, m0, rfl⟩
      clear HR
      go_wp2_with (first | (go_at_call 18; (with_reducible refine (Hn0.out _).mono ?_); rintro e w1 ⟨rfl, rfl⟩))
      refine (HD.out _ (HRI.out.mor (by repeat (first | exact Mor.refl _ | apply Mor.alloc | apply Mor.more | apply Mor.drewN | apply Mor.drew)))).mono ?_
      rintro e w1 ⟨xs, g, bs, kk, rfl, rfl, hinv, hr⟩
      rw [HLEN.out]
      clear hinv hr HD
      go_wp2_with fail
      refine (HE.out _ (HRI.out.mor (by repeat (first | exact Mor.refl _ | apply Mor.alloc | apply Mor.more | apply Mor.drewN | apply Mor.drew)))).mono ?_
      rintro e w1 ⟨ys, g1, bs1, kk1, rfl, rfl, hinv, hr⟩
      rw [HLEN.out]
      clear hinv hr HE
      go_wp2_with fail
      go_ret
      exact ⟨ret_b (by first | rfl | (simp; done) | (simp; omega)), (Mor.below (by repeat (first | exact Mor.refl _ | apply Mor.alloc | apply Mor.more | apply Mor.drewN | apply Mor.drew)))⟩
  · have hd0 : dcode 0 N vs = lcode N vs := by unfold dcode; rw [if_neg (by omega)]
    have hd2 : dcode 2 N vs = lcode N vs := by unfold dcode; rw [if_neg (by omega)]
    have HD := Lib.hid (fun w (h : Ri w A vs) => deal_no 0 N A len cap vs w h HLEN.out (by rw [hd0]; exact hl))
    have HE := Lib.hid (fun w (h : Ri w A vs) => deal_no 2 N A len cap vs w h HLEN.out (by rw [hd2]; exact hl))
    rw [hd0] at HD
    rw [hd2] at HE
    clear hd0 hd2
    generalize lcode N vs = c at *
    have c0 : (c == 0) = false := by simp; omega
    go_enter Try.func8, Try.ntmps8
    go_wp2_with fail
    refine (deal_int 0 2 2 _ 2 2 [3, 3] _ rfl (by omega) (by omega) (Ri.of_row (row_lit [3, 3] (by simp) rfl)) rfl beg_code).mono ?_
    rintro e w1 ⟨xs0, g0, bs0, k0, rfl, rfl, hinv, hr⟩
    obtain rfl := beg hinv
    have HR := Lib.hid hr
    clear hinv hr
    go_wp2_with fail
    refine (equal_yes _ _ _ _ _ _ 2 [1, 1] _ (HR.out.alloc) (row_lit [1, 1] (by simp) rfl) rfl (by omega)).mono ?_
    rintro e w1 ⟨rfl, m0, rfl⟩
    clear HR
    go_wp2_with (first | (go_at_call 18; (with_reducible refine (Hn0.out _).mono ?_); rintro e w1 ⟨rfl, rfl⟩))
    refine (HD.out _ (HRI.out.mor (by repeat (first | exact Mor.refl _ | apply Mor.alloc | apply Mor.more | apply Mor.drewN | apply Mor.drew)))).mono ?_
    rintro e w1 ⟨rfl, rfl⟩
    go_wp2_with fail
    refine (HE.out _ (HRI.out.mor (by repeat (first | exact Mor.refl _ | apply Mor.alloc | apply Mor.more | apply Mor.drewN | apply Mor.drew)))).mono ?_
    rintro e w1 ⟨rfl, rfl⟩
    go_wp2_with fail
    go_ret
    exact ⟨ret_b (by first | rfl | (simp; done) | (simp; omega)), (Mor.below (by repeat (first | exact Mor.refl _ | apply Mor.alloc | apply Mor.more | apply Mor.drewN | apply Mor.drew)))⟩

end Go.Proofs.Ytmpcnipngepfgaa.seatsJoin
