/- The walk of talkeep.StockAll. -/
import Derived.Test.YtbjfmhncpfhdmaaStockJ
import Derived.BigRegion
namespace Go.Proofs.Ytbjfmhncpfhdmaa.stockAll
open Go.ChangeShapes Go.WideShapes Go.ChangeAt Go.RowKit Stb
set_option linter.unusedVariables false

theorem beg_m : mvc [(2, 10), (2, 30), (-3, 0)] = 0 := by decide
theorem beg_f : fifoS [(2, 10), (2, 30), (-3, 0)] 3 = some ([(1, 15)], [25]) := by decide
theorem wd_bd {xs : List Pr} (h : ∀ i, i < xs.length → okM (ge xs i)) {k : Nat} (hk : k ≤ xs.length) : -1000000 * (k : Int) ≤ cwd xs k ∧ cwd xs k ≤ 1000000 * k ∧ 0 ≤ kwd xs k ∧ kwd xs k ≤ 1000000000000 * k := by
  induction k with
  | zero => simp [cwd, kwd]
  | succ k ih =>
    obtain ⟨h1, h2, h3, h4⟩ := ih (by omega)
    have := h k (by omega)
    unfold okM at this
    show -1000000 * ((k + 1 : Nat) : Int) ≤ cwd xs k + (ge xs k).1 ∧ cwd xs k + (ge xs k).1 ≤ 1000000 * ((k + 1 : Nat) : Int) ∧ 0 ≤ kwd xs k + (ge xs k).2 ∧ kwd xs k + (ge xs k).2 ≤ 1000000000000 * ((k + 1 : Nat) : Int)
    omega

theorem sum_nn {xs : List Int} (h : ∀ x ∈ xs, 0 ≤ x) : 0 ≤ xs.sum := by
  induction xs with
  | nil => simp
  | cons y ys ih =>
    have := h y (List.mem_cons_self)
    have := ih fun z hz => h z (List.mem_cons_of_mem _ hz)
    rw [List.sum_cons]; omega
theorem le_sum {xs : List Int} (h : ∀ x ∈ xs, 0 ≤ x) {x : Int} (hx : x ∈ xs) : x ≤ xs.sum := by
  induction xs with
  | nil => cases hx
  | cons y ys ih =>
    have h1 := h y (List.mem_cons_self)
    have h2 := sum_nn fun z hz => h z (List.mem_cons_of_mem _ hz)
    rw [List.sum_cons]
    rcases List.mem_cons.1 hx with rfl | hx
    · omega
    · have := ih (fun z hz => h z (List.mem_cons_of_mem _ hz)) hx; omega

theorem row_cells {w : World} {A : Option Addr} {xs : List Int} (h : Ri w A xs) : ∀ ad, A = some ad → ∀ j u, (xs.map (Value.int .i64))[j]? = some u → w.cell? (ad.add j) = some u := by
  intro ad e j u hu
  rw [List.getElem?_map] at hu
  have hj : j < xs.length := by
    rcases Nat.lt_or_ge j xs.length with h | h
    · exact h
    · rw [List.getElem?_eq_none h] at hu; cases hu
  obtain ⟨x, hx, _, hc⟩ := h.at_ j hj
  rw [e] at hx
  injection hx with hx
  subst hx
  rw [hc, List.getD_eq_getElem?_getD, List.getElem?_eq_getElem hj]
  rw [List.getElem?_eq_getElem hj] at hu
  exact hu
theorem row_one (xs : List Int) : ∀ u ∈ xs.map (Value.int .i64), u.oneCell' = true := by
  intro u hu
  obtain ⟨x, _, rfl⟩ := List.mem_map.1 hu
  rfl

set_option maxRecDepth 100000 in
set_option maxHeartbeats 6400000 in
theorem stockAll_walk (w : World) (A : Option Addr) (len cap : Nat) (xs : List Pr) (hp : IsPr w A len cap xs) :
    Calls Try.prog 4 #[.slice A len cap] w fun e w' => e = .returned (.bool true) ∧ Below w.heap.size w w' := by
  obtain ⟨i0, hi, hz0, hz1, hz2⟩ := info_parts info_int'
  have HRP := Lib.hid hp.pi
  have HNP := Lib.hid hp.length
  have HMXP := Lib.hid (Nat.le_trans hp.le hp.max)
  clear hp
  by_cases hc : fifoc xs = 0
  · obtain ⟨c1, s, hs⟩ := fifoc_zero hc
    obtain ⟨t, ht⟩ := fifoc_mean hc
    obtain ⟨c2, c3⟩ := (mvc_iff xs).1 c1
    have l40 : len ≤ 40 := by have := HNP.out; omega
    have hF := fifoS_ok c3 (Nat.le_refl _) hs
    have hM := meanS_ok c3 (Nat.le_refl _) ht
    have HOk := Lib.hid c3
    have HFf := Lib.hid (fun w' (h : Mor w w') => fifo_ok A len cap xs s w' (HRP.out.mor h) HNP.out c1 (by rw [← HNP.out]; exact hs))
    have HMm := Lib.hid (fun w' (h : Mor w w') => mean_ok A len cap xs t w' (HRP.out.mor h) HNP.out c1 (by rw [← HNP.out]; exact ht))
    rw [HNP.out] at hF hM
    clear hc c1 hs ht c2 c3
    go_enter Try.func4, Try.ntmps4
    go_wp2_with fail
    refine (fifo_ok _ 3 3 [(2, 10), (2, 30), (-3, 0)] ([(1, 15)], [25]) _ (pl_new [(2, 10), (2, 30), (-3, 0)] rfl rfl) rfl beg_m beg_f).mono ?_
    rintro e w3 ⟨u, v, rfl, hm, hu, hv⟩
    obtain ⟨Au, cu, rfl, -, -, -⟩ := own_shape hu
    obtain ⟨Av, cv, rfl, -, -, -⟩ := own_shape hv
    have HMa := Lib.hid (show Mor w w3 from Mor.trans' (by repeat (first | exact Mor.refl _ | apply Mor.alloc)) hm)
    have HU := Lib.hid (own_ri hu)
    have HV := Lib.hid (own_pl hv)
    clear hm hu hv
    go_wp2_with fail
    refine (equal_ri Au _ 1 cu 1 [25] _ (HU.out.mor (Mor.refl _).alloc) (Ri.of_row (row_lit [25] rfl rfl)) rfl (by omega)).mono ?_
    rintro e w4 ⟨rfl, hm⟩
    have HV4 := Lib.hid (HV.out.mor ((Mor.refl _).alloc.trans' hm))
    have HMb := Lib.hid (HMa.out.alloc.trans' hm)
    clear hm HU HMa
    go_wp2_with fail
    refine (equal_lot Av _ 1 cv 1 [(1, 15)] _ (HV4.out.mor (Mor.refl _).alloc) (pl_new [(1, 15)] rfl rfl) rfl (by omega)).mono ?_
    rintro e w5 ⟨rfl, hm⟩
    have HM5 := Lib.hid (HMb.out.alloc.trans' hm)
    clear hm HMb HV HV4
    go_wp2_with fail
    refine (HFf.out _ HM5.out).mono ?_
    rintro e w6 ⟨u6, v6, rfl, hm, hu, hv⟩
    obtain ⟨A6, c6, rfl, -, -, s6⟩ := own_shape hu
    obtain ⟨B6, d6, rfl, -, -, -⟩ := own_shape hv
    have HM6 := Lib.hid (HM5.out.trans' hm)
    have HX6 := Lib.hid (own_ri hu)
    have HL6 := Lib.hid (own_pl hv)
    have HS6 := Lib.hid (show A6 = none → s.2.length = 0 from fun h => by
      rcases Nat.eq_zero_or_pos s.2.length with h0 | h0
      · exact h0
      · obtain ⟨g, hg, _⟩ := s6 h0; rw [h] at hg; cases hg)
    clear hm hu hv s6 HFf
    go_wp2_with fail
    refine (HMm.out _ HM6.out).mono ?_
    rintro e w7 ⟨u7, rfl, hm, hu⟩
    obtain ⟨A7, c7, rfl, -, -, s7⟩ := own_shape hu
    have HM7 := Lib.hid (HM6.out.trans' hm)
    have HM67 := Lib.hid hm
    have HX7 := Lib.hid (HX6.out.mor hm)
    have HL7 := Lib.hid (HL6.out.mor hm)
    have HY7 := Lib.hid (own_ri hu)
    have HS7 := Lib.hid (show A7 = none → t.2.2.length = 0 from fun h => by
      rcases Nat.eq_zero_or_pos t.2.2.length with h0 | h0
      · exact h0
      · obtain ⟨g, hg, _⟩ := s7 h0; rw [h] at hg; cases hg)
    clear hm hu s7 HMm HX6
    go_wp2_with fail
    have HCo := Lib.hid (fun w' (h : Mor w6 w') => cost_any B6 s.1.length d6 s.1 w' (HL6.out.mor h) rfl (by have := hF.len; omega) hF.ok)
    have hL0 := (Blk.new w7 39 #[.int .i64 t.1, .int .i64 t.2.1]).alloc (.cells #[.int .i64 0, .int .i64 0] 39)
    have hI0 := Blk.new (w7.alloc (.cells #[.int .i64 t.1, .int .i64 t.2.1] 39)) 39 #[.int .i64 0, .int .i64 0]
    rw [← size_al] at hI0
    have hM0 := ((Mor.refl w7).alloc (o := .cells #[.int .i64 t.1, .int .i64 t.2.1] 39)).alloc (o := .cells #[.int .i64 0, .int .i64 0] 39)
    obtain ⟨bL, hbL⟩ : ∃ b, b = w7.heap.size := ⟨_, rfl⟩
    rw [← hbL] at hL0 hI0 ⊢
    obtain ⟨bI, hbI⟩ : ∃ b, b = bL + 1 := ⟨_, rfl⟩
    rw [← hbI] at hI0 ⊢
    generalize (w7.alloc (.cells #[.int .i64 t.1, .int .i64 t.2.1] 39)).alloc (.cells #[.int .i64 0, .int .i64 0] 39) = w8 at *
    have HL0 := Lib.hid hL0
    have HI0 := Lib.hid hI0
    have HM8 := Lib.hid (HM7.out.trans' hM0)
    have HX8 := Lib.hid (HX7.out.mor hM0)
    have HY8 := Lib.hid (HY7.out.mor hM0)
    have HP8 := Lib.hid (HRP.out.mor HM8.out)
    have HK8 := Lib.hid (show Mor w6 w8 from HM67.out.trans' hM0)
    have HbL := Lib.hid (show w7.heap.size ≤ bL by omega)
    have HbI := Lib.hid (show bL < bI by omega)
    have HbW := Lib.hid (show w.heap.size ≤ bI by have := HM7.out.below.size; omega)
    have HM78 := Lib.hid hM0
    have Hb7 := Lib.hid (show w7.heap.size ≤ bI by omega)
    clear hL0 hI0 hM0 hbL hbI HM7 HL7
    go_loopw [13, 72] (fun o i wr => ∃ (k : Nat), k ≤ len ∧ i = .int .i64 k ∧ o = .int .i64 (negs xs k) ∧ Hid (Blk wr bI 39 #[.int .i64 (cwd xs k), .int .i64 (kwd xs k)]) ∧ Hid (On bI w8 wr)) (fun _ i _ => len - (intOf i).toNat)
    case atStart => exact ⟨0, Nat.zero_le _, rfl, rfl, HI0, Lib.hid (On.refl _ _)⟩
    case round =>
      obtain ⟨k, hk, rfl, rfl, HBk, HO2⟩ := hrel
      have HMr := Lib.hid (mor_on HM8.out HO2.out HbW.out)
      by_cases hlt : k < len
      · have hki : (k : Int) < (len : Int) := by omega
        have hk0 : (0 : Int) ≤ (k : Int) := by omega
        obtain ⟨x, hA, hxb, c1, c2⟩ := (HRP.out.mor HMr.out).cells k (by rw [HNP.out]; exact hlt)
        subst hA
        have hz : bI < wr.heap.size := HBk.out.lt
        have hv1 : wr.cell? ⟨bI, 0, none⟩ = some (.int .i64 (cwd xs k)) := by rw [HBk.out.cell]; rfl
        have hv2 : wr.cell? ⟨bI, 1, none⟩ = some (.int .i64 (kwd xs k)) := by rw [HBk.out.cell]; rfl
        have hf1 : wr.frozen? ⟨bI, 0, none⟩ = false := HBk.out.frozen _
        have hf2 : wr.frozen? ⟨bI, 1, none⟩ = false := HBk.out.frozen _
        obtain ⟨b1, b2, b3, b4⟩ := wd_bd HOk.out (k := k) (by rw [HNP.out]; exact hk)
        have HOkk := HOk.out k (by rw [HNP.out]; exact hlt)
        unfold okM at HOkk
        have hb5 : -1000000 ≤ (ge xs k).1 ∧ (ge xs k).1 ≤ 1000000 ∧ 0 ≤ (ge xs k).2 ∧ (ge xs k).2 ≤ 1000000000000 := by omega
        obtain ⟨o1, o2, o3, o4⟩ := hb5
        clear HOkk
        have hng : negs xs k ≤ k := negs_le xs k
        have HNg := Lib.hid (show negs xs (k + 1) = negs xs k + if (ge xs k).1 < 0 then 1 else 0 from rfl)
        have HB2 := Lib.hid (fun o => show Blk (((wr.setCell ⟨bI, 0, none⟩ (.int .i64 (cwd xs k + (ge xs k).1))).setCell ⟨bI, 1, none⟩ (.int .i64 (kwd xs k + (ge xs k).2))).alloc o) bI 39 #[.int .i64 (cwd xs (k + 1)), .int .i64 (kwd xs (k + 1))] from 
          ((HBk.out.set_ 0 _).set_ 1 _).alloc o)
        have HO3 := Lib.hid (fun o => show On bI w8 (((wr.setCell ⟨bI, 0, none⟩ (.int .i64 (cwd xs k + (ge xs k).1))).setCell ⟨bI, 1, none⟩ (.int .i64 (kwd xs k + (ge xs k).2))).alloc o) from ((HO2.out.setCell _).setCell _).mor (Mor.refl _).alloc)
        generalize (ge xs k).1 = d at *
        generalize (ge xs k).2 = a at *
        generalize cwd xs k = C at *
        generalize kwd xs k = K at *
        by_cases hd : d < 0
        · have HNg2 := Lib.hid (show negs xs (k + 1) = negs xs k + 1 by rw [HNg.out, if_pos hd])
          generalize negs xs k = q at *
          go_wp2
          go_roundw
          case rel => exact ⟨k + 1, by omega, by go_num, by rw [HNg2.out]; go_num, Lib.hid (HB2.out _), Lib.hid (HO3.out _)⟩
          case measure => simp [intOf]; omega
        · have HNg2 := Lib.hid (show negs xs (k + 1) = negs xs k by rw [HNg.out, if_neg hd]; rfl)
          generalize negs xs k = q at *
          go_wp2
          go_roundw
          case rel => exact ⟨k + 1, by omega, by go_num, by rw [HNg2.out], Lib.hid (HB2.out _), Lib.hid (HO3.out _)⟩
          case measure => simp [intOf]; omega
      · obtain rfl : k = len := by omega
        have hn1 : s.2.length = negs xs k := hF.outs
        have hn2 : t.2.2.length = negs xs k := hM.outs
        have hng : negs xs k ≤ k := negs_le xs k
        obtain ⟨b1, b2, b3, b4⟩ := wd_bd HOk.out (k := k) (by rw [HNP.out]; exact hk)
        obtain ⟨d1, d2, d3, d4⟩ := lots_bd hF.ok
        have e1 := hF.cnt
        have e2 := hF.cst
        have e3 := hM.cnt
        have e4 := hM.cst
        have e5 := hM.k0
        have e6 := hM.nil
        rw [e3] at e6
        have e7 := hM.c0
        rw [e3] at e7
        have z1 := sum_nn hF.nn
        have z2 := sum_nn hM.nn
        have hsb : ∀ x ∈ s.2, -1000000000000000 ≤ x ∧ x ≤ 1000000000000000 := fun x hx => by
          have := hF.nn x hx; have := le_sum hF.nn hx; omega
        have htb : ∀ x ∈ t.2.2, -1000000000000000 ≤ x ∧ x ≤ 1000000000000000 := fun x hx => by
          have := hM.nn x hx; have := le_sum hM.nn hx; omega
        have hc0 : cst s.1 = 0 ∨ cnt s.1 ≠ 0 := by
          by_cases h0 : cnt s.1 = 0
          · have : s.1.length = 0 := by omega
            left
            rw [List.eq_nil_of_length_eq_zero this]; rfl
          · exact .inr h0
        have hBL := HO2.out.blk HL0.out (show bL ≠ bI by have := HbI.out; omega)
        have HBL := Lib.hid hBL
        have HN7 := Lib.hid (mor_on HM78.out HO2.out Hb7.out)
        have HCo' := Lib.hid (HCo.out wr (HM67.out.trans' HN7.out))
        have HXr := Lib.hid (HX7.out.mor HN7.out)
        have HYr := Lib.hid (HY7.out.mor HN7.out)
        have HBI := HBk
        have HMr := Lib.hid (mor_on HM8.out HO2.out HbW.out)
        clear hBL
        go_wp2_with fail
        refine HCo'.out.mono ?_
        rintro e w9 ⟨rfl, hm⟩
        go_wp2_with fail
        have hmz := hm.alloc (o := .cells #[.int .i64 (cwd xs k), .int .i64 (cst s.1)] 39)
        have hbz := Blk.new w9 39 #[.int .i64 (cwd xs k), .int .i64 (cst s.1)]
        obtain ⟨bC, hbC⟩ : ∃ b, b = w9.heap.size := ⟨_, rfl⟩
        rw [← hbC] at hbz ⊢
        obtain ⟨wz, hwz⟩ : ∃ W, W = w9.alloc (.cells #[.int .i64 (cwd xs k), .int .i64 (cst s.1)] 39) := ⟨_, rfl⟩
        rw [← hwz] at hmz hbz ⊢
        have HMz := Lib.hid (HMr.out.trans' hmz)
        have hzL := HBL.out.below hmz.below HBL.out.lt
        have hzI := HBI.out.below hmz.below HBI.out.lt
        have HXz := Lib.hid (HXr.out.mor hmz)
        have HYz := Lib.hid (HYr.out.mor hmz)
        have cL0 : wz.cell? ⟨bL, 0, none⟩ = some (.int .i64 (cwd xs k)) := by rw [hzL.cell, e3]; rfl
        have cL1 : wz.cell? ⟨bL, 1, none⟩ = some (.int .i64 t.2.1) := by rw [hzL.cell]; rfl
        have cI0 : wz.cell? ⟨bI, 0, none⟩ = some (.int .i64 (cwd xs k)) := by rw [hzI.cell]; rfl
        have cI1 : wz.cell? ⟨bI, 1, none⟩ = some (.int .i64 (kwd xs k)) := by rw [hzI.cell]; rfl
        have cC0 : wz.cell? ⟨bC, 0, none⟩ = some (.int .i64 (cwd xs k)) := by rw [hbz.cell]; rfl
        have cC1 : wz.cell? ⟨bC, 1, none⟩ = some (.int .i64 (cst s.1)) := by rw [hbz.cell]; rfl
        have lL := hzL.lt
        have lI := hzI.lt
        have lC := hbz.lt
        have HSx := Lib.hid (fun q => sum_ri A6 (negs xs k) c6 s.2 (wz.drewN q) HXz.out hn1 hsb (by omega))
        have HSy := Lib.hid (fun q => sum_ri A7 (negs xs k) c7 t.2.2 (wz.drewN q) HYz.out hn2 htb (by omega))
        have HNN := Lib.hid (And.intro hF.nn hM.nn)
        have HLN := Lib.hid (And.intro hn1 hn2)
        clear hm hmz hbz hwz hbC hzL hzI HCo HCo' hF hM hsb htb hn1 hn2 HN7 HXr HYr HBL HBI HBk HI0 HL0 e3
        generalize negs xs k = n at *
        generalize cwd xs k = C at *
        generalize kwd xs k = K at *
        generalize cst s.1 = L at *
        generalize t.2.1 = T at *
        generalize s.2.sum = X at *
        generalize t.2.2.sum = Y at *
        go_quiet (first | (go_at_call 19; (with_reducible exact quiet_eq (HSx.out _))) | (go_at_call 19; (with_reducible exact quiet_eq (HSy.out _))))
        have HO0 := Lib.hid (fun q => show World.ownsRow ((wz.alloc (.cells #[.int .i64 L, .int .i64 T] 3)).drewN q) wz.heap.size 3 1 (.slice (some ⟨wz.heap.size, 0, none⟩) 2 2) 2 [.int .i64 L, .int .i64 T] from ⟨rfl, .inr ⟨wz.heap.size, 2, _, rfl, Nat.le_refl _, heap_alloc_new _ _, Nat.le_refl _, by unfold maxLen; omega, rfl, rfl⟩⟩)
        have HRx := Lib.hid (fun w' (h : Mor wz w') => row_cells (HXz.out.mor h))
        have HRy := Lib.hid (fun w' (h : Mor wz w') => row_cells (HYz.out.mor h))
        go_wp2_with (at_builtin; refine wpList_append_opt rfl _ _ 22 rfl wz.heap.size 3 i0 (.int .i64 0) 1 8 Try.underlying22 hi hz0 hz1 hz2 rfl (by decide) wz.heap.size 2 2 [.int .i64 L, .int .i64 T] rfl (HO0.out _) A6 n c6 (s.2.map (Value.int .i64)) rfl (fun h => by rw [← HLN.out.1]; exact HS6.out h) (by rw [List.length_map, HLN.out.1, Nat.mul_one]) ?_ ?_ ?_ ?_ ?_ ?_ ?_)
        case refine_7 =>
          intro g1 k1 w1 ho1 hg1
          have HO1 := Lib.hid ho1
          have HB1 := Lib.hid (show Below wz.heap.size wz w1 from (show Below wz.heap.size wz ((wz.alloc (.cells #[.int .i64 L, .int .i64 T] 3)).drewN nq) from bel_dN ((Below.refl _ _).alloc (Nat.le_refl _) _)).grown hg1 (by simp) (fun j hj => by simp at hj; omega))
          clear ho1 hg1
          go_wp2_with (at_builtin; refine wpList_append_opt rfl _ _ 22 rfl wz.heap.size 3 i0 (.int .i64 0) 1 8 Try.underlying22 hi hz0 hz1 hz2 rfl (by decide) g1 (2 + n) k1 _ rfl HO1.out A7 n c7 (t.2.2.map (Value.int .i64)) rfl (fun h => by rw [← HLN.out.2]; exact HS7.out h) (by rw [List.length_map, HLN.out.2, Nat.mul_one]) ?_ ?_ ?_ ?_ ?_ ?_ ?_)
          case refine_7 =>
            intro g2 k2 w2 ho2 hg2
            have HM2 := Lib.hid (Mor.of_below (HB1.out.grown hg2 HB1.out.size (fun j hj => by
              simp at hj
              obtain ⟨_, _, hs, _, _, hb⟩ := own_shape HO1.out
              obtain ⟨g, hg, hb⟩ := hb (by omega)
              injection hs with hs
              rw [hs.symm] at hg
              injection hg with hg
              injection hg with hg
              omega)))
            have HR2 := Lib.hid (show Ri w2 (some ⟨g2, 0, none⟩) ([L, T] ++ s.2 ++ t.2.2) from own_ri (n := 2 + n + n) (c := k2) (by rw [List.map_append, List.map_append]; exact ho2))
            have HA := Lib.hid (show ∀ x ∈ [L, T] ++ s.2 ++ t.2.2, 0 ≤ x from fun x hx => by
              rw [List.mem_append, List.mem_append] at hx
              rcases hx with (hx | hx) | hx
              · simp at hx; omega
              · exact HNN.out.1 x hx
              · exact HNN.out.2 x hx)
            have HL2 := Lib.hid (show ([L, T] ++ s.2 ++ t.2.2).length = 2 + n + n by rw [List.length_append, List.length_append, HLN.out.1, HLN.out.2]; rfl)
            obtain ⟨q, hq⟩ : ∃ q, q = 2 + n + n := ⟨_, rfl⟩
            have hq82 : q ≤ 82 := by omega
            have hmB := HM2.out.below
            have cI0' := (hmB.cell (p := ⟨bI, 0, none⟩) lI).trans cI0
            have cL1' := (hmB.cell (p := ⟨bL, 1, none⟩) lL).trans cL1
            have cC1' := (hmB.cell (p := ⟨bC, 1, none⟩) lC).trans cC1
            have lI' : bI < w2.heap.size := by have := hmB.size; omega
            have lL' : bL < w2.heap.size := by have := hmB.size; omega
            have lC' : bC < w2.heap.size := by have := hmB.size; omega
            rw [← hq] at HL2 ⊢
            have HMw := Lib.hid (HMz.out.trans' HM2.out)
            clear ho2 hg2 hmB cI0 cI1 cL0 cL1 cC0 cC1 HSx HSy HRx HRy HXz HYz HO0 HO1 HB1 HM2 hq
            generalize [L, T] ++ s.2 ++ t.2.2 = ys at *
            go_wp2_with fail
            go_loopw [154] (fun i wr => ∃ j : Nat, j ≤ q ∧ i = .int .i64 j ∧ wr = w2) (fun i _ => q - (intOf i).toNat)
            case atStart => exact ⟨0, Nat.zero_le _, rfl, rfl⟩
            case round =>
              obtain ⟨j, hj, rfl, rfl⟩ := hrel
              by_cases hjq : j < q
              · have hji : (j : Int) < (q : Int) := by omega
                have hj0 : (0 : Int) ≤ (j : Int) := by omega
                obtain ⟨x, hA, hxb, c1⟩ := HR2.out.at_ j (by rw [HL2.out]; exact hjq)
                injection hA with hA
                subst hA
                rw [adds, Nat.zero_add] at c1
                have hnn : 0 ≤ ys.getD j 0 := by
                  rw [List.getD_eq_getElem?_getD, List.getElem?_eq_getElem (by rw [HL2.out]; exact hjq)]
                  exact HA.out _ (List.getElem_mem _)
                have hnn2 : ¬ ys.getD j 0 < 0 := by omega
                generalize ys.getD j 0 = y at *
                go_wp2_with fail
                go_roundw
                case rel => exact ⟨j + 1, by omega, by go_num, trivial⟩
                case measure => simp [intOf]; omega
              · obtain rfl : j = q := by omega
                by_cases hC : 0 < C
                · go_wp2_with fail
                  go_ret
                  exact ⟨rfl, HMw.out.below⟩
                · have hC0 : C = 0 := by omega
                  have hT0 : T = 0 := e6 hC0
                  have hL0 : L = 0 := by omega
                  subst hC0 hT0 hL0
                  go_wp2_with fail
                  go_ret
                  exact ⟨rfl, HMw.out.below⟩
          all_goals first
            | exact HRy.out _ (Mor.of_below HB1.out)
            | exact row_one _
            | (unfold maxLen; omega)
            | omega
            | exact HB1.out.size
        all_goals first
          | exact HRx.out _ (by repeat (first | exact Mor.refl _ | apply Mor.alloc | apply Mor.more | apply Mor.drewN | apply Mor.drew))
          | exact row_one _
          | (unfold maxLen; omega)
          | omega
          | simp
  · have HNf := Lib.hid (fun w' (h : Mor w w') => fifo_no A len cap xs w' (HRP.out.mor h) HNP.out HMXP.out hc)
    have HNm := Lib.hid (fun w' (h : Mor w w') => mean_no A len cap xs w' (HRP.out.mor h) HNP.out HMXP.out hc)
    have hcb : (fifoc xs == 0) = false := by simpa using hc
    generalize fifoc xs = c at *
    have hcb2 : (c != 0) = true := by simpa using hc
    clear hc hcb
    go_enter Try.func4, Try.ntmps4
    go_wp2_with fail
    refine (fifo_ok _ 3 3 [(2, 10), (2, 30), (-3, 0)] ([(1, 15)], [25]) _ (pl_new [(2, 10), (2, 30), (-3, 0)] rfl rfl) rfl beg_m beg_f).mono ?_
    rintro e w3 ⟨u, v, rfl, hm, hu, hv⟩
    obtain ⟨Au, cu, rfl, -, -, -⟩ := own_shape hu
    obtain ⟨Av, cv, rfl, -, -, -⟩ := own_shape hv
    have HMa := Lib.hid (show Mor w w3 from Mor.trans' (by repeat (first | exact Mor.refl _ | apply Mor.alloc)) hm)
    have HU := Lib.hid (own_ri hu)
    have HV := Lib.hid (own_pl hv)
    clear hm hu hv
    go_wp2_with fail
    refine (equal_ri Au _ 1 cu 1 [25] _ (HU.out.mor (Mor.refl _).alloc) (Ri.of_row (row_lit [25] rfl rfl)) rfl (by omega)).mono ?_
    rintro e w4 ⟨rfl, hm⟩
    have HV4 := Lib.hid (HV.out.mor ((Mor.refl _).alloc.trans' hm))
    have HMb := Lib.hid (HMa.out.alloc.trans' hm)
    clear hm HU HMa
    go_wp2_with fail
    refine (equal_lot Av _ 1 cv 1 [(1, 15)] _ (HV4.out.mor (Mor.refl _).alloc) (pl_new [(1, 15)] rfl rfl) rfl (by omega)).mono ?_
    rintro e w5 ⟨rfl, hm⟩
    have HM5 := Lib.hid (HMb.out.alloc.trans' hm)
    clear hm HMb HV HV4
    go_wp2_with fail
    refine (HNf.out _ HM5.out).mono ?_
    rintro e w6 ⟨rfl, hm⟩
    have HM6 := Lib.hid (HM5.out.trans' hm)
    clear hm
    go_wp2_with fail
    refine (HNm.out _ HM6.out).mono ?_
    rintro e w7 ⟨rfl, hm⟩
    have HM7 := Lib.hid (HM6.out.trans' hm)
    clear hm
    go_wp2_with fail
    try go_quiet (fail)
    try go_wp2_with fail
    go_ret
    exact ⟨by simp, (show Mor w _ by repeat (first | exact HM7.out | apply Mor.alloc | apply Mor.more | apply Mor.drewN | apply Mor.drew)).below⟩

end Go.Proofs.Ytbjfmhncpfhdmaa.stockAll
