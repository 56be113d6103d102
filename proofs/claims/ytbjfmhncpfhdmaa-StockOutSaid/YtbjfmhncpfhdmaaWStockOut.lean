/- The walk of talkeep.StockOut. -/
import Derived.Test.YtbjfmhncpfhdmaaStockH
import Derived.BigRegion
namespace Go.Proofs.Ytbjfmhncpfhdmaa.stockOut
open Go.ChangeShapes Go.WideShapes Go.ChangeAt Go.RowKit Stb
set_option linter.unusedVariables false

theorem info_move : (Try.prog.info? 36).map (fun i => (i.zero, i.size, i.bytes)) = some (some (.agg #[.int .i64 0, .int .i64 0]), 2, 16) := by kernel_rfl
theorem beg_m : mvc [(3, 10), (-1, 0), (-2, 0)] = 0 := by decide
theorem beg_f : fifoS [(3, 10), (-1, 0), (-2, 0)] 3 = some ([], [3, 7]) := by decide
/-- what is left behind k of n pieces that cost c -/
def lots2 (n c k : Int) : List Pr := if n ≤ k then [] else [(n - k, c - c * k / n)]
theorem part_all (n c : Int) (h : 1 ≤ n) : c * n / n = c := Int.mul_ediv_cancel _ (by omega)
theorem fifo2 (n c k : Int) (h1 : 1 ≤ n) (h2 : 1 ≤ k) (h3 : k ≤ n) : fifoS [(n, c), (-k, 0)] 2 = some (lots2 n c k, [c * k / n]) := by
  show ((some ([], [])).bind fun s => fstep s (n, c)).bind (fun s => fstep s (-k, 0)) = _
  have e1 : (some (([] : List Pr), ([] : List Int))).bind (fun s => fstep s (n, c)) = some ([(n, c)], []) := by
    show fstep ([], []) (n, c) = _
    unfold fstep; rw [if_pos (by simp only; omega)]; rfl
  rw [e1]
  show fstep ([(n, c)], []) (-k, 0) = _
  unfold fstep
  rw [if_neg (by simp only; omega)]
  simp only [Int.neg_neg]
  unfold takeF lots2
  rw [if_neg (by omega)]
  by_cases h : n ≤ k
  · obtain rfl : k = n := by omega
    rw [if_pos (Int.le_refl _), if_pos (Int.le_refl _), part_all _ _ h1]
    unfold takeF
    rw [if_neg (by omega)]
    simp
  · rw [if_neg h, if_neg h]
    simp
theorem fifo3 (n c k : Int) (h1 : 1 ≤ n) (h2 : 1 ≤ k) (h3 : k < n) : fifoS [(n, c), (-k, 0), (k - n, 0)] 3 = some ([], [c * k / n, c - c * k / n]) := by
  have e : fifoS [(n, c), (-k, 0), (k - n, 0)] 2 = some (lots2 n c k, [c * k / n]) := fifo2 n c k h1 h2 (by omega)
  show (fifoS [(n, c), (-k, 0), (k - n, 0)] 2).bind (fun s => fstep s (k - n, 0)) = _
  rw [e]
  show fstep (lots2 n c k, [c * k / n]) (k - n, 0) = _
  unfold fstep lots2
  rw [if_neg (by simp only; omega), if_neg (by omega)]
  simp only
  rw [show -(k - n) = n - k by omega]
  unfold takeF
  rw [if_neg (by omega), if_pos (by simp only; omega)]
  simp only [Int.sub_self]
  unfold takeF
  rw [if_neg (by omega)]
  simp
theorem mean2 (n c k : Int) (h1 : 1 ≤ n) (h2 : 1 ≤ k) (h3 : k ≤ n) : meanS [(n, c), (-k, 0)] 2 = some (n - k, c - mcost n c k, [mcost n c k]) := by
  have e1 : meanS [(n, c), (-k, 0)] 1 = some (n, c, []) := by
    show mstep (0, 0, []) (n, c) = _
    unfold mstep; rw [if_pos (by simp only; omega)]; simp
  show (meanS [(n, c), (-k, 0)] 1).bind (fun s => mstep s (-k, 0)) = _
  rw [e1]
  show mstep (n, c, []) (-k, 0) = _
  unfold mstep
  rw [if_neg (by simp only; omega), if_neg (by simp only; omega)]
  simp only [Int.neg_neg]
  rw [show n + -k = n - k by omega]; rfl
theorem mean3 (n c k : Int) (h0 : 0 ≤ c) (h1 : 1 ≤ n) (h2 : 1 ≤ k) (h3 : k < n) : meanS [(n, c), (-k, 0), (k - n, 0)] 3 = some (0, 0, [mcost n c k, c - mcost n c k]) := by
  have e : meanS [(n, c), (-k, 0), (k - n, 0)] 2 = some (n - k, c - mcost n c k, [mcost n c k]) := mean2 n c k h1 h2 (by omega)
  have hb := mcost_bd n c k h1 h0 (by omega) (by omega)
  have ha := mcost_all (n - k) (c - mcost n c k) (by omega) (by omega)
  show (meanS [(n, c), (-k, 0), (k - n, 0)] 2).bind (fun s => mstep s (k - n, 0)) = _
  rw [e]
  show mstep (n - k, c - mcost n c k, [mcost n c k]) (k - n, 0) = _
  unfold mstep
  rw [if_neg (by simp only; omega), if_neg (by simp only; omega)]
  simp only
  rw [show -(k - n) = n - k by omega, ha, show n - k + (k - n) = 0 by omega, show c - mcost n c k - (c - mcost n c k) = 0 by omega]; rfl
theorem near_floor (n c k : Int) (h1 : 1 ≤ n) (h0 : 0 ≤ c) (h2 : 1 ≤ k) : c * k / n ≤ mcost n c k ∧ mcost n c k ≤ c * k / n + 1 := by
  rw [mcost_rnd n c k h1 h0 (by omega), rnd_2]
  split <;> omega
theorem ok2 (n c k : Int) (h1 : 1 ≤ n) (h2 : n ≤ 1000000) (h3 : 0 ≤ c) (h4 : c ≤ 1000000000000) (h5 : 1 ≤ k) (h6 : k ≤ n) : mvc [(n, c), (-k, 0)] = 0 := by
  rw [mvc_iff]
  refine ⟨by simp, fun i hi => ?_⟩
  match i, hi with
  | 0, _ => exact .inl ⟨h1, h2, h3, h4⟩
  | 1, _ => exact .inr ⟨(show -1000000 ≤ -k by omega), (show -k < 0 by omega), rfl⟩
theorem ok3 (n c k : Int) (h1 : 1 ≤ n) (h2 : n ≤ 1000000) (h3 : 0 ≤ c) (h4 : c ≤ 1000000000000) (h5 : 1 ≤ k) (h6 : k < n) : mvc [(n, c), (-k, 0), (k - n, 0)] = 0 := by
  rw [mvc_iff]
  refine ⟨by simp, fun i hi => ?_⟩
  match i, hi with
  | 0, _ => exact .inl ⟨h1, h2, h3, h4⟩
  | 1, _ => exact .inr ⟨(show -1000000 ≤ -k by omega), (show -k < 0 by omega), rfl⟩
  | 2, _ => exact .inr ⟨(show -1000000 ≤ k - n by omega), (show k - n < 0 by omega), rfl⟩

set_option maxRecDepth 100000 in
set_option maxHeartbeats 6400000 in
theorem stockOut_walk (w : World) (v0 : Int) (w0 : (Lit.int .i64 v0).wf = true) (v1 : Int) (w1 : (Lit.int .i64 v1).wf = true) (v2 : Int) (w2 : (Lit.int .i64 v2).wf = true) :
    Calls Try.prog 6 #[.int .i64 v0, .int .i64 v1, .int .i64 v2] w fun e w' => e = .returned (.bool true) ∧ Below w.heap.size w w' := by
  obtain ⟨i0, hi, hz0, hz1, hz2⟩ := info_parts info_move
  have a1 := wi_lo v0 1000000 (by omega)
  have a2 := wi_hi v0 1000000 (by omega)
  have b1 := wi_lo v1 1000000000001 (by omega)
  have b2 := wi_hi v1 1000000000001 (by omega)
  have HWn := Lib.hid (fun w => within_any v0 1000000 w (by omega) (by omega))
  have HWc := Lib.hid (fun w => within_any v1 1000000000001 w (by omega) (by omega))
  generalize wi v0 1000000 = n0 at *
  generalize wi v1 1000000000001 = c at *
  obtain ⟨n, rfl⟩ : ∃ n, n0 = n - 1 := ⟨n0 + 1, by omega⟩
  have e1 : 1 + (n - 1) = n := by omega
  have n1 : 1 ≤ n := by omega
  have n2 : n ≤ 1000000 := by omega
  have k1 := wi_lo v2 n (by omega)
  have k2 := wi_hi v2 n (by omega)
  have HWk := Lib.hid (fun w => within_any v2 n w (by omega) (by omega))
  generalize wi v2 n = k0 at *
  obtain ⟨k, rfl⟩ : ∃ k, k0 = k - 1 := ⟨k0 + 1, by omega⟩
  have e2 : 1 + (k - 1) = k := by omega
  have h1 : 1 ≤ k := by omega
  have h2 : k ≤ n := by omega
  clear w0 w1 w2 a1 a2 k1 k2
  go_enter Try.func6, Try.ntmps6
  go_wp2_with fail
  refine (fifo_ok _ 3 3 [(3, 10), (-1, 0), (-2, 0)] ([], [3, 7]) _ (pl_new [(3, 10), (-1, 0), (-2, 0)] rfl rfl) rfl beg_m beg_f).mono ?_
  rintro e w3 ⟨u, v, rfl, hm, hu, hv⟩
  obtain ⟨Au, cu, rfl, -, -, -⟩ := own_shape hu
  obtain ⟨Av, cv, rfl, -, -, -⟩ := own_shape hv
  have HM := Lib.hid (show Mor w w3 from Mor.trans' (by repeat (first | exact Mor.refl _ | apply Mor.alloc)) hm)
  have HU := Lib.hid (own_ri hu)
  clear hm hu hv
  go_wp2_with fail
  refine (equal_ri Au _ 2 cu 2 [3, 7] _ (HU.out.mor (Mor.refl _).alloc) (Ri.of_row (row_lit [3, 7] rfl rfl)) rfl (by omega)).mono ?_
  rintro e w4 ⟨rfl, hm⟩
  have HM4 := Lib.hid (HM.out.alloc.trans' hm)
  clear hm HU HM
  go_wp2_with fail
  refine (HWn.out _).mono ?_
  rintro e w5 ⟨rfl, rfl⟩
  go_wp2_with fail
  refine (HWc.out _).mono ?_
  rintro e w5 ⟨rfl, rfl⟩
  go_wp2_with fail
  refine (HWk.out _).mono ?_
  rintro e w5 ⟨rfl, rfl⟩
  go_wp2_with fail
  have hOw := own_lit (w := w4) (T := 36) [(n, c), (-k, 0)] rfl (show #[Value.int .i64 n, .int .i64 c, .int .i64 (-k), .int .i64 0] = (flat lc [(n, c), (-k, 0)]).toArray from rfl) (n := 2) rfl (by omega)
  have hPl := pl_new (w := w4) (T := 36) [(n, c), (-k, 0)] rfl (show #[Value.int .i64 n, .int .i64 c, .int .i64 (-k), .int .i64 0] = (flat lc [(n, c), (-k, 0)]).toArray from rfl)
  have hM5 := (Mor.refl w4).alloc (o := .cells #[.int .i64 n, .int .i64 c, .int .i64 (-k), .int .i64 0] 36)
  obtain ⟨b5, hb5⟩ : ∃ b, b = w4.heap.size := ⟨_, rfl⟩
  rw [← hb5] at hOw hPl ⊢
  generalize w4.alloc (.cells #[.int .i64 n, .int .i64 c, .int .i64 (-k), .int .i64 0] 36) = w5 at *
  have HOw := Lib.hid hOw
  have HPl := Lib.hid hPl
  have HM5 := Lib.hid (HM4.out.trans' hM5)
  have HB5 := Lib.hid (show w.heap.size ≤ b5 by rw [hb5]; exact HM4.out.below.size)
  have HZ5 := Lib.hid (show b5 ≤ w5.heap.size by rw [hb5]; exact hM5.below.size)
  clear hOw hPl hM5 hb5 HM4 HWn HWc HWk
  obtain ⟨q1, q2⟩ := near_floor n c k n1 b1 h1
  obtain ⟨p1, p2⟩ := part_bd (c := n) (k := c) (n := k) n1 b1 (by omega) h2
  obtain ⟨q3, q4⟩ := mcost_bd n c k n1 b1 (by omega) h2
  have HFk := Lib.hid (fun w A cap h => fifo_ok A 2 cap [(n, c), (-k, 0)] (lots2 n c k, [c * k / n]) w h rfl (ok2 n c k n1 n2 b1 (by omega) h1 h2) (fifo2 n c k n1 h1 h2))
  have HMk := Lib.hid (fun w A cap h => mean_ok A 2 cap [(n, c), (-k, 0)] (n - k, c - mcost n c k, [mcost n c k]) w h rfl (ok2 n c k n1 n2 b1 (by omega) h1 h2) (mean2 n c k n1 h1 h2))
  have HF3 := Lib.hid (fun w A cap h (h3 : k < n) => fifo_ok A 3 cap [(n, c), (-k, 0), (k - n, 0)] ([], [c * k / n, c - c * k / n]) w h rfl (ok3 n c k n1 n2 b1 (by omega) h1 h3) (fifo3 n c k n1 h1 h3))
  have HM3 := Lib.hid (fun w A cap h (h3 : k < n) => mean_ok A 3 cap [(n, c), (-k, 0), (k - n, 0)] (0, 0, [mcost n c k, c - mcost n c k]) w h rfl (ok3 n c k n1 n2 b1 (by omega) h1 h3) (mean3 n c k b1 n1 h1 h3))
  have HEn := Lib.hid (fun h : k = n => show c * k / n = c ∧ mcost n c k = c by
    subst h
    exact ⟨part_all _ _ n1, mcost_all _ _ n1 b1⟩)
  refine (HFk.out _ _ _ HPl.out).mono ?_
  rintro e w6 ⟨u6, v6, rfl, hm, hu, hv⟩
  have HM6 := Lib.hid hm
  obtain ⟨A6, c6, rfl, -, -, hA6⟩ := own_shape hu
  obtain ⟨g6, rfl, -⟩ := hA6 (by simp)
  obtain ⟨B6, d6, rfl, -, -, -⟩ := own_shape hv
  have HX := Lib.hid (own_ri hu)
  clear hm hu hv hA6
  go_wp2_with fail
  refine (HMk.out _ _ _ (HPl.out.mor HM6.out)).mono ?_
  rintro e w7 ⟨u7, rfl, hm, hu⟩
  have HM7 := Lib.hid (HM6.out.trans' hm)
  have HX7 := Lib.hid (HX.out.mor hm)
  obtain ⟨A7, c7, rfl, -, -, hA7⟩ := own_shape hu
  obtain ⟨g7, rfl, -⟩ := hA7 (by simp)
  have HY7 := Lib.hid (own_ri hu)
  clear hm hu hA7 HFk HMk
  dsimp only at HX7 HY7 HF3 HM3 HEn
  generalize c * k / n = p at *
  generalize mcost n c k = q at *
  have cx : w7.cell? ⟨g6, 0, none⟩ = some (.int .i64 p) := by obtain ⟨x, hx, _, hc⟩ := HX7.out.at_ 0 (by simp); injection hx with hx; subst hx; exact hc
  have cy : w7.cell? ⟨g7, 0, none⟩ = some (.int .i64 q) := by obtain ⟨x, hx, _, hc⟩ := HY7.out.at_ 0 (by simp); injection hx with hx; subst hx; exact hc
  have lx : g6 < w7.heap.size := World.block_lt_of_cell? _ _ cx
  have ly : g7 < w7.heap.size := World.block_lt_of_cell? _ _ cy
  have t1 : ¬ q < p := by omega
  have t2 : ¬ p + 1 < q := by omega
  have t1' : decide (q < p) = false := by simpa using t1
  have t2' : decide (p + 1 < q) = false := by simpa using t2
  by_cases hkn : k = n
  · obtain ⟨z1, z2⟩ := HEn.out hkn
    subst hkn z1 z2
    go_wp2
    go_big_region
    go_wp2
    go_ret
    exact ⟨rfl, by
      have := HM5.out.trans' HM7.out
      have h : ∀ o, Mor w ((w7.alloc o).drew) := fun o => (HM5.out.trans' HM7.out).alloc.drew
      exact (h _).below⟩
  · have hkb : (k == n) = false := by simpa using hkn
    have h3 : k < n := by omega
    go_wp2
    go_big_region
    go_wp2_with (at_builtin; refine wpList_append_own _ rfl _ _ 31 rfl b5 36 i0 (.agg #[.int .i64 0, .int .i64 0]) 2 16 Try.underlying31 hi hz0 hz1 hz2 rfl (by decide) (.slice (some ⟨b5, 0, none⟩) 2 2) 2 (flat lc [(n, c), (-k, 0)]) rfl ?_ ⟨w7.heap.size + 1, 0, none⟩ 1 1 [.int .i64 (k - n), .int .i64 0] rfl rfl ?_ ?_ ?_ ?_ ?_ ?_)
    case refine_7 =>
      intro v8 w8 hown hgrow _
      obtain ⟨A8, c8, rfl, -, -, -⟩ := own_shape hown
      have HP8 := Lib.hid (show Pi w8 A8 [(n, c), (-k, 0), (k - n, 0)] from own_pl (n := 3) (c := c8) hown)
      have HM8 := Lib.hid (Mor.of_below ((show Mor w ((w7.alloc (.cells #[.int .i64 (n - k), .int .i64 (c - q)] 39)).alloc (.cells #[.int .i64 (k - n), .int .i64 0] 36)).drew from (HM5.out.trans' HM7.out).alloc.alloc.drew).below.grown hgrow (by have := (HM5.out.trans' HM7.out).below.size; simp; omega) (fun j hj => by simp [Value.ownBlock] at hj; have := HB5.out; omega)))
      clear hown hgrow
      go_wp2_with fail
      refine (HF3.out _ _ _ HP8.out h3).mono ?_
      rintro e w9 ⟨u9, v9, rfl, hm, hu, hv⟩
      obtain ⟨A9, c9, rfl, -, -, -⟩ := own_shape hu
      obtain ⟨B9, d9, rfl, -, -, -⟩ := own_shape hv
      have HM9 := Lib.hid hm
      have HX9 := Lib.hid (own_ri hu)
      clear hm hu hv
      go_wp2_with fail
      refine (HM3.out _ _ _ (HP8.out.mor HM9.out) h3).mono ?_
      rintro e w10 ⟨u10, rfl, hm, hu⟩
      obtain ⟨A10, c10, rfl, -, -, -⟩ := own_shape hu
      have HM10 := Lib.hid (HM9.out.trans' hm)
      have HX10 := Lib.hid (HX9.out.mor hm)
      have HY10 := Lib.hid (own_ri hu)
      clear hm hu
      have HSx := Lib.hid (fun w' (h : Mor w10 w') => show Calls Try.prog 19 #[.slice A9 2 c9] w' fun e w'' => e = .returned (.int .i64 c) ∧ w' = w'' from by
        have := sum_ri A9 2 c9 [p, c - p] w' (HX10.out.mor h) rfl (by intro x hx; simp at hx; omega) (by omega)
        rw [show [p, c - p].sum = c by simp; omega] at this
        exact this)
      have HSy := Lib.hid (fun w' (h : Mor w10 w') => show Calls Try.prog 19 #[.slice A10 2 c10] w' fun e w'' => e = .returned (.int .i64 c) ∧ w' = w'' from by
        have := sum_ri A10 2 c10 [q, c - q] w' (HY10.out.mor h) rfl (by intro x hx; simp at hx; omega) (by omega)
        rw [show [q, c - q].sum = c by simp; omega] at this
        exact this)
      go_wp2_with (first
        | (go_at_call 19; (with_reducible refine (HSx.out _ (by repeat (first | exact Mor.refl _ | apply Mor.alloc | apply Mor.more | apply Mor.drewN | apply Mor.drew))).mono ?_); rintro e w11 ⟨rfl, rfl⟩)
        | (go_at_call 19; (with_reducible refine (HSy.out _ (by repeat (first | exact Mor.refl _ | apply Mor.alloc | apply Mor.more | apply Mor.drewN | apply Mor.drew))).mono ?_); rintro e w11 ⟨rfl, rfl⟩))
      go_ret
      exact ⟨rfl, ((HM8.out.trans' HM10.out).alloc).below⟩
    all_goals first
      | exact own_mor HOw.out (by repeat (first | exact HM7.out | apply Mor.alloc | apply Mor.more | apply Mor.drewN | apply Mor.drew))
      | (intro j u hj; match j, hj with | 0, hj => simp at hj; subst hj; simp [Addr.add] | 1, hj => simp at hj; subst hj; simp [Addr.add])
      | (intro u hu; simp at hu; rcases hu with rfl | rfl <;> rfl)
      | (unfold maxLen; omega)
      | omega
      | (have := HZ5.out; have := HM7.out.below.size; simp; omega)

end Go.Proofs.Ytbjfmhncpfhdmaa.stockOut
