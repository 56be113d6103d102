/- The walk of talkeep.StockDear. -/
import Derived.Test.YtbjfmhncpfhdmaaStockH
import Derived.Test.YtbjfmhncpfhdmaaPlainSd
import Derived.BigRegion
namespace Go.Proofs.Ytbjfmhncpfhdmaa.stockDear
open Go.ChangeShapes Go.WideShapes Go.ChangeAt Go.RowKit Stb
set_option linter.unusedVariables false

theorem info_move : (Try.prog.info? 36).map (fun i => (i.zero, i.size, i.bytes)) = some (some (.agg #[.int .i64 0, .int .i64 0]), 2, 16) := by kernel_rfl
theorem beg_m : mvc [(1, 1), (1, 3), (-1, 0)] = 0 := by decide
theorem beg_f : fifoS [(1, 1), (1, 3), (-1, 0)] 3 = some ([(1, 3)], [1]) := by decide

set_option maxRecDepth 100000 in
set_option maxHeartbeats 6400000 in
theorem stockDear_walk (w : World) (A : Option Addr) (len cap : Nat) (zs : List Int) (hz : IsRow .i64 w A len cap zs) (v0 : Int) (w0 : (Lit.int .i64 v0).wf = true) :
    Calls Try.prog 5 #[.slice A len cap, .int .i64 v0] w fun e w' => e = .returned (.bool true) ∧ Below w.heap.size w w' := by
  obtain ⟨i0, hi, hz0, hz1, hz2⟩ := info_parts info_move
  have hmx := (Ri.of_isRow hz).2.2.2.1
  obtain ⟨hri, hlen, hcap, hmax, hwf, hnil⟩ := Ri.of_isRow hz
  generalize zs.take len = cs at *
  have HR := Lib.hid hri
  have HN := Lib.hid hlen
  obtain ⟨m, hm⟩ : ∃ m : Nat, m = if 20 < len then 20 else len := ⟨_, rfl⟩
  have hm1 : m ≤ len := by rw [hm]; split <;> omega
  have hm2 : m ≤ 20 := by rw [hm]; split <;> omega
  have hmi : (if (20 : Int) < (len : Int) then (20 : Int) else (len : Int)) = (m : Int) := by rw [hm]; split <;> split <;> omega
  have hm0 : (0 : Int) ≤ (m : Int) := by omega
  have hmc : (m : Int) ≤ (cap : Int) := by omega
  clear hri hz hwf hm w0 hlen
  go_enter Try.func5, Try.ntmps5
  go_wp2_with fail
  refine (fifo_ok _ 3 3 [(1, 1), (1, 3), (-1, 0)] ([(1, 3)], [1]) _ (pl_new [(1, 1), (1, 3), (-1, 0)] rfl rfl) rfl beg_m beg_f).mono ?_
  rintro e w3 ⟨u, v, rfl, hm, hu, hv⟩
  obtain ⟨Au, cu, rfl, -, -, -⟩ := own_shape hu
  obtain ⟨Av, cv, rfl, -, -, -⟩ := own_shape hv
  have HM := Lib.hid (show Mor w w3 from Mor.trans' (by repeat (first | exact Mor.refl _ | apply Mor.alloc)) hm)
  have HU := Lib.hid (own_ri hu)
  clear hm hu hv
  go_wp2_with fail
  refine (equal_ri Au _ 1 cu 1 [1] _ (HU.out.mor (Mor.refl _).alloc) (Ri.of_row (row_lit [1] rfl rfl)) rfl (by omega)).mono ?_
  rintro e w4 ⟨rfl, hm⟩
  have HM4 := Lib.hid (HM.out.alloc.trans' hm)
  clear hm HU HM
  go_wp2_with fail
  go_loopw [8, 9, 42] (fun u va i wr => ∃ k : Nat, k ≤ m ∧ i = .int .i64 k ∧ va = .int .i64 (cnt (buys cs 0 k)) ∧ Hid (wr.ownsRow w4.heap.size 36 2 u k (flat lc (buys cs 0 k))) ∧ Hid (Below w4.heap.size w4 wr)) (fun _ _ i _ => m - (intOf i).toNat)
  case atStart => exact ⟨0, Nat.zero_le _, rfl, rfl, Lib.hid (World.ownsRow_nil _ _ _ _), Lib.hid (Below.refl _ _)⟩
  case round =>
    obtain ⟨k, hk, rfl, rfl, HO, HB⟩ := hrel
    obtain ⟨ab1, ab2, ab3, ab4⟩ := lots_bd (buys_okL cs k (by omega))
    rw [buys_len] at ab1 ab3 ab4
    by_cases hlt : k < m
    · have hki : (k : Int) < (m : Int) := by omega
      have hk0 : (0 : Int) ≤ (k : Int) := by omega
      have hkl : (k : Int) < (len : Int) := by omega
      obtain ⟨x, hA, hxb, c1⟩ := (HR.out.mor (HM4.out.trans' (Mor.of_below HB.out))).at_ k (by rw [HN.out]; omega)
      subst hA
      have HW := Lib.hid (fun w => within_any (cs.getD k 0) 100 w (by omega) (by omega))
      have HS := Lib.hid (buys_snoc cs 0 k)
      rw [Nat.zero_add] at HS
      have HC := Lib.hid (show cnt (buys cs 0 (k + 1)) = cnt (buys cs 0 k) + kk cs k by rw [HS.out, cnt_snoc]; rfl)
      obtain ⟨g1, g2⟩ := kk_bd cs k
      have HK := Lib.hid (show 1 + wi (cs.getD k 0) 100 = kk cs k from rfl)
      have HBy := Lib.hid (show lc (buy cs k) = [.int .i64 (kk cs k), .int .i64 (kk cs k * ((k : Int) + 1) * 10)] from rfl)
      obtain ⟨y, hy⟩ : ∃ y, wi (cs.getD k 0) 100 = y - 1 := ⟨kk cs k, by unfold kk; omega⟩
      have hyk : kk cs k = y := by unfold kk; omega
      rw [hy] at HW HK
      rw [hyk] at HC HK HBy g1 g2
      have ey : 1 + (y - 1) = y := by omega
      obtain ⟨r, hr⟩ : ∃ r : Nat, r = k + 1 := ⟨_, rfl⟩
      have er : (k : Int) + 1 = (r : Int) := by omega
      have r20 : r ≤ 20 := by omega
      rw [er] at HBy
      have z0 : 0 ≤ y * (r : Int) := Int.mul_nonneg (by omega) (by omega)
      have z1 : y * (r : Int) ≤ 2000 := prod_bd2 y (r : Int) 100 20 (by omega) g2 (by omega) (by omega)
      generalize cs.getD k 0 = cv at *
      generalize cnt (buys cs 0 k) = T at *
      generalize hZ : y * (r : Int) = Z at *
      have HR' := Lib.hid hr
      clear hr hy hyk
      go_wp2_with (first
        | (go_at_call 12; (with_reducible refine (HW.out _).mono ?_); rintro e w6 ⟨rfl, rfl⟩)
        | (at_builtin; refine wpList_append_own _ rfl _ _ 31 rfl w4.heap.size 36 i0 (.agg #[.int .i64 0, .int .i64 0]) 2 16 Try.underlying31 hi hz0 hz1 hz2 rfl (by decide) _ _ _ rfl (HO.out.alloc _) ⟨wr.heap.size, 0, none⟩ 1 1 [.int .i64 y, .int .i64 (Z * 10)] rfl rfl ?_ ?_ ?_ ?_ ?_ ?_))
      case refine_6 =>
        intro v' w1 hown' hgrow _
        have HO' := Lib.hid hown'
        have HB' := Lib.hid (own_stepS (m := 0) HO.out HB.out hgrow)
        clear hown' hgrow
        go_wp2
        go_roundw
        case rel => exact ⟨k + 1, by omega, by have := HR'.out; first | go_num | (rw [← this]), by rw [HC.out], Lib.hid (by
          have h := HO'.out
          rw [HS.out]
          show World.ownsRow _ _ _ _ _ _ ((buys cs 0 k ++ [buy cs k]).flatMap lc)
          rw [List.flatMap_append]
          show World.ownsRow _ _ _ _ _ _ (flat lc (buys cs 0 k) ++ (lc (buy cs k) ++ []))
          rw [HBy.out, List.append_nil]
          exact h), HB'⟩
        case measure => simp [intOf]; have := HR'.out; omega
      all_goals try (first | (exact rfl) | (exact ⟨rfl, rfl⟩) | (intro u hu; simp at hu; rcases hu with rfl | rfl <;> rfl) | (unfold maxLen; omega) | omega | (have := HB.out.size; simp; omega) | (intro j u hj; match j, hj with | 0, hj => simp at hj; subst hj; simp [Addr.add] | 1, hj => simp at hj; subst hj; simp [Addr.add]))
    · obtain rfl : k = m := by omega
      have HMr := Lib.hid (HM4.out.trans' (Mor.of_below HB.out))
      by_cases hk0 : k = 0
      · have hT0 : cnt (buys cs 0 k) = 0 := by rw [hk0]; rfl
        rw [hT0]
        go_wp2
        go_ret
        exact ⟨rfl, HMr.out.below⟩
      · have hT1 : 1 ≤ cnt (buys cs 0 k) := by omega
        have hT2 : cnt (buys cs 0 k) ≤ 2000 := by have := buys_cnt cs k; omega
        have W1 := wi_lo v0 (cnt (buys cs 0 k)) hT1
        have W2 := wi_hi v0 (cnt (buys cs 0 k)) hT1
        have HWn := Lib.hid (fun w => within_any v0 (cnt (buys cs 0 k)) w hT1 (by omega))
        generalize wi v0 (cnt (buys cs 0 k)) = s0 at *
        obtain ⟨s, rfl⟩ : ∃ s, s0 = s - 1 := ⟨s0 + 1, by omega⟩
        have es : -1 - (s - 1) = -s := by omega
        have s1 : 1 ≤ s := by omega
        have s2 : s ≤ cnt (buys cs 0 k) := by omega
        have hne : (cnt (buys cs 0 k) == 0) = false := beq_eq_false_iff_ne.2 (by omega)
        have hk20 : k ≤ 20 := by omega
        have hokL := buys_okL cs k hk20
        obtain ⟨F, ys, hF⟩ : ∃ F ys, takeF (buys cs 0 k) s = some (F, ys) := by
          cases hq : takeF (buys cs 0 k) s with
          | none => have := (takeF_iff hokL (by omega)).1 hq; omega
          | some q => exact ⟨q.1, q.2, rfl⟩
        obtain ⟨-, f1, f2, -, -⟩ := takeF_some hokL (by omega) hF
        have hFq := dear_le cs k s hk20 s1 s2 hF
        have HFf := Lib.hid (fun w A c h => fifo_ok A (k + 1) c (dear cs k s) (ys, [F]) w h (dear_len cs k s) (dear_ok cs k s hk20 s1 (by omega)) (dear_fifo cs k s hk20 s1 hF))
        have HMm := Lib.hid (fun w A c h => mean_ok A (k + 1) c (dear cs k s) _ w h (dear_len cs k s) (dear_ok cs k s hk20 s1 (by omega)) (dear_mean cs k s hk20 s1 s2))
        have hqb := mcost_bd (cnt (buys cs 0 k)) (cst (buys cs 0 k)) s hT1 ab2 (by omega) s2
        have HApp := Lib.hid (show flat lc (buys cs 0 k) ++ [.int .i64 (-s), .int .i64 0] = flat lc (dear cs k s) by
          show _ = (buys cs 0 k ++ [(-s, 0)]).flatMap lc
          rw [List.flatMap_append]; rfl)
        clear hF hokL
        generalize mcost (cnt (buys cs 0 k)) (cst (buys cs 0 k)) s = q at *
        generalize cnt (buys cs 0 k) = T at *
        go_wp2_with (first
          | (go_at_call 12; (with_reducible refine (HWn.out _).mono ?_); rintro e w6 ⟨rfl, rfl⟩)
          | (at_builtin; refine wpList_append_own _ rfl _ _ 31 rfl w4.heap.size 36 i0 (.agg #[.int .i64 0, .int .i64 0]) 2 16 Try.underlying31 hi hz0 hz1 hz2 rfl (by decide) _ _ _ rfl (HO.out.alloc _) ⟨wr.heap.size, 0, none⟩ 1 1 [.int .i64 (-s), .int .i64 0] rfl rfl ?_ ?_ ?_ ?_ ?_ ?_))
        case refine_6 =>
          intro v' w5 hown' hgrow _
          obtain ⟨A5, c5, rfl, -, -, -⟩ := own_shape hown'
          have HP5 := Lib.hid (show Pi w5 A5 (dear cs k s) from own_pl (n := k + 1) (c := c5) (by rw [← HApp.out]; exact hown'))
          have HM5 := Lib.hid (HM4.out.trans' (Mor.of_below (own_stepS (m := 0) HO.out HB.out hgrow)))
          clear hown' hgrow
          go_wp2_with fail
          refine (HFf.out _ _ _ HP5.out).mono ?_
          rintro e w6 ⟨u6, v6, rfl, hm, hu, hv⟩
          have HM6 := Lib.hid hm
          obtain ⟨A6, c6, rfl, -, -, hA6⟩ := own_shape hu
          obtain ⟨g6, rfl, -⟩ := hA6 (by simp)
          obtain ⟨B6, d6, rfl, -, -, -⟩ := own_shape hv
          have HX := Lib.hid (own_ri hu)
          clear hm hu hv hA6
          go_wp2_with fail
          refine (HMm.out _ _ _ (HP5.out.mor HM6.out)).mono ?_
          rintro e w7 ⟨u7, rfl, hm, hu⟩
          have HM7 := Lib.hid (HM6.out.trans' hm)
          have HX7 := Lib.hid (HX.out.mor hm)
          obtain ⟨A7, c7, rfl, -, -, hA7⟩ := own_shape hu
          obtain ⟨g7, rfl, -⟩ := hA7 (by simp)
          have HY7 := Lib.hid (own_ri hu)
          clear hm hu hA7 HFf HMm
          dsimp only at HX7 HY7
          have cx : w7.cell? ⟨g6, 0, none⟩ = some (.int .i64 F) := by obtain ⟨x, hx, _, hc⟩ := HX7.out.at_ 0 (by simp); injection hx with hx; subst hx; exact hc
          have cy : w7.cell? ⟨g7, 0, none⟩ = some (.int .i64 q) := by obtain ⟨x, hx, _, hc⟩ := HY7.out.at_ 0 (by simp); injection hx with hx; subst hx; exact hc
          have lx : g6 < w7.heap.size := World.block_lt_of_cell? _ _ cx
          have ly : g7 < w7.heap.size := World.block_lt_of_cell? _ _ cy
          have t1 : decide (F ≤ q) = true := by simpa using hFq
          go_wp2
          go_big_region
          go_wp2
          go_ret
          exact ⟨rfl, by
            have h : ∀ o, Mor w ((w7.alloc o).drew) := fun o => (HM5.out.trans' HM7.out).alloc.drew
            exact (h _).below⟩
        all_goals try (first | (exact rfl) | (exact ⟨rfl, rfl⟩) | (intro u hu; simp at hu; rcases hu with rfl | rfl <;> rfl) | (unfold maxLen; omega) | omega | (have := HB.out.size; simp; omega) | (intro j u hj; match j, hj with | 0, hj => simp at hj; subst hj; simp [Addr.add] | 1, hj => simp at hj; subst hj; simp [Addr.add]))

end Go.Proofs.Ytbjfmhncpfhdmaa.stockDear
