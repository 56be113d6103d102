/- The walk of talkeep.UnitsSum. -/
import Derived.Test.YtdpphneebikdpaaPUnitsSumZ1
import Derived.Test.YtdpphneebikdpaaPUnitsSumZ2
import Derived.Test.YtdpphneebikdpaaPUnitsSumZ3
import Derived.Test.YtdpphneebikdpaaPUnitsSumZ4
import Derived.Test.YtdpphneebikdpaaPUnitsSumZ5
import Derived.Test.YtdpphneebikdpaaPUnitsSumZ6
import Derived.Test.YtdpphneebikdpaaPUnitsSumZ7
import Derived.Test.YtdpphneebikdpaaPUnitsSumZ8
import Derived.Test.YtdpphneebikdpaaPUnitsSumZ9
import Derived.Test.YtdpphneebikdpaaPUnitsSumZ10
import Derived.Test.YtdpphneebikdpaaPUnitsSumZ11
import Derived.Test.YtdpphneebikdpaaPUnitsSumZ12
import Derived.Test.YtdpphneebikdpaaPUnitsSumZ13
import Derived.Test.YtdpphneebikdpaaPUnitsSumZ14
import Derived.Test.YtdpphneebikdpaaPUnitsSumZ15
import Derived.Test.YtdpphneebikdpaaPUnitsSumZ16
import Derived.Test.YtdpphneebikdpaaPUnitsSumZ17
import Derived.Test.YtdpphneebikdpaaPUnitsSumZ18
import Derived.Test.YtdpphneebikdpaaPUnitsSumZ19
import Derived.Test.YtdpphneebikdpaaRows
import Derived.Below
import Derived.BigQuiet
import Derived.DataElems
import Derived.Deep.DeepCutAuto
import Derived.Deep.LoopGhost
import Derived.Deep.OwnRows
import Derived.Deep.QuietTactic
import Derived.Deep.RegionLaw
import Derived.Deep.SlicePairs
import Derived.Deep.Slices
import Derived.Deep.Strs
import Derived.Handy
import Derived.Laws.AppendOwn
import Derived.Laws.CopyOwn
import Derived.Laws.CopyRow
import Derived.Laws.Cover1
import Derived.Laws.Externs
import Derived.Laws.NewBlocks
import Derived.Lib.AppendZerosOnto
import Derived.Lib.Bytealg
import Derived.Lib.Hide
import Derived.Lib.Overlaps
import Derived.Lib.SliceRun
import Derived.Lib.SlicesDelete
import Derived.Lib.Walk
import Derived.OpenShut
import Derived.Outline
import Derived.OwnWalk
import Derived.PlainAid
import Derived.ProofKit
import Derived.RegionTactic
import Derived.Shelf.Abstract
import Derived.Shelf.RegionOpenPlain
import Derived.Sort.EncStr
import Derived.Sort.Walk0
import Derived.Sort.WalkB12
import Derived.WalkKit
import Derived.WalkSpells
namespace Go.Proofs.Ytdpphneebikdpaa.unitsSum
open Go.ChangeShapes Go.WideShapes Go.ChangeAt Go.RowKit
set_option linter.unusedVariables false
set_option maxRecDepth 100000

theorem beg : ulist (100 - 0) 10 [3, 9] 2 = [30, 70] := by decide
theorem beg_ok : UnOk 100 0 10 [3, 9] := ⟨⟨by omega, by omega, by omega, by omega⟩, by omega, by omega, by decide, by decide⟩

set_option maxRecDepth 100000 in
set_option maxHeartbeats 3200000 in
theorem unitsSum_walk (w : World) (cost : Int) (wcost : (Lit.int .i64 cost).wf = true) (rest : Int) (wrest : (Lit.int .i64 rest).wf = true) (total : Int) (wtotal : (Lit.int .i64 total).wf = true) (A : Option Addr) (n cap : Nat) (zs : List Int) (hz : IsRow .i64 w A n cap zs) (v1 : Int) (w1 : (Lit.int .i64 v1).wf = true) (v2 : Int) (w2 : (Lit.int .i64 v2).wf = true) :
    Calls Try.prog 3 #[.int .i64 cost, .int .i64 rest, .int .i64 total, .slice A n cap, .int .i64 v1, .int .i64 v2] w fun e w' => e = .returned (.bool true) ∧ Below w.heap.size w w' := by
  obtain ⟨hri, hlen, hcap, hmax, hwf, hnil⟩ := Ri.of_isRow hz
  generalize zs.take n = us at *
  have HR := Lib.hid (fun w' (h : Mor w w') => hri.mor h)
  have HN := Lib.hid hlen
  have HNil := Lib.hid hnil
  clear hri hz hwf hnil w1 w2 wcost wrest wtotal
  go_enter Try.func3, Try.ntmps3
  go_wp2_with fail
  refine (units_yes 100 0 10 (some ⟨w.heap.size, 0, none⟩) 2 2 [3, 9] _ (Ri.of_row (row_lit [3, 9] rfl rfl)) rfl beg_ok).mono ?_
  rintro e w1 ⟨A1, c1, rfl, ho1, hm1⟩
  rw [beg] at ho1
  have HR1 := Lib.hid (own_ri ho1)
  have HM1 := Lib.hid ((Mor.refl w).alloc.trans' hm1)
  clear ho1 hm1
  go_wp2_with fail
  refine (equal_ri _ _ 2 _ _ [30, 70] _ HR1.out.alloc (Ri.of_row (row_lit [30, 70] rfl rfl)) rfl (by omega)).mono ?_
  rintro e w2 ⟨rfl, hm2⟩
  have HM2 := Lib.hid (HM1.out.trans' ((Mor.refl w1).alloc.trans' hm2))
  clear hm2 HR1
  go_wp2_with fail
  by_cases hok : UnOk cost rest total us
  · refine (units_yes cost rest total A n cap us _ (HR.out _ HM2.out) HN.out hok).mono ?_
    rintro e w3 ⟨A3, c3, rfl, ho3, hm3⟩
    have HOk := Lib.hid hok
    obtain ⟨⟨d0, d1, d2, d3⟩, ht1, ht2, hl40, hus⟩ := hok
    have HX3 := Lib.hid (own_ri ho3)
    have HM3 := Lib.hid (HM2.out.trans' hm3)
    obtain ⟨A3', c3', e3, hnc3, -, hA3⟩ := own_shape ho3
    injection e3 with e31 _ e33
    subst e31 e33
    have hn40 : n ≤ 40 := by rw [← HN.out]; exact hl40
    obtain ⟨D, hD⟩ : ∃ D, cost - rest = D := ⟨_, rfl⟩
    have hD0 : 0 ≤ D := by omega
    have hD1 : D ≤ 1000000000000 := by omega
    rw [hD] at HX3
    have hbd := ulist_bd (n := n) hD0 ht1 hus
    have hsx := ulist_sum D total us n ht1
    have hun : usum us n = us.sum := by rw [← HN.out]; exact usum_all us
    rw [hun] at hsx
    have hu0 := usum_bd hus n
    rw [hun, HN.out] at hu0
    obtain ⟨hu0, hu1⟩ := hu0
    obtain ⟨x0, x1⟩ := unow_bd hD0 ht1 hu0
    have hall : total ≤ us.sum → unow D total us.sum = D := fun h => unow_all ht1 h
    have hlx := ulist_len D total us n
    have HSx := Lib.hid (fun w' (h : Mor w3 w') => show Calls Try.prog 10 #[.slice A3 n c3] w' (fun e w'' => e = .returned (.int .i64 (unow D total us.sum)) ∧ w' = w'') from by
      have := sum_ri A3 n c3 _ w' (HX3.out.mor h) hlx (fun x hx => by have := hbd x hx; omega) (by omega)
      rwa [hsx] at this)
    have HSu := Lib.hid (fun w' (h : Mor w w') => sum_ri A n cap us w' (HR.out _ h) HN.out (fun x hx => by have := hus x hx; omega) (by omega))
    have HUs := Lib.hid hus
    clear hm3 ho3 hbd hsx hun hlx hus
    generalize us.sum = US at *
    generalize unow D total US = XS at *
    by_cases hn0 : n = 0 ∨ n = 40
    · rcases hn0 with rfl | rfl
      all_goals
        by_cases hge : total ≤ US
        · have hxd := hall hge
          have hxd' := hxd.symm
          subst hxd'
          clear hxd
          clear hall
          go_wp2_with (first
            | (go_at_call 10; (with_reducible refine (HSx.out _ (Mor.refl _)).mono ?_); rintro e w4 ⟨rfl, rfl⟩)
            | (go_at_call 10; (with_reducible refine (HSu.out _ HM3.out).mono ?_); rintro e w4 ⟨rfl, rfl⟩))
          go_ret
          exact ⟨rfl, HM3.out.below⟩
        · have hlt : US < total := by omega
          clear hall
          by_cases hxd : XS = D
          · skip
            have hxd' := hxd.symm
            subst hxd'
            clear hxd
            go_wp2_with (first
              | (go_at_call 10; (with_reducible refine (HSx.out _ (Mor.refl _)).mono ?_); rintro e w4 ⟨rfl, rfl⟩)
              | (go_at_call 10; (with_reducible refine (HSu.out _ HM3.out).mono ?_); rintro e w4 ⟨rfl, rfl⟩))
            go_ret
            exact ⟨rfl, HM3.out.below⟩
          · skip
            have hxn : (XS == D) = false := beq_eq_false_iff_ne.2 hxd
            have hxl : XS < D := by omega
            go_wp2_with (first
              | (go_at_call 10; (with_reducible refine (HSx.out _ (Mor.refl _)).mono ?_); rintro e w4 ⟨rfl, rfl⟩)
              | (go_at_call 10; (with_reducible refine (HSu.out _ HM3.out).mono ?_); rintro e w4 ⟨rfl, rfl⟩))
            go_ret
            exact ⟨rfl, HM3.out.below⟩
    · obtain ⟨I, hI⟩ : ∃ I : Nat, wi v1 (n : Int) = (I : Int) := ⟨(wi v1 (n : Int)).toNat, by have := wi_lo v1 (n : Int) (by omega); omega⟩
      have hIn : I < n := by
        have h2 := wi_hi v1 (n : Int) (by omega)
        rw [hI] at h2; omega
      have HWi := Lib.hid (fun w' => show Calls Try.prog 11 #[.int .i64 v1, .int .i64 (n : Int)] w' (fun e w'' => e = .returned (.int .i64 (I : Int)) ∧ w' = w'') from by
        have h2 := within_any v1 (n : Int) w' (by omega) (by omega)
        rw [hI] at h2; exact h2)
      obtain ⟨x, hA, hxb, cu⟩ := (HR.out _ HM3.out).at_ I (by rw [HN.out]; exact hIn)
      subst hA
      have hu := HUs.out _ (getD_mem us I (by rw [HN.out]; exact hIn))
      obtain ⟨u, huu⟩ : ∃ u, us.getD I 0 = u := ⟨_, rfl⟩
      rw [huu] at hu cu
      obtain ⟨u0, u1⟩ := hu
      obtain ⟨K, hK⟩ : ∃ K : Int, wi v2 (u + 1) = K := ⟨_, rfl⟩
      have hK0 : 0 ≤ K := by have := wi_lo v2 (u + 1) (by omega); omega
      have hKu : K ≤ u := by have := wi_hi v2 (u + 1) (by omega); omega
      have HWk := Lib.hid (fun w' => show Calls Try.prog 11 #[.int .i64 v2, .int .i64 (u + 1)] w' (fun e w'' => e = .returned (.int .i64 K) ∧ w' = w'') from by
        have h2 := within_any v2 (u + 1) w' (by omega) (by omega)
        rw [hK] at h2; exact h2)
      have HIl := Lib.hid (show I < us.length by rw [HN.out]; exact hIn)
      have HOk2 := Lib.hid (show UnOk cost rest total (twoL us I K) from by
        obtain ⟨a1, a2, a3, a4, a5⟩ := HOk.out
        refine ⟨a1, a2, a3, by rw [twoL_len HIl.out, HN.out]; omega, two_ok HIl.out hK0 (by rw [huu]; exact hKu) a5⟩)
      have HTm := Lib.hid (twoL_made HIl.out K)
      have HTg := Lib.hid (ins_get HIl.out K)
      have HTs := Lib.hid (two_same (D := D) (t := total) HIl.out K)
      have HTl := Lib.hid (twoL_len HIl.out K)
      have HDd := Lib.hid hD
      have HCl := Lib.hid (fun w' (h : Mor w w') => clone_any (some x) n cap us w' (HR.out _ h) HN.out (fun h => by cases h) (by omega))
      rw [huu] at HTm HTg
      have hi0 : (0 : Int) ≤ (I : Int) := by omega
      have hin : (I : Int) < (n : Int) := by omega
      have hnn : (n : Int) ≠ 0 := by omega
      have hn4 : (n : Int) ≠ 40 := by omega
      have hb1 : ((n : Int) == 0) = false := by simpa using hnn
      have hb2 : ((n : Int) == 40) = false := by simpa using hn4
      have hnN : ¬ n = 0 := by omega
      have hn4N : ¬ n = 40 := by omega
      clear hn0 hI hK huu
      by_cases hge : total ≤ US
      · have hxd := hall hge
        have hxd' := hxd.symm
        subst hxd'
        clear hxd
        clear hall
        go_wp2_with (first
          | (go_at_call 10; (with_reducible refine (HSx.out _ (Mor.refl _)).mono ?_); rintro e w4 ⟨rfl, rfl⟩)
          | (go_at_call 10; (with_reducible refine (HSu.out _ HM3.out).mono ?_); rintro e w4 ⟨rfl, rfl⟩)
          | (go_at_call 11; (with_reducible refine (HWi.out _).mono ?_); rintro e w4 ⟨rfl, rfl⟩)
          | (go_at_call 11; (with_reducible refine (HWk.out _).mono ?_); rintro e w4 ⟨rfl, rfl⟩))
        refine (HCl.out _ HM3.out).mono ?_
        rintro e w5 ⟨v5, rfl, ho5, hm5⟩
        obtain ⟨A5, c5, rfl, -, -, -⟩ := own_shape ho5
        have hvb : (Value.slice A5 n c5).ownBlock ≠ some w5.heap.size := fun e => absurd (own_blk ho5 e).1 (by omega)
        have hm6 := (Mor.refl w5).alloc (o := .cells #[.int .i64 K] 3)
        have HIn := Lib.hid (insert_int w3.heap.size _ n I us w5.heap.size K _ (own_mor ho5 hm6) HN.out (Bk.new w5 3 #[.int .i64 K]) hvb (by omega) (by omega) (hm5.trans' hm6).below.size)
        have HSt := Lib.hid (fun w7 (hg : (w5.alloc (.cells #[.int .i64 K] 3)).grownBy w7 (Value.slice A5 n c5).ownBlock) => own_step (own_mor ho5 hm6) (hm5.trans' hm6) hg)
        clear ho5 hm5 hvb hm6
        go_wp2_with fail
        refine HIn.out.mono ?_
        rintro e w7 ⟨v7, rfl, ho7, hg7⟩
        have HM37 := Lib.hid (HSt.out w7 hg7)
        obtain ⟨g7, c7, cur7, rfl, hg7, hc7, hb7, hr7⟩ := own_blkR ho7 (by omega)
        have hcell := hb7.cell (I + 1)
        have hil := HIl.out
        have hlen7 : (us.take I ++ K :: us.drop I).length = n + 1 := by simp; omega
        rw [hr7 (I + 1) (by omega), HTg.out] at hcell
        have hfr := hb7.frozen (I + 1)
        have hgl := hb7.lt
        have HB7 := Lib.hid hb7
        have HC7 := Lib.hid hr7
        have hI1 : (I : Int) + 1 < (n : Int) + 1 := by omega
        have hI0 : (0 : Int) ≤ (I : Int) + 1 := by omega
        have hwI : IntKind.i64.wrap ((I : Int) + 1) = (I : Int) + 1 := IntWalk.i64_in _ (by omega)
        clear ho7 HIn HSt hb7 hr7 hil
        go_wp2_with fail
        have hrow8 := (HC7.out.set (I + 1) (u - K)).ri (HB7.out.set_ (I + 1) (.int .i64 (u - K)))
        rw [HTm.out] at hrow8
        have hm38 : Mor w3 (w7.setCell ⟨g7, I + 1, none⟩ (.int .i64 (u - K))) := Mor.of_below (HM37.out.below.setCell hg7 _)
        generalize w7.setCell ⟨g7, I + 1, none⟩ (.int .i64 (u - K)) = w8 at *
        clear hcell hfr hgl hlen7 HB7 HC7
        refine (units_yes cost rest total _ (n + 1) c7 (twoL us I K) w8 hrow8 (by rw [HTl.out, HN.out]) HOk2.out).mono ?_
        rintro e w9 ⟨A9, c9, rfl, ho9, hm9⟩
        have hyb := ulist_bd (n := n + 1) hD0 ht1 HOk2.out.2.2.2.2
        rw [HDd.out] at ho9
        have hyl := ulist_len D total (twoL us I K) (n + 1)
        have HTs' := HTs.out
        rw [HN.out] at HTs'
        have hul := ulist_len D total us n
        generalize ulist D total (twoL us I K) (n + 1) = Y at *
        generalize ulist D total us n = Xs at *
        obtain ⟨g9, c9', cur9, he9, hg9, hc9, hb9, hr9⟩ := own_blkR ho9 (by omega)
        injection he9 with e1 _ e3
        subst e1 e3
        have hm39 := hm38.trans' hm9
        have z0 := hyb _ (getD_mem Y I (by omega))
        have z1 := hyb _ (getD_mem Y (I + 1) (by omega))
        obtain ⟨y0, hy0⟩ : ∃ y, Y.getD I 0 = y := ⟨_, rfl⟩
        obtain ⟨y1, hy1⟩ : ∃ y, Y.getD (I + 1) 0 = y := ⟨_, rfl⟩
        have cy0 := hb9.cell I
        have cy1 := hb9.cell (I + 1)
        rw [hr9 I (by omega), hy0] at cy0
        rw [hr9 (I + 1) (by omega), hy1] at cy1
        rw [hy0] at z0 HTs'
        rw [hy1] at z1 HTs'
        obtain ⟨z00, z01⟩ := z0
        obtain ⟨z10, z11⟩ := z1
        have fy1 := hb9.frozen (I + 1)
        have hgl := hb9.lt
        have HB9 := Lib.hid hb9
        have HR9 := Lib.hid hr9
        have HTs2 := Lib.hid HTs'
        have HM39 := Lib.hid hm39
        have hbase : w3.heap.size ≤ g9 := by have := hm38.below.size; omega
        have hiN : (I : Int) < (n : Int) + 1 := by omega
        have hc9' : c9 ≤ maxLen := by
          obtain ⟨_, hh | ⟨g, cap, cur, hv, _, _, _, h2, _⟩⟩ := ho9
          · have := hh.1; omega
          · injection hv with _ _ h3; omega
        unfold maxLen at hc9'
        clear ho9 hb9 hr9 hyb hrow8 hm38 hm9 HTs' hm39
        have hwY : IntKind.i64.wrap (y1 + y0) = y1 + y0 := IntWalk.i64_in _ (by omega)
        have hyl2 : (Y.set (I + 1) (y1 + y0)).length = n + 1 := by rw [List.length_set]; exact hyl
        go_wp2_with fail
        go_region_with fail
        all_goals go_simp
        all_goals
          go_wp2_with fail
          refine (delete_one g9 (n + 1) c9 I (Y.set (I + 1) (y1 + y0)) _ _ (HB9.out.set_ (I + 1) (.int .i64 (y1 + y0))).drew (HR9.out.set (I + 1) (y1 + y0)) hyl2 hc9 hc9' (by omega)).mono ?_
          rintro e w11 ⟨rfl, hri, hbl, -⟩
          rw [HTs2.out] at hri
          have hm11 : Mor w3 w11 := Mor.of_below ((show Below w3.heap.size w3 (w9.setCell ⟨g9, I + 1, none⟩ (.int .i64 (y1 + y0))).drew from bel_dN (k := 1) (HM39.out.below.setCell hbase _)).trans (hbl.mono hbase))
          have HM11 := Lib.hid hm11
          have HRi := Lib.hid hri
          clear hri hbl hm11 cy0 cy1 fy1
          go_wp2_with fail
          refine (equal_ri _ _ n _ _ Xs _ HRi.out (HX3.out.mor HM11.out) hul (by omega)).mono ?_
          rintro e w12 ⟨rfl, hm12⟩
          go_wp2_with fail
          go_ret
          exact ⟨rfl, ((HM3.out.trans' HM11.out).trans' hm12).below⟩
      · have hlt : US < total := by omega
        clear hall
        by_cases hxd : XS = D
        · skip
          have hxd' := hxd.symm
          subst hxd'
          clear hxd
          go_wp2_with (first
            | (go_at_call 10; (with_reducible refine (HSx.out _ (Mor.refl _)).mono ?_); rintro e w4 ⟨rfl, rfl⟩)
            | (go_at_call 10; (with_reducible refine (HSu.out _ HM3.out).mono ?_); rintro e w4 ⟨rfl, rfl⟩)
            | (go_at_call 11; (with_reducible refine (HWi.out _).mono ?_); rintro e w4 ⟨rfl, rfl⟩)
            | (go_at_call 11; (with_reducible refine (HWk.out _).mono ?_); rintro e w4 ⟨rfl, rfl⟩))
          refine (HCl.out _ HM3.out).mono ?_
          rintro e w5 ⟨v5, rfl, ho5, hm5⟩
          obtain ⟨A5, c5, rfl, -, -, -⟩ := own_shape ho5
          have hvb : (Value.slice A5 n c5).ownBlock ≠ some w5.heap.size := fun e => absurd (own_blk ho5 e).1 (by omega)
          have hm6 := (Mor.refl w5).alloc (o := .cells #[.int .i64 K] 3)
          have HIn := Lib.hid (insert_int w3.heap.size _ n I us w5.heap.size K _ (own_mor ho5 hm6) HN.out (Bk.new w5 3 #[.int .i64 K]) hvb (by omega) (by omega) (hm5.trans' hm6).below.size)
          have HSt := Lib.hid (fun w7 (hg : (w5.alloc (.cells #[.int .i64 K] 3)).grownBy w7 (Value.slice A5 n c5).ownBlock) => own_step (own_mor ho5 hm6) (hm5.trans' hm6) hg)
          clear ho5 hm5 hvb hm6
          go_wp2_with fail
          refine HIn.out.mono ?_
          rintro e w7 ⟨v7, rfl, ho7, hg7⟩
          have HM37 := Lib.hid (HSt.out w7 hg7)
          obtain ⟨g7, c7, cur7, rfl, hg7, hc7, hb7, hr7⟩ := own_blkR ho7 (by omega)
          have hcell := hb7.cell (I + 1)
          have hil := HIl.out
          have hlen7 : (us.take I ++ K :: us.drop I).length = n + 1 := by simp; omega
          rw [hr7 (I + 1) (by omega), HTg.out] at hcell
          have hfr := hb7.frozen (I + 1)
          have hgl := hb7.lt
          have HB7 := Lib.hid hb7
          have HC7 := Lib.hid hr7
          have hI1 : (I : Int) + 1 < (n : Int) + 1 := by omega
          have hI0 : (0 : Int) ≤ (I : Int) + 1 := by omega
          have hwI : IntKind.i64.wrap ((I : Int) + 1) = (I : Int) + 1 := IntWalk.i64_in _ (by omega)
          clear ho7 HIn HSt hb7 hr7 hil
          go_wp2_with fail
          have hrow8 := (HC7.out.set (I + 1) (u - K)).ri (HB7.out.set_ (I + 1) (.int .i64 (u - K)))
          rw [HTm.out] at hrow8
          have hm38 : Mor w3 (w7.setCell ⟨g7, I + 1, none⟩ (.int .i64 (u - K))) := Mor.of_below (HM37.out.below.setCell hg7 _)
          generalize w7.setCell ⟨g7, I + 1, none⟩ (.int .i64 (u - K)) = w8 at *
          clear hcell hfr hgl hlen7 HB7 HC7
          refine (units_yes cost rest total _ (n + 1) c7 (twoL us I K) w8 hrow8 (by rw [HTl.out, HN.out]) HOk2.out).mono ?_
          rintro e w9 ⟨A9, c9, rfl, ho9, hm9⟩
          have hyb := ulist_bd (n := n + 1) hD0 ht1 HOk2.out.2.2.2.2
          rw [HDd.out] at ho9
          have hyl := ulist_len D total (twoL us I K) (n + 1)
          have HTs' := HTs.out
          rw [HN.out] at HTs'
          have hul := ulist_len D total us n
          generalize ulist D total (twoL us I K) (n + 1) = Y at *
          generalize ulist D total us n = Xs at *
          obtain ⟨g9, c9', cur9, he9, hg9, hc9, hb9, hr9⟩ := own_blkR ho9 (by omega)
          injection he9 with e1 _ e3
          subst e1 e3
          have hm39 := hm38.trans' hm9
          have z0 := hyb _ (getD_mem Y I (by omega))
          have z1 := hyb _ (getD_mem Y (I + 1) (by omega))
          obtain ⟨y0, hy0⟩ : ∃ y, Y.getD I 0 = y := ⟨_, rfl⟩
          obtain ⟨y1, hy1⟩ : ∃ y, Y.getD (I + 1) 0 = y := ⟨_, rfl⟩
          have cy0 := hb9.cell I
          have cy1 := hb9.cell (I + 1)
          rw [hr9 I (by omega), hy0] at cy0
          rw [hr9 (I + 1) (by omega), hy1] at cy1
          rw [hy0] at z0 HTs'
          rw [hy1] at z1 HTs'
          obtain ⟨z00, z01⟩ := z0
          obtain ⟨z10, z11⟩ := z1
          have fy1 := hb9.frozen (I + 1)
          have hgl := hb9.lt
          have HB9 := Lib.hid hb9
          have HR9 := Lib.hid hr9
          have HTs2 := Lib.hid HTs'
          have HM39 := Lib.hid hm39
          have hbase : w3.heap.size ≤ g9 := by have := hm38.below.size; omega
          have hiN : (I : Int) < (n : Int) + 1 := by omega
          have hc9' : c9 ≤ maxLen := by
            obtain ⟨_, hh | ⟨g, cap, cur, hv, _, _, _, h2, _⟩⟩ := ho9
            · have := hh.1; omega
            · injection hv with _ _ h3; omega
          unfold maxLen at hc9'
          clear ho9 hb9 hr9 hyb hrow8 hm38 hm9 HTs' hm39
          have hwY : IntKind.i64.wrap (y1 + y0) = y1 + y0 := IntWalk.i64_in _ (by omega)
          have hyl2 : (Y.set (I + 1) (y1 + y0)).length = n + 1 := by rw [List.length_set]; exact hyl
          go_wp2_with fail
          go_region_with fail
          all_goals go_simp
          all_goals
            go_wp2_with fail
            refine (delete_one g9 (n + 1) c9 I (Y.set (I + 1) (y1 + y0)) _ _ (HB9.out.set_ (I + 1) (.int .i64 (y1 + y0))).drew (HR9.out.set (I + 1) (y1 + y0)) hyl2 hc9 hc9' (by omega)).mono ?_
            rintro e w11 ⟨rfl, hri, hbl, -⟩
            rw [HTs2.out] at hri
            have hm11 : Mor w3 w11 := Mor.of_below ((show Below w3.heap.size w3 (w9.setCell ⟨g9, I + 1, none⟩ (.int .i64 (y1 + y0))).drew from bel_dN (k := 1) (HM39.out.below.setCell hbase _)).trans (hbl.mono hbase))
            have HM11 := Lib.hid hm11
            have HRi := Lib.hid hri
            clear hri hbl hm11 cy0 cy1 fy1
            go_wp2_with fail
            refine (equal_ri _ _ n _ _ Xs _ HRi.out (HX3.out.mor HM11.out) hul (by omega)).mono ?_
            rintro e w12 ⟨rfl, hm12⟩
            go_wp2_with fail
            go_ret
            exact ⟨rfl, ((HM3.out.trans' HM11.out).trans' hm12).below⟩
        · skip
          have hxn : (XS == D) = false := beq_eq_false_iff_ne.2 hxd
          have hxl : XS < D := by omega
          go_wp2_with (first
            | (go_at_call 10; (with_reducible refine (HSx.out _ (Mor.refl _)).mono ?_); rintro e w4 ⟨rfl, rfl⟩)
            | (go_at_call 10; (with_reducible refine (HSu.out _ HM3.out).mono ?_); rintro e w4 ⟨rfl, rfl⟩)
            | (go_at_call 11; (with_reducible refine (HWi.out _).mono ?_); rintro e w4 ⟨rfl, rfl⟩)
            | (go_at_call 11; (with_reducible refine (HWk.out _).mono ?_); rintro e w4 ⟨rfl, rfl⟩))
          refine (HCl.out _ HM3.out).mono ?_
          rintro e w5 ⟨v5, rfl, ho5, hm5⟩
          obtain ⟨A5, c5, rfl, -, -, -⟩ := own_shape ho5
          have hvb : (Value.slice A5 n c5).ownBlock ≠ some w5.heap.size := fun e => absurd (own_blk ho5 e).1 (by omega)
          have hm6 := (Mor.refl w5).alloc (o := .cells #[.int .i64 K] 3)
          have HIn := Lib.hid (insert_int w3.heap.size _ n I us w5.heap.size K _ (own_mor ho5 hm6) HN.out (Bk.new w5 3 #[.int .i64 K]) hvb (by omega) (by omega) (hm5.trans' hm6).below.size)
          have HSt := Lib.hid (fun w7 (hg : (w5.alloc (.cells #[.int .i64 K] 3)).grownBy w7 (Value.slice A5 n c5).ownBlock) => own_step (own_mor ho5 hm6) (hm5.trans' hm6) hg)
          clear ho5 hm5 hvb hm6
          go_wp2_with fail
          refine HIn.out.mono ?_
          rintro e w7 ⟨v7, rfl, ho7, hg7⟩
          have HM37 := Lib.hid (HSt.out w7 hg7)
          obtain ⟨g7, c7, cur7, rfl, hg7, hc7, hb7, hr7⟩ := own_blkR ho7 (by omega)
          have hcell := hb7.cell (I + 1)
          have hil := HIl.out
          have hlen7 : (us.take I ++ K :: us.drop I).length = n + 1 := by simp; omega
          rw [hr7 (I + 1) (by omega), HTg.out] at hcell
          have hfr := hb7.frozen (I + 1)
          have hgl := hb7.lt
          have HB7 := Lib.hid hb7
          have HC7 := Lib.hid hr7
          have hI1 : (I : Int) + 1 < (n : Int) + 1 := by omega
          have hI0 : (0 : Int) ≤ (I : Int) + 1 := by omega
          have hwI : IntKind.i64.wrap ((I : Int) + 1) = (I : Int) + 1 := IntWalk.i64_in _ (by omega)
          clear ho7 HIn HSt hb7 hr7 hil
          go_wp2_with fail
          have hrow8 := (HC7.out.set (I + 1) (u - K)).ri (HB7.out.set_ (I + 1) (.int .i64 (u - K)))
          rw [HTm.out] at hrow8
          have hm38 : Mor w3 (w7.setCell ⟨g7, I + 1, none⟩ (.int .i64 (u - K))) := Mor.of_below (HM37.out.below.setCell hg7 _)
          generalize w7.setCell ⟨g7, I + 1, none⟩ (.int .i64 (u - K)) = w8 at *
          clear hcell hfr hgl hlen7 HB7 HC7
          refine (units_yes cost rest total _ (n + 1) c7 (twoL us I K) w8 hrow8 (by rw [HTl.out, HN.out]) HOk2.out).mono ?_
          rintro e w9 ⟨A9, c9, rfl, ho9, hm9⟩
          have hyb := ulist_bd (n := n + 1) hD0 ht1 HOk2.out.2.2.2.2
          rw [HDd.out] at ho9
          have hyl := ulist_len D total (twoL us I K) (n + 1)
          have HTs' := HTs.out
          rw [HN.out] at HTs'
          have hul := ulist_len D total us n
          generalize ulist D total (twoL us I K) (n + 1) = Y at *
          generalize ulist D total us n = Xs at *
          obtain ⟨g9, c9', cur9, he9, hg9, hc9, hb9, hr9⟩ := own_blkR ho9 (by omega)
          injection he9 with e1 _ e3
          subst e1 e3
          have hm39 := hm38.trans' hm9
          have z0 := hyb _ (getD_mem Y I (by omega))
          have z1 := hyb _ (getD_mem Y (I + 1) (by omega))
          obtain ⟨y0, hy0⟩ : ∃ y, Y.getD I 0 = y := ⟨_, rfl⟩
          obtain ⟨y1, hy1⟩ : ∃ y, Y.getD (I + 1) 0 = y := ⟨_, rfl⟩
          have cy0 := hb9.cell I
          have cy1 := hb9.cell (I + 1)
          rw [hr9 I (by omega), hy0] at cy0
          rw [hr9 (I + 1) (by omega), hy1] at cy1
          rw [hy0] at z0 HTs'
          rw [hy1] at z1 HTs'
          obtain ⟨z00, z01⟩ := z0
          obtain ⟨z10, z11⟩ := z1
          have fy1 := hb9.frozen (I + 1)
          have hgl := hb9.lt
          have HB9 := Lib.hid hb9
          have HR9 := Lib.hid hr9
          have HTs2 := Lib.hid HTs'
          have HM39 := Lib.hid hm39
          have hbase : w3.heap.size ≤ g9 := by have := hm38.below.size; omega
          have hiN : (I : Int) < (n : Int) + 1 := by omega
          have hc9' : c9 ≤ maxLen := by
            obtain ⟨_, hh | ⟨g, cap, cur, hv, _, _, _, h2, _⟩⟩ := ho9
            · have := hh.1; omega
            · injection hv with _ _ h3; omega
          unfold maxLen at hc9'
          clear ho9 hb9 hr9 hyb hrow8 hm38 hm9 HTs' hm39
          have hwY : IntKind.i64.wrap (y1 + y0) = y1 + y0 := IntWalk.i64_in _ (by omega)
          have hyl2 : (Y.set (I + 1) (y1 + y0)).length = n + 1 := by rw [List.length_set]; exact hyl
          go_wp2_with fail
          go_region_with fail
          all_goals go_simp
          all_goals
            go_wp2_with fail
            refine (delete_one g9 (n + 1) c9 I (Y.set (I + 1) (y1 + y0)) _ _ (HB9.out.set_ (I + 1) (.int .i64 (y1 + y0))).drew (HR9.out.set (I + 1) (y1 + y0)) hyl2 hc9 hc9' (by omega)).mono ?_
            rintro e w11 ⟨rfl, hri, hbl, -⟩
            rw [HTs2.out] at hri
            have hm11 : Mor w3 w11 := Mor.of_below ((show Below w3.heap.size w3 (w9.setCell ⟨g9, I + 1, none⟩ (.int .i64 (y1 + y0))).drew from bel_dN (k := 1) (HM39.out.below.setCell hbase _)).trans (hbl.mono hbase))
            have HM11 := Lib.hid hm11
            have HRi := Lib.hid hri
            clear hri hbl hm11 cy0 cy1 fy1
            go_wp2_with fail
            refine (equal_ri _ _ n _ _ Xs _ HRi.out (HX3.out.mor HM11.out) hul (by omega)).mono ?_
            rintro e w12 ⟨rfl, hm12⟩
            go_wp2_with fail
            go_ret
            exact ⟨rfl, ((HM3.out.trans' HM11.out).trans' hm12).below⟩
  · refine (units_no cost rest total A n cap us _ (HR.out _ HM2.out) HN.out hok).mono ?_
    rintro e w3 ⟨r, hr0, rfl, hm3⟩
    have hrb : (r == 0) = false := by simpa using hr0
    have hrn : (r != 0) = true := by simpa using hr0
    have HM3 := Lib.hid (HM2.out.trans' hm3)
    clear hm3
    go_wp2_with fail
    go_ret
    exact ⟨rfl, HM3.out.below⟩

end Go.Proofs.Ytdpphneebikdpaa.unitsSum
