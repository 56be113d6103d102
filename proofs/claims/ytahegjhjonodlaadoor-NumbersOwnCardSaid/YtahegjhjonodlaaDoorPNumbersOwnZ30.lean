/- The walk of talkeep.NumbersOwn. -/
import Derived.Test.YtahegjhjonodlaaDoorPNumbersOwnZ1
import Derived.Test.YtahegjhjonodlaaDoorPNumbersOwnZ2
import Derived.Test.YtahegjhjonodlaaDoorPNumbersOwnZ3
import Derived.Test.YtahegjhjonodlaaDoorPNumbersOwnZ4
import Derived.Test.YtahegjhjonodlaaDoorPNumbersOwnZ5
import Derived.Test.YtahegjhjonodlaaDoorPNumbersOwnZ6
import Derived.Test.YtahegjhjonodlaaDoorPNumbersOwnZ7
import Derived.Test.YtahegjhjonodlaaDoorPNumbersOwnZ8
import Derived.Test.YtahegjhjonodlaaDoorPNumbersOwnZ9
import Derived.Test.YtahegjhjonodlaaDoorPNumbersOwnZ10
import Derived.Test.YtahegjhjonodlaaDoorPNumbersOwnZ11
import Derived.Test.YtahegjhjonodlaaDoorPNumbersOwnZ12
import Derived.Test.YtahegjhjonodlaaDoorPNumbersOwnZ13
import Derived.Test.YtahegjhjonodlaaDoorPNumbersOwnZ14
import Derived.Test.YtahegjhjonodlaaDoorPNumbersOwnZ15
import Derived.Test.YtahegjhjonodlaaDoorPNumbersOwnZ16
import Derived.Test.YtahegjhjonodlaaDoorPNumbersOwnZ17
import Derived.Test.YtahegjhjonodlaaDoorPNumbersOwnZ18
import Derived.Test.YtahegjhjonodlaaDoorPNumbersOwnZ19
import Derived.Test.YtahegjhjonodlaaDoorPNumbersOwnZ20
import Derived.Test.YtahegjhjonodlaaDoorPNumbersOwnZ21
import Derived.Test.YtahegjhjonodlaaDoorPNumbersOwnZ22
import Derived.Test.YtahegjhjonodlaaDoorPNumbersOwnZ23
import Derived.Test.YtahegjhjonodlaaDoorPNumbersOwnZ24
import Derived.Test.YtahegjhjonodlaaDoorPNumbersOwnZ25
import Derived.Test.YtahegjhjonodlaaDoorPNumbersOwnZ26
import Derived.Test.YtahegjhjonodlaaDoorPNumbersOwnZ27
import Derived.Test.YtahegjhjonodlaaDoorPNumbersOwnZ28
import Derived.Test.YtahegjhjonodlaaDoorPNumbersOwnZ29
import Derived.Test.YtahegjhjonodlaaDoorRows
import Derived.BigQuiet
import Derived.DataElems
import Derived.Deep.AppendSrc
import Derived.Deep.DeepAppendRoom
import Derived.Deep.DeepCutAuto
import Derived.Deep.LoopGhost
import Derived.Deep.OwnRows
import Derived.Deep.QuietTactic
import Derived.Deep.RegionLaw
import Derived.Deep.RegionWith
import Derived.Deep.SlicePairs
import Derived.Deep.Slices
import Derived.Deep.Strs
import Derived.Handy
import Derived.Laws.AppendOwn
import Derived.Laws.Cover1
import Derived.Lib.Bytealg
import Derived.Lib.Hide
import Derived.Lib.LaidTab
import Derived.Lib.SliceRun
import Derived.Lib.Walk
import Derived.OpenShut
import Derived.Outline
import Derived.OwnWalk
import Derived.PlainAid
import Derived.ProofKit
import Derived.RegionTactic
import Derived.Shelf.Abstract
import Derived.Sort.Walk0
import Derived.WalkKit
import Derived.WalkSpells
namespace Go.Proofs.YtahegjhjonodlaaDoor.numbersOwn
open Go.ChangeShapes Go.WideShapes Go.ChangeAt Go.RowKit Stb
set_option linter.unusedVariables false
set_option maxRecDepth 100000

theorem info_ints : (Tryd.prog.info? 22).map (fun i => (i.zero, i.size, i.bytes)) = some (some (.slice none 0 0), 1, 24) := by kernel_rfl
theorem beg : byl 3 [1] = [3] := by decide
theorem beg_code : byc 3 [1] = 0 := by decide

set_option maxRecDepth 100000 in
set_option maxHeartbeats 3200000 in
theorem numbersOwn_walk (w : World) (ht : Tab w) (a : Int) (wa : (Lit.int .i64 a).wf = true) (A : Option Addr) (len cap : Nat) (zs : List Int) (hz : IsRow .i64 w A len cap zs) (hrch : len * 8 ≤ 140737488351232) (q : Int) (wq : (Lit.int .i64 q).wf = true) :
    Calls Tryd.prog 3 #[.int .i64 a, .slice A len cap, .int .i64 q] w fun e w' => e = .returned (.bool true) ∧ Below w.heap.size w w' := by
  have hlen : len ≤ 17592186044416 := by omega
  clear hrch
  obtain ⟨hri, hle, hcap, hmax, hwf, hnil⟩ := Ri.of_isRow hz
  generalize zs.take len = vs at *
  have HRI := Lib.hid hri
  have HLE := Lib.hid hle
  have HNI := Lib.hid hnil
  have HT := Lib.hid ht
  have HMX := Lib.hid hmax
  have hml : (len : Int) ≤ 9223372036854775807 := by unfold maxLen at hmax; omega
  clear hri hz hwf hmax ht hle hnil
  have P0 := wi_lo q 50 (by omega)
  have P9 := wi_hi q 50 (by omega)
  have HWi := Lib.hid (fun w => within_any q 50 w (by omega) (by omega))
  generalize wi q 50 = p at *
  obtain ⟨T, cT, hT40, hRows⟩ := Rows_own a 1000 (max 1 (wrap64 (a.tdiv 3)))
  have HRows := Lib.hid hRows
  clear hRows
  go_enter Tryd.func3, Tryd.ntmps3
  go_wp2_with fail
  refine (by_any2 3 _ 1 1 [1] _ (Ri.of_row (row_lit [1] (by simp) rfl)) rfl beg_code).mono ?_
  rintro e w1 ⟨g1, rfl, hm1, hg1, hb1⟩
  rw [beg] at hb1
  have HB1 := Lib.hid hb1
  have HM1 := Lib.hid hm1
  have HM0 := Lib.hid ((Mor.refl w).alloc.trans' hm1)
  have HG1 := Lib.hid hg1
  clear hm1 hg1 hb1
  have HEq := Lib.hid (fun w' (h : Mor w1 w') c c' (B : Option Addr) (hB : Ri w' B [3]) => equal_ri2 (some ⟨g1, 0, none⟩) B 1 c c' [3] w' ((Ri.of_row (Blk.row HB1.out)).mor h) hB rfl (by omega))
  clear HG1
  have hms := HM1.out.below.size
  go_wp2_with fail
  refine (HEq.out _ (Mor.refl _).alloc _ _ _ (Ri.of_row (row_lit [3] (by simp) rfl))).mono ?_
  rintro e w2 ⟨rfl, hm2⟩
  have HM2 := Lib.hid (HM0.out.trans' ((Mor.refl _).alloc.trans' hm2))
  clear hm2 HEq HB1 HM1 HM0 hms
  have HRo := Lib.hid (fun w' (h : Mor w w') => roomy_int A len cap vs (-7) w' (HRI.out.mor h) HLE.out HNI.out hlen)
  go_wp2_with fail
  refine (HRo.out _ HM2.out).mono ?_
  rintro e w3 ⟨rfl, hm3, hb3⟩
  -- CALLS
  obtain ⟨gI, hgI⟩ : ∃ gI, gI = w2.heap.size := ⟨_, rfl⟩
  rw [← hgI] at hb3
  rw [← hgI]
  have HGI := Lib.hid (show w.heap.size ≤ gI by rw [hgI]; exact HM2.out.below.size)
  have HB3 := Lib.hid hb3
  have HX3 := Lib.hid (HM2.out.trans' hm3)
  have HRi := Lib.hid (show Ri w3 (some ⟨gI, 0, none⟩) vs from by
    have h := (Ri.of_row (Blk.row hb3)).take (k := len)
    rwa [List.take_append_of_le_length (by rw [HLE.out]; exact Nat.le_refl _), List.take_of_length_le (by rw [HLE.out]; exact Nat.le_refl _)] at h)
  have HTa := Lib.hid (HT.out.mor HX3.out)
  have hmx : len ≤ maxLen := by unfold maxLen; omega
  have HMX2 := Lib.hid hmx
  clear hb3 hm3 hgI HM2 HRo hmx hcap
  obtain ⟨nM, hnM⟩ : ∃ n : Nat, dk 5 + n = dk 300 + 1 := by
    have := le_dk (n := 5) (n' := 300) (by omega) (by omega) (by omega)
    exact ⟨(dk 300 + 1 - dk 5).toNat, by omega⟩
  have HnM := Lib.hid hnM
  clear hnM
  go_wp2_with fail
  refine (by_new a (some ⟨gI, 0, none⟩) len (len + 3) vs _ (HRi.out.mor (Mor.refl _)) HLE.out HMX2.out).mono ?_
  rintro e u0 ⟨v0, r0, n0, x0, rfl, ho0, hl0, hm0⟩
  obtain ⟨A0, c0, rfl, hc0, -, -⟩ := own_shape ho0
  have HO0 := Lib.hid ho0
  have HL0 := Lib.hid hl0
  have HM0 := Lib.hid hm0
  have HS0 := Lib.hid (show w3.heap.size ≤ u0.heap.size from hm0.below.size)
  have HN0 := Lib.hid hm0
  have HK0 := Lib.hid (fun b hb => (World.ownsRow.lt ho0 b hb).2)
  clear ho0 hl0 hm0
  go_wp2_with fail
  refine (even_new a q _).mono ?_
  rintro e u1 ⟨v1, r1, n1, x1, rfl, ho1, hl1, hm1⟩
  obtain ⟨A1, c1, rfl, hc1, -, -⟩ := own_shape ho1
  have HO1 := Lib.hid ho1
  have HL1 := Lib.hid hl1
  have HM1 := Lib.hid (HM0.out.trans' hm1)
  have HS1 := Lib.hid (show u0.heap.size ≤ u1.heap.size from hm1.below.size)
  have HN1 := Lib.hid hm1
  have HK1 := Lib.hid (fun b hb => (World.ownsRow.lt ho1 b hb).2)
  clear ho1 hl1 hm1
  go_wp2_with fail
  refine (HWi.out _).mono ?_
  rintro e wW ⟨rfl, rfl⟩
  go_wp2_with fail
  refine (deal_new 1 p (some ⟨gI, 0, none⟩) len (len + 3) vs _ (HRi.out.mor HM1.out) HLE.out).mono ?_
  rintro e u2 ⟨v2, r2, n2, x2, rfl, ho2, hl2, hm2⟩
  obtain ⟨A2, c2, rfl, hc2, -, -⟩ := own_shape ho2
  have HO2 := Lib.hid ho2
  have HL2 := Lib.hid hl2
  have HM2 := Lib.hid (HM1.out.trans' hm2)
  have HS2 := Lib.hid (show u1.heap.size ≤ u2.heap.size from hm2.below.size)
  have HN2 := Lib.hid hm2
  have HK2 := Lib.hid (fun b hb => (World.ownsRow.lt ho2 b hb).2)
  clear ho2 hl2 hm2
  go_wp2_with fail
  refine (HWi.out _).mono ?_
  rintro e wW ⟨rfl, rfl⟩
  go_wp2_with fail
  refine (quotas_new p (some ⟨gI, 0, none⟩) len (len + 3) vs _ (HRi.out.mor HM2.out) HLE.out).mono ?_
  rintro e u3 ⟨v3, r3, n3, x3, rfl, ho3, hl3, hm3⟩
  obtain ⟨A3, c3, rfl, hc3, -, -⟩ := own_shape ho3
  have HO3 := Lib.hid ho3
  have HL3 := Lib.hid hl3
  have HM3 := Lib.hid (HM2.out.trans' hm3)
  have HS3 := Lib.hid (show u2.heap.size ≤ u3.heap.size from hm3.below.size)
  have HN3 := Lib.hid hm3
  have HK3 := Lib.hid (fun b hb => (World.ownsRow.lt ho3 b hb).2)
  clear ho3 hl3 hm3
  go_wp2_with fail
  refine (straight_new a 0 q _).mono ?_
  rintro e u4 ⟨v4, r4, n4, x4, rfl, ho4, hl4, hm4⟩
  obtain ⟨A4, c4, rfl, hc4, -, -⟩ := own_shape ho4
  have HO4 := Lib.hid ho4
  have HL4 := Lib.hid hl4
  have HM4 := Lib.hid (HM3.out.trans' hm4)
  have HS4 := Lib.hid (show u3.heap.size ≤ u4.heap.size from hm4.below.size)
  have HN4 := Lib.hid hm4
  have HK4 := Lib.hid (fun b hb => (World.ownsRow.lt ho4 b hb).2)
  clear ho4 hl4 hm4
  go_wp2_with fail
  refine (digits_new a 0 q _).mono ?_
  rintro e u5 ⟨v5, r5, n5, x5, rfl, ho5, hl5, hm5⟩
  obtain ⟨A5, c5, rfl, hc5, -, -⟩ := own_shape ho5
  have HO5 := Lib.hid ho5
  have HL5 := Lib.hid hl5
  have HM5 := Lib.hid (HM4.out.trans' hm5)
  have HS5 := Lib.hid (show u4.heap.size ≤ u5.heap.size from hm5.below.size)
  have HN5 := Lib.hid hm5
  have HK5 := Lib.hid (fun b hb => (World.ownsRow.lt ho5 b hb).2)
  clear ho5 hl5 hm5
  go_wp2_with fail
  refine (falling_new a 0 100000 q _).mono ?_
  rintro e u6 ⟨v6, r6, n6, x6, rfl, ho6, hl6, hm6⟩
  obtain ⟨A6, c6, rfl, hc6, -, -⟩ := own_shape ho6
  have HO6 := Lib.hid ho6
  have HL6 := Lib.hid hl6
  have HM6 := Lib.hid (HM5.out.trans' hm6)
  have HS6 := Lib.hid (show u5.heap.size ≤ u6.heap.size from hm6.below.size)
  have HN6 := Lib.hid hm6
  have HK6 := Lib.hid (fun b hb => (World.ownsRow.lt ho6 b hb).2)
  clear ho6 hl6 hm6
  go_wp2_with fail
  refine (units_new a 0 1000 (some ⟨gI, 0, none⟩) len (len + 3) vs _ (HRi.out.mor HM6.out) HLE.out).mono ?_
  rintro e u7 ⟨v7, r7, n7, x7, rfl, ho7, hl7, hm7⟩
  obtain ⟨A7, c7, rfl, hc7, -, -⟩ := own_shape ho7
  have HO7 := Lib.hid ho7
  have HL7 := Lib.hid hl7
  have HM7 := Lib.hid (HM6.out.trans' hm7)
  have HS7 := Lib.hid (show u6.heap.size ≤ u7.heap.size from hm7.below.size)
  have HN7 := Lib.hid hm7
  have HK7 := Lib.hid (fun b hb => (World.ownsRow.lt ho7 b hb).2)
  clear ho7 hl7 hm7
  go_wp2_with fail
  refine (months_new a 5 300 nM _ (by omega) (by omega) (by omega) HnM.out (HTa.out.mor HM7.out)).mono ?_
  rintro e u8 ⟨v8, r8, n8, x8, rfl, ho8, hl8, hm8⟩
  obtain ⟨A8, c8, rfl, hc8, -, -⟩ := own_shape ho8
  have HO8 := Lib.hid ho8
  have HL8 := Lib.hid hl8
  have HM8 := Lib.hid (HM7.out.trans' hm8)
  have HS8 := Lib.hid (show u7.heap.size ≤ u8.heap.size from hm8.below.size)
  have HN8 := Lib.hid hm8
  have HK8 := Lib.hid (fun b hb => (World.ownsRow.lt ho8 b hb).2)
  clear ho8 hl8 hm8
  go_wp2_with fail
  refine (HRows.out _).mono ?_
  rintro e u9 ⟨vR, rfl, hoR, hmR⟩
  obtain ⟨AR, cR, rfl, hcR, -, -⟩ := own_shape hoR
  have HOR := Lib.hid hoR
  have HM9 := Lib.hid (HM8.out.trans' hmR)
  have HN9 := Lib.hid hmR
  have HS9 := Lib.hid (show u8.heap.size ≤ u9.heap.size from hmR.below.size)
  clear hoR hmR
  have HEl := Lib.hid (equal_ri2 (some ⟨gI, 0, none⟩) A len (len + 3) cap vs u9 (HRi.out.mor HM9.out) (HRI.out.mor (HX3.out.trans' HM9.out)) HLE.out hlen)
  go_wp2_with fail
  refine HEl.out.mono ?_
  rintro e y1 ⟨rfl, hmy⟩
  have HY1 := Lib.hid hmy
  have HMy := Lib.hid (HM9.out.trans' hmy)
  clear hmy
  have HMk := Lib.hid (marked_int gI len vs (-7) y1 (HB3.out.below HMy.out.below HB3.out.lt) HLE.out hlen)
  go_wp2_with fail
  refine HMk.out.mono ?_
  rintro e y2 ⟨rfl, rfl⟩
  clear HEl HMk
  go_wp2_with fail
  obtain ⟨L, hL⟩ : ∃ L : List Sl, L = [⟨A0, n0, c0, x0⟩, ⟨A1, n1, c1, x1⟩, ⟨A2, n2, c2, x2⟩, ⟨A3, n3, c3, x3⟩, ⟨A4, n4, c4, x4⟩, ⟨A5, n5, c5, x5⟩, ⟨A6, n6, c6, x6⟩, ⟨A7, n7, c7, x7⟩, ⟨A8, n8, c8, x8⟩] := ⟨_, rfl⟩
  obtain ⟨yA, hyA⟩ : ∃ yA, yA = y1.alloc (.cells (L.map Sl.v).toArray 22) := ⟨_, rfl⟩
  have HMA := Lib.hid (show Mor w3 yA by rw [hyA]; exact HMy.out.alloc)
  have HBA := Lib.hid (show Blk yA y1.heap.size 22 (L.map Sl.v).toArray by rw [hyA]; exact Blk.new _ _ _)
  have hyA2 : yA = y1.alloc (.cells #[.slice A0 n0 c0, .slice A1 n1 c1, .slice A2 n2 c2, .slice A3 n3 c3, .slice A4 n4 c4, .slice A5 n5 c5, .slice A6 n6 c6, .slice A7 n7 c7, .slice A8 n8 c8] 22) := by rw [hyA, hL]; rfl
  rw [← hyA2]
  have HZ9 := Lib.hid (show Mor u9 yA by rw [hyA]; exact HY1.out.alloc)
  have HZ8 := Lib.hid (show Mor u8 yA from HN9.out.trans' HZ9.out)
  have HZ7 := Lib.hid (show Mor u7 yA from HN8.out.trans' HZ8.out)
  have HZ6 := Lib.hid (show Mor u6 yA from HN7.out.trans' HZ7.out)
  have HZ5 := Lib.hid (show Mor u5 yA from HN6.out.trans' HZ6.out)
  have HZ4 := Lib.hid (show Mor u4 yA from HN5.out.trans' HZ5.out)
  have HZ3 := Lib.hid (show Mor u3 yA from HN4.out.trans' HZ4.out)
  have HZ2 := Lib.hid (show Mor u2 yA from HN3.out.trans' HZ3.out)
  have HZ1 := Lib.hid (show Mor u1 yA from HN2.out.trans' HZ2.out)
  have HZ0 := Lib.hid (show Mor u0 yA from HN1.out.trans' HZ1.out)
  obtain ⟨S, hS⟩ : ∃ S : List Nat, S = [w3.heap.size, u0.heap.size, u1.heap.size, u2.heap.size, u3.heap.size, u4.heap.size, u5.heap.size, u6.heap.size, u7.heap.size, u8.heap.size] := ⟨_, rfl⟩
  have HLo := Lib.hid (show ∀ k, k < 9 → OwnSl yA (S.getD k 0) (sg L k) ∧ (∀ b, (sg L k).v.ownBlock = some b → b < S.getD (k + 1) 0) ∧ (sg L k).n ≤ 1000000 ∧ S.getD k 0 ≤ S.getD (k + 1) 0 from by
    rw [hL, hS]; intro k hk
    match k, hk with
    | 0, _ => exact ⟨own_mor HO0.out HZ0.out, fun b hb => HK0.out b hb, HL0.out, HS0.out⟩
    | 1, _ => exact ⟨own_mor HO1.out HZ1.out, fun b hb => HK1.out b hb, HL1.out, HS1.out⟩
    | 2, _ => exact ⟨own_mor HO2.out HZ2.out, fun b hb => HK2.out b hb, HL2.out, HS2.out⟩
    | 3, _ => exact ⟨own_mor HO3.out HZ3.out, fun b hb => HK3.out b hb, HL3.out, HS3.out⟩
    | 4, _ => exact ⟨own_mor HO4.out HZ4.out, fun b hb => HK4.out b hb, HL4.out, HS4.out⟩
    | 5, _ => exact ⟨own_mor HO5.out HZ5.out, fun b hb => HK5.out b hb, HL5.out, HS5.out⟩
    | 6, _ => exact ⟨own_mor HO6.out HZ6.out, fun b hb => HK6.out b hb, HL6.out, HS6.out⟩
    | 7, _ => exact ⟨own_mor HO7.out HZ7.out, fun b hb => HK7.out b hb, HL7.out, HS7.out⟩
    | 8, _ => exact ⟨own_mor HO8.out HZ8.out, fun b hb => HK8.out b hb, HL8.out, HS8.out⟩)
  have HLl := Lib.hid (show L.length = 9 by rw [hL]; rfl)
  have HSb := Lib.hid (show gI < S.getD 0 0 by rw [hS]; exact HB3.out.lt)
  have HSe := Lib.hid (show S.getD 9 0 = u8.heap.size by rw [hS]; rfl)
  clear hyA2 hyA hL hS
  obtain ⟨bA, hbA⟩ : ∃ bA, bA = y1.heap.size := ⟨_, rfl⟩
  have HSa := Lib.hid (show u9.heap.size ≤ bA by rw [hbA]; exact HY1.out.below.size)
  rw [← hbA] at HBA
  rw [← hbA]
  clear hbA
  have HCell := Lib.hid (fun (w' : World) (h : Blk w' bA 22 (L.map Sl.v).toArray) (k : Nat) (hk : k < 9) => show w'.cell? ⟨bA, k, none⟩ = some (.slice (sg L k).A (sg L k).n (sg L k).c) from by
    rw [h.cell, List.getElem?_toArray, List.getElem?_map, List.getElem?_eq_getElem (by rw [HLl.out]; exact hk)]
    simp [sg, Sl.v, List.getD_eq_getElem?_getD, List.getElem?_eq_getElem (show k < L.length by rw [HLl.out]; exact hk)])
  obtain ⟨i0, hi0, hz0, hz1, hz2⟩ := info_parts info_ints
  go_loopw [31, 138] (fun v i wr => ∃ k : Nat, k ≤ 9 ∧ i = .int .i64 k ∧ (∃ A' c', v = .slice A' k c') ∧ Hid (∃ qs : List Sl, qs.length = k ∧ wr.ownsRow yA.heap.size 22 1 v k (qs.map Sl.v) ∧ (∀ j, j < k → OwnSl wr yA.heap.size (sg qs j) ∧ (sg qs j).xs = (sg L j).xs ∧ (sg qs j).n = (sg L j).n)) ∧ Hid (Mor yA wr)) (fun _ i _ => 9 - (intOf i).toNat)
  case atStart => exact ⟨0, by omega, rfl, ⟨none, 0, rfl⟩, Lib.hid ⟨[], rfl, World.ownsRow_nil _ _ _ _, fun j hj => absurd hj (Nat.not_lt_zero _)⟩, Lib.hid (Mor.refl _)⟩
  case round =>
    obtain ⟨k, hk, rfl, ⟨A', c', rfl⟩, HQ, HMq⟩ := hrel
    by_cases hlt : k < 9
    · have hki : (k : Int) < 9 := by omega
      have hk0 : (0 : Int) ≤ (k : Int) := by omega
      have hcell := HCell.out wr (HBA.out.below HMq.out.below HBA.out.lt) k hlt
      have hbl := (HBA.out.below HMq.out.below HBA.out.lt).lt
      obtain ⟨p1, p2, p3, p4⟩ := HLo.out k hlt
      have HP1 := Lib.hid (show OwnSl wr (S.getD k 0) (sg L k) from own_mor p1 HMq.out)
      clear p1 p2 p4
      obtain ⟨s, hs⟩ : ∃ s, s = sg L k := ⟨_, rfl⟩
      rw [← hs] at hcell p3 HP1
      have HSg := Lib.hid hs
      clear hs
      obtain ⟨sA, sn, sc, sx⟩ := s
      simp only at hcell p3
      go_wp2_with fail
      refine (clone_any sA sn sc sx wr (OwnSl.ri HP1.out) (OwnSl.len HP1.out) (OwnSl.nil HP1.out) p3).mono ?_
      rintro e w4 ⟨v4, rfl, ho4, hm4⟩
      obtain ⟨A4, c4, rfl, hc4, -, -⟩ := own_shape ho4
      have HO4 := Lib.hid ho4
      have HM4 := Lib.hid hm4
      have HY4 := Lib.hid (HMq.out.trans' hm4)
      clear ho4 hm4 hcell hbl
      obtain ⟨qs, hq1, hq2, hq3⟩ := HQ.out
      have HQ2 := Lib.hid hq2
      have HQ3 := Lib.hid hq3
      have HQ1 := Lib.hid hq1
      clear HQ hq2 hq3 hq1
      go_wp2_with (at_builtin; refine wpList_append_own _ rfl _ _ 38 rfl yA.heap.size 22 i0 (.slice none 0 0) 1 24 Tryd.underlying38 hi0 hz0 hz1 hz2 rfl (by decide) _ _ _ rfl ((own_mor HQ2.out HM4.out).alloc _) ⟨w4.heap.size, 0, none⟩ 1 1 [.slice A4 sn c4] rfl rfl ?_ ?_ ?_ ?_ ?_ ?_)
      · exact lit_at [.slice A4 sn c4] _ _ rfl rfl
      · intro u hu; simp at hu; subst hu; rfl
      · unfold maxLen; omega
      · omega
      · have := HY4.out.below.size; simp; omega
      · intro v5 w5 hown hgrow _
        have hold : (w4.alloc (.cells #[.slice A4 sn c4] 22)).ownsRow yA.heap.size 22 1 (.slice A' k c') k (qs.map Sl.v) := (own_mor HQ2.out HM4.out).alloc _
        have HM5 := Lib.hid (own_step hold (HY4.out.trans' (Mor.refl _).alloc) hgrow)
        have HR5 := Lib.hid (show w5.ownsRow yA.heap.size 22 1 v5 (k + 1) ((qs ++ [Sl.mk A4 sn c4 sx]).map Sl.v) by rw [List.map_append]; exact hown)
        have HX5 := Lib.hid (show ∀ j, j < k + 1 → OwnSl w5 yA.heap.size (sg (qs ++ [Sl.mk A4 sn c4 sx]) j) ∧ (sg (qs ++ [Sl.mk A4 sn c4 sx]) j).xs = (sg L j).xs ∧ (sg (qs ++ [Sl.mk A4 sn c4 sx]) j).n = (sg L j).n from by
          intro j hj
          have hq1 := HQ1.out
          by_cases hjk : j < k
          · have e : sg (qs ++ [Sl.mk A4 sn c4 sx]) j = sg qs j := by
              unfold sg; rw [List.getD_eq_getElem?_getD, List.getD_eq_getElem?_getD, List.getElem?_append_left (by omega)]
            rw [e]
            obtain ⟨t1, t2, t3⟩ := HQ3.out j hjk
            exact ⟨own_grows ((own_mor t1 HM4.out).alloc _) hold hgrow (by decide), t2, t3⟩
          · obtain rfl : j = k := by omega
            have e : sg (qs ++ [Sl.mk A4 sn c4 sx]) j = Sl.mk A4 sn c4 sx := by
              unfold sg; rw [List.getD_eq_getElem?_getD, List.getElem?_append_right (by omega)]; simp [hq1]
            rw [e, ← HSg.out]
            refine ⟨?_, rfl, rfl⟩
            exact own_grows ((own_base HO4.out HMq.out.below.size).alloc _) hold hgrow (by decide))
        obtain ⟨A5, c5, rfl, -, -, -⟩ := own_shape hown
        clear hown hgrow hold
        go_wp2
        go_roundw
        case rel => exact ⟨k + 1, by omega, by go_num, ⟨_, _, rfl⟩, Lib.hid ⟨_, by simp [HQ1.out], HR5.out, HX5.out⟩, HM5⟩
        case measure => simp [intOf]; omega
    · obtain rfl : k = 9 := by omega
      obtain ⟨wB, rfl⟩ : ∃ wB, wB = wr := ⟨_, rfl⟩
      obtain ⟨qs, hq1, hq2, hq3⟩ := HQ.out
      have HQ1 := Lib.hid hq1
      have HQ2 := Lib.hid hq2
      have HQ3 := Lib.hid hq3
      clear HQ hq1 hq2 hq3
      obtain ⟨gW, cW, hvW, -, -, -⟩ := own_sl HQ2.out HQ1.out (show 0 < 9 by omega)
      injection hvW with hA1 _ hA3
      subst hA1 hA3
      obtain ⟨cs, hcs⟩ : ∃ cs, cs = nrows a 1000 (max 1 (wrap64 (a.tdiv 3))) T := ⟨_, rfl⟩
      have HCi := Lib.hid (show ∀ u ∈ cs, ∃ k, u = .int .i64 k by rw [hcs]; exact nrows_ints _ _ _ _)
      have HOc := Lib.hid (show wB.ownsRow u8.heap.size 42 3 (.slice AR T cR) T cs by rw [hcs]; exact own_mor (own_mor HOR.out HZ9.out) HMq.out)
      have HCs := Lib.hid hcs
      clear hcs
      have hclen := HOc.out.1
      have HCl := Lib.hid hclen
      have hcnil : AR = none → T = 0 := fun e => by
        rcases HOc.out.2 with h | ⟨g, cap, cur, hv, _⟩
        · exact h.2
        · injection hv with h2 _ _; rw [e] at h2; cases h2
      have HAn := Lib.hid hcnil
      clear hclen hcnil
      go_wp2_with fail
      refine (clone_rows AR T cR cs wB (Rd.own HOc.out) HCl.out (fun u hu => by obtain ⟨q, rfl⟩ := HCi.out u hu; rfl) HAn.out (by omega)).mono ?_
      rintro e wC ⟨vC, rfl, hoC, hmC⟩
      obtain ⟨AC, cC, rfl, hcC, -, -⟩ := own_shape hoC
      have HOC := Lib.hid hoC
      have HMC := Lib.hid hmC
      have HYC := Lib.hid (HMq.out.trans' hmC)
      clear hoC hmC
      have hszI := HB3.out.lt
      have HSI := Lib.hid (HB3.out.below (HMA.out.trans' HYC.out).below HB3.out.lt)
      go_wp2_with fail
      refine (spoil_int gI len (len + 3) ((vs ++ [-7, -7, -7]).map (Value.int .i64)) 3 wC HSI.out (by simp [HLE.out]) (by omega) (by unfold maxLen; omega)).mono ?_
      rintro e wD ⟨rfl, hD, -⟩
      have HAp := Lib.hid (show Apart L S gI 9 wC from (show Apart L S gI 9 yA from ⟨HSb.out, HLo.out⟩).mor HYC.out)
      have HD := Lib.hid (show But (Pk L gI 0) wC wD from (But.refl _ wC).grown hD.1 (fun b hb _ => .inl (by injection hb with hb; exact hb.symm)))
      clear hD hszI
      go_wp2_with fail
      go_loopw [154] (fun i wr => ∃ k : Nat, k ≤ 9 ∧ i = .int .i64 k ∧ Hid (But (Pk L gI k) wC wr)) (fun i _ => 9 - (intOf i).toNat)
      case atStart => exact ⟨0, by omega, rfl, HD⟩
      case round =>
        obtain ⟨k, hk, rfl, HBu⟩ := hrel
        by_cases hlt : k < 9
        · have hki : (k : Int) < 9 := by omega
          have hk0 : (0 : Int) ≤ (k : Int) := by omega
          have HOk := Lib.hid (HAp.out.own hlt HBu.out)
          have hPl : ∀ b, Pk L gI k b → b < u8.heap.size := fun b hb => by
            have h1 := HAp.out.lt hk hb
            have h2 := HAp.out.le hk (Nat.le_refl 9)
            have h3 := HSe.out
            omega
          have hsz9 := HN9.out.below.size
          have hszA := HSa.out
          have hszB := HBA.out.lt
          have hBk := blk_but (HBA.out.below HYC.out.below HBA.out.lt) HBu.out (fun hp => by have := hPl _ hp; omega)
          have hcell := HCell.out wr hBk k hlt
          have hW0 := own_but (own_mor HQ2.out HMC.out) HBu.out (fun b hb hp => by
            have h1 := hPl _ hp
            have h2 := (World.ownsRow.lt HQ2.out b hb).1
            omega)
          obtain ⟨gW2, cW2, hvW, hgW, hgl, hcW⟩ := own_sl hW0 HQ1.out hlt
          injection hvW with hA1 _ hA3
          injection hA1 with hA1
          injection hA1 with hA1 _ _
          subst hA1 hA3
          have HQk := Lib.hid (show OwnSl wr yA.heap.size (sg qs k) from own_but (own_mor (HQ3.out k hlt).1 HMC.out) HBu.out (fun b hb hp => by
            have h1 := hPl _ hp
            have h2 := (World.ownsRow.lt (HQ3.out k hlt).1 b hb).1
            omega))
          have hbl := hBk.lt
          have HEk := Lib.hid (show Calls Tryd.prog 6 #[.slice (sg L k).A (sg L k).n (sg L k).c, .slice (sg qs k).A (sg qs k).n (sg qs k).c] wr fun e w' => e = .returned (.bool true) ∧ Mor wr w' from by
            obtain ⟨_, t2, t3⟩ := HQ3.out k hlt
            rw [t3]
            refine equal_ri2 _ _ (sg L k).n _ _ (sg L k).xs wr (OwnSl.ri HOk.out) (t2 ▸ OwnSl.ri HQk.out) (OwnSl.len HOk.out) (by have := (HAp.out.2 k hlt).2.2.1; omega))
          have HSk := Lib.hid (fun (w' : World) (h : Mor wr w') => show Calls Tryd.prog 21 #[.slice (sg L k).A (sg L k).n (sg L k).c, .int .i64 9] w' fun e w'' => e = .returned (.tuple #[]) ∧ w'.grownBy w'' (sg L k).v.ownBlock from spoil_own 9 (S.getD k 0) (sg L k) w' (own_mor HOk.out h))
          have HNx := Lib.hid (fun (w' w'' : World) (h : Mor wr w') (hg : w'.grownBy w'' (sg L k).v.ownBlock) => show But (Pk L gI (k + 1)) wC w'' from ((HBu.out.mono Pk.up).mor h).grown hg (fun b hb _ => .inr ⟨k, by omega, hb⟩))
          clear hPl hsz9 hszA hszB hBk hW0
          generalize sg L k = s at *
          generalize sg qs k = s2 at *
          obtain ⟨sA, sn, sc, sx⟩ := s
          obtain ⟨tA, tn, tc, tx⟩ := s2
          simp only at hcell hcW HEk HSk
          go_wp2_with fail
          refine HEk.out.mono ?_
          rintro e w6 ⟨rfl, hm6⟩
          have HM6 := Lib.hid hm6
          clear hcell hcW hbl hgl hm6
          go_wp2_with fail
          refine (HSk.out w6 HM6.out).mono ?_
          rintro e w7 ⟨rfl, hg7⟩
          have HB7 := Lib.hid (HNx.out w6 w7 HM6.out hg7)
          clear hg7
          go_wp2_with fail
          go_roundw
          case rel => exact ⟨k + 1, by omega, by go_num, HB7⟩
          case measure => simp [intOf]; omega
        · obtain rfl : k = 9 := by omega
          obtain ⟨wE, rfl⟩ : ∃ wE, wE = wr := ⟨_, rfl⟩
          go_wp2_with fail
          refine (HRows.out _).mono ?_
          rintro e wF ⟨vG, rfl, hoG, hmG⟩
          rw [← HCs.out] at hoG
          obtain ⟨AG, cG, rfl, hcG, -, -⟩ := own_shape hoG
          have HOG := Lib.hid hoG
          have HMG := Lib.hid hmG
          clear hoG hmG
          have HOr := Lib.hid (own_mor (own_but (own_mor HOc.out HMC.out) HBu.out (fun b hb hp => by
            have h1 := HAp.out.lt (Nat.le_refl 9) hp
            have h2 := (World.ownsRow.lt HOc.out b hb).1
            have h3 := HSe.out
            omega)) HMG.out)
          go_wp2_with fail
          refine (spoil_ownR 0 5 0 HOr.out).mono ?_
          rintro e wG ⟨rfl, hg⟩
          have HPG := Lib.hid (show ∀ b, (Value.slice AR T cR).ownBlock = some b → u8.heap.size ≤ b ∧ b < wB.heap.size from fun b hb => by
            have h1 := World.ownsRow.lt HOR.out b hb
            have h2 := HZ9.out.below.size
            have h3 := HMq.out.below.size
            omega)
          have HRG := Lib.hid (show Rd wG AG cs from Rd.own (World.ownsRow.kept HOG.out hg (by
            cases hb : (Value.slice AG T cG).ownBlock with
            | none => exact .inl rfl
            | some b =>
              refine .inr fun he => ?_
              have h1 := (HPG.out b he.symm).2
              have h2 := (World.ownsRow.lt HOG.out b hb).1
              have h3 := HMC.out.below.size
              have h4 := HBu.out.size
              omega)))
          have HOCF := own_mor (own_but HOC.out HBu.out (fun b hb hp => by
            have h1 := HAp.out.lt (Nat.le_refl 9) hp
            have h2 := (World.ownsRow.lt HOC.out b hb).1
            have h3 := HSe.out
            have h4 := HZ8.out.below.size
            have h5 := HMq.out.below.size
            omega)) HMG.out
          have HRC := Lib.hid (show Rd wG AC cs from Rd.own (World.ownsRow.kept HOCF hg (by
            cases hb : (Value.slice AC T cC).ownBlock with
            | none => exact .inl rfl
            | some b =>
              refine .inr fun he => ?_
              have h1 := (HPG.out b he.symm).2
              have h2 := (World.ownsRow.lt HOCF b hb).1
              omega)))
          have HEnd := Lib.hid (show Mor w wG from But.toMor (P := fun b => w.heap.size ≤ b) (HX3.out.trans' (HMA.out.trans' HYC.out)) (((HBu.out.mono (fun b hp => by
            have hg0 := HGI.out
            rcases hp with rfl | ⟨j, hj, e⟩
            · exact hg0
            · have h1 := (World.ownsRow.lt (HAp.out.2 j hj).1 b e).1
              have h2 := HAp.out.le (Nat.zero_le j) (Nat.le_of_lt hj)
              have h3 := HSb.out
              omega)).mor HMG.out).grown hg (fun b hb _ => by
            have h1 := (HPG.out b hb).1
            have h2 := HX3.out.below.size
            have h3 := HM8.out.below.size
            omega)) (fun b h => h))
          clear hg HOCF
          go_wp2_with fail
          refine (equal_rows AG AC T cG cC cs wG HRG.out HRC.out HCl.out HCi.out (by omega)).mono ?_
          rintro e wZ ⟨rfl, hmZ⟩
          have HZZ := Lib.hid (HEnd.out.trans' hmZ)
          clear hmZ
          go_wp2
          go_ret
          exact ⟨rfl, HZZ.out.below⟩

end Go.Proofs.YtahegjhjonodlaaDoor.numbersOwn
