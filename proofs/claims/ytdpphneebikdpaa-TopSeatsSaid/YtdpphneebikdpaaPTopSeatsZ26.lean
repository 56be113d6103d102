/- The walk of taltop.TopSeats. -/
import Derived.Test.YtdpphneebikdpaaPTopSeatsZ1
import Derived.Test.YtdpphneebikdpaaPTopSeatsZ2
import Derived.Test.YtdpphneebikdpaaPTopSeatsZ3
import Derived.Test.YtdpphneebikdpaaPTopSeatsZ4
import Derived.Test.YtdpphneebikdpaaPTopSeatsZ5
import Derived.Test.YtdpphneebikdpaaPTopSeatsZ6
import Derived.Test.YtdpphneebikdpaaPTopSeatsZ7
import Derived.Test.YtdpphneebikdpaaPTopSeatsZ8
import Derived.Test.YtdpphneebikdpaaPTopSeatsZ9
import Derived.Test.YtdpphneebikdpaaPTopSeatsZ10
import Derived.Test.YtdpphneebikdpaaPTopSeatsZ11
import Derived.Test.YtdpphneebikdpaaPTopSeatsZ12
import Derived.Test.YtdpphneebikdpaaPTopSeatsZ13
import Derived.Test.YtdpphneebikdpaaPTopSeatsZ14
import Derived.Test.YtdpphneebikdpaaPTopSeatsZ15
import Derived.Test.YtdpphneebikdpaaPTopSeatsZ16
import Derived.Test.YtdpphneebikdpaaPTopSeatsZ17
import Derived.Test.YtdpphneebikdpaaPTopSeatsZ18
import Derived.Test.YtdpphneebikdpaaPTopSeatsZ19
import Derived.Test.YtdpphneebikdpaaPTopSeatsZ20
import Derived.Test.YtdpphneebikdpaaPTopSeatsZ21
import Derived.Test.YtdpphneebikdpaaPTopSeatsZ22
import Derived.Test.YtdpphneebikdpaaPTopSeatsZ23
import Derived.Test.YtdpphneebikdpaaPTopSeatsZ24
import Derived.Test.YtdpphneebikdpaaPTopSeatsZ25
import Derived.Test.YtdpphneebikdpaaRows
import Derived.BigQuiet
import Derived.BigRegion
import Derived.Carry
import Derived.DataElems
import Derived.Deep.DeepCutAuto
import Derived.Deep.LoopGhost
import Derived.Deep.OwnRows
import Derived.Deep.QuietTactic
import Derived.Deep.RegionHeld3
import Derived.Deep.RegionLaw
import Derived.Deep.RegionWith
import Derived.Deep.SlicePairs
import Derived.Deep.Slices
import Derived.Deep.Strs
import Derived.Handy
import Derived.Laws.AppendOwn
import Derived.Laws.CopyOwn
import Derived.Laws.CopyRow
import Derived.Laws.Cover1
import Derived.Laws.Externs
import Derived.Laws.NewBlocks
import Derived.Lib.AppendZerosOnto
import Derived.Lib.Bytealg
import Derived.Lib.Hide
import Derived.Lib.Overlaps
import Derived.Lib.SliceRun
import Derived.Lib.Walk
import Derived.Maps.Own
import Derived.Maps.OwnSet
import Derived.Maps.Views
import Derived.OpenShut
import Derived.Outline
import Derived.OwnWalk
import Derived.PlainAid
import Derived.ProofKit
import Derived.RegionTactic
import Derived.Shelf.Abstract
import Derived.Shelf.RegionOpenPlain
import Derived.Sort.Walk0
import Derived.StringKeys
import Derived.WalkKit
import Derived.WalkSpells
namespace Go.Proofs.Ytdpphneebikdpaa.topSeats
open Go Go.ChangeShapes Go.WideShapes Go.ChangeAt Go.RowKit
set_option linter.unusedVariables false
set_option maxRecDepth 100000

/-- the quotas that the votes stand for -/
def qv (vs : List Int) : List Int := vs.map fun v => wi v 12
theorem qv_succ (vs : List Int) (j : Nat) (h : j < vs.length) : qv (vs.take (j + 1)) = qv (vs.take j) ++ [wi (vs.getD j 0) 12] := by
  unfold qv
  rw [List.take_succ_eq_append_getElem h, List.map_append, List.getD_eq_getElem?_getD, List.getElem?_eq_getElem h]
  rfl
theorem qv_ok (vs : List Int) : ∀ x ∈ qv vs, 0 ≤ x ∧ x ≤ 11 := by
  intro x hx
  obtain ⟨v, _, rfl⟩ := List.mem_map.1 hx
  have := wi_lo v 12 (by omega)
  have := wi_hi v 12 (by omega)
  omega
theorem qv_sum (vs : List Int) : 0 ≤ (qv vs).sum ∧ (qv vs).sum ≤ 11 * vs.length := by
  have key : ∀ l : List Int, (∀ x ∈ l, 0 ≤ x ∧ x ≤ 11) → 0 ≤ l.sum ∧ l.sum ≤ 11 * l.length := by
    intro l hl
    induction l with
    | nil => simp
    | cons x l ih =>
      have := ih fun y hy => hl y (List.mem_cons_of_mem _ hy)
      have := hl x (List.mem_cons_self ..)
      rw [List.sum_cons, List.length_cons]
      omega
  have := key (qv vs) (qv_ok vs)
  simpa [qv] using this
theorem kv_snoc (k q : Int) (qs : List Int) : kv k (qs ++ [q]) = kv k qs ++ [q * k] := by simp [kv]
/-- what each way hands back -/
def Says (w : World) (P : Nat) (qs : List Int) (e : Ending) (w' : World) : Prop := ∃ g, e = .returned (.tuple #[.slice (some ⟨g, 0, none⟩) P P, .int .i64 0]) ∧ Row w' g 0 qs ∧ Mor w w'
theorem quotas_says {K : Int} {qs : List Int} (h : Whole K qs) (N : Int) (hN : N = qs.sum) (L : Option Addr) (P c : Nat) (hP : qs.length = P) (w : World) (hr : Ri w L (kv K qs)) :
    Calls Try.prog 28 #[.int .i64 N, .slice L P c] w (Says w P qs) := by
  subst hN
  refine (quotas_ok qs.sum L P c (kv K qs) w hr (by rw [kv_len, hP]) h.code).mono ?_
  rintro e w' ⟨g, bs, k, rfl, rfl, hr⟩
  rw [h.quo] at hr
  rw [kv_len, hP]
  exact ⟨g, rfl, hr, bs, k, rfl⟩
theorem deal_says {K way : Int} {qs : List Int} (h : Whole K qs) (hw : way = 0 ∨ way = 1 ∨ way = 2) (N : Int) (hN : N = qs.sum) (L : Option Addr) (P c : Nat) (hP : qs.length = P) (w : World) (hr : Ri w L (kv K qs)) :
    Calls Try.prog 29 #[.int .i64 way, .int .i64 N, .slice L P c] w (Says w P qs) := by
  obtain ⟨M, hM⟩ := Int.eq_ofNat_of_zero_le (show 0 ≤ qs.sum by have := h.pos; omega)
  subst hN
  refine (deal_int way qs.sum M L P c (kv K qs) w hM (by omega) (by omega) hr (by rw [kv_len, hP]) h.code).mono ?_
  rintro e w' ⟨xs, g, bs, k, rfl, rfl, hd, hr⟩
  rw [h.deal hw hM hd] at hr
  rw [kv_len, hP]
  exact ⟨g, rfl, hr, bs, k, rfl⟩
theorem by_says {K : Int} {qs : List Int} (h : Whole K qs) (N : Int) (hN : N = qs.sum) (L : Option Addr) (P c : Nat) (hP : qs.length = P) (w : World) (hr : Ri w L (kv K qs)) :
    Calls Try.prog 30 #[.int .i64 N, .slice L P c] w (Says w P qs) := by
  subst hN
  have hc : byc qs.sum (kv K qs) = 0 := by
    have h1 := h.sum_le
    have h2 := h.pos
    have h3 := h.kpos
    have h4 := h.n20
    have hs : swc (kv K qs) = 0 := by
      unfold swc
      rw [if_neg (by rw [kv_len]; omega), if_pos]
      rw [List.all_eq_true]
      intro x hx
      have := h.vote x hx
      unfold voteOk at this
      unfold swOk
      simp; omega
    unfold byc
    rw [if_neg (by simp [hs]), if_neg (by omega), if_neg (by omega)]
  refine (by_any qs.sum L P c (kv K qs) w hr (by rw [kv_len, hP]) hc).mono ?_
  rintro e w' ⟨g, rfl, hm, hr⟩
  rw [h.by_ (byk hc)] at hr
  rw [kv_len, hP]
  exact ⟨g, rfl, hr, hm⟩

set_option maxRecDepth 100000 in
set_option maxHeartbeats 3200000 in
theorem topSeats_walk (w : World) (A : Option Addr) (len cap : Nat) (zs : List Int) (hz : IsRow .i64 w A len cap zs) (v1 : Int) (w1 : (Lit.int .i64 v1).wf = true) :
    Calls Try.prog 7 #[.slice A len cap, .int .i64 v1] w fun e w' => e = .returned (.bool true) ∧ Below w.heap.size w w' := by
  obtain ⟨hri, hlen, hcap, hmax, hwf, hnil⟩ := Ri.of_isRow hz
  generalize zs.take len = vs at *
  obtain ⟨P, hP, hPp, hP20⟩ : ∃ P : Nat, min (len : Int) 20 = (P : Int) ∧ P ≤ len ∧ P ≤ 20 := by
    by_cases h : len ≤ 20
    · exact ⟨len, by omega, Nat.le_refl _, h⟩
    · exact ⟨20, by omega, by omega, Nat.le_refl _⟩
  have hP0 : (0 : Int) ≤ (P : Int) := by omega
  have hPq : (P : Int) ≤ (cap : Int) := by omega
  have k0 := wi_lo v1 20 (by omega)
  have k1 := wi_hi v1 20 (by omega)
  have HWk := Lib.hid (fun w => within_any v1 20 w (by omega) (by omega))
  have HWv := Lib.hid (fun v w => within_any v 12 w (by omega) (by omega))
  obtain ⟨K, hK⟩ : ∃ K : Int, 1 + wi v1 20 = K := ⟨_, rfl⟩
  generalize wi v1 20 = k at *
  have HRI := Lib.hid (fun w' (h : Mor w w') => hri.mor h)
  have HLEN := Lib.hid hlen
  unfold maxLen at hmax
  obtain ⟨i0, hi, hz0, hz1, hz2⟩ := info_parts info_int'
  clear hz hri hwf hnil w1
  go_enter Try.func7, Try.ntmps7
  go_wp2_with fail
  refine (topbegun_any _).mono ?_
  rintro e wb ⟨rfl, hmb⟩
  have HMb := Lib.hid hmb
  clear hmb
  go_wp2_with (go_at_call 11; (with_reducible refine (HWk.out _).mono ?_); rintro e w3b ⟨rfl, rfl⟩)
  have hK1 : 1 ≤ K := by omega
  have hK20 : K ≤ 20 := by omega
  clear hK
  go_loopw [5, 6, 30] (fun l m i wr => ∃ j : Nat, j ≤ P ∧ i = .int .i64 j ∧ m = .int .i64 (qv (vs.take j)).sum ∧ Hid (wr.ownsRow wb.heap.size 3 1 l j ((kv K (qv (vs.take j))).map (Value.int .i64)) ∧ Mor wb wr)) (fun _ _ i _ => P - (intOf i).toNat)
  case atStart => exact ⟨0, Nat.zero_le _, rfl, by rw [List.take_zero]; rfl, Lib.hid ⟨World.ownsRow_nil _ _ _ _, Mor.refl _⟩⟩
  case round =>
    obtain ⟨j, hj, rfl, rfl, HI⟩ := hrel
    by_cases hlt : j < P
    · have hji : (j : Int) < (P : Int) := by omega
      have hj0 : (0 : Int) ≤ (j : Int) := by omega
      have hjc : (j : Int) < (cap : Int) := by omega
      have hjl : j < vs.length := by rw [HLEN.out]; omega
      obtain ⟨x, hA, hxb, c0⟩ := (HRI.out _ (HMb.out.trans' HI.out.2)).at_ j hjl
      subst hA
      have HS := Lib.hid (qv_succ vs j hjl)
      have hs := qv_sum (vs.take j)
      have htl : (vs.take j).length ≤ 20 := by rw [List.length_take]; omega
      obtain ⟨hs0, hs1⟩ := hs
      have hs2 : (qv (vs.take j)).sum ≤ 220 := by omega
      have q0 := wi_lo (vs.getD j 0) 12 (by omega)
      have q1 := wi_hi (vs.getD j 0) 12 (by omega)
      have HW := Lib.hid (HWv.out (vs.getD j 0))
      have HO := Lib.hid HI.out.1
      have HX := Lib.hid HI.out.2
      clear hs1 htl HI
      generalize wi (vs.getD j 0) 12 = q at *
      generalize vs.getD j 0 = v at *
      have m0 : 0 ≤ q * K := Int.mul_nonneg q0 (by omega)
      have m1 : q * K ≤ 220 := by
        have := Int.mul_le_mul (show q ≤ 11 by omega) hK20 (by omega) (by omega)
        omega
      have HSm : Hid ((qv (vs.take (j + 1))).sum = (qv (vs.take j)).sum + q) := Lib.hid (by rw [HS.out, List.sum_append]; simp)
      have HKv : Hid (kv K (qv (vs.take (j + 1))) = kv K (qv (vs.take j)) ++ [q * K]) := Lib.hid (by rw [HS.out, kv_snoc])
      clear HS
      generalize (qv (vs.take j)).sum = sm at *
      go_wp2_with (first
        | (go_at_call 11; (with_reducible refine (HW.out _).mono ?_); rintro e w4 ⟨rfl, rfl⟩)
        | (at_builtin; refine wpList_append_own _ rfl _ _ 22 rfl wb.heap.size 3 i0 (.int .i64 0) 1 8 Try.underlying22 hi hz0 hz1 hz2 rfl (by decide) _ _ _ rfl (by exact HO.out.alloc _) ⟨wr.heap.size, 0, none⟩ 1 1 [.int .i64 (q * K)] rfl rfl ?_ ?_ ?_ ?_ ?_ ?_))
      · intro j u hj
        match j, hj with
        | 0, hj => simp at hj; subst hj; simp [Addr.add]
      · intro u hu; simp at hu; subst hu; rfl
      · unfold maxLen; omega
      · omega
      · have := HX.out.below.size; simp; omega
      · intro v' w1 hown' hgrow _
        have HO' := Lib.hid hown'
        have HX' := Lib.hid (own_step (HO.out.alloc _) HX.out.alloc hgrow)
        clear hown' hgrow
        go_wp2
        go_roundw
        case rel => exact ⟨j + 1, by omega, by go_num, by rw [HSm.out], Lib.hid ⟨by rw [HKv.out, List.map_append]; exact HO'.out, HX'.out⟩⟩
        case measure => simp [intOf]; omega
    · obtain rfl : j = P := by omega
      obtain ⟨L, c, rfl, hjc, -, hL0⟩ := own_shape HI.out.1
      have hs := qv_sum (vs.take j)
      have hql := qv_ok (vs.take j)
      have hqn : (qv (vs.take j)).length = j := by simp [qv]; rw [HLEN.out]; omega
      have HRL := Lib.hid (fun w' (h : Mor wr w') => (own_ri HI.out.1).mor h)
      have HM := Lib.hid (HMb.out.trans' HI.out.2)
      clear HI
      generalize qv (vs.take j) = qs at *
      obtain ⟨N, hN⟩ : ∃ N, qs.sum = N := ⟨_, rfl⟩
      rw [hN] at hs ⊢
      by_cases h0 : N = 0
      · have hb0 : (N == 0) = true := by simpa using h0
        go_wp2_with fail
        go_ret
        exact ⟨rfl, HM.out.below⟩
      · have hWh : Whole K qs := ⟨hK1, hK20, by omega, hql, by omega⟩
        have hb0 : (N == 0) = false := by simpa using h0
        have HQ := Lib.hid (fun w' (h : Mor wr w') => quotas_says hWh N hN.symm L j c hqn w' (HRL.out _ h))
        have HD := Lib.hid (fun way (hw : way = 0 ∨ way = 1 ∨ way = 2) w' (h : Mor wr w') => deal_says hWh hw N hN.symm L j c hqn w' (HRL.out _ h))
        have HB := Lib.hid (fun w' (h : Mor wr w') => by_says hWh N hN.symm L j c hqn w' (HRL.out _ h))
        have HL := Lib.hid hqn
        clear hs hql hqn hN hWh
        go_wp2_with fail
        refine (HQ.out _ (Mor.refl _)).mono ?_
        rintro e w4 ⟨g4, rfl, hr4, hm4⟩
        have HM4 := Lib.hid hm4
        have HR4 := Lib.hid (fun w' (h : Mor w4 w') => hr4.mor h)
        clear hr4 hm4
        go_wp2_with fail
        refine (HD.out 0 (.inl rfl) _ HM4.out).mono ?_
        rintro e w5 ⟨g5, rfl, hr5, hm5⟩
        have HM5 := Lib.hid (HM4.out.trans' hm5)
        have HM45 := Lib.hid hm5
        have HR5 := Lib.hid (fun w' (h : Mor w5 w') => hr5.mor h)
        clear hr5 hm5
        go_wp2_with fail
        refine (HD.out 1 (.inr (.inl rfl)) _ HM5.out).mono ?_
        rintro e w6 ⟨g6, rfl, hr6, hm6⟩
        have HM6 := Lib.hid (HM5.out.trans' hm6)
        have HM46 := Lib.hid (HM45.out.trans' hm6)
        have HM56 := Lib.hid hm6
        have HR6 := Lib.hid (fun w' (h : Mor w6 w') => hr6.mor h)
        clear hr6 hm6
        go_wp2_with fail
        refine (HD.out 2 (.inr (.inr rfl)) _ HM6.out).mono ?_
        rintro e w7 ⟨g7, rfl, hr7, hm7⟩
        have HM7 := Lib.hid (HM6.out.trans' hm7)
        have HM47 := Lib.hid (HM46.out.trans' hm7)
        have HM57 := Lib.hid (HM56.out.trans' hm7)
        have HM67 := Lib.hid hm7
        have HR7 := Lib.hid (fun w' (h : Mor w7 w') => hr7.mor h)
        clear hr7 hm7
        go_wp2_with fail
        refine (HB.out _ HM7.out).mono ?_
        rintro e w8 ⟨g8, rfl, hr8, hm8⟩
        have HM8 := Lib.hid (HM.out.trans' (HM7.out.trans' hm8))
        have HR8 := Lib.hid (And.intro (HR4.out _ (HM47.out.trans' hm8)) (And.intro (HR5.out _ (HM57.out.trans' hm8)) (And.intro (HR6.out _ (HM67.out.trans' hm8)) (And.intro (HR7.out _ hm8) hr8))))
        clear hr8 hm8
        have hj1 : j ≤ 1000 := by omega
        go_wp2_with fail
        refine (equal_yes _ _ _ _ _ _ j qs _ HR8.out.2.1 HR8.out.1 HL.out hj1).mono ?_
        rintro e w9 ⟨rfl, m, rfl⟩
        go_wp2_with fail
        refine (equal_yes _ _ _ _ _ _ j qs _ HR8.out.2.2.1.drewN HR8.out.1.drewN HL.out hj1).mono ?_
        rintro e w9 ⟨rfl, m2, rfl⟩
        go_wp2_with fail
        refine (equal_yes _ _ _ _ _ _ j qs _ HR8.out.2.2.2.1.drewN HR8.out.1.drewN HL.out hj1).mono ?_
        rintro e w9 ⟨rfl, m3, rfl⟩
        go_wp2_with fail
        refine (equal_yes _ _ _ _ _ _ j qs _ HR8.out.2.2.2.2.drewN HR8.out.1.drewN HL.out hj1).mono ?_
        rintro e w9 ⟨rfl, m4, rfl⟩
        go_wp2_with fail
        go_ret
        exact ⟨ret_b (by first | rfl | simp), (HM8.out.drewN).below⟩

end Go.Proofs.Ytdpphneebikdpaa.topSeats
