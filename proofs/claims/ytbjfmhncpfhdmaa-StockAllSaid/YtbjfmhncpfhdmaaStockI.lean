/- The walk of talkeep.cost. -/
import Derived.Test.YtbjfmhncpfhdmaaStockH
namespace Go.Proofs.Ytbjfmhncpfhdmaa
open Go.ChangeShapes Go.WideShapes Go.ChangeAt Go.RowKit Stb
set_option linter.unusedVariables false

theorem cnt_take (xs : List Pr) (k : Nat) (h : k < xs.length) : cnt (xs.take (k + 1)) = cnt (xs.take k) + (ge xs k).1 ∧ cst (xs.take (k + 1)) = cst (xs.take k) + (ge xs k).2 := by
  have e : xs[k] = ge xs k := by have := ge_some h; rw [List.getElem?_eq_getElem h] at this; injection this
  rw [List.take_succ_eq_append_getElem h, cnt_snoc, cst_snoc, e]
  exact ⟨rfl, rfl⟩

set_option maxRecDepth 100000 in
set_option maxHeartbeats 3200000 in
theorem cost_any (A : Option Addr) (n cap : Nat) (xs : List Pr) (w : World) (hr : Pi w A xs) (hn : xs.length = n) (hl : n ≤ 40) (ho : ∀ p ∈ xs, okL p) :
    Calls Try.prog 18 #[.slice A n cap] w fun e w' => e = .returned (.agg #[.int .i64 (cnt xs), .int .i64 (cst xs)]) ∧ Mor w w' := by
  have HR := Lib.hid hr
  have HN := Lib.hid hn
  have HO := Lib.hid ho
  have HB := Lib.hid (fun k (h : k ≤ n) => lots_bd (xs := xs.take k) (fun p hp => ho p (List.mem_of_mem_take hp)))
  clear hr hn ho
  go_enter Try.func18, Try.ntmps18
  go_wp2
  have hR0 := (Blk.new w 39 #[.int .i64 0, .int .i64 0]).alloc (.cells #[.int .i64 0, .int .i64 0] 39)
  have hB0 := Blk.new (w.alloc (.cells #[.int .i64 0, .int .i64 0] 39)) 39 #[.int .i64 0, .int .i64 0]
  rw [← size_al] at hB0
  have hM0 := ((Mor.refl w).alloc (o := .cells #[.int .i64 0, .int .i64 0] 39)).alloc (o := .cells #[.int .i64 0, .int .i64 0] 39)
  obtain ⟨bR, hbR⟩ : ∃ b, b = w.heap.size := ⟨_, rfl⟩
  rw [← hbR] at hR0 hB0 ⊢
  obtain ⟨bS, hbS⟩ : ∃ b, b = bR + 1 := ⟨_, rfl⟩
  rw [← hbS] at hB0 ⊢
  generalize (w.alloc (.cells #[.int .i64 0, .int .i64 0] 39)).alloc (.cells #[.int .i64 0, .int .i64 0] 39) = w0 at *
  have HR0 := Lib.hid hR0
  have HB0 := Lib.hid hB0
  have HM0 := Lib.hid hM0
  have HbR := Lib.hid (show w.heap.size ≤ bR by omega)
  have HbS := Lib.hid (show bR < bS by omega)
  clear hR0 hB0 hM0 hbR hbS
  go_loopw [8] (fun i wr => ∃ (k : Nat), k ≤ n ∧ i = .int .i64 k ∧ Hid (Blk wr bS 39 #[.int .i64 (cnt (xs.take k)), .int .i64 (cst (xs.take k))]) ∧ Hid (On bS w0 wr)) (fun i _ => n - (intOf i).toNat)
  case atStart => exact ⟨0, Nat.zero_le _, rfl, HB0, Lib.hid (On.refl _ _)⟩
  case round =>
    obtain ⟨k, hk, rfl, HBk, HO2⟩ := hrel
    have HMr := Lib.hid (mor_on HM0.out HO2.out (show w.heap.size ≤ bS by have := HbS.out; have := HbR.out; omega))
    by_cases hlt : k < n
    · have hki : (k : Int) < (n : Int) := by omega
      have hk0 : (0 : Int) ≤ (k : Int) := by omega
      obtain ⟨x, hA, hxb, c1, c2⟩ := (HR.out.mor HMr.out).cells k (by rw [HN.out]; exact hlt)
      subst hA
      have hz : bS < wr.heap.size := HBk.out.lt
      have hv1 : wr.cell? ⟨bS, 0, none⟩ = some (.int .i64 (cnt (xs.take k))) := by rw [HBk.out.cell]; rfl
      have hv2 : wr.cell? ⟨bS, 1, none⟩ = some (.int .i64 (cst (xs.take k))) := by rw [HBk.out.cell]; rfl
      have hf1 : wr.frozen? ⟨bS, 0, none⟩ = false := HBk.out.frozen _
      have hf2 : wr.frozen? ⟨bS, 1, none⟩ = false := HBk.out.frozen _
      obtain ⟨b1, b2, b3, b4⟩ := HB.out k hk
      have hlk : (xs.take k).length = k := by rw [List.length_take]; have := HN.out; omega
      rw [hlk] at b1 b3 b4
      obtain ⟨o1, o2, o3, o4⟩ := HO.out (ge xs k) (List.mem_of_getElem? (ge_some (by rw [HN.out]; exact hlt)))
      obtain ⟨e1, e2⟩ := cnt_take xs k (by rw [HN.out]; exact hlt)
      have HE := Lib.hid (And.intro e1 e2)
      have HB2 := Lib.hid (fun o => show Blk (((wr.setCell ⟨bS, 0, none⟩ (.int .i64 (cnt (xs.take k) + (ge xs k).1))).setCell ⟨bS, 1, none⟩ (.int .i64 (cst (xs.take k) + (ge xs k).2))).alloc o) bS 39 #[.int .i64 (cnt (xs.take (k + 1))), .int .i64 (cst (xs.take (k + 1)))] from by
        rw [e1, e2]
        exact ((HBk.out.set_ 0 _).set_ 1 _).alloc o)
      have HO3 := Lib.hid (fun o => show On bS w0 (((wr.setCell ⟨bS, 0, none⟩ (.int .i64 (cnt (xs.take k) + (ge xs k).1))).setCell ⟨bS, 1, none⟩ (.int .i64 (cst (xs.take k) + (ge xs k).2))).alloc o) from ((HO2.out.setCell _).setCell _).mor (Mor.refl _).alloc)
      clear e1 e2 hlk
      generalize (ge xs k).1 = d at *
      generalize (ge xs k).2 = a at *
      generalize cnt (xs.take k) = C at *
      generalize cst (xs.take k) = K at *
      go_wp2
      go_roundw
      case rel => exact ⟨k + 1, by omega, by go_num, Lib.hid (HB2.out _), Lib.hid (HO3.out _)⟩
      case measure => simp [intOf]; omega
    · obtain rfl : k = n := by omega
      have hall : xs.take k = xs := List.take_of_length_le (by rw [HN.out]; exact Nat.le_refl _)
      rw [hall] at HBk
      have hRb := HO2.out.blk HR0.out (show bR ≠ bS by have := HbS.out; omega)
      have v1 : wr.cell? ⟨bS, 0, none⟩ = some (.int .i64 (cnt xs)) := by rw [HBk.out.cell]; rfl
      have v2 : wr.cell? ⟨bS, 1, none⟩ = some (.int .i64 (cst xs)) := by rw [HBk.out.cell]; rfl
      have r1 : wr.cell? ⟨bR, 0, none⟩ = some (.int .i64 0) := by rw [hRb.cell]; rfl
      have r2 : wr.cell? ⟨bR, 1, none⟩ = some (.int .i64 0) := by rw [hRb.cell]; rfl
      have f1 : wr.frozen? ⟨bR, 0, none⟩ = false := hRb.frozen _
      have f2 : wr.frozen? ⟨bR, 1, none⟩ = false := hRb.frozen _
      have HE9 := Lib.hid (fun w9 (h : w9 = (wr.setCell ⟨bR, 0, none⟩ (.int .i64 (cnt xs))).setCell ⟨bR, 1, none⟩ (.int .i64 (cst xs))) => show (w9.cell? ⟨bR, 0, none⟩ = some (.int .i64 (cnt xs)) ∧ w9.cell? ⟨bR, 1, none⟩ = some (.int .i64 (cst xs))) ∧ Mor w w9 by
        have hB := (hRb.set_ 0 (.int .i64 (cnt xs))).set_ 1 (.int .i64 (cst xs))
        rw [h]
        exact ⟨⟨by rw [hB.cell]; rfl, by rw [hB.cell]; rfl⟩, Mor.of_below ((HMr.out.below.setCell (show w.heap.size ≤ bR from HbR.out) _).setCell (show w.heap.size ≤ bR from HbR.out) _)⟩)
      clear hRb hall
      generalize hC : cnt xs = C at *
      generalize hK : cst xs = K at *
      have HC := Lib.hid (And.intro hC hK)
      clear hC hK
      go_wp2
      obtain ⟨w9, hw9⟩ : ∃ w9, w9 = ((wr.setCell ⟨bR, 0, none⟩ (.int .i64 C)).setCell ⟨bR, 1, none⟩ (.int .i64 K)) := ⟨_, rfl⟩
      rw [← hw9]
      obtain ⟨⟨e1, e2⟩, e3⟩ := HE9.out w9 hw9
      clear hw9
      refine bodyPost_ret (by simp [results, Try.results18, go_sem, e1, e2]; try rfl) rfl ?_
      exact ⟨by rw [HC.out.1, HC.out.2], e3⟩

end Go.Proofs.Ytbjfmhncpfhdmaa
