/- The walk of tie.order. -/
import Derived.Test.YtahegjhjonodlaaDoorPItemsOwnZ1
import Derived.Test.YtahegjhjonodlaaDoorPItemsOwnZ2
import Derived.Test.YtahegjhjonodlaaDoorPItemsOwnZ3
import Derived.Test.YtahegjhjonodlaaDoorPItemsOwnZ4
import Derived.Test.YtahegjhjonodlaaDoorPItemsOwnZ5
import Derived.Test.YtahegjhjonodlaaDoorPItemsOwnZ6
import Derived.Test.YtahegjhjonodlaaDoorPItemsOwnZ7
import Derived.Test.YtahegjhjonodlaaDoorPItemsOwnZ15
import Derived.Test.YtahegjhjonodlaaDoorPItemsOwnZ19
import Derived.Test.YtahegjhjonodlaaDoorRows
import Derived.BigQuiet
import Derived.DataElems
import Derived.Deep.DeepCutAuto
import Derived.Deep.OwnRows
import Derived.Deep.QuietTactic
import Derived.Deep.RegionWith
import Derived.Deep.SlicePairs
import Derived.Handy
import Derived.Lib.Hide
import Derived.OpenShut
import Derived.Outline
import Derived.OwnWalk
import Derived.ProofKit
import Derived.RegionTactic
import Derived.Shelf.Abstract
import Derived.WalkKit
namespace Go.Proofs.YtahegjhjonodlaaDoor
open Go.ChangeShapes Go.WideShapes Go.ChangeAt Go.RowKit Stb
set_option linter.unusedVariables false
set_option maxRecDepth 100000

theorem Pi.below {w w' : World} {A : Option Addr} {xs : List Pr} (h : Pi w A xs) (hB : Below w.heap.size w w') : Pi w' A xs := h.mor (Mor.of_below hB)

set_option maxRecDepth 100000 in
set_option maxHeartbeats 1600000 in
theorem ordcmp_any (bL : Nat) (A : Option Addr) (n cap : Nat) (l : List Pr) (x y : Nat) (w : World)
    (hL : w.cell? ⟨bL, 0, none⟩ = some (.slice A n cap)) (hr : Pi w A l) (hn : l.length = n) (hl : n ≤ 1000)
    (hx : x < n) (hy : y < n) (hw : ∀ k, k < n → 0 ≤ px l k ∧ px l k ≤ 292193) :
    Calls Tryd.prog 85 #[.int .i64 x, .int .i64 y, .pointer (some ⟨bL, 0, none⟩)] w fun e w' => e = .returned (.int .i64 (px l x - px l y)) ∧ ∃ m, w' = w.drewN m := by
  obtain ⟨z, hz, hzb, cx, _⟩ := hr.at_ x (by omega)
  obtain ⟨z', hz', hzb', cy, _⟩ := hr.at_ y (by omega)
  subst hz
  injection hz' with e
  subst e
  obtain ⟨u1, u2⟩ := hw x hx
  obtain ⟨v1, v2⟩ := hw y hy
  generalize px l x = u at *
  generalize px l y = v at *
  have hxi : (x : Int) < (n : Int) := by omega
  have hyi : (y : Int) < (n : Int) := by omega
  have hx0 : (0 : Int) ≤ (x : Int) := by omega
  have hy0 : (0 : Int) ≤ (y : Int) := by omega
  clear hw hr hzb hzb'
  go_enter Tryd.func85, Tryd.ntmps85
  go_wp2
  go_quiet (fail)
  go_wp2
  go_ret
  exact ⟨rfl, _, rfl⟩

/-- what the comparison sees -/
structure Fo (w wr : World) (bL : Nat) (A : Option Addr) (n cap : Nat) : Prop where
  vL : Blk wr bL 48 #[.slice A n cap]
  below : Below w.heap.size w wr
theorem Fo.set {w wr : World} {bL : Nat} {A : Option Addr} {n cap g i : Nat} {u : Value} (h : Fo w wr bL A n cap) (h1 : bL ≠ g) (h4 : w.heap.size ≤ g) : Fo w (wr.setCell ⟨g, i, none⟩ u) bL A n cap := ⟨h.vL.oth h1, h.below.setCell h4 _⟩
theorem Fo.on {w wr w' : World} {bL : Nat} {A : Option Addr} {n cap g : Nat} (h : Fo w wr bL A n cap) (o : On g wr w') (h1 : bL ≠ g) (h4 : w.heap.size ≤ g) : Fo w w' bL A n cap := by
  refine ⟨o.blk h.vL h1, ?_⟩
  have hb := h.below
  exact ⟨o.os.trans hb.os, o.tape.trans hb.tape, o.output.trans hb.output, Nat.le_trans hb.size o.size, fun k hk => (o.block k (by omega) (Nat.lt_of_lt_of_le hk hb.size)).trans (hb.block k hk)⟩
theorem two_blk (w : World) (A : Option Addr) (n cap : Nat) (C : Array Value) (t1 : TypeId) {b0 b1 : Nat} (h0 : b0 = w.heap.size) (h1 : b1 = w.heap.size + 1) :
    Fo w ((w.alloc (.cells #[.slice A n cap] 48)).alloc (.cells C t1)) b0 A n cap ∧ Blk ((w.alloc (.cells #[.slice A n cap] 48)).alloc (.cells C t1)) b1 t1 C :=
  ⟨⟨(Blk.at_new _ _ _ h0).alloc _, (Mor.refl _).alloc.alloc.below⟩, Blk.at_new _ _ _ (by rw [size_alloc]; exact h1)⟩

def OrdPost (w : World) (l : List Pr) (e : Ending) (w' : World) : Prop :=
  ∃ g, e = .returned (.slice (some ⟨g, 0, none⟩) l.length l.length) ∧ w.heap.size ≤ g ∧ Mor w w' ∧ Row w' g 0 (dord l)

set_option maxRecDepth 100000 in
set_option maxHeartbeats 3200000 in
theorem order_any (A : Option Addr) (n cap : Nat) (l : List Pr) (w : World) (hr : Pi w A l) (hn : l.length = n) (hn2 : n ≤ 40) (hw : ∀ k, k < n → 0 ≤ px l k ∧ px l k ≤ 292193) :
    Calls Tryd.prog 67 #[.slice A n cap] w (OrdPost w l) := by
  have hmk := fun w => run_make_row' (P := Tryd.prog) 22 3 (.int .i64 0) 8 Tryd.underlying22 info_int' rfl .i64 .i64 n (by omega) (by omega) w
  rw [ic_zero] at hmk
  have HR := Lib.hid hr
  have HN := Lib.hid hn
  have HW := Lib.hid hw
  clear hr hn hw
  go_enter Tryd.func67, Tryd.ntmps67
  go_wp2
  obtain ⟨b1, h1⟩ : ∃ b, b = w.heap.size + 1 := ⟨_, rfl⟩
  obtain ⟨b0, h0⟩ : ∃ b, b = w.heap.size := ⟨_, rfl⟩
  have H2 := Lib.hid (two_blk w A n cap (ic (List.replicate n 0)) 3 h0 h1)
  have HBn := Lib.hid (show b0 < b1 ∧ w.heap.size = b0 by omega)
  rw [← h1, ← h0]
  have n01 : b0 ≠ b1 := by omega
  clear h0 h1 hmk
  go_loopw [10] (fun i wr => ∃ k : Nat, k ≤ n ∧ i = .int .i64 k ∧ Hid (Fo w wr b0 A n cap) ∧ Hid (Blk wr b1 3 (ic (fg n (fun i => (i : Int)) (fun _ => 0) k)))) (fun i _ => n - (intOf i).toNat)
  case atStart => exact ⟨0, Nat.zero_le _, rfl, Lib.hid H2.out.1, Lib.hid (by rw [← zeros]; exact H2.out.2)⟩
  case round =>
    obtain ⟨k, hk, rfl, HF, HB⟩ := hrel
    by_cases hlt : k < n
    · have hki : (k : Int) < (n : Int) := by omega
      have hk0 : (0 : Int) ≤ (k : Int) := by omega
      have c4 : wr.cell? ⟨b1, k, none⟩ = some (.int .i64 0) := by
        rw [HB.out.cell, ic_get _ _ (by rw [fg_len]; exact hlt)]
        show some (Value.int .i64 (ge (fg _ _ _ k) k)) = _
        rw [fg_get _ _ _ _ _ hlt, if_neg (by omega)]
      have f4 : wr.frozen? ⟨b1, k, none⟩ = false := HB.out.frozen k
      have H4 := Lib.hid (show Blk (wr.setCell ⟨b1, k, none⟩ (.int .i64 (k : Int))) b1 3 (ic (fg n (fun i => (i : Int)) (fun _ => 0) (k + 1))) by
        rw [← fg_step _ _ _ _ hlt, ← ic_set]; exact HB.out.set_ k _)
      have H0 := Lib.hid (HF.out.set (g := b1) (i := k) (u := .int .i64 (k : Int)) n01 (by have := HBn.out; omega))
      go_wp2
      go_roundw
      case rel => exact ⟨k + 1, by omega, by go_num, H0, H4⟩
      case measure => simp [intOf]; omega
    · obtain rfl : k = n := by omega
      rw [fg_all] at HB
      have HSo := Lib.hid (sortStable_int b1 k k 85 #[.pointer (some ⟨b0, 0, none⟩)] (fun x => ∃ i : Nat, i < k ∧ x = (i : Int)) (fun i => px l i.toNat) (fun x y => px l x.toNat - px l y.toNat) (idx k) wr
        (enters_of Tryd.func85 (by kernel_rfl) rfl)
        ⟨fun x y _ _ => by omega, fun w' o x y hx hy => by
          obtain ⟨i, hi, rfl⟩ := hx
          obtain ⟨j, hj, rfl⟩ := hy
          have hf := HF.out.on o n01 (by have := HBn.out; omega)
          have := ordcmp_any b0 A k cap l i j w' (by rw [hf.vL.cell]; rfl) (HR.out.below hf.below) HN.out (by omega) hi hj HW.out
          simpa using this⟩
        (fun i hi => by rw [idx_len] at hi; exact ⟨i, hi, by unfold ge idx; rw [List.getD_eq_getElem?_getD, List.getElem?_map, List.getElem?_range hi]; rfl⟩)
        (by have := HB.out.dat; exact this) (idx_len k) (by omega))
      go_wp2_with (first
        | (go_at_call 51; (with_reducible refine (HSo.out).mono ?_); rintro r w1 ⟨rfl, ys, y1, y2, y3, y4, y5⟩))
      have HY := Lib.hid (show ys = dord l by rw [isort_eq y2 y3]; unfold dord; rw [HN.out])
      have HF1 := Lib.hid (HF.out.on y5 n01 (by have := HBn.out; omega))
      have HD1 := Lib.hid y4
      clear y1 y2 y3 y4 y5 HSo
      go_ret
      exact ⟨b1, by rw [HN.out] <;> rfl, by have := HBn.out; omega, Mor.of_below HF1.out.below, by rw [← HY.out]; exact HD1.out.row⟩

end Go.Proofs.YtahegjhjonodlaaDoor
