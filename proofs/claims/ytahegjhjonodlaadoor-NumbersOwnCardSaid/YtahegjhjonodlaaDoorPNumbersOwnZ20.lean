/- The walk of fall.Units. -/
import Derived.Test.YtahegjhjonodlaaDoorPNumbersOwnZ1
import Derived.Test.YtahegjhjonodlaaDoorPNumbersOwnZ2
import Derived.Test.YtahegjhjonodlaaDoorPNumbersOwnZ3
import Derived.Test.YtahegjhjonodlaaDoorPNumbersOwnZ4
import Derived.Test.YtahegjhjonodlaaDoorPNumbersOwnZ9
import Derived.Test.YtahegjhjonodlaaDoorPNumbersOwnZ11
import Derived.Test.YtahegjhjonodlaaDoorPNumbersOwnZ12
import Derived.Test.YtahegjhjonodlaaDoorPNumbersOwnZ13
import Derived.Test.YtahegjhjonodlaaDoorPNumbersOwnZ14
import Derived.Test.YtahegjhjonodlaaDoorPNumbersOwnZ15
import Derived.Test.YtahegjhjonodlaaDoorPNumbersOwnZ16
import Derived.Test.YtahegjhjonodlaaDoorPNumbersOwnZ17
import Derived.Test.YtahegjhjonodlaaDoorPNumbersOwnZ18
import Derived.Test.YtahegjhjonodlaaDoorPNumbersOwnZ19
import Derived.Test.YtahegjhjonodlaaDoorRows
import Derived.BigQuiet
import Derived.DataElems
import Derived.Deep.LoopGhost
import Derived.Deep.OwnRows
import Derived.Deep.QuietTactic
import Derived.Deep.RegionLaw
import Derived.Deep.SlicePairs
import Derived.Deep.Slices
import Derived.Deep.Strs
import Derived.Handy
import Derived.Laws.AppendOwn
import Derived.Laws.Cover1
import Derived.Lib.Bytealg
import Derived.Lib.Hide
import Derived.Lib.SliceRun
import Derived.Lib.Walk
import Derived.OpenShut
import Derived.Outline
import Derived.OwnWalk
import Derived.PlainAid
import Derived.ProofKit
import Derived.RegionTactic
import Derived.Shelf.Abstract
import Derived.Sort.Walk0
import Derived.WalkKit
import Derived.WalkSpells
namespace Go.Proofs.YtahegjhjonodlaaDoor
open Go.ChangeShapes Go.WideShapes Go.ChangeAt Go.RowKit
set_option linter.unusedVariables false
set_option maxRecDepth 100000

/-- may cost and rest be? -/
def lookU (cost rest : Int) : Prop := 0 ≤ cost ∧ cost ≤ 1000000000000 ∧ 0 ≤ rest ∧ rest ≤ cost
theorem ulook_ok (cost rest : Int) (w : World) (h : lookU cost rest) :
    Calls Tryd.prog 55 #[.int .i64 cost, .int .i64 rest, .int .i64 1] w fun e w' => e = .returned (.int .i64 0) ∧ w = w' := by
  obtain ⟨h1, h2, h3, h4⟩ := h
  go_enter Tryd.func55, Tryd.ntmps55
  go_wp2
  all_goals go_ret
  all_goals exact ⟨rfl, rfl⟩
theorem ulook_no (cost rest : Int) (w : World) (h : ¬ lookU cost rest) :
    Calls Tryd.prog 55 #[.int .i64 cost, .int .i64 rest, .int .i64 1] w fun e w' => e = .returned (.int .i64 1) ∧ w = w' := by
  have H := Lib.hid h
  clear h
  go_enter Tryd.func55, Tryd.ntmps55
  go_wp2
  all_goals go_ret
  all_goals first | exact ⟨rfl, rfl⟩ | (have h := H.out; exfalso; unfold lookU at h; omega)

/-- may the numbers be? -/
def UnOk (cost rest total : Int) (us : List Int) : Prop := lookU cost rest ∧ 1 ≤ total ∧ total ≤ 1000000 ∧ us.length ≤ 40 ∧ ∀ x ∈ us, 0 ≤ x ∧ x ≤ 1000000
/-- what fall.Units hands back -/
def UnYes (w : World) (xs : List Int) (n : Nat) (e : Ending) (w' : World) : Prop :=
  ∃ A c, e = .returned (.tuple #[.slice A n c, .int .i64 0]) ∧ w'.ownsRow w.heap.size 3 1 (.slice A n c) n (xs.map (Value.int .i64)) ∧ Mor w w'
def UnNo (w : World) (e : Ending) (w' : World) : Prop := ∃ r : Int, r ≠ 0 ∧ e = .returned (.tuple #[.slice none 0 0, .int .i64 r]) ∧ Mor w w'

set_option maxHeartbeats 1600000 in
theorem units_go (cost rest total : Int) (A : Option Addr) (n cap : Nat) (us : List Int) (w : World) (h : lookU cost rest) (t1 : 1 ≤ total) (t2 : total ≤ 1000000) (hr : Ri w A us) (hn : us.length = n) (hl : n ≤ 40) :
    Calls Tryd.prog 15 #[.int .i64 cost, .int .i64 rest, .int .i64 total, .slice A n cap] w fun e w' => (UnOk cost rest total us ∧ UnYes w (ulist (cost - rest) total us n) n e w') ∨ (¬ UnOk cost rest total us ∧ UnNo w e w') := by
  obtain ⟨i0, hi, hz0, hz1, hz2⟩ := info_parts info_int'
  have HLk := Lib.hid (fun w => ulook_ok cost rest w h)
  have hL := h
  obtain ⟨l1, l2, l3, l4⟩ := h
  have HR := Lib.hid (fun w' (h : Mor w w') i (hi : i < n) => (hr.mor h).at_ i (by omega))
  have HN := Lib.hid hn
  have HOk := Lib.hid (fun (h : ∀ x ∈ us, 0 ≤ x ∧ x ≤ 1000000) => show UnOk cost rest total us from ⟨hL, t1, t2, by omega, h⟩)
  have HNo := Lib.hid (fun (h : ¬ ∀ x ∈ us, 0 ≤ x ∧ x ≤ 1000000) => show ¬ UnOk cost rest total us from fun g => h g.2.2.2.2)
  obtain ⟨D, hD⟩ : ∃ D, cost - rest = D := ⟨_, rfl⟩
  have d0 : 0 ≤ D := by omega
  have d1 : D ≤ 1000000000000 := by omega
  rw [hD]
  clear hr hn hL
  go_enter Tryd.func15, Tryd.ntmps15
  go_wp2_with (first | (go_at_call 55; refine (HLk.out _).mono ?_; rintro e w1 ⟨rfl, rfl⟩))
  go_loopw [11, 12, 13, 34] (fun s z v i wr => ∃ k : Nat, k ≤ n ∧ i = .int .i64 k ∧ s = .int .i64 (usum us k) ∧ z = .int .i64 (unow D total (usum us k)) ∧ (0 ≤ usum us k ∧ usum us k ≤ 1000000 * (k : Int)) ∧ Hid (∀ j, j < k → 0 ≤ us.getD j 0 ∧ us.getD j 0 ≤ 1000000) ∧ Hid (wr.ownsRow w.heap.size 3 1 v k ((ulist D total us k).map (Value.int .i64)) ∧ Mor w wr)) (fun _ _ _ i _ => n - (intOf i).toNat)
  case atStart => exact ⟨0, Nat.zero_le _, rfl, by simp [usum], by rw [show usum us 0 = 0 by simp [usum], unow_zero D total t1], by simp [usum], Lib.hid (fun j hj => absurd hj (Nat.not_lt_zero _)), Lib.hid ⟨World.ownsRow_nil _ _ _ _, Mor.refl _⟩⟩
  case round =>
    obtain ⟨k, hk, rfl, rfl, rfl, ⟨s0, s1⟩, HG, HI⟩ := hrel
    by_cases hlt : k < n
    · have hki : (k : Int) < (n : Int) := by omega
      have hk0 : (0 : Int) ≤ (k : Int) := by omega
      obtain ⟨x, hA, hxb, c0⟩ := HR.out _ HI.out.2 k hlt
      subst hA
      have HS := Lib.hid (usum_succ us k (by rw [HN.out]; exact hlt))
      by_cases hu : 0 ≤ us.getD k 0 ∧ us.getD k 0 ≤ 1000000
      · obtain ⟨u0, u1⟩ := hu
        have hs' := HS.out
        obtain ⟨s', hs2⟩ : ∃ s', usum us (k + 1) = s' := ⟨_, rfl⟩
        rw [hs2] at hs'
        obtain ⟨M, hM⟩ : ∃ M, min s' total = M := ⟨_, rfl⟩
        have m0 : 0 ≤ M := by omega
        have m1 : M ≤ 1000000 := by omega
        obtain ⟨now, hnow⟩ : ∃ now, unow D total s' = now := ⟨_, rfl⟩
        have hq : D * M / total = now := by rw [← hnow, ← hM]; rfl
        have p0 : 0 ≤ D * M := Int.mul_nonneg d0 m0
        have p1 : D * M ≤ 1000000000000000000 := by
          have := Int.mul_le_mul d1 m1 m0 (by omega)
          omega
        have hqt : (D * M).tdiv total = now := by rw [Int.tdiv_eq_ediv_of_nonneg p0]; exact hq
        have n0 := unow_bd (D := D) (t := total) (s := s') d0 t1 (by omega)
        have o0 := unow_bd (D := D) (t := total) (s := usum us k) d0 t1 s0
        rw [hnow] at n0
        have HU := Lib.hid (ulist_succ D total us k)
        rw [hs2, hnow] at HU
        have HO := Lib.hid HI.out.1
        have HX := Lib.hid HI.out.2
        have HS2 := Lib.hid hs2
        have HN2 := Lib.hid hnow
        have HG2 : Hid (∀ j, j < k + 1 → 0 ≤ us.getD j 0 ∧ us.getD j 0 ≤ 1000000) := Lib.hid (fun j hj => by
          by_cases e : j = k
          · subst e; exact ⟨u0, u1⟩
          · exact HG.out j (by omega))
        obtain ⟨n0, n1⟩ := n0
        obtain ⟨o0, o1⟩ := o0
        have HB : Hid (0 ≤ s' ∧ s' ≤ 1000000 * ((k : Int) + 1)) := Lib.hid (by omega)
        have hsu : usum us k + us.getD k 0 = s' := hs'.symm
        clear hs' hs2 hnow HG HS HI hq
        generalize unow D total (usum us k) = was at *
        generalize usum us k = s at *
        generalize us.getD k 0 = u at *
        have hsb : s' ≤ 41000000 := by have := HB.out; omega
        have hs0 : 0 ≤ s' := HB.out.1
        go_wp2_with (at_builtin; refine wpList_append_own _ rfl _ _ 22 rfl w.heap.size 3 i0 (.int .i64 0) 1 8 Tryd.underlying22 hi hz0 hz1 hz2 rfl (by decide) _ _ _ rfl (by exact HO.out.alloc _) ⟨wr.heap.size, 0, none⟩ 1 1 [.int .i64 (now - was)] rfl rfl ?_ ?_ ?_ ?_ ?_ ?_)
        · intro j u hj
          match j, hj with
          | 0, hj => simp at hj; subst hj; simp [Addr.add]
        · intro u hu; simp at hu; subst hu; rfl
        · unfold maxLen; omega
        · omega
        · have := HX.out.below.size; simp; omega
        · intro v' w1 hown' hgrow _
          have HO' := Lib.hid hown'
          have HX' := Lib.hid (own_step (HO.out.alloc _) HX.out.alloc hgrow)
          clear hown' hgrow
          go_wp2
          go_roundw
          case rel => exact ⟨k + 1, by omega, by go_num, by rw [HS2.out], by rw [HS2.out, HN2.out], by rw [HS2.out]; have := HB.out; omega, HG2, Lib.hid ⟨by rw [HU.out, List.map_append]; exact HO'.out, HX'.out⟩⟩
          case measure => simp [intOf]; omega
      · have HU := Lib.hid hu
        have hbad : us.getD k 0 < 0 ∨ (0 ≤ us.getD k 0 ∧ 1000000 < us.getD k 0) := by omega
        clear hu
        have hno := HNo.out (fun h => HU.out (h _ (getD_mem us k (by rw [HN.out]; exact hlt))))
        have HN2 := Lib.hid hno
        have HM := Lib.hid HI.out.2
        clear hno HU HS HG
        generalize us.getD k 0 = u at *
        rcases hbad with hbad | ⟨hbad1, hbad⟩
        all_goals
          go_wp2_with fail
          go_returns
          exact .inr ⟨HN2.out, 1, by omega, rfl, HM.out⟩
    · obtain rfl : k = n := by omega
      obtain ⟨A', c', rfl, hnc, -, -⟩ := own_shape HI.out.1
      have hall : ∀ x ∈ us, 0 ≤ x ∧ x ≤ 1000000 := fun x hx => by
        obtain ⟨j, hj, rfl⟩ := List.mem_iff_getElem.1 hx
        have := HG.out j (by rw [← HN.out]; exact hj)
        rw [List.getD_eq_getElem?_getD, List.getElem?_eq_getElem hj] at this
        exact this
      have hyes := HOk.out hall
      have HY := Lib.hid hyes
      clear hall hyes
      go_wp2_with fail
      go_returns
      exact .inl ⟨HY.out, A', c', rfl, HI.out.1, HI.out.2⟩

set_option maxHeartbeats 800000 in
theorem units_any (cost rest total : Int) (A : Option Addr) (n cap : Nat) (us : List Int) (w : World) (hr : Ri w A us) (hn : us.length = n) :
    Calls Tryd.prog 15 #[.int .i64 cost, .int .i64 rest, .int .i64 total, .slice A n cap] w fun e w' => (UnOk cost rest total us ∧ UnYes w (ulist (cost - rest) total us n) n e w') ∨ (¬ UnOk cost rest total us ∧ UnNo w e w') := by
  by_cases hL : lookU cost rest
  · by_cases ht : 1 ≤ total ∧ total ≤ 1000000
    · by_cases hl : n ≤ 40
      · exact units_go cost rest total A n cap us w hL ht.1 ht.2 hr hn hl
      · have HLk := Lib.hid (fun w => ulook_ok cost rest w hL)
        have HN := Lib.hid (show ¬ UnOk cost rest total us from fun h => hl (by have := h.2.2.2.1; omega))
        obtain ⟨t1, t2⟩ := ht
        have hbig : (40 : Int) < (n : Int) := by omega
        clear hr hn hl hL
        go_enter Tryd.func15, Tryd.ntmps15
        go_wp2_with (first | (go_at_call 55; refine (HLk.out _).mono ?_; rintro e w1 ⟨rfl, rfl⟩))
        go_returns
        exact .inr ⟨HN.out, 2, by omega, rfl, Mor.refl _⟩
    · have HLk := Lib.hid (fun w => ulook_ok cost rest w hL)
      have HN := Lib.hid (show ¬ UnOk cost rest total us from fun h => ht ⟨h.2.1, h.2.2.1⟩)
      have hbad : total < 1 ∨ (1 ≤ total ∧ 1000000 < total) := by omega
      clear hr hn hL ht
      rcases hbad with hbad | ⟨hb1, hbad⟩
      all_goals
        go_enter Tryd.func15, Tryd.ntmps15
        go_wp2_with (first | (go_at_call 55; refine (HLk.out _).mono ?_; rintro e w1 ⟨rfl, rfl⟩))
        go_returns
        exact .inr ⟨HN.out, 1, by omega, rfl, Mor.refl _⟩
  · have HLk := Lib.hid (fun w => ulook_no cost rest w hL)
    have HN := Lib.hid (show ¬ UnOk cost rest total us from fun h => hL h.1)
    clear hr hn hL
    go_enter Tryd.func15, Tryd.ntmps15
    go_wp2_with (first | (go_at_call 55; refine (HLk.out _).mono ?_; rintro e w1 ⟨rfl, rfl⟩))
    go_returns
    exact .inr ⟨HN.out, 1, by omega, rfl, Mor.refl _⟩
end Go.Proofs.YtahegjhjonodlaaDoor
