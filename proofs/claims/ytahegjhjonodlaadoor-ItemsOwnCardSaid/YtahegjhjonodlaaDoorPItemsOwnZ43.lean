/- slices.Equal at slices of pairs and of plans, slices.Clone at lots (printed by geqg.py). -/
import Derived.Test.YtahegjhjonodlaaDoorPItemsOwnZ1
import Derived.Test.YtahegjhjonodlaaDoorPItemsOwnZ2
import Derived.Test.YtahegjhjonodlaaDoorPItemsOwnZ3
import Derived.Test.YtahegjhjonodlaaDoorPItemsOwnZ4
import Derived.Test.YtahegjhjonodlaaDoorPItemsOwnZ5
import Derived.Test.YtahegjhjonodlaaDoorPItemsOwnZ6
import Derived.Test.YtahegjhjonodlaaDoorPItemsOwnZ7
import Derived.Test.YtahegjhjonodlaaDoorPItemsOwnZ8
import Derived.Test.YtahegjhjonodlaaDoorPItemsOwnZ9
import Derived.Test.YtahegjhjonodlaaDoorPItemsOwnZ10
import Derived.Test.YtahegjhjonodlaaDoorPItemsOwnZ11
import Derived.Test.YtahegjhjonodlaaDoorPItemsOwnZ12
import Derived.Test.YtahegjhjonodlaaDoorPItemsOwnZ15
import Derived.Test.YtahegjhjonodlaaDoorPItemsOwnZ16
import Derived.Test.YtahegjhjonodlaaDoorPItemsOwnZ23
import Derived.Test.YtahegjhjonodlaaDoorPItemsOwnZ24
import Derived.Test.YtahegjhjonodlaaDoorPItemsOwnZ25
import Derived.Test.YtahegjhjonodlaaDoorPItemsOwnZ26
import Derived.Test.YtahegjhjonodlaaDoorPItemsOwnZ27
import Derived.Test.YtahegjhjonodlaaDoorPItemsOwnZ28
import Derived.Test.YtahegjhjonodlaaDoorPItemsOwnZ29
import Derived.Test.YtahegjhjonodlaaDoorPItemsOwnZ30
import Derived.Test.YtahegjhjonodlaaDoorPItemsOwnZ31
import Derived.Test.YtahegjhjonodlaaDoorPItemsOwnZ40
import Derived.Test.YtahegjhjonodlaaDoorPItemsOwnZ41
import Derived.Test.YtahegjhjonodlaaDoorPItemsOwnZ42
import Derived.Test.YtahegjhjonodlaaDoorRows
import Derived.ArgAppend
import Derived.BigQuiet
import Derived.BigRegion
import Derived.DataElems
import Derived.Deep.AppendSrc
import Derived.Deep.DeepAppendRoom
import Derived.Deep.LoopGhost
import Derived.Deep.OwnRows
import Derived.Deep.QuietTactic
import Derived.Deep.RegionLaw
import Derived.Deep.SlicePairs
import Derived.Deep.Slices
import Derived.Deep.Strs
import Derived.Handy
import Derived.Laws.AppendOwn
import Derived.Laws.Cover1
import Derived.Lib.Bytealg
import Derived.Lib.Hide
import Derived.Lib.SliceRun
import Derived.Lib.Walk
import Derived.OpenShut
import Derived.Outline
import Derived.OwnWalk
import Derived.PlainAid
import Derived.ProofKit
import Derived.RegionTactic
import Derived.Shelf.Abstract
import Derived.Sort.Walk0
import Derived.WalkKit
import Derived.WalkSpells
namespace Go.Proofs.YtahegjhjonodlaaDoor
open Go.ChangeShapes Go.WideShapes Go.ChangeAt Go.RowKit Stb
set_option linter.unusedVariables false
set_option maxRecDepth 100000

set_option maxHeartbeats 1600000 in
theorem equalG_mv (A B : Option Addr) (n cap cap' : Nat) (xs : List Pr) (w : World) (hr : Pi w A xs) (hs : Pi w B xs) (hn : xs.length = n) (hl : n ≤ 8796093022208) :
    Calls Tryd.prog 34 #[.slice A n cap, .slice B n cap'] w fun e w' => e = .returned (.bool true) ∧ Mor w w' := by
  have HR := Lib.hid hr
  have HS := Lib.hid hs
  have HN := Lib.hid hn
  clear hr hs hn
  go_enter Tryd.func34, Tryd.ntmps34
  go_wp2
  go_loopw [13] (fun i wr => ∃ k : Nat, k ≤ n ∧ i = .int .i64 k ∧ Hid (Mor w wr)) (fun i _ => n - (intOf i).toNat)
  case atStart => exact ⟨0, Nat.zero_le _, rfl, Lib.hid (Mor.refl _)⟩
  case round =>
    obtain ⟨k, hk, rfl, HM⟩ := hrel
    by_cases hlt : k < n
    · have hki : (k : Int) < (n : Int) := by omega
      have hk0 : (0 : Int) ≤ (k : Int) := by omega
      obtain ⟨x, hA, hxb, c1, c2⟩ := (HR.out.mor HM.out).at_ k (by rw [HN.out]; exact hlt)
      obtain ⟨y, hB, hyb, d1, d2⟩ := (HS.out.mor HM.out).at_ k (by rw [HN.out]; exact hlt)
      subst hA hB
      generalize px xs k = u at *
      generalize py xs k = v at *
      go_wp2
      go_quiet (fail)
      go_wp2
      go_roundw
      case rel => exact ⟨k + 1, by omega, by go_num, Lib.hid (by repeat (first | exact HM.out | apply Mor.alloc | apply Mor.more | apply Mor.drewN | apply Mor.drew))⟩
      case measure => simp [intOf]; omega
    · obtain rfl : k = n := by omega
      go_wp2
      go_ret
      exact ⟨rfl, HM.out⟩

set_option maxHeartbeats 1600000 in
theorem equalG_it (A B : Option Addr) (n cap cap' : Nat) (xs : List Pr) (w : World) (hr : Pi w A xs) (hs : Pi w B xs) (hn : xs.length = n) (hl : n ≤ 8796093022208) :
    Calls Tryd.prog 36 #[.slice A n cap, .slice B n cap'] w fun e w' => e = .returned (.bool true) ∧ Mor w w' := by
  have HR := Lib.hid hr
  have HS := Lib.hid hs
  have HN := Lib.hid hn
  clear hr hs hn
  go_enter Tryd.func36, Tryd.ntmps36
  go_wp2
  go_loopw [13] (fun i wr => ∃ k : Nat, k ≤ n ∧ i = .int .i64 k ∧ Hid (Mor w wr)) (fun i _ => n - (intOf i).toNat)
  case atStart => exact ⟨0, Nat.zero_le _, rfl, Lib.hid (Mor.refl _)⟩
  case round =>
    obtain ⟨k, hk, rfl, HM⟩ := hrel
    by_cases hlt : k < n
    · have hki : (k : Int) < (n : Int) := by omega
      have hk0 : (0 : Int) ≤ (k : Int) := by omega
      obtain ⟨x, hA, hxb, c1, c2⟩ := (HR.out.mor HM.out).at_ k (by rw [HN.out]; exact hlt)
      obtain ⟨y, hB, hyb, d1, d2⟩ := (HS.out.mor HM.out).at_ k (by rw [HN.out]; exact hlt)
      subst hA hB
      generalize px xs k = u at *
      generalize py xs k = v at *
      go_wp2
      go_quiet (fail)
      go_wp2
      go_roundw
      case rel => exact ⟨k + 1, by omega, by go_num, Lib.hid (by repeat (first | exact HM.out | apply Mor.alloc | apply Mor.more | apply Mor.drewN | apply Mor.drew))⟩
      case measure => simp [intOf]; omega
    · obtain rfl : k = n := by omega
      go_wp2
      go_ret
      exact ⟨rfl, HM.out⟩

set_option maxHeartbeats 1600000 in
theorem equalG_lot (A B : Option Addr) (n cap cap' : Nat) (xs : List Pr) (w : World) (hr : Pi w A xs) (hs : Pi w B xs) (hn : xs.length = n) (hl : n ≤ 8796093022208) :
    Calls Tryd.prog 46 #[.slice A n cap, .slice B n cap'] w fun e w' => e = .returned (.bool true) ∧ Mor w w' := by
  have HR := Lib.hid hr
  have HS := Lib.hid hs
  have HN := Lib.hid hn
  clear hr hs hn
  go_enter Tryd.func46, Tryd.ntmps46
  go_wp2
  go_loopw [13] (fun i wr => ∃ k : Nat, k ≤ n ∧ i = .int .i64 k ∧ Hid (Mor w wr)) (fun i _ => n - (intOf i).toNat)
  case atStart => exact ⟨0, Nat.zero_le _, rfl, Lib.hid (Mor.refl _)⟩
  case round =>
    obtain ⟨k, hk, rfl, HM⟩ := hrel
    by_cases hlt : k < n
    · have hki : (k : Int) < (n : Int) := by omega
      have hk0 : (0 : Int) ≤ (k : Int) := by omega
      obtain ⟨x, hA, hxb, c1, c2⟩ := (HR.out.mor HM.out).at_ k (by rw [HN.out]; exact hlt)
      obtain ⟨y, hB, hyb, d1, d2⟩ := (HS.out.mor HM.out).at_ k (by rw [HN.out]; exact hlt)
      subst hA hB
      generalize px xs k = u at *
      generalize py xs k = v at *
      go_wp2
      go_quiet (fail)
      go_wp2
      go_roundw
      case rel => exact ⟨k + 1, by omega, by go_num, Lib.hid (by repeat (first | exact HM.out | apply Mor.alloc | apply Mor.more | apply Mor.drewN | apply Mor.drew))⟩
      case measure => simp [intOf]; omega
    · obtain rfl : k = n := by omega
      go_wp2
      go_ret
      exact ⟨rfl, HM.out⟩

set_option maxHeartbeats 3200000 in
theorem equalG_pl (A B : Option Addr) (n cap cap' : Nat) (ps : List Pln) (w : World) (hr : Ps w A ps) (hs : Ps w B ps) (hn : ps.length = n) (hl : n ≤ 8796093022208) :
    Calls Tryd.prog 38 #[.slice A n cap, .slice B n cap'] w fun e w' => e = .returned (.bool true) ∧ Mor w w' := by
  have HR := Lib.hid hr
  have HS := Lib.hid hs
  have HN := Lib.hid hn
  clear hr hs hn
  go_enter Tryd.func38, Tryd.ntmps38
  go_wp2
  go_loopw [13] (fun i wr => ∃ k : Nat, k ≤ n ∧ i = .int .i64 k ∧ Hid (Mor w wr)) (fun i _ => n - (intOf i).toNat)
  case atStart => exact ⟨0, Nat.zero_le _, rfl, Lib.hid (Mor.refl _)⟩
  case round =>
    obtain ⟨k, hk, rfl, HM⟩ := hrel
    by_cases hlt : k < n
    · have hki : (k : Int) < (n : Int) := by omega
      have hk0 : (0 : Int) ≤ (k : Int) := by omega
      obtain ⟨x, hA, hxb, -, c0, c1, c2, c3, c4, c5, c6⟩ := (HR.out.mor HM.out).at_ k (by rw [HN.out]; exact hlt)
      obtain ⟨y, hB, hyb, -, d0, d1, d2, d3, d4, d5, d6⟩ := (HS.out.mor HM.out).at_ k (by rw [HN.out]; exact hlt)
      subst hA hB
      generalize np ps k = p at *
      obtain ⟨key, kind, frm, amt, num, deb, cre⟩ := p
      simp only at c0 c1 c2 c3 c4 c5 c6 d0 d1 d2 d3 d4 d5 d6
      go_wp2
      go_quiet (fail)
      go_wp2
      go_roundw
      case rel => exact ⟨k + 1, by omega, by go_num, Lib.hid (by repeat (first | exact HM.out | apply Mor.alloc | apply Mor.more | apply Mor.drewN | apply Mor.drew))⟩
      case measure => simp [intOf]; omega
    · obtain rfl : k = n := by omega
      go_wp2
      go_ret
      exact ⟨rfl, HM.out⟩

def MadeLot (w : World) (n : Nat) (ys : List Pr) (e : Ending) (w' : World) : Prop :=
  ∃ v, e = .returned v ∧ w'.ownsRow w.heap.size 63 2 v n (flat pp ys) ∧ Mor w w'
@[go_sem] theorem eql_nil_lot (w : World) (a : Option Addr) (n c : Nat) : (binOp .eql 60 (.slice a n c) (.slice none 0 0)).run Tryd.prog w = .ok (.bool a.isNone) w :=
  Lib.run_eql_slice_nil w _ 63 a n c 0 0 Tryd.underlying60

set_option maxHeartbeats 1600000 in
theorem clone_lot (A : Option Addr) (n cap : Nat) (xs : List Pr) (w : World) (hr : Pi w A xs) (hn : xs.length = n) (h0 : A = none → n = 0) (hl : n ≤ 1000000) :
    Calls Tryd.prog 40 #[.slice A n cap] w (MadeLot w n xs) := by
  obtain ⟨i0, hi, hz0, hz1, hz2⟩ := info_parts info_lot
  cases A with
  | none =>
    obtain rfl := h0 rfl
    have hx : xs = [] := List.eq_nil_of_length_eq_zero hn
    subst hx
    clear hr hn h0
    go_enter Tryd.func40, Tryd.ntmps40
    go_wp2
    go_ret
    exact ⟨_, rfl, World.ownsRow_nil _ _ _ _, Mor.refl _⟩
  | some x =>
    have HC := Lib.hid (fun (W : World) (hW : Mor w W) j u hu => pi_flat (hr.mor hW) j u hu)
    have HL := Lib.hid (show (flat pp xs).length = n * 2 by rw [flat_len pp 2 pp_len, hn])
    clear hr hn h0
    go_enter Tryd.func40, Tryd.ntmps40
    go_wp2_with (at_builtin; refine wpList_append_own _ rfl _ _ 60 rfl w.heap.size 63 i0 (.agg #[.int .i64 0, .int .i64 0]) 2 16 Tryd.underlying60 hi hz0 hz1 hz2 rfl (by decide) _ 0 [] rfl ⟨by simp, .inr ⟨w.heap.size, 0, #[], rfl, Nat.le_refl _, heap_alloc_new w _, Nat.le_refl _, by unfold maxLen; omega, rfl, rfl⟩⟩ x n cap (flat pp xs) rfl (by rw [HL.out]) ?_ ?_ ?_ ?_ ?_ ?_)
    case refine_6 =>
      intro v' w1 hown hgrow _
      have HO := Lib.hid hown
      have HB : Hid (Below w.heap.size w w1) := Lib.hid (((Below.refl _ _).alloc (Nat.le_refl _) _).grown hgrow (by simp) (by intro k hk; simp [Value.ownBlock] at hk; omega))
      clear hown hgrow
      go_wp2
      go_ret
      exact ⟨v', rfl, by simpa using HO.out, Mor.of_below HB.out⟩
    all_goals try (first | (exact fun j u hu => HC.out _ ((Mor.refl _).alloc) j u hu) | (exact flat_oneY xs) | (unfold maxLen; omega) | omega | simp)


end Go.Proofs.YtahegjhjonodlaaDoor
