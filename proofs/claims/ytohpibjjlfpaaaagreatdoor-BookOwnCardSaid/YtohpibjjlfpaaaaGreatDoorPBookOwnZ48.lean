/- slices.Clone and slices.Equal at []string. -/
import Derived.Test.YtohpibjjlfpaaaaGreatDoorPBookOwnZ1
import Derived.Test.YtohpibjjlfpaaaaGreatDoorPBookOwnZ2
import Derived.Test.YtohpibjjlfpaaaaGreatDoorPBookOwnZ3
import Derived.Test.YtohpibjjlfpaaaaGreatDoorPBookOwnZ4
import Derived.Test.YtohpibjjlfpaaaaGreatDoorPBookOwnZ5
import Derived.Test.YtohpibjjlfpaaaaGreatDoorPBookOwnZ6
import Derived.Test.YtohpibjjlfpaaaaGreatDoorPBookOwnZ9
import Derived.Test.YtohpibjjlfpaaaaGreatDoorPBookOwnZ10
import Derived.Test.YtohpibjjlfpaaaaGreatDoorPBookOwnZ11
import Derived.Test.YtohpibjjlfpaaaaGreatDoorPBookOwnZ35
import Derived.Test.YtohpibjjlfpaaaaGreatDoorPBookOwnZ40
import Derived.Test.YtohpibjjlfpaaaaGreatDoorPBookOwnZ47
import Derived.Test.YtohpibjjlfpaaaaGreatDoorRows
import Derived.BigQuiet
import Derived.DataElems
import Derived.Deep.LoopGhost
import Derived.Deep.OwnRows
import Derived.Deep.QuietTactic
import Derived.Deep.SlicePairs
import Derived.Deep.Slices
import Derived.Deep.Strs
import Derived.Handy
import Derived.Laws.AppendOwn
import Derived.Laws.Cover1
import Derived.Lib.Bytealg
import Derived.Lib.Hide
import Derived.OpenShut
import Derived.Outline
import Derived.OwnWalk
import Derived.PlainAid
import Derived.ProofKit
import Derived.RegionTactic
import Derived.Shelf.Abstract
import Derived.Sort.Walk0
import Derived.WalkKit
import Derived.WalkSpells
namespace Go.Proofs.YtohpibjjlfpaaaaGreatDoor
open Go.ChangeShapes Go.WideShapes Go.ChangeAt Go.RowKit
set_option linter.unusedVariables false
set_option maxRecDepth 100000

theorem rd_atS {w : World} {x : Addr} {cs : List Value} (h : Rd w (some x) cs) (j : Nat) (u : Value) (hu : cs[j]? = some u) : w.cell? (x.add j) = some u := by
  have hj : j < cs.length := (List.getElem?_eq_some_iff.1 hu).1
  rcases h with rfl | ⟨b, o, e, hb, hc⟩
  · simp at hj
  · injection e with e
    subst e
    rw [adds, hc j hj, List.getD_eq_getElem?_getD, hu]; rfl
theorem rd_str {w : World} {A : Option Addr} {xs : List ByteArray} (h : Rd w A (xs.map Value.string)) (k : Nat) (hk : k < xs.length) : ∃ b o, A = some ⟨b, o, none⟩ ∧ b < w.heap.size ∧ w.cell? ⟨b, o + k, none⟩ = some (.string (xs.getD k ByteArray.empty)) := by
  rcases h with h | ⟨b, o, e, hb, hc⟩
  · simp at h; subst h; simp at hk
  · refine ⟨b, o, e, hb, ?_⟩
    rw [hc k (by simpa using hk)]
    simp [List.getD_eq_getElem?_getD, List.getElem?_eq_getElem hk]
def MadeSt (w : World) (n : Nat) (cs : List Value) (e : Ending) (w' : World) : Prop :=
  ∃ v, e = .returned v ∧ w'.ownsRow w.heap.size 9 1 v n cs ∧ Mor w w'
@[go_sem] theorem eql_nil_st (w : World) (a : Option Addr) (n c : Nat) : (binOp .eql 41 (.slice a n c) (.slice none 0 0)).run Tryz.prog w = .ok (.bool a.isNone) w :=
  Lib.run_eql_slice_nil w _ 9 a n c 0 0 Tryz.underlying41

set_option maxHeartbeats 1600000 in
theorem clone_strs (A : Option Addr) (n cap : Nat) (cs : List Value) (w : World) (hr : Rd w A cs) (hn : cs.length = n) (h1 : ∀ u ∈ cs, u.oneCell' = true) (h0 : A = none → n = 0) (hl : n ≤ 1000000) :
    Calls Tryz.prog 25 #[.slice A n cap] w (MadeSt w n cs) := by
  obtain ⟨i0, hi, hz0, hz1, hz2⟩ := info_parts info_str
  cases A with
  | none =>
    obtain rfl := h0 rfl
    have hx : cs = [] := List.eq_nil_of_length_eq_zero (by rw [hn])
    subst hx
    clear hr hn h0
    go_enter Tryz.func25, Tryz.ntmps25
    go_wp2
    go_ret
    exact ⟨_, rfl, World.ownsRow_nil _ _ _ _, Mor.refl _⟩
  | some x =>
    have HC := Lib.hid (fun (W : World) (hW : Mor w W) j u (hu : cs[j]? = some u) => show W.cell? (x.add j) = some u from rd_atS (hr.mor hW) j u hu)
    have HL := Lib.hid hn
    have H1 := Lib.hid h1
    clear hr hn h0 h1
    go_enter Tryz.func25, Tryz.ntmps25
    go_wp2_with (at_builtin; refine wpList_append_own _ rfl _ _ 41 rfl w.heap.size 9 i0 (.string { data := #[] }) 1 16 Tryz.underlying41 hi hz0 hz1 hz2 rfl (by decide) _ 0 [] rfl ⟨by simp, .inr ⟨w.heap.size, 0, #[], rfl, Nat.le_refl _, heap_alloc_new w _, Nat.le_refl _, by unfold maxLen; omega, rfl, rfl⟩⟩ x n cap cs rfl (by rw [HL.out, Nat.mul_one]) ?_ ?_ ?_ ?_ ?_ ?_)
    case refine_6 =>
      intro v' w1 hown hgrow _
      have HO := Lib.hid hown
      have HB : Hid (Below w.heap.size w w1) := Lib.hid (((Below.refl _ _).alloc (Nat.le_refl _) _).grown hgrow (by simp) (by intro k hk; simp [Value.ownBlock] at hk; omega))
      clear hown hgrow
      go_wp2
      go_ret
      exact ⟨v', rfl, by simpa using HO.out, Mor.of_below HB.out⟩
    all_goals try (first | (exact fun j u hu => HC.out _ ((Mor.refl _).alloc) j u hu) | (exact H1.out) | (unfold maxLen; omega) | omega | simp)

set_option maxHeartbeats 1600000 in
theorem equal_strs (A B : Option Addr) (n cap cap' : Nat) (xs : List ByteArray) (w : World) (hr : Rd w A (xs.map Value.string)) (hs : Rd w B (xs.map Value.string)) (hn : xs.length = n) (hl : n ≤ 1000000) :
    Calls Tryz.prog 29 #[.slice A n cap, .slice B n cap'] w fun e w' => e = .returned (.bool true) ∧ Mor w w' := by
  have HR := Lib.hid hr
  have HS := Lib.hid hs
  have HN := Lib.hid hn
  clear hr hs hn
  go_enter Tryz.func29, Tryz.ntmps29
  go_wp2
  go_loopw [13] (fun i wr => ∃ k : Nat, k ≤ n ∧ i = .int .i64 k ∧ Hid (Mor w wr)) (fun i _ => n - (intOf i).toNat)
  case atStart => exact ⟨0, Nat.zero_le _, rfl, Lib.hid (Mor.refl _)⟩
  case round =>
    obtain ⟨k, hk, rfl, HM⟩ := hrel
    by_cases hlt : k < n
    · have hki : (k : Int) < (n : Int) := by omega
      have hk0 : (0 : Int) ≤ (k : Int) := by omega
      obtain ⟨b1, o1, hA, hxb, c1⟩ := rd_str (HR.out.mor HM.out) k (by rw [HN.out]; exact hlt)
      obtain ⟨b2, o2, hB, hyb, d1⟩ := rd_str (HS.out.mor HM.out) k (by rw [HN.out]; exact hlt)
      subst hA hB
      generalize xs.getD k ByteArray.empty = u at *
      go_wp2
      go_quiet (fail)
      go_wp2
      go_roundw
      case rel => exact ⟨k + 1, by omega, by go_num, Lib.hid (by repeat (first | exact HM.out | apply Mor.alloc | apply Mor.more | apply Mor.drewN | apply Mor.drew))⟩
      case measure => simp [intOf]; omega
    · obtain rfl : k = n := by omega
      go_wp2
      go_ret
      exact ⟨rfl, HM.out⟩


end Go.Proofs.YtohpibjjlfpaaaaGreatDoor
