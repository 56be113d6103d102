/- Slices of items that the call itself makes. -/
import Derived.Test.YtdpphneebikdpaaPTopOwedZ1
import Derived.Test.YtdpphneebikdpaaPTopOwedZ9
import Derived.Test.YtdpphneebikdpaaPTopOwedZ23
import Derived.Test.YtdpphneebikdpaaPTopOwedZ24
import Derived.Test.YtdpphneebikdpaaPTopOwedZ25
import Derived.Test.YtdpphneebikdpaaRows
import Derived.BigQuiet
import Derived.DataElems
import Derived.Deep.OwnRows
import Derived.Deep.QuietTactic
import Derived.Deep.SlicePairs
import Derived.Handy
import Derived.Lib.Hide
import Derived.OpenShut
import Derived.Outline
import Derived.OwnWalk
import Derived.ProofKit
import Derived.RegionTactic
import Derived.WalkKit
namespace Go.Proofs.Ytdpphneebikdpaa
open Go.ChangeShapes Go.WideShapes Go.ChangeAt Go.RowKit
set_option linter.unusedVariables false
set_option maxRecDepth 100000

theorem info_item : (Try.prog.info? 70).map (fun i => (i.zero, i.size, i.bytes)) = some (some (.agg #[.int .i64 0, .int .i64 0]), 2, 16) := by kernel_rfl
/-- the two cells of an item -/
def pp (p : Pr) : List Value := [.int .i64 p.1, .int .i64 p.2]
theorem Rd.pi {w : World} {A : Option Addr} {xs : List Pr} (h : Rd w A (flat pp xs)) : Pi w A xs := by
  by_cases h0 : xs = []
  · exact .inl h0
  · have hl : 0 < xs.length := List.length_pos_iff.2 h0
    obtain ⟨b, o, rfl, hb, _⟩ := h.field 2 (fun _ => rfl) 0 hl (by omega)
    refine .inr ⟨_, rfl, hb, fun i hi => ?_⟩
    obtain ⟨b', o', e, _, hc⟩ := h.field 2 (fun _ => rfl) i hi (by omega)
    injection e with e
    injection e with e1 e2
    subst e1 e2
    rw [adds]
    refine ⟨?_, ?_⟩
    · have := hc 0 (by omega)
      rw [Nat.add_zero] at this
      rw [this]
      unfold px
      rw [show xs.getD i (0, 0) = xs[i] by rw [List.getD_eq_getElem?_getD, List.getElem?_eq_getElem hi]; rfl]; rfl
    · have := hc 1 (by omega)
      rw [this]
      unfold py
      rw [show xs.getD i (0, 0) = xs[i] by rw [List.getD_eq_getElem?_getD, List.getElem?_eq_getElem hi]; rfl]; rfl
end Go.Proofs.Ytdpphneebikdpaa

/- The walks of age.Check, slices.BinarySearch at []int, talkeep.owed. -/
namespace Go.Proofs.Ytdpphneebikdpaa
open Go.ChangeShapes Go.WideShapes Go.ChangeAt Go.RowKit
set_option linter.unusedVariables false
set_option maxRecDepth 100000

set_option maxHeartbeats 400000 in
theorem cis_anyA (n : Int) (w : World) : Calls Try.prog 48 #[.int .i64 n] w fun e w' => e = .returned (.bool (decide (0 ≤ n) && decide (n ≤ 292193))) ∧ w = w' := by
  by_cases a : 0 ≤ n <;> by_cases b : n ≤ 292193
  all_goals
    go_enter Try.func48, Try.ntmps48
    go_wp2
    go_ret
    exact ⟨by simp [*], rfl⟩

set_option maxRecDepth 100000 in
set_option maxHeartbeats 3200000 in
theorem acheck_any (A : Option Addr) (n cap : Nat) (xs : List Pr) (w : World) (hr : Pi w A xs) (hn : xs.length = n) (hml : n ≤ maxLen) :
    Calls Try.prog 26 #[.slice A n cap] w fun e w' => e = .returned (.int .i64 (itc xs)) ∧ Mor w w' := by
  unfold maxLen at hml
  have HR := Lib.hid hr
  have HN := Lib.hid hn
  clear hr
  by_cases h12 : 40 < n
  · have HL := Lib.hid (show itc xs = 2 by unfold itc; rw [hn, if_pos h12])
    clear hn
    go_enter Try.func26, Try.ntmps26
    go_wp2
    go_ret
    exact ⟨by rw [HL.out] <;> rfl, Mor.refl _⟩
  · have HL := Lib.hid (show itc xs = if itOk xs n = true then 0 else 1 by unfold itc; rw [hn, if_neg h12])
    have h12' : n ≤ 40 := by omega
    clear hn h12
    go_enter Try.func26, Try.ntmps26
    go_wp2
    go_loopw [10] (fun i wr => ∃ k : Nat, k ≤ n ∧ i = .int .i64 k ∧ Hid (itOk xs k = true) ∧ Hid (Mor w wr)) (fun i _ => n - (intOf i).toNat)
    case atStart => exact ⟨0, Nat.zero_le _, rfl, Lib.hid rfl, Lib.hid (Mor.refl _)⟩
    case round =>
      obtain ⟨k, hk, rfl, HU, HM⟩ := hrel
      by_cases hlt : k < n
      · have hki : (k : Int) < (n : Int) := by omega
        have hk0 : (0 : Int) ≤ (k : Int) := by omega
        obtain ⟨x, hA, hxb, c1, c2⟩ := (HR.out.mor HM.out).at_ k (by have := HN.out; omega)
        subst hA
        have HBad := Lib.hid (fun h : itAt xs k = false => show itc xs = 1 by rw [HL.out, itOk_bad h hlt]; rfl)
        have HAt := Lib.hid (show itAt xs k = (decide (0 ≤ px xs k) && decide (px xs k ≤ 292193) && decide (1 ≤ py xs k) && decide (py xs k ≤ 1000000000000)) from rfl)
        have HOk := Lib.hid (fun h : itAt xs k = true => show itOk xs (k + 1) = true by rw [itOk_succ, HU.out, h]; rfl)
        have HI := Lib.hid (fun w => cis_anyA (px xs k) w)
        generalize px xs k = d at *
        generalize py xs k = a at *
        have hcase : (d < 0 ∨ 292193 < d) ∨ (0 ≤ d ∧ d ≤ 292193 ∧ a < 1) ∨ (0 ≤ d ∧ d ≤ 292193 ∧ 1000000000000 < a) ∨ (0 ≤ d ∧ d ≤ 292193 ∧ 1 ≤ a ∧ a ≤ 1000000000000) := by omega
        rcases hcase with h | ⟨h1, h2, h3⟩ | ⟨h1, h2, h3⟩ | ⟨h1, h2, h3, h4⟩
        · have HF := Lib.hid (HBad.out (by rw [HAt.out]; simp; omega))
          rw [show (decide (0 ≤ d) && decide (d ≤ 292193)) = false by simp; omega] at HI
          clear h
          go_wp2_with ((go_at_call 48; (with_reducible refine (HI.out _).mono ?_); rintro e w1 ⟨rfl, rfl⟩))
          go_ret
          exact ⟨by rw [HF.out] <;> rfl, HM.out.alloc⟩
        · have HF := Lib.hid (HBad.out (by rw [HAt.out]; simp; omega))
          rw [show (decide (0 ≤ d) && decide (d ≤ 292193)) = true by simp; omega] at HI
          go_wp2_with ((go_at_call 48; (with_reducible refine (HI.out _).mono ?_); rintro e w1 ⟨rfl, rfl⟩))
          go_ret
          exact ⟨by rw [HF.out] <;> rfl, HM.out.alloc⟩
        · have HF := Lib.hid (HBad.out (by rw [HAt.out]; simp; omega))
          rw [show (decide (0 ≤ d) && decide (d ≤ 292193)) = true by simp; omega] at HI
          go_wp2_with ((go_at_call 48; (with_reducible refine (HI.out _).mono ?_); rintro e w1 ⟨rfl, rfl⟩))
          go_ret
          exact ⟨by rw [HF.out] <;> rfl, HM.out.alloc⟩
        · have HG := Lib.hid (HOk.out (by rw [HAt.out]; simp; omega))
          rw [show (decide (0 ≤ d) && decide (d ≤ 292193)) = true by simp; omega] at HI
          go_wp2_with ((go_at_call 48; (with_reducible refine (HI.out _).mono ?_); rintro e w1 ⟨rfl, rfl⟩))
          go_roundw
          case rel => exact ⟨k + 1, by omega, by go_num, HG, Lib.hid HM.out.alloc⟩
          case measure => simp [intOf]; omega
      · obtain rfl : k = n := by omega
        have HF := Lib.hid (show itc xs = 0 by rw [HL.out, HU.out]; rfl)
        go_wp2
        go_ret
        exact ⟨by rw [HF.out] <;> rfl, HM.out⟩

end Go.Proofs.Ytdpphneebikdpaa
