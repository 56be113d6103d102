/- The walks of split.weights and of split.By's comparison. -/
import Derived.Test.YtbjfmhncpfhdmaaStH
import Derived.Test.YtbjfmhncpfhdmaaPlainF
import Derived.Test.YtbjfmhncpfhdmaaAmt2
import Derived.Test.YtbjfmhncpfhdmaaIsort
import Derived.Test.YtbjfmhncpfhdmaaPlainSp
namespace Go.Proofs.Ytbjfmhncpfhdmaa
open Go.ChangeShapes Go.WideShapes Go.ChangeAt Go.RowKit Stb
set_option linter.unusedVariables false

def swOk (v : Int) : Bool := decide (0 ≤ v) && decide (v ≤ 1000000)
/-- what is wrong with weights -/
def swc (l : List Int) : Int := if 40 < l.length then 2 else if l.all swOk = true then 0 else 1
def swv (l : List Int) : Int := if swc l = 0 then l.sum else 0
def sumk (l : List Int) (k : Nat) : Int := (l.take k).sum
theorem sumk_succ (l : List Int) (k : Nat) (h : k < l.length) : sumk l (k + 1) = sumk l k + l.getD k 0 := sum_take_succ l k h
theorem all_take_succ (l : List Int) (k : Nat) (h : k < l.length) : (l.take (k + 1)).all swOk = ((l.take k).all swOk && swOk (l.getD k 0)) := by
  rw [List.take_succ_eq_append_getElem h, List.all_append]
  congr 1
  simp [List.getD_eq_getElem?_getD, h]
theorem all_bad {l : List Int} {k : Nat} (h : k < l.length) (hb : swOk (l.getD k 0) = false) : l.all swOk = false := by
  rw [List.all_eq_false]
  exact ⟨l.getD k 0, getD_mem l k h, by rw [hb]; simp⟩
theorem swOk_sumk {l : List Int} {k : Nat} (hk : k ≤ l.length) (h : (l.take k).all swOk = true) : 0 ≤ sumk l k ∧ sumk l k ≤ 1000000 * k := by
  induction k with
  | zero => simp [sumk]
  | succ k ih =>
    rw [all_take_succ l k (by omega), Bool.and_eq_true] at h
    have := ih (by omega) h.1
    have h2 := h.2
    unfold swOk at h2
    rw [Bool.and_eq_true, decide_eq_true_iff, decide_eq_true_iff] at h2
    rw [sumk_succ l k (by omega)]
    omega

set_option maxRecDepth 100000 in
set_option maxHeartbeats 3200000 in
theorem sweights_any (A : Option Addr) (n cap : Nat) (l : List Int) (w : World) (hr : Ri w A l) (hn : l.length = n) (hml : n ≤ maxLen) :
    Calls Try.prog 34 #[.slice A n cap] w fun e w' => e = .returned (.tuple #[.int .i64 (swv l), .int .i64 (swc l)]) ∧ w = w' := by
  unfold maxLen at hml
  have HR := Lib.hid hr
  have HN := Lib.hid hn
  clear hr
  by_cases h12 : 40 < n
  · have HL := Lib.hid (show swc l = 2 by unfold swc; rw [hn, if_pos h12])
    have HV := Lib.hid (show swv l = 0 by unfold swv; rw [HL.out]; rfl)
    clear hn
    go_enter Try.func34, Try.ntmps34
    go_wp2
    go_returns
    exact ⟨by rw [HL.out, HV.out] <;> rfl, rfl⟩
  · have HL := Lib.hid (show swc l = if l.all swOk = true then 0 else 1 by unfold swc; rw [hn, if_neg h12])
    have h12' : n ≤ 40 := by omega
    clear hn h12
    go_enter Try.func34, Try.ntmps34
    go_wp2
    go_loop [4, 12] (fun s i => ∃ k : Nat, k ≤ n ∧ i = .int .i64 k ∧ s = .int .i64 (sumk l k) ∧ Hid ((l.take k).all swOk = true)) (fun _ i => n - (intOf i).toNat)
    case atStart => exact ⟨0, Nat.zero_le _, rfl, by simp [sumk], Lib.hid (by simp)⟩
    case round =>
      obtain ⟨k, hk, rfl, rfl, HU⟩ := hrel
      obtain ⟨o1, o2⟩ := swOk_sumk (by rw [HN.out]; exact hk) HU.out
      by_cases hlt : k < n
      · have hki : (k : Int) < (n : Int) := by omega
        have hk0 : (0 : Int) ≤ (k : Int) := by omega
        obtain ⟨x, hA, hxb, c1⟩ := HR.out.at_ k (by rw [HN.out]; exact hlt)
        subst hA
        have HBad := Lib.hid (fun h : swOk (l.getD k 0) = false => show swc l = 1 by rw [HL.out, all_bad (by rw [HN.out]; exact hlt) h]; rfl)
        have HOk := Lib.hid (fun h : swOk (l.getD k 0) = true => show (l.take (k + 1)).all swOk = true by rw [all_take_succ l k (by rw [HN.out]; exact hlt), HU.out, h]; rfl)
        have HSm := Lib.hid (sumk_succ l k (by rw [HN.out]; exact hlt))
        have HAt := Lib.hid (show swOk (l.getD k 0) = (decide (0 ≤ l.getD k 0) && decide (l.getD k 0 ≤ 1000000)) from rfl)
        generalize l.getD k 0 = v at *
        generalize sumk l k = o at *
        have hcase : v < 0 ∨ (0 ≤ v ∧ 1000000 < v) ∨ (0 ≤ v ∧ v ≤ 1000000) := by omega
        rcases hcase with h | ⟨h1, h2⟩ | ⟨h1, h2⟩
        · have HF := Lib.hid (HBad.out (by rw [HAt.out]; simp; omega))
          have HV := Lib.hid (show swv l = 0 by unfold swv; rw [HF.out]; rfl)
          go_wp2
          go_returns
          exact ⟨by rw [HF.out, HV.out] <;> rfl, rfl⟩
        · have HF := Lib.hid (HBad.out (by rw [HAt.out]; simp; omega))
          have HV := Lib.hid (show swv l = 0 by unfold swv; rw [HF.out]; rfl)
          go_wp2
          go_returns
          exact ⟨by rw [HF.out, HV.out] <;> rfl, rfl⟩
        · have HG := Lib.hid (HOk.out (by rw [HAt.out]; simp; omega))
          go_wp2
          go_round
          case rel => exact ⟨k + 1, by omega, by go_num, by rw [HSm.out], HG⟩
          case measure => simp [intOf]; omega
      · obtain rfl : k = n := by omega
        have HF := Lib.hid (show swc l = 0 by
          have := HU.out
          rw [List.take_of_length_le (by rw [HN.out]; exact Nat.le_refl _)] at this
          rw [HL.out, this]; rfl)
        have HV := Lib.hid (show swv l = sumk l k by unfold swv sumk; rw [HF.out, List.take_of_length_le (by rw [HN.out]; exact Nat.le_refl _)]; rfl)
        generalize sumk l k = o at *
        go_wp2
        go_returns
        exact ⟨by rw [HF.out, HV.out] <;> rfl, rfl⟩

set_option maxRecDepth 100000 in
set_option maxHeartbeats 1600000 in
theorem bycmp_any (bA bL bS : Nat) (a S : Int) (A : Option Addr) (n cap : Nat) (l : List Int) (x y : Nat) (w : World)
    (hA : w.cell? ⟨bA, 0, none⟩ = some (.int .i64 a)) (hL : w.cell? ⟨bL, 0, none⟩ = some (.slice A n cap)) (hS : w.cell? ⟨bS, 0, none⟩ = some (.int .i64 S)) (hr : Ri w A l) (hn : l.length = n) (hl : n ≤ 1000)
    (hx : x < n) (hy : y < n) (ha : 0 ≤ a) (ha2 : a ≤ 1000000000000) (hw : ∀ k, k < n → 0 ≤ l.getD k 0 ∧ l.getD k 0 ≤ 1000000) (h1 : 1 ≤ S) (h2 : S ≤ 40000000) :
    Calls Try.prog 37 #[.int .i64 x, .int .i64 y, .pointer (some ⟨bA, 0, none⟩), .pointer (some ⟨bL, 0, none⟩), .pointer (some ⟨bS, 0, none⟩)] w fun e w' => e = .returned (.int .i64 (a * l.getD y 0 % S - a * l.getD x 0 % S)) ∧ ∃ m, w' = w.drewN m := by
  obtain ⟨z, hz, hzb, cx⟩ := hr.at_ x (by omega)
  obtain ⟨z', hz', hzb', cy⟩ := hr.at_ y (by omega)
  subst hz
  injection hz' with e
  subst e
  obtain ⟨u1, u2⟩ := hw x hx
  obtain ⟨v1, v2⟩ := hw y hy
  generalize l.getD x 0 = u at *
  generalize l.getD y 0 = v at *
  obtain ⟨p1, p2⟩ := prod_bd a u 1000000000000 1000000 (by omega) ha2 (by omega) u2 (by omega)
  obtain ⟨p3, p4⟩ := prod_bd a v 1000000000000 1000000 (by omega) ha2 (by omega) v2 (by omega)
  have p5 : 0 ≤ a * u := Int.mul_nonneg ha u1
  have p6 : 0 ≤ a * v := Int.mul_nonneg ha v1
  have r1 := Int.emod_nonneg (a * u) (show S ≠ 0 by omega)
  have r2 := Int.emod_lt_of_pos (a * u) (show 0 < S by omega)
  have r3 := Int.emod_nonneg (a * v) (show S ≠ 0 by omega)
  have r4 := Int.emod_lt_of_pos (a * v) (show 0 < S by omega)
  have hxi : (x : Int) < (n : Int) := by omega
  have hyi : (y : Int) < (n : Int) := by omega
  have hx0 : (0 : Int) ≤ (x : Int) := by omega
  have hy0 : (0 : Int) ≤ (y : Int) := by omega
  clear hw hr hzb hzb'
  go_enter Try.func37, Try.ntmps37
  go_wp2
  go_quiet (fail)
  go_wp2
  go_ret
  exact ⟨rfl, _, rfl⟩

end Go.Proofs.Ytbjfmhncpfhdmaa
