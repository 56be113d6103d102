/- The walks of seats.divisor and seats.look. -/
import Derived.Test.YtmpcnipngepfgaaPlainZ
import Derived.Test.YtmpcnipngepfgaaPlainF
import Derived.Test.YtmpcnipngepfgaaInts
namespace Go.Proofs.Ytmpcnipngepfgaa
open Go.ChangeShapes Go.WideShapes Go.ChangeAt Go.RowKit
set_option linter.unusedVariables false

set_option maxHeartbeats 400000 in
theorem divisor_any (way s : Int) (w : World) (h1 : 0 ≤ s) (h2 : s ≤ 2000) :
    Calls Try.prog 29 #[.int .i64 way, .int .i64 s] w fun e w' => e = .returned (.int .i64 (dv way s)) ∧ w = w' := by
  by_cases w0 : way = 0
  · subst w0
    rw [dv_0]
    go_enter Try.func29, Try.ntmps29
    go_wp2
    go_ret
    exact ⟨rfl, rfl⟩
  · by_cases w1 : way = 1
    · subst w1
      rw [dv_1]
      clear w0
      go_enter Try.func29, Try.ntmps29
      go_wp2
      go_ret
      exact ⟨rfl, rfl⟩
    · have e : dv way s = s := by unfold dv; rw [if_neg w0, if_neg w1]
      rw [e]
      have n0 : (way == 0) = false := by simp; omega
      have n1 : (way == 1) = false := by simp; omega
      clear w0 w1 e
      go_enter Try.func29, Try.ntmps29
      go_wp2
      go_ret
      exact ⟨rfl, rfl⟩

/-- may votes be? -/
def voteOk (v : Int) : Prop := 0 ≤ v ∧ v ≤ 1000000
instance (v : Int) : Decidable (voteOk v) := by unfold voteOk; infer_instance
/-- what seats.look says -/
def lcode (n : Int) (vs : List Int) : Int :=
  if 40 < vs.length then 2 else if ∀ v ∈ vs, voteOk v then (if n < 0 ∨ 1000 < n then 1 else if vs.sum = 0 then 6 else 0) else 1
def lval (n : Int) (vs : List Int) : Int := if lcode n vs = 0 then vs.sum else 0
theorem lcode_zero {n : Int} {vs : List Int} (h : lcode n vs = 0) : vs.length ≤ 40 ∧ (∀ v ∈ vs, voteOk v) ∧ 0 ≤ n ∧ n ≤ 1000 ∧ vs.sum ≠ 0 := by
  unfold lcode at h
  split at h
  · omega
  · split at h
    · rename_i h1 h2
      split at h
      · omega
      · split at h
        · omega
        · exact ⟨by omega, h2, by omega, by omega, by assumption⟩
    · omega
theorem voteOk_get {vs : List Int} (h : ∀ v ∈ vs, voteOk v) (i : Nat) : 0 ≤ vs.getD i 0 ∧ vs.getD i 0 ≤ 1000000 := by
  rw [List.getD_eq_getElem?_getD]
  by_cases hk : i < vs.length
  · rw [List.getElem?_eq_getElem hk]; exact h _ (List.getElem_mem hk)
  · rw [List.getElem?_eq_none (by omega)]; simp

set_option maxRecDepth 100000 in
set_option maxHeartbeats 1600000 in
theorem slook_any (n : Int) (A : Option Addr) (m cap : Nat) (vs : List Int) (w : World) (hr : Ri w A vs) (hm : vs.length = m) :
    Calls Try.prog 28 #[.int .i64 n, .slice A m cap] w fun e w' => e = .returned (.tuple #[.int .i64 (lval n vs), .int .i64 (lcode n vs)]) ∧ w = w' := by
  by_cases hl : 40 < m
  · have e : lcode n vs = 2 := by unfold lcode; rw [if_pos (by omega)]
    have e2 : lval n vs = 0 := by unfold lval; rw [if_neg (by omega)]
    rw [e2, e]
    clear hr hm e e2
    go_enter Try.func28, Try.ntmps28
    go_wp2
    go_returns
    exact ⟨rfl, rfl⟩
  · have h40 : m ≤ 40 := by omega
    have HR := Lib.hid (fun i (hi : i < m) => hr.at_ i (by omega))
    have HN := Lib.hid hm
    clear hr hl hm
    obtain ⟨cd, hcd⟩ : ∃ c, lcode n vs = c := ⟨_, rfl⟩
    obtain ⟨lv, hlv⟩ : ∃ c, lval n vs = c := ⟨_, rfl⟩
    rw [hcd, hlv]
    have HC := Lib.hid hcd
    have HV := Lib.hid hlv
    clear hcd hlv
    go_enter Try.func28, Try.ntmps28
    go_wp2
    go_loop [6, 14] (fun s i => ∃ k : Nat, k ≤ m ∧ i = .int .i64 k ∧ s = .int .i64 (vs.take k).sum ∧ Hid (∀ j, j < k → voteOk (vs.getD j 0)) ∧ 0 ≤ (vs.take k).sum ∧ (vs.take k).sum ≤ k * 1000000) (fun _ i => m - (intOf i).toNat)
    case atStart => exact ⟨0, Nat.zero_le _, rfl, by simp, Lib.hid (fun j hj => absurd hj (Nat.not_lt_zero _)), by simp, by simp⟩
    case round =>
      obtain ⟨k, hk, rfl, rfl, hok, s1, s2⟩ := hrel
      by_cases hlt : k < m
      · obtain ⟨x, hA, hxb, c⟩ := HR.out k hlt
        subst hA
        have HS := Lib.hid (sum_take_succ vs k (by rw [HN.out]; exact hlt))
        have HY : Hid (∃ y, vs.getD k 0 = y) := Lib.hid ⟨_, rfl⟩
        obtain ⟨y, hy⟩ := HY.out
        have HYK := Lib.hid hy
        rw [hy] at c
        clear hy HY
        by_cases hv : voteOk y
        · obtain ⟨v1, v2⟩ := hv
          have HT := Lib.hid (show (vs.take (k + 1)).sum = (vs.take k).sum + y by have := HS.out; rw [HYK.out] at this; exact this)
          obtain ⟨t, ht⟩ : ∃ t, (vs.take k).sum = t := ⟨_, rfl⟩
          have HTT := Lib.hid ht
          rw [ht] at s1 s2
          rw [ht]
          clear ht
          go_wp2
          go_round
          case rel =>
            refine ⟨k + 1, by omega, by go_num, by rw [HT.out, HTT.out], Lib.hid (fun j hj => ?_), by rw [HT.out, HTT.out]; omega, by rw [HT.out, HTT.out]; omega⟩
            by_cases e : j = k
            · subst e; rw [HYK.out]; exact ⟨v1, v2⟩
            · exact hok.out j (by omega)
          case measure => simp [intOf]; omega
        · have e : cd = 1 := by
            rw [← HC.out]; unfold lcode
            rw [if_neg (by have := HN.out; omega), if_neg]
            intro h
            have := h (vs.getD k 0) (getD_mem vs k (by have := HN.out; omega))
            rw [HYK.out] at this
            exact hv this
          have e2 : lv = 0 := by rw [← HV.out]; unfold lval; rw [if_neg (by rw [HC.out]; omega)]
          subst e e2
          have hv' : y < 0 ∨ (0 ≤ y ∧ 1000000 < y) := by unfold voteOk at hv; omega
          clear hv
          rcases hv' with h | ⟨h, h'⟩
          all_goals
            go_wp2
            go_returns
            exact ⟨rfl, rfl⟩
      · have e : k = m := by omega
        subst e
        have hall : ∀ v ∈ vs, voteOk v := by
          intro v hv
          obtain ⟨i, hi, e⟩ := List.getElem_of_mem hv
          have := hok.out i (by have := HN.out; omega)
          rw [List.getD_eq_getElem?_getD, List.getElem?_eq_getElem hi] at this
          rw [← e]; exact this
        have htk : vs.take k = vs := List.take_of_length_le (by rw [HN.out]; omega)
        have hc : cd = if n < 0 ∨ 1000 < n then 1 else if vs.sum = 0 then 6 else 0 := by
          rw [← HC.out]; unfold lcode; rw [if_neg (by have := HN.out; omega), if_pos hall]
        have hv : lv = if cd = 0 then vs.sum else 0 := by rw [← HV.out]; unfold lval; rw [HC.out]
        rw [htk] at s1 s2 ⊢
        clear htk hall hok
        generalize vs.sum = S at *
        by_cases hn : n < 0 ∨ 1000 < n
        · rw [if_pos hn] at hc
          subst hc
          rw [if_neg (by omega)] at hv
          subst hv
          have hn' : n < 0 ∨ (0 ≤ n ∧ 1000 < n) := by omega
          clear hn hlt
          rcases hn' with h | ⟨h, h'⟩
          all_goals
            go_wp2
            go_returns
            exact ⟨rfl, rfl⟩
        · rw [if_neg hn] at hc
          have n1 : 0 ≤ n := by omega
          have n2 : n ≤ 1000 := by omega
          clear hn hlt
          by_cases hz : S = 0
          · rw [if_pos hz] at hc
            subst hc
            rw [if_neg (by omega)] at hv
            subst hv hz
            go_wp2
            go_returns
            exact ⟨rfl, rfl⟩
          · rw [if_neg hz] at hc
            subst hc
            rw [if_pos rfl] at hv
            subst hv
            have hz' : (lv == 0) = false := by simp; omega
            clear hz
            go_wp2
            go_returns
            exact ⟨rfl, rfl⟩

end Go.Proofs.Ytmpcnipngepfgaa
