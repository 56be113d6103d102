/- The walks of age.Check, slices.BinarySearch at []int, talkeep.owed. -/
import Derived.Test.YtphkckonnogjmaaPairs
import Derived.Test.YtphkckonnogjmaaInts
namespace Go.Proofs.Ytphkckonnogjmaa
open Go.ChangeShapes Go.WideShapes Go.ChangeAt Go.RowKit
set_option linter.unusedVariables false

set_option maxHeartbeats 400000 in
theorem cis_any (n : Int) (w : World) : Calls Try.prog 30 #[.int .i64 n] w fun e w' => e = .returned (.bool (decide (0 ≤ n) && decide (n ≤ 292193))) ∧ w = w' := by
  by_cases a : 0 ≤ n <;> by_cases b : n ≤ 292193
  all_goals
    go_enter Try.func30, Try.ntmps30
    go_wp2
    go_ret
    exact ⟨by simp [*], rfl⟩

set_option maxRecDepth 100000 in
set_option maxHeartbeats 3200000 in
theorem acheck_any (A : Option Addr) (n cap : Nat) (xs : List Pr) (w : World) (hr : Pi w A xs) (hn : xs.length = n) (hml : n ≤ maxLen) :
    Calls Try.prog 29 #[.slice A n cap] w fun e w' => e = .returned (.int .i64 (itc xs)) ∧ Mor w w' := by
  unfold maxLen at hml
  have HR := Lib.hid hr
  have HN := Lib.hid hn
  clear hr
  by_cases h12 : 40 < n
  · have HL := Lib.hid (show itc xs = 2 by unfold itc; rw [hn, if_pos h12])
    clear hn
    go_enter Try.func29, Try.ntmps29
    go_wp2
    go_ret
    exact ⟨by rw [HL.out] <;> rfl, Mor.refl _⟩
  · have HL := Lib.hid (show itc xs = if itOk xs n = true then 0 else 1 by unfold itc; rw [hn, if_neg h12])
    have h12' : n ≤ 40 := by omega
    clear hn h12
    go_enter Try.func29, Try.ntmps29
    go_wp2
    go_loopw [10] (fun i wr => ∃ k : Nat, k ≤ n ∧ i = .int .i64 k ∧ Hid (itOk xs k = true) ∧ Hid (Mor w wr)) (fun i _ => n - (intOf i).toNat)
    case atStart => exact ⟨0, Nat.zero_le _, rfl, Lib.hid rfl, Lib.hid (Mor.refl _)⟩
    case round =>
      obtain ⟨k, hk, rfl, HU, HM⟩ := hrel
      by_cases hlt : k < n
      · have hki : (k : Int) < (n : Int) := by omega
        have hk0 : (0 : Int) ≤ (k : Int) := by omega
        obtain ⟨x, hA, hxb, c1, c2⟩ := (HR.out.mor HM.out).at_ k (by have := HN.out; omega)
        subst hA
        have HBad := Lib.hid (fun h : itAt xs k = false => show itc xs = 1 by rw [HL.out, itOk_bad h hlt]; rfl)
        have HAt := Lib.hid (show itAt xs k = (decide (0 ≤ px xs k) && decide (px xs k ≤ 292193) && decide (1 ≤ py xs k) && decide (py xs k ≤ 1000000000000)) from rfl)
        have HOk := Lib.hid (fun h : itAt xs k = true => show itOk xs (k + 1) = true by rw [itOk_succ, HU.out, h]; rfl)
        have HI := Lib.hid (fun w => cis_any (px xs k) w)
        generalize px xs k = d at *
        generalize py xs k = a at *
        have hcase : (d < 0 ∨ 292193 < d) ∨ (0 ≤ d ∧ d ≤ 292193 ∧ a < 1) ∨ (0 ≤ d ∧ d ≤ 292193 ∧ 1000000000000 < a) ∨ (0 ≤ d ∧ d ≤ 292193 ∧ 1 ≤ a ∧ a ≤ 1000000000000) := by omega
        rcases hcase with h | ⟨h1, h2, h3⟩ | ⟨h1, h2, h3⟩ | ⟨h1, h2, h3, h4⟩
        · have HF := Lib.hid (HBad.out (by rw [HAt.out]; simp; omega))
          rw [show (decide (0 ≤ d) && decide (d ≤ 292193)) = false by simp; omega] at HI
          clear h
          go_wp2_with ((go_at_call 30; (with_reducible refine (HI.out _).mono ?_); rintro e w1 ⟨rfl, rfl⟩))
          go_ret
          exact ⟨by rw [HF.out] <;> rfl, HM.out.alloc⟩
        · have HF := Lib.hid (HBad.out (by rw [HAt.out]; simp; omega))
          rw [show (decide (0 ≤ d) && decide (d ≤ 292193)) = true by simp; omega] at HI
          go_wp2_with ((go_at_call 30; (with_reducible refine (HI.out _).mono ?_); rintro e w1 ⟨rfl, rfl⟩))
          go_ret
          exact ⟨by rw [HF.out] <;> rfl, HM.out.alloc⟩
        · have HF := Lib.hid (HBad.out (by rw [HAt.out]; simp; omega))
          rw [show (decide (0 ≤ d) && decide (d ≤ 292193)) = true by simp; omega] at HI
          go_wp2_with ((go_at_call 30; (with_reducible refine (HI.out _).mono ?_); rintro e w1 ⟨rfl, rfl⟩))
          go_ret
          exact ⟨by rw [HF.out] <;> rfl, HM.out.alloc⟩
        · have HG := Lib.hid (HOk.out (by rw [HAt.out]; simp; omega))
          rw [show (decide (0 ≤ d) && decide (d ≤ 292193)) = true by simp; omega] at HI
          go_wp2_with ((go_at_call 30; (with_reducible refine (HI.out _).mono ?_); rintro e w1 ⟨rfl, rfl⟩))
          go_roundw
          case rel => exact ⟨k + 1, by omega, by go_num, HG, Lib.hid HM.out.alloc⟩
          case measure => simp [intOf]; omega
      · obtain rfl : k = n := by omega
        have HF := Lib.hid (show itc xs = 0 by rw [HL.out, HU.out]; rfl)
        go_wp2
        go_ret
        exact ⟨by rw [HF.out] <;> rfl, HM.out⟩

set_option maxHeartbeats 400000 in
theorem less_any (x y : Int) (w : World) : Calls Try.prog 43 #[.int .i64 x, .int .i64 y] w fun e w' => e = .returned (.bool (decide (x < y))) ∧ w = w' := by
  go_enter Try.func43, Try.ntmps43
  go_wp2
  go_ret
  exact ⟨by simp, rfl⟩
def BsPost (w : World) (p : Nat) (e : Ending) (w' : World) : Prop := ∃ b : Value, e = .returned (.tuple #[.int .i64 (p : Nat), b]) ∧ w = w'
theorem ei_getD (xs : List Int) (i : Nat) : xs.getD i 0 = ei xs i := rfl

set_option maxHeartbeats 3200000 in
theorem bsearch_any (A : Option Addr) (n cap : Nat) (bs : List Int) (t : Int) (w : World) (hr : Ri w A bs) (hn : bs.length = n) (hs : Rise bs) (hl : n ≤ 1000) :
    Calls Try.prog 31 #[.slice A n cap, .int .i64 t] w (BsPost w (pos bs t)) := by
  have HR := Lib.hid hr
  have HN := Lib.hid hn
  have HS := Lib.hid hs
  clear hr hn hs
  go_enter Try.func31, Try.ntmps31
  go_wp2
  go_loop [7, 8] (fun a b => ∃ lo hi : Nat, a = .int .i64 lo ∧ b = .int .i64 hi ∧ lo ≤ hi ∧ hi ≤ n ∧ Hid (∀ i, i < lo → ei bs i < t) ∧ Hid (∀ i, hi ≤ i → i < n → t ≤ ei bs i)) (fun a b => (intOf b - intOf a).toNat)
  case atStart => exact ⟨0, n, rfl, rfl, Nat.zero_le _, Nat.le_refl _, Lib.hid (fun i hi => absurd hi (Nat.not_lt_zero _)), Lib.hid (fun i h1 h2 => by omega)⟩
  case round =>
    obtain ⟨lo, hi, rfl, rfl, h1, h2, HA, HB⟩ := hrel
    by_cases hlt : lo < hi
    · have hki : (lo : Int) < (hi : Int) := by omega
      obtain ⟨m, hm⟩ : ∃ m : Nat, m = (lo + hi) / 2 := ⟨_, rfl⟩
      have hm1 : ((lo : Int) + (hi : Int)) / 2 = (m : Int) := by omega
      have m1 : lo ≤ m := by omega
      have m2 : m < hi := by omega
      have hm0 : (0 : Int) ≤ (m : Int) := by omega
      have hmn : (m : Int) < (n : Int) := by omega
      obtain ⟨x, hA, hxb, c1⟩ := HR.out.at_ m (by rw [HN.out]; omega)
      subst hA
      rw [ei_getD] at c1
      have HL := Lib.hid (fun w => less_any (ei bs m) t w)
      have HLo := Lib.hid (fun h : ei bs m < t => show ∀ i, i < m + 1 → ei bs i < t from fun i hi => by
        by_cases e : i = m
        · subst e; exact h
        · have := HS.out i m (by omega) (by rw [HN.out]; omega); omega)
      have HHi := Lib.hid (fun h : ¬ ei bs m < t => show ∀ i, m ≤ i → i < n → t ≤ ei bs i from fun i hi hn' => by
        by_cases e : i = m
        · subst e; omega
        · have := HS.out m i (by omega) (by rw [HN.out]; omega); omega)
      generalize ei bs m = v at *
      clear hm
      by_cases hv : v < t
      · have HLo' := Lib.hid (HLo.out hv)
        rw [decide_eq_true hv] at HL
        clear hv
        go_wp2_with ((go_at_call 43; (with_reducible refine (HL.out _).mono ?_); rintro e w1 ⟨rfl, rfl⟩))
        go_round
        case rel => exact ⟨m + 1, hi, by go_num, rfl, by omega, h2, HLo', HB⟩
        case measure => simp [intOf]; omega
      · have HHi' := Lib.hid (HHi.out hv)
        rw [decide_eq_false hv] at HL
        clear hv
        go_wp2_with ((go_at_call 43; (with_reducible refine (HL.out _).mono ?_); rintro e w1 ⟨rfl, rfl⟩))
        go_round
        case rel => exact ⟨lo, m, rfl, rfl, by omega, by omega, HA, HHi'⟩
        case measure => simp [intOf]; omega
    · obtain rfl : hi = lo := by omega
      have HP := Lib.hid (show pos bs t = hi from pos_spec (by rw [HN.out]; exact h2) HA.out (fun i hi hn' => HB.out i hi (by rw [← HN.out]; exact hn')))
      by_cases he : hi < n
      · have hki : (hi : Int) < (n : Int) := by omega
        have hk0 : (0 : Int) ≤ (hi : Int) := by omega
        obtain ⟨x, hA, hxb, c1⟩ := HR.out.at_ hi (by rw [HN.out]; exact he)
        subst hA
        rw [ei_getD] at c1
        generalize ei bs hi = v at *
        by_cases hv : v = t
        · have hv2 : (v == t) = true := by simpa using hv
          go_wp2
          go_returns
          exact ⟨_, by rw [HP.out] <;> rfl, rfl⟩
        · have hv2 : (v == t) = false := by simpa using hv
          go_wp2
          go_returns
          exact ⟨_, by rw [HP.out] <;> rfl, rfl⟩
      · have hki : ¬ ((hi : Int) < (n : Int)) := by omega
        go_wp2
        go_returns
        exact ⟨_, by rw [HP.out] <;> rfl, rfl⟩

set_option maxHeartbeats 1600000 in
theorem owed_any (A : Option Addr) (n cap : Nat) (xs : List Pr) (w : World) (hr : Pi w A xs) (hn : xs.length = n) (hl : n ≤ 40) (hb : ∀ k, k < n → 1 ≤ py xs k ∧ py xs k ≤ 1000000000000) :
    Calls Try.prog 18 #[.slice A n cap] w fun e w' => e = .returned (.int .i64 (owd xs n)) ∧ Mor w w' := by
  have HR := Lib.hid hr
  have HN := Lib.hid hn
  have HB := Lib.hid hb
  clear hr hn hb
  go_enter Try.func18, Try.ntmps18
  go_wp2
  go_loopw [3, 8] (fun s i wr => ∃ k : Nat, k ≤ n ∧ i = .int .i64 k ∧ s = .int .i64 (owd xs k) ∧ Hid (Mor w wr)) (fun _ i _ => n - (intOf i).toNat)
  case atStart => exact ⟨0, Nat.zero_le _, rfl, rfl, Lib.hid (Mor.refl _)⟩
  case round =>
    obtain ⟨k, hk, rfl, rfl, HM⟩ := hrel
    obtain ⟨o1, o2⟩ := owd_bd (xs := xs) (n := k) (fun j hj => HB.out j (by omega))
    by_cases hlt : k < n
    · have hki : (k : Int) < (n : Int) := by omega
      have hk0 : (0 : Int) ≤ (k : Int) := by omega
      obtain ⟨x, hA, hxb, c1, c2⟩ := (HR.out.mor HM.out).at_ k (by have := HN.out; omega)
      subst hA
      obtain ⟨b1, b2⟩ := HB.out k hlt
      have HS := Lib.hid (show owd xs (k + 1) = owd xs k + py xs k from rfl)
      generalize px xs k = d at *
      generalize py xs k = a at *
      generalize owd xs k = o at *
      go_wp2
      go_roundw
      case rel => exact ⟨k + 1, by omega, by go_num, by rw [HS.out], Lib.hid HM.out.alloc⟩
      case measure => simp [intOf]; omega
    · obtain rfl : k = n := by omega
      go_wp2
      go_ret
      exact ⟨rfl, HM.out⟩

end Go.Proofs.Ytphkckonnogjmaa
