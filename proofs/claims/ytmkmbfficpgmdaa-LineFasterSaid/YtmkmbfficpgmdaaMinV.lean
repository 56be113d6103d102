/- The walk of slices.Min: the least, as a value. -/
import Derived.Test.YtmkmbfficpgmdaaIntRows
namespace Go.Proofs.Ytmkmbfficpgmdaa
open Go.ChangeShapes Go.WideShapes Go.ChangeAt Go.RowKit
set_option linter.unusedVariables false

/-- the least of the first k (k from 1 on) -/
def mnv (xs : List Int) : Nat → Int
  | 0 => xs.getD 0 0
  | k + 1 => min (mnv xs k) (xs.getD k 0)
theorem mnv_nonneg (xs : List Int) (n : Nat) (hn : 1 ≤ n) (h : ∀ i, i < n → 0 ≤ xs.getD i 0) : 0 ≤ mnv xs n := by
  have key : ∀ k, k ≤ n → 0 ≤ mnv xs k := by
    intro k
    induction k with
    | zero => intro _; exact h 0 (by omega)
    | succ k ih => intro hk; have a := ih (by omega); have b := h k (by omega); simp only [mnv]; omega
  exact key n (Nat.le_refl _)
theorem le_mnv (xs : List Int) (n : Nat) (hn : 1 ≤ n) (M : Int) (h : ∀ i, i < n → M ≤ xs.getD i 0) : M ≤ mnv xs n := by
  have key : ∀ k, k ≤ n → M ≤ mnv xs k := by
    intro k
    induction k with
    | zero => intro _; exact h 0 (by omega)
    | succ k ih => intro hk; have a := ih (by omega); have b := h k (by omega); simp only [mnv]; omega
  exact key n (Nat.le_refl _)
theorem mnv_one (xs : List Int) : mnv xs 1 = xs.getD 0 0 := by simp only [mnv]; omega

set_option maxHeartbeats 800000 in
theorem min_val (b o n cap : Nat) (xs : List Int) (w : World) (hr : Row w b o xs) (hn : xs.length = n) (h1 : 1 ≤ n) (hl : n ≤ 1000) :
    Calls Try.prog 22 #[.slice (some ⟨b, o, none⟩) n cap] w fun e w' => e = .returned (.int .i64 (mnv xs n)) ∧ w = w' := by
  have HR := Lib.hid hr.2
  have HN := Lib.hid hn
  have c0 := HR.out 0 (by omega)
  rw [Nat.add_zero] at c0
  have E1 := Lib.hid (mnv_one xs)
  generalize xs.getD 0 0 = x0 at *
  clear hr hn
  go_enter Try.func22, Try.ntmps22
  go_wp2
  go_loop [3, 4] (fun m i => ∃ k : Nat, 1 ≤ k ∧ k ≤ n ∧ i = .int .i64 k ∧ m = .int .i64 (mnv xs k)) (fun _ i => n - (intOf i).toNat)
  case atStart => exact ⟨1, by omega, by omega, rfl, by rw [E1.out]⟩
  case round =>
    obtain ⟨k, hk1, hk, rfl, rfl⟩ := hrel
    by_cases hlt : k < n
    · have c := HR.out k (by rw [HN.out]; exact hlt)
      have HS := Lib.hid (show mnv xs (k + 1) = min (mnv xs k) (xs.getD k 0) from rfl)
      generalize xs.getD k 0 = x at *
      generalize mnv xs k = m at *
      clear c0
      by_cases hlt2 : x < m
      · go_wp2
        go_round
        case rel => exact ⟨k + 1, by omega, by omega, by go_num, by rw [HS.out]; exact congrArg (Value.int .i64) (by omega)⟩
        case measure => simp [intOf]; omega
      · have hle : m ≤ x := by omega
        clear hlt2
        go_wp2
        all_goals
          go_round
          case rel => exact ⟨k + 1, by omega, by omega, by go_num, by rw [HS.out]; exact congrArg (Value.int .i64) (by first | omega | (split <;> omega))⟩
          case measure => simp [intOf]; omega
    · have e : k = n := by omega
      subst e
      go_wp2
      go_ret
      exact ⟨rfl, rfl⟩

end Go.Proofs.Ytmkmbfficpgmdaa
