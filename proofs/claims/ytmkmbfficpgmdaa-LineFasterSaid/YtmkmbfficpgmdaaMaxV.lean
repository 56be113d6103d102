/- The walk of slices.Max: the greatest, as a value. -/
import Derived.Test.YtmkmbfficpgmdaaIntRows
namespace Go.Proofs.Ytmkmbfficpgmdaa
open Go.ChangeShapes Go.WideShapes Go.ChangeAt Go.RowKit
set_option linter.unusedVariables false

/-- the greatest of the first k (k from 1 on) -/
def mxv (xs : List Int) : Nat → Int
  | 0 => xs.getD 0 0
  | k + 1 => max (mxv xs k) (xs.getD k 0)
theorem mxv_le (xs : List Int) (n : Nat) (hn : 1 ≤ n) (M : Int) (h : ∀ i, i < n → xs.getD i 0 ≤ M) : mxv xs n ≤ M := by
  have key : ∀ k, k ≤ n → mxv xs k ≤ M := by
    intro k
    induction k with
    | zero => intro _; exact h 0 (by omega)
    | succ k ih => intro hk; have a := ih (by omega); have b := h k (by omega); simp only [mxv]; omega
  exact key n (Nat.le_refl _)
theorem mxv_one (xs : List Int) : mxv xs 1 = xs.getD 0 0 := by simp only [mxv]; omega

set_option maxHeartbeats 800000 in
theorem max_val (b o n cap : Nat) (xs : List Int) (w : World) (hr : Row w b o xs) (hn : xs.length = n) (h1 : 1 ≤ n) (hl : n ≤ 1000) :
    Calls Try.prog 21 #[.slice (some ⟨b, o, none⟩) n cap] w fun e w' => e = .returned (.int .i64 (mxv xs n)) ∧ w = w' := by
  have HR := Lib.hid hr.2
  have HN := Lib.hid hn
  have c0 := HR.out 0 (by omega)
  rw [Nat.add_zero] at c0
  have E1 := Lib.hid (mxv_one xs)
  generalize xs.getD 0 0 = x0 at *
  clear hr hn
  go_enter Try.func21, Try.ntmps21
  go_wp2
  go_loop [3, 4] (fun m i => ∃ k : Nat, 1 ≤ k ∧ k ≤ n ∧ i = .int .i64 k ∧ m = .int .i64 (mxv xs k)) (fun _ i => n - (intOf i).toNat)
  case atStart => exact ⟨1, by omega, by omega, rfl, by rw [E1.out]⟩
  case round =>
    obtain ⟨k, hk1, hk, rfl, rfl⟩ := hrel
    by_cases hlt : k < n
    · have c := HR.out k (by rw [HN.out]; exact hlt)
      have HS := Lib.hid (show mxv xs (k + 1) = max (mxv xs k) (xs.getD k 0) from rfl)
      generalize xs.getD k 0 = x at *
      generalize mxv xs k = m at *
      clear c0
      by_cases hlt2 : m < x
      · go_wp2
        go_round
        case rel => exact ⟨k + 1, by omega, by omega, by go_num, by rw [HS.out]; exact congrArg (Value.int .i64) (by omega)⟩
        case measure => simp [intOf]; omega
      · have hle : x ≤ m := by omega
        clear hlt2
        go_wp2
        all_goals
          go_round
          case rel => exact ⟨k + 1, by omega, by omega, by go_num, by rw [HS.out]; exact congrArg (Value.int .i64) (by first | omega | (split <;> omega))⟩
          case measure => simp [intOf]; omega
    · have e : k = n := by omega
      subst e
      go_wp2
      go_ret
      exact ⟨rfl, rfl⟩

end Go.Proofs.Ytmkmbfficpgmdaa
