/- The walk of slices.Min: some element. -/
import Derived.Test.YtmkmbfficpgmdaaIntRows
namespace Go.Proofs.Ytmkmbfficpgmdaa
open Go.ChangeShapes Go.WideShapes Go.ChangeAt Go.RowKit
set_option linter.unusedVariables false

theorem maxmin_get (xs : List Int) (i : Nat) (hi : i < xs.length) : xs.getD i 0 ∈ xs := by
  rw [List.getD_eq_getElem?_getD, List.getElem?_eq_getElem hi]; exact List.getElem_mem hi


/-- what slices.Min hands back: some element -/
def MinPost (n : Nat) (xs : List Int) (w : World) (e : Ending) (w' : World) : Prop := ∃ i, i < n ∧ e = .returned (.int .i64 (xs.getD i 0)) ∧ w = w'

set_option maxHeartbeats 800000 in
theorem min_row (b o n cap : Nat) (xs : List Int) (w : World) (hr : Row w b o xs) (hn : xs.length = n) (h1 : 1 ≤ n) (hl : n ≤ 1000) :
    Calls Try.prog 22 #[.slice (some ⟨b, o, none⟩) n cap] w (MinPost n xs w) := by
  have HR := Lib.hid hr.2
  have HN := Lib.hid hn
  have c0 := HR.out 0 (by omega)
  rw [Nat.add_zero] at c0
  obtain ⟨x0, e0⟩ : ∃ x, xs.getD 0 0 = x := ⟨_, rfl⟩
  rw [e0] at c0
  have E0 := Lib.hid e0
  clear hr hn e0
  go_enter Try.func22, Try.ntmps22
  go_wp2
  go_loop [3, 4] (fun m i => ∃ k j : Nat, 1 ≤ k ∧ k ≤ n ∧ j < n ∧ i = .int .i64 k ∧ m = .int .i64 (xs.getD j 0)) (fun _ i => n - (intOf i).toNat)
  case atStart => exact ⟨1, 0, by omega, by omega, by omega, rfl, by rw [E0.out]⟩
  case round =>
    obtain ⟨k, j, hk1, hk, hj, rfl, rfl⟩ := hrel
    by_cases hlt : k < n
    · have c := HR.out k (by rw [HN.out]; exact hlt)
      obtain ⟨x, ex⟩ : ∃ x, xs.getD k 0 = x := ⟨_, rfl⟩
      obtain ⟨y, ey⟩ : ∃ y, xs.getD j 0 = y := ⟨_, rfl⟩
      rw [ex] at c
      rw [ey]
      have EX := Lib.hid ex
      have EY := Lib.hid ey
      clear ex ey c0
      by_cases hxy : x = y
      · subst hxy
        go_wp2
        go_round
        case rel => exact ⟨k + 1, j, by omega, by omega, hj, by go_num, by rw [EY.out]⟩
        case measure => simp [intOf]; omega
      · by_cases hlt2 : x < y
        · clear hxy
          go_wp2
          go_round
          case rel => exact ⟨k + 1, k, by omega, by omega, by omega, by go_num, by rw [EX.out]⟩
          case measure => simp [intOf]; omega
        · have hgt : y < x := by omega
          clear hxy hlt2
          go_wp2
          go_round
          case rel => exact ⟨k + 1, j, by omega, by omega, by omega, by go_num, by rw [EY.out]⟩
          case measure => simp [intOf]; omega
    · go_wp2
      go_ret
      exact ⟨j, hj, rfl, rfl⟩

end Go.Proofs.Ytmkmbfficpgmdaa
