/- Plain laws of even parts: sums, differences. No program in sight. -/
import Derived.Test.YtmkmbfficpgmdaaSplitA
namespace Go.Proofs.Ytmkmbfficpgmdaa

theorem evp_sum (s a n : Int) (m k : Nat) (h : k ≤ m) : ((evl s a n m).take k).sum = s * (a * k / n) := by
  induction k with
  | zero => simp
  | succ k ih =>
    have := ih (by omega)
    rw [sum_take_succ _ _ (by rw [evl_len]; omega), this]
    have e : (evl s a n m).getD k 0 = evp s a n k := by simp [evl, List.getD_eq_getElem?_getD, show k < m by omega]
    rw [e]
    unfold evp
    rw [← Int.mul_add]
    congr 1
    rw [Int.natCast_add]
    show _ = a * ((k : Int) + 1) / n
    omega
theorem evA_sum (A : Int) (n : Nat) (hn : 1 ≤ n) : (evA A n).sum = A := by
  have key : ∀ s a : Int, (evl s a n n).sum = s * a := by
    intro s a
    have := evp_sum s a n n n (Nat.le_refl _)
    rw [List.take_of_length_le (by rw [evl_len]; omega), Int.mul_ediv_cancel _ (by omega)] at this
    exact this
  unfold evA; split <;> rw [key] <;> omega
/-- a step of the shares: the quotient, or one more -/
theorem step_near (a n : Int) (k : Nat) (hn : 1 ≤ n) : a / n ≤ a * (k + 1) / n - a * k / n ∧ a * (k + 1) / n - a * k / n ≤ a / n + 1 := by
  have e1 := div_mod (a * (k + 1)) n
  have e2 := div_mod (a * k) n
  have e3 := div_mod a n
  have r1 := Int.emod_nonneg (a * (k + 1)) (show n ≠ 0 by omega)
  have r2 := Int.emod_nonneg (a * k) (show n ≠ 0 by omega)
  have r3 := Int.emod_nonneg a (show n ≠ 0 by omega)
  have s1 := Int.emod_lt_of_pos (a * (k + 1)) (show 0 < n by omega)
  have s2 := Int.emod_lt_of_pos (a * k) (show 0 < n by omega)
  have s3 := Int.emod_lt_of_pos a (show 0 < n by omega)
  have e4 : a * ((k : Int) + 1) = a * k + a := by rw [Int.mul_add, Int.mul_one]
  generalize a * ((k : Int) + 1) = p at *
  generalize a * (k : Int) = q at *
  have x1 : n * (p / n - q / n) < n * (a / n + 2) := by rw [Int.mul_sub, Int.mul_add]; omega
  have x2 : n * (a / n - 1) < n * (p / n - q / n) := by rw [Int.mul_sub, Int.mul_sub]; omega
  have := Int.lt_of_mul_lt_mul_left x1 (by omega)
  have := Int.lt_of_mul_lt_mul_left x2 (by omega)
  omega
theorem evA_near (A : Int) (n : Nat) (hn : 1 ≤ n) (i j : Nat) (hi : i < n) (hj : j < n) : (evA A n).getD i 0 - (evA A n).getD j 0 ≤ 1 := by
  have g : ∀ s a : Int, ∀ i, i < n → (evl s a n n).getD i 0 = evp s a n i := by
    intro s a i h; simp [evl, List.getD_eq_getElem?_getD, h]
  unfold evA
  split
  · rw [g _ _ i hi, g _ _ j hj]; unfold evp
    have := step_near A n i (by omega); have := step_near A n j (by omega); omega
  · rw [g _ _ i hi, g _ _ j hj]; unfold evp
    have := step_near (-A) n i (by omega); have := step_near (-A) n j (by omega); omega
theorem evA_bd (A : Int) (n : Nat) (hn : 1 ≤ n) (h1 : -1000000000000 ≤ A) (h2 : A ≤ 1000000000000) : ∀ x ∈ evA A n, -1000000000000000 ≤ x ∧ x ≤ 1000000000000000 := by
  have key : ∀ s a : Int, (s = 1 ∨ s = -1) → -1000000000000 ≤ a → a ≤ 1000000000000 → ∀ x ∈ evl s a n n, -1000000000000000 ≤ x ∧ x ≤ 1000000000000000 := by
    intro s a hs ha hb x hx
    simp only [evl, List.mem_map, List.mem_range] at hx
    obtain ⟨i, hi, rfl⟩ := hx
    have e := step_near a n i (by omega)
    have q1 : a / n ≤ 1000000000000 := by
      by_cases h0 : 0 ≤ a
      · have := Int.ediv_le_self (n : Int) h0; omega
      · have := Int.ediv_neg_of_neg_of_pos (show a < 0 by omega) (show (0 : Int) < n by omega); omega
    have q2 : -1000000000000 ≤ a / n := by
      rw [Int.le_ediv_iff_mul_le (by omega)]
      have := Int.mul_le_mul_of_nonneg_left (show (1 : Int) ≤ n by omega) (show (0 : Int) ≤ 1000000000000 by omega); omega
    unfold evp
    rcases hs with rfl | rfl <;> omega
  unfold evA; split
  · exact key _ _ (.inl rfl) h1 h2
  · exact key _ _ (.inr rfl) (by omega) (by omega)

theorem maxmin_get (xs : List Int) (i : Nat) (hi : i < xs.length) : xs.getD i 0 ∈ xs := by
  rw [List.getD_eq_getElem?_getD, List.getElem?_eq_getElem hi]; exact List.getElem_mem hi

open Go.ChangeShapes Go.WideShapes Go.ChangeAt Go.RowKit

/-- what slices.Max hands back: some element -/
def MaxPost (n : Nat) (xs : List Int) (w : World) (e : Ending) (w' : World) : Prop := ∃ i, i < n ∧ e = .returned (.int .i64 (xs.getD i 0)) ∧ w = w'

set_option maxHeartbeats 800000 in
theorem max_row (b o n cap : Nat) (xs : List Int) (w : World) (hr : Row w b o xs) (hn : xs.length = n) (h1 : 1 ≤ n) (hl : n ≤ 1000) :
    Calls Try.prog 21 #[.slice (some ⟨b, o, none⟩) n cap] w (MaxPost n xs w) := by
  have HR := Lib.hid hr.2
  have HN := Lib.hid hn
  have c0 := HR.out 0 (by omega)
  rw [Nat.add_zero] at c0
  obtain ⟨x0, e0⟩ : ∃ x, xs.getD 0 0 = x := ⟨_, rfl⟩
  rw [e0] at c0
  have E0 := Lib.hid e0
  clear hr hn e0
  go_enter Try.func21, Try.ntmps21
  go_wp2
  go_loop [3, 4] (fun m i => ∃ k j : Nat, 1 ≤ k ∧ k ≤ n ∧ j < n ∧ i = .int .i64 k ∧ m = .int .i64 (xs.getD j 0)) (fun _ i => n - (intOf i).toNat)
  case atStart => exact ⟨1, 0, by omega, by omega, by omega, rfl, by rw [E0.out]⟩
  case round =>
    obtain ⟨k, j, hk1, hk, hj, rfl, rfl⟩ := hrel
    by_cases hlt : k < n
    · have c := HR.out k (by rw [HN.out]; exact hlt)
      obtain ⟨x, ex⟩ : ∃ x, xs.getD k 0 = x := ⟨_, rfl⟩
      obtain ⟨y, ey⟩ : ∃ y, xs.getD j 0 = y := ⟨_, rfl⟩
      rw [ex] at c
      rw [ey]
      have EX := Lib.hid ex
      have EY := Lib.hid ey
      clear ex ey c0
      by_cases hxy : x = y
      · subst hxy
        go_wp2
        go_round
        case rel => exact ⟨k + 1, j, by omega, by omega, hj, by go_num, by rw [EY.out]⟩
        case measure => simp [intOf]; omega
      · by_cases hlt2 : x < y
        · clear hxy
          go_wp2
          go_round
          case rel => exact ⟨k + 1, j, by omega, by omega, by omega, by go_num, by rw [EY.out]⟩
          case measure => simp [intOf]; omega
        · have hgt : y < x := by omega
          clear hxy hlt2
          go_wp2
          go_round
          case rel => exact ⟨k + 1, k, by omega, by omega, by omega, by go_num, by rw [EX.out]⟩
          case measure => simp [intOf]; omega
    · go_wp2
      go_ret
      exact ⟨j, hj, rfl, rfl⟩

/-- what slices.Min hands back: some element -/
def MinPost (n : Nat) (xs : List Int) (w : World) (e : Ending) (w' : World) : Prop := ∃ i, i < n ∧ e = .returned (.int .i64 (xs.getD i 0)) ∧ w = w'

set_option maxHeartbeats 800000 in
theorem min_row (b o n cap : Nat) (xs : List Int) (w : World) (hr : Row w b o xs) (hn : xs.length = n) (h1 : 1 ≤ n) (hl : n ≤ 1000) :
    Calls Try.prog 22 #[.slice (some ⟨b, o, none⟩) n cap] w (MinPost n xs w) := by
  have HR := Lib.hid hr.2
  have HN := Lib.hid hn
  have c0 := HR.out 0 (by omega)
  rw [Nat.add_zero] at c0
  obtain ⟨x0, e0⟩ : ∃ x, xs.getD 0 0 = x := ⟨_, rfl⟩
  rw [e0] at c0
  have E0 := Lib.hid e0
  clear hr hn e0
  go_enter Try.func22, Try.ntmps22
  go_wp2
  go_loop [3, 4] (fun m i => ∃ k j : Nat, 1 ≤ k ∧ k ≤ n ∧ j < n ∧ i = .int .i64 k ∧ m = .int .i64 (xs.getD j 0)) (fun _ i => n - (intOf i).toNat)
  case atStart => exact ⟨1, 0, by omega, by omega, by omega, rfl, by rw [E0.out]⟩
  case round =>
    obtain ⟨k, j, hk1, hk, hj, rfl, rfl⟩ := hrel
    by_cases hlt : k < n
    · have c := HR.out k (by rw [HN.out]; exact hlt)
      obtain ⟨x, ex⟩ : ∃ x, xs.getD k 0 = x := ⟨_, rfl⟩
      obtain ⟨y, ey⟩ : ∃ y, xs.getD j 0 = y := ⟨_, rfl⟩
      rw [ex] at c
      rw [ey]
      have EX := Lib.hid ex
      have EY := Lib.hid ey
      clear ex ey c0
      by_cases hxy : x = y
      · subst hxy
        go_wp2
        go_round
        case rel => exact ⟨k + 1, j, by omega, by omega, hj, by go_num, by rw [EY.out]⟩
        case measure => simp [intOf]; omega
      · by_cases hlt2 : x < y
        · clear hxy
          go_wp2
          go_round
          case rel => exact ⟨k + 1, k, by omega, by omega, by omega, by go_num, by rw [EX.out]⟩
          case measure => simp [intOf]; omega
        · have hgt : y < x := by omega
          clear hxy hlt2
          go_wp2
          go_round
          case rel => exact ⟨k + 1, j, by omega, by omega, by omega, by go_num, by rw [EY.out]⟩
          case measure => simp [intOf]; omega
    · go_wp2
      go_ret
      exact ⟨j, hj, rfl, rfl⟩

end Go.Proofs.Ytmkmbfficpgmdaa
