/- Plain laws of straight-line and sum-of-digits depreciation. -/
import Derived.Test.YtmkmbfficpgmdaaLineB
namespace Go.Proofs.Ytmkmbfficpgmdaa
set_option linter.unusedVariables false

/-- the list of differences of g -/
def difl (g : Int → Int) (n : Nat) : List Int := (List.range n).map (fun k : Nat => g ((k : Int) + 1) - g k)
theorem difl_len (g : Int → Int) (n : Nat) : (difl g n).length = n := by simp [difl]
theorem difl_get (g : Int → Int) (n k : Nat) (h : k < n) : (difl g n).getD k 0 = g ((k : Int) + 1) - g k := by
  simp [difl, List.getD_eq_getElem?_getD, h]
theorem difl_sum (g : Int → Int) (n k : Nat) (h : k ≤ n) : ((difl g n).take k).sum = g k - g 0 := by
  induction k with
  | zero => simp
  | succ k ih =>
    rw [sum_take_succ _ _ (by rw [difl_len]; omega), ih (by omega), difl_get _ _ _ (by omega)]
    rw [show ((k + 1 : Nat) : Int) = (k : Int) + 1 by omega]; omega
theorem difl_bd (g : Int → Int) (n : Nat) (M : Int) (hM : M ≤ 1000000000000000) (h : ∀ k : Int, 0 ≤ k → k ≤ n → 0 ≤ g k ∧ g k ≤ M) : ∀ x ∈ difl g n, -1000000000000000 ≤ x ∧ x ≤ 1000000000000000 := by
  intro x hx
  simp only [difl, List.mem_map, List.mem_range] at hx
  obtain ⟨i, hi, rfl⟩ := hx
  have a := h ((i : Int) + 1) (by omega) (by omega)
  have b := h i (by omega) (by omega)
  omega
theorem st_difl (D : Int) (n : Nat) : (List.range n).map (stP D n) = difl (stB D n) n := rfl
theorem dg_difl (D : Int) (n : Nat) : (List.range n).map (dgP D n) = difl (dgB D n) n := rfl
theorem stB_zero (D n : Int) (hn : 1 ≤ n) : stB D n 0 = 0 := by
  have := rnd_exact n 2 0 hn
  rw [Int.mul_zero] at this
  unfold stB; rw [Int.mul_zero]; exact this
theorem dgB_zero (D n : Int) (h : 1 ≤ n * (n + 1) / 2) : dgB D n 0 = 0 := by
  have := rnd_exact (n * (n + 1) / 2) 2 0 h
  rw [Int.mul_zero] at this
  unfold dgB; simp only [Int.zero_mul, Int.zero_ediv, Int.sub_zero, Int.mul_zero]; exact this
theorem stB_all (D n : Int) (hn : 1 ≤ n) : stB D n n = D := by
  unfold stB; rw [Int.mul_comm]; exact rnd_exact n 2 D hn
theorem dgB_le (D n k : Int) (h1 : 0 ≤ D) (h5 : 1 ≤ n) (h6 : n ≤ 40) (h7 : 0 ≤ k) (h8 : k ≤ n) (h2 : D ≤ 1000000000000) : dgB D n k ≤ D := by
  obtain ⟨t1, t2, t3, t4, t5, t6, t7, t8⟩ := tri_bd n k h5 h6 h7 h8
  refine rnd_le _ _ _ _ t7 ?_
  rw [Int.mul_comm (n * (n + 1) / 2)]
  refine Int.mul_le_mul_of_nonneg_left ?_ h1
  -- k n - k (k-1) / 2 grows up to n (n+1) / 2
  have e : (n - k) * (n - k + 1) = n * (n + 1) - 2 * (k * n) + k * (k - 1) := by
    simp only [Int.sub_mul, Int.mul_sub, Int.mul_add, Int.mul_one]
    have : n * k = k * n := Int.mul_comm _ _
    omega
  have p : 0 ≤ (n - k) * (n - k + 1) := Int.mul_nonneg (by omega) (by omega)
  have ev : (n * (n + 1)) % 2 = 0 := by
    rcases Int.emod_two_eq n with h | h
    · rw [Int.mul_emod, h]; simp
    · rw [Int.mul_emod, show (n + 1) % 2 = 0 by omega]; simp
  have ev2 : (k * (k - 1)) % 2 = 0 := by
    rcases Int.emod_two_eq k with h | h
    · rw [Int.mul_emod, h]; simp
    · rw [Int.mul_emod, show (k - 1) % 2 = 0 by omega]; simp
  omega

end Go.Proofs.Ytmkmbfficpgmdaa
