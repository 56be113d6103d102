/- Plain laws of depreciation: no part is below 0, and all of it is written off. -/
import Derived.Test.YtmkmbfficpgmdaaPlainL
namespace Go.Proofs.Ytmkmbfficpgmdaa
set_option linter.unusedVariables false

theorem dgB_all (D n : Int) (h5 : 1 ≤ n) (h6 : n ≤ 40) : dgB D n n = D := by
  obtain ⟨t1, t2, t3, t4, t5, t6, t7, t8⟩ := tri_bd n n h5 h6 (by omega) (by omega)
  have e : n * n - n * (n - 1) / 2 = n * (n + 1) / 2 := by
    have ev : (n * (n + 1)) % 2 = 0 := by
      rcases Int.emod_two_eq n with h | h
      · rw [Int.mul_emod, h]; simp
      · rw [Int.mul_emod, show (n + 1) % 2 = 0 by omega]; simp
    have a1 : n * (n - 1) = n * n - n := by rw [Int.mul_sub, Int.mul_one]
    have a2 : n * (n + 1) = n * n + n := by rw [Int.mul_add, Int.mul_one]
    rw [a2] at ev
    rw [a1, a2]
    generalize n * n = s at *
    omega
  unfold dgB
  rw [e, Int.mul_comm]
  exact rnd_exact _ _ _ t7
theorem stB_step (D n k : Int) (h1 : 0 ≤ D) (hn : 1 ≤ n) : stB D n k ≤ stB D n (k + 1) :=
  rnd_mono _ _ _ _ hn (Int.mul_le_mul_of_nonneg_left (by omega) h1)
theorem dgB_step (D n k : Int) (h1 : 0 ≤ D) (h5 : 1 ≤ n) (h6 : n ≤ 40) (h7 : 0 ≤ k) (h8 : k < n) : dgB D n k ≤ dgB D n (k + 1) := by
  obtain ⟨t1, t2, t3, t4, t5, t6, t7, t8⟩ := tri_bd n k h5 h6 h7 (by omega)
  refine rnd_mono _ _ _ _ t7 (Int.mul_le_mul_of_nonneg_left ?_ h1)
  have a1 : k * (k - 1) = k * k - k := by rw [Int.mul_sub, Int.mul_one]
  have a2 : (k + 1) * (k + 1 - 1) = k * k + k := by rw [show k + 1 - 1 = k by omega, Int.add_mul, Int.one_mul]
  have a3 : (k + 1) * n = k * n + n := by rw [Int.add_mul, Int.one_mul]
  rw [a1, a2, a3]
  generalize k * k = s at *
  generalize k * n = q at *
  omega

end Go.Proofs.Ytmkmbfficpgmdaa
