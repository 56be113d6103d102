/- Plain laws of depreciation: by digits no less by any time; the same each time but for one. No program in sight. -/
import Derived.Test.YtmkmbfficpgmdaaPlainM
namespace Go.Proofs.Ytmkmbfficpgmdaa
set_option linter.unusedVariables false

/-- the nearest, of what is not below 0 -/
theorem near_bd (a d : Int) (h0 : 0 ≤ a) (hd : 1 ≤ d) : 2 * (d * rnd a d 2) ≤ 2 * a + d ∧ 2 * a < 2 * (d * rnd a d 2) + d := by
  have e := div_mod a d
  have r0 : 0 ≤ a % d := Int.emod_nonneg _ (by omega)
  have r1 : a % d < d := Int.emod_lt_of_pos _ (by omega)
  have hz : a = 0 → a % d = 0 := by intro h; subst h; simp
  rw [rnd_2, Int.mul_add]
  split
  · rw [Int.mul_one]; omega
  · rw [Int.mul_zero]; omega
def tri (n k : Int) : Int := k * n - k * (k - 1) / 2
theorem tri_two (n k : Int) : 2 * tri n k = 2 * (k * n) - k * (k - 1) := by
  unfold tri
  have ev : (k * (k - 1)) % 2 = 0 := by
    rcases Int.emod_two_eq k with h | h
    · rw [Int.mul_emod, h]; simp
    · rw [Int.mul_emod, show (k - 1) % 2 = 0 by omega]; simp
  omega
theorem tri_step (n k : Int) : tri n (k + 1) - tri n k = n - k := by
  have a := tri_two n k
  have b := tri_two n (k + 1)
  have a1 : k * (k - 1) = k * k - k := by rw [Int.mul_sub, Int.mul_one]
  have a2 : (k + 1) * (k + 1 - 1) = k * k + k := by rw [show k + 1 - 1 = k by omega, Int.add_mul, Int.one_mul]
  have a3 : (k + 1) * n = k * n + n := by rw [Int.add_mul, Int.one_mul]
  rw [a1] at a
  rw [a2, a3] at b
  omega
theorem dgB_tri (D n k : Int) : dgB D n k = rnd (D * tri n k) (n * (n + 1) / 2) 2 := rfl

/-- by digits no less is written off by any time -/
theorem dg_ge_st (D n k : Int) (h1 : 0 ≤ D) (h5 : 1 ≤ n) (h6 : n ≤ 40) (h7 : 0 ≤ k) (h8 : k ≤ n) : stB D n k ≤ dgB D n k := by
  obtain ⟨t1, t2, t3, t4, t5, t6, t7, t8⟩ := tri_bd n k h5 h6 h7 h8
  have ev : (n * (n + 1)) % 2 = 0 := by
    rcases Int.emod_two_eq n with h | h
    · rw [Int.mul_emod, h]; simp
    · rw [Int.mul_emod, show (n + 1) % 2 = 0 by omega]; simp
  have e2 := tri_two n k
  -- k E ≤ n A
  have hA : k * (n * (n + 1) / 2) ≤ tri n k * n := by
    have p : 0 ≤ k * (n * (n - k)) := Int.mul_nonneg h7 (Int.mul_nonneg (by omega) (by omega))
    have q1 : k * (n * (n - k)) = k * (n * n) - k * (n * k) := by rw [Int.mul_sub, Int.mul_sub]
    have q2 : 2 * (tri n k * n) = 2 * (k * (n * n)) - (k * (n * k) - k * n) := by
      rw [← Int.mul_assoc, e2, Int.sub_mul]
      have a : 2 * (k * n) * n = 2 * (k * (n * n)) := by rw [Int.mul_assoc 2, Int.mul_assoc k]
      have b : k * (k - 1) * n = k * (n * k) - k * n := by
        rw [Int.mul_sub, Int.mul_one, Int.sub_mul]
        have : k * k * n = k * (n * k) := by ac_rfl
        omega
      omega
    have q3 : 2 * (k * (n * (n + 1) / 2)) = k * (n * n) + k * n := by
      have : 2 * (n * (n + 1) / 2) = n * (n + 1) := by omega
      rw [Int.mul_left_comm, this, Int.mul_add, Int.mul_one, Int.mul_add]
    omega
  have s := near_bd (D * k) n (Int.mul_nonneg h1 h7) h5
  have hAn : 0 ≤ tri n k := t5
  have g := near_bd (D * tri n k) (n * (n + 1) / 2) (Int.mul_nonneg h1 hAn) t7
  have eS : stB D n k = rnd (D * k) n 2 := rfl
  rw [eS, dgB_tri]
  generalize rnd (D * k) n 2 = S at *
  generalize rnd (D * tri n k) (n * (n + 1) / 2) 2 = G at *
  generalize n * (n + 1) / 2 = E at *
  generalize tri n k = A at *
  by_cases hle : S ≤ G
  · exact hle
  · have x1 : E * (G + 1) ≤ E * S := Int.mul_le_mul_of_nonneg_left (by omega) (by omega)
    rw [Int.mul_add, Int.mul_one] at x1
    have x2 : n * (2 * (D * A) + E) < n * (2 * (E * S)) := Int.mul_lt_mul_of_pos_left (by omega) (by omega)
    have x3 : E * (2 * (n * S)) ≤ E * (2 * (D * k) + n) := Int.mul_le_mul_of_nonneg_left (by omega) (by omega)
    have x4 : D * (k * E) ≤ D * (A * n) := Int.mul_le_mul_of_nonneg_left hA h1
    have y1 : n * (2 * (D * A) + E) = 2 * (D * (A * n)) + n * E := by rw [Int.mul_add]; congr 1; ac_rfl
    have y2 : E * (2 * (D * k) + n) = 2 * (D * (k * E)) + n * E := by rw [Int.mul_add]; congr 1 <;> ac_rfl
    have y3 : n * (2 * (E * S)) = E * (2 * (n * S)) := by ac_rfl
    omega
/-- the same each time no two differ by more than one -/
theorem st_near (D n i j : Int) (h1 : 0 ≤ D) (h5 : 1 ≤ n) (hi : 0 ≤ i) (hj : 0 ≤ j) : (stB D n (i + 1) - stB D n i) - (stB D n (j + 1) - stB D n j) ≤ 1 := by
  have a := near_bd (D * (i + 1)) n (Int.mul_nonneg h1 (by omega)) h5
  have b := near_bd (D * i) n (Int.mul_nonneg h1 hi) h5
  have c := near_bd (D * (j + 1)) n (Int.mul_nonneg h1 (by omega)) h5
  have d := near_bd (D * j) n (Int.mul_nonneg h1 hj) h5
  have e1 : D * (i + 1) = D * i + D := by rw [Int.mul_add, Int.mul_one]
  have e2 : D * (j + 1) = D * j + D := by rw [Int.mul_add, Int.mul_one]
  show (rnd (D * (i + 1)) n 2 - rnd (D * i) n 2) - (rnd (D * (j + 1)) n 2 - rnd (D * j) n 2) ≤ 1
  rw [e1] at a ⊢
  rw [e2] at c ⊢
  generalize rnd (D * i + D) n 2 = p at *
  generalize rnd (D * i) n 2 = q at *
  generalize rnd (D * j + D) n 2 = r at *
  generalize rnd (D * j) n 2 = s at *
  have x : n * (p - q - (r - s)) < n * 2 := by rw [Int.mul_sub, Int.mul_sub, Int.mul_sub]; omega
  have := Int.lt_of_mul_lt_mul_left x (by omega)
  omega
/-- by digits none is more than one above the one ahead -/
theorem dg_near (D n k : Int) (h1 : 0 ≤ D) (h5 : 1 ≤ n) (h6 : n ≤ 40) (h7 : 1 ≤ k) (h8 : k < n) : dgB D n (k + 1) - dgB D n k ≤ dgB D n k - dgB D n (k - 1) + 1 := by
  obtain ⟨t1, t2, t3, t4, t5, t6, t7, t8⟩ := tri_bd n k h5 h6 (by omega) (by omega)
  have hA0 : 0 ≤ tri n (k - 1) := (tri_bd n (k - 1) h5 h6 (by omega) (by omega)).2.2.2.2.1
  have hA1 : 0 ≤ tri n k := t5
  have hA2 : 0 ≤ tri n (k + 1) := (tri_bd n (k + 1) h5 h6 (by omega) (by omega)).2.2.2.2.1
  have a := near_bd (D * tri n (k + 1)) _ (Int.mul_nonneg h1 hA2) t7
  have b := near_bd (D * tri n k) _ (Int.mul_nonneg h1 hA1) t7
  have c := near_bd (D * tri n (k - 1)) _ (Int.mul_nonneg h1 hA0) t7
  have s1 := tri_step n k
  have s2 := tri_step n (k - 1)
  rw [show k - 1 + 1 = k by omega] at s2
  have x1 : D * (tri n (k + 1) - tri n k) ≤ D * (tri n k - tri n (k - 1)) := Int.mul_le_mul_of_nonneg_left (by omega) h1
  rw [Int.mul_sub, Int.mul_sub] at x1
  rw [dgB_tri, dgB_tri, dgB_tri]
  generalize n * (n + 1) / 2 = E at *
  generalize rnd (D * tri n (k + 1)) E 2 = p at *
  generalize rnd (D * tri n k) E 2 = q at *
  generalize rnd (D * tri n (k - 1)) E 2 = r at *
  have x : E * (p - q - (q - r)) < E * 2 := by rw [Int.mul_sub, Int.mul_sub, Int.mul_sub]; omega
  have := Int.lt_of_mul_lt_mul_left x (by omega)
  omega

end Go.Proofs.Ytmkmbfficpgmdaa
