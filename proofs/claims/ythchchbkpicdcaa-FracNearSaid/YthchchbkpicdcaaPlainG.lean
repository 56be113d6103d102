/- Plain laws of rounded fractions and of the order of fractions. No program in sight. -/
import Derived.Test.YthchchbkpicdcaaPlainF
namespace Go.Proofs.Ythchchbkpicdcaa

/-- -1, 0 or 1, as x is less than, equal to or greater than y -/
theorem rnd_scale (n d k way : Int) (hd : 1 ≤ d) (hk : 1 ≤ k) : rnd (n * k) (d * k) way = rnd n d way := by
  have e1 : (n * k) / (d * k) = n / d := Int.mul_ediv_mul_of_pos_left n d (by omega)
  have e2 : (n * k) % (d * k) = (n % d) * k := by
    have a := div_mod (n * k) (d * k)
    have b := div_mod n d
    rw [e1] at a
    have : n * k = d * k * (n / d) + (n % d) * k := by
      calc n * k = (d * (n / d) + n % d) * k := by rw [b]
        _ = d * k * (n / d) + (n % d) * k := by rw [Int.add_mul, Int.mul_right_comm]
    omega
  have r0 : 0 ≤ n % d := Int.emod_nonneg _ (by omega)
  have c1 : 0 < (n % d) * k ↔ 0 < n % d := by
    constructor
    · intro h; by_cases hz : n % d = 0
      · rw [hz] at h; simp at h
      · omega
    · intro h; exact Int.mul_pos h (by omega)
  have c2 : d * k < 2 * ((n % d) * k) ↔ d < 2 * (n % d) := by
    rw [← Int.mul_assoc]; exact Int.mul_lt_mul_right (by omega)
  have c3 : 2 * ((n % d) * k) = d * k ↔ 2 * (n % d) = d := by
    rw [← Int.mul_assoc]; exact Int.mul_eq_mul_right_iff (by omega)
  have c4 : 0 < n * k ↔ 0 < n := by
    constructor
    · intro h; by_cases hn : n ≤ 0
      · have := Int.mul_le_mul_of_nonneg_right hn (show 0 ≤ k by omega); rw [Int.zero_mul] at this; omega
      · omega
    · intro h; exact Int.mul_pos h (by omega)
  by_cases h1 : way = 1
  · subst h1; rw [rnd_1, rnd_1, e1, e2]; simp only [c1]
  · by_cases h2 : way = 2
    · subst h2; rw [rnd_2, rnd_2, e1, e2]; simp only [c2, c3, c4]
    · by_cases h3 : way = 3
      · subst h3; rw [rnd_3, rnd_3, e1, e2]; simp only [c2, c3]
      · rw [rnd_other _ _ way h1 h2 h3, rnd_other _ _ way h1 h2 h3, e1]

/-- a fraction that is no less is rounded to no less -/
theorem rnd_frac_mono (n d m c way : Int) (hd : 1 ≤ d) (hc : 1 ≤ c) (h : n * c ≤ m * d) : rnd n d way ≤ rnd m c way := by
  rw [← rnd_scale n d c way hd hc, ← rnd_scale m c d way hc hd, Int.mul_comm c d]
  exact rnd_mono _ _ _ _ (by have := Int.mul_pos (show 0 < d by omega) (show 0 < c by omega); omega) h

theorem fq_lt (n d m c : Int) (hd : 1 ≤ d) (hc : 1 ≤ c) : n * c < m * d ↔ fq n d < fq m c := by
  rw [Rat.lt_iff]
  show n * c < m * d ↔ fn (fq n d) * fd (fq m c) < fn (fq m c) * fd (fq n d)
  have e1 := fn_mul n d hd
  have e2 := fd_mul n d hd
  have e3 := fn_mul m c hc
  have e4 := fd_mul m c hc
  have g1 := gg_pos n d hd
  have g2 := gg_pos m c hc
  generalize fn (fq n d) = a at *
  generalize fd (fq n d) = b at *
  generalize fn (fq m c) = x at *
  generalize fd (fq m c) = y at *
  generalize gg n d = g at *
  generalize gg m c = k at *
  have l : n * c = a * y * (g * k) := by rw [← e1, ← e4]; ac_rfl
  have r : m * d = x * b * (g * k) := by rw [← e3, ← e2]; ac_rfl
  rw [l, r]
  exact Int.mul_lt_mul_right (Int.mul_pos (by omega) (by omega))
theorem q_lt (p q : Rat) : fn p * fd q < fn q * fd p ↔ p < q := (Rat.lt_iff p q).symm

end Go.Proofs.Ythchchbkpicdcaa
