/- Plain arithmetic: rounding, reduction modulo, greatest common divisors. No program in sight. -/
import Derived.WalkKit
namespace Go.Proofs.Ytnahbblglalagaa

/-- Within(k, n) for n from 1 on -/
def wi (k n : Int) : Int := (k % 18446744073709551616) % n

theorem wi_lo (k n : Int) (h : 1 ≤ n) : 0 ≤ wi k n := Int.emod_nonneg _ (by omega)
theorem wi_hi (k n : Int) (h : 1 ≤ n) : wi k n < n := Int.emod_lt_of_pos _ (by omega)

/-- 'up' of Rounded: the remainder r (0 ≤ r < d), the quotient q -/
def rup (n d way : Int) : Bool :=
  if way = 1 then decide (0 < n % d)
  else if way = 2 then decide (d < 2 * (n % d)) || (decide (2 * (n % d) = d) && decide (0 < n))
  else if way = 3 then decide (d < 2 * (n % d)) || (decide (2 * (n % d) = d) && decide ((n / d) % 2 ≠ 0))
  else false

/-- Rounded(n, d, way) for d from 1 on -/
def rnd (n d way : Int) : Int := n / d + if rup n d way then 1 else 0

theorem rnd_0 (n d : Int) : rnd n d 0 = n / d := by simp [rnd, rup]
theorem rnd_1 (n d : Int) : rnd n d 1 = n / d + if 0 < n % d then 1 else 0 := by simp [rnd, rup]
theorem rnd_2 (n d : Int) : rnd n d 2 = n / d + if d < 2 * (n % d) ∨ 2 * (n % d) = d ∧ 0 < n then 1 else 0 := by simp [rnd, rup]
theorem rnd_3 (n d : Int) : rnd n d 3 = n / d + if d < 2 * (n % d) ∨ 2 * (n % d) = d ∧ (n / d) % 2 ≠ 0 then 1 else 0 := by simp [rnd, rup]
theorem rnd_other (n d way : Int) (h1 : way ≠ 1) (h2 : way ≠ 2) (h3 : way ≠ 3) : rnd n d way = n / d := by simp [rnd, rup, h1, h2, h3]

/-- the value of a rounding, way by way -/
theorem rnd_cases (n d way : Int) (hd : 1 ≤ d) :
    (rnd n d way = n / d ∧ n % d < d ∧ 0 ≤ n % d) ∨ (rnd n d way = n / d + 1 ∧ 0 < n % d ∧ n % d < d) := by
  have r0 : 0 ≤ n % d := Int.emod_nonneg _ (by omega)
  have r1 : n % d < d := Int.emod_lt_of_pos _ (by omega)
  by_cases h1 : way = 1
  · subst h1; rw [rnd_1]; split <;> omega
  · by_cases h2 : way = 2
    · subst h2; rw [rnd_2]; split <;> omega
    · by_cases h3 : way = 3
      · subst h3; rw [rnd_3]; split <;> omega
      · rw [rnd_other n d way h1 h2 h3]; omega

theorem div_mod (n d : Int) : d * (n / d) + n % d = n := Int.mul_ediv_add_emod n d

/-- a rounding lies less than one away -/
theorem rnd_near (n d way : Int) (hd : 1 ≤ d) : d * rnd n d way < n + d ∧ n - d < d * rnd n d way := by
  have e := div_mod n d
  rcases rnd_cases n d way hd with ⟨h, h1, h2⟩ | ⟨h, h1, h2⟩
  · rw [h]; omega
  · rw [h, Int.mul_add]; omega

/-- a bound that is a multiple of the divisor bounds the rounding, too -/
theorem rnd_le (n d way c : Int) (hd : 1 ≤ d) (h : n ≤ d * c) : rnd n d way ≤ c := by
  have e := (rnd_near n d way hd).1
  have : d * rnd n d way < d * (c + 1) := by rw [Int.mul_add]; omega
  have := Int.lt_of_mul_lt_mul_left this (by omega)
  omega
theorem le_rnd (n d way c : Int) (hd : 1 ≤ d) (h : d * c ≤ n) : c ≤ rnd n d way := by
  have e := (rnd_near n d way hd).2
  have : d * (c - 1) < d * rnd n d way := by rw [Int.mul_sub]; omega
  have := Int.lt_of_mul_lt_mul_left this (by omega)
  omega
theorem rnd_exact (d way c : Int) (hd : 1 ≤ d) : rnd (d * c) d way = c := by
  have := rnd_le (d * c) d way c hd (Int.le_refl _)
  have := le_rnd (d * c) d way c hd (Int.le_refl _)
  omega

/-- rounding is monotonic, in every way -/
theorem rnd_mono (n m d way : Int) (hd : 1 ≤ d) (h : n ≤ m) : rnd n d way ≤ rnd m d way := by
  have hq : n / d ≤ m / d := Int.ediv_le_ediv (by omega) h
  have e1 := div_mod n d
  have e2 := div_mod m d
  have r0 : 0 ≤ m % d := Int.emod_nonneg _ (by omega)
  by_cases hlt : n / d < m / d
  · rcases rnd_cases n d way hd with ⟨a, _⟩ | ⟨a, _⟩ <;> rcases rnd_cases m d way hd with ⟨b, _⟩ | ⟨b, _⟩ <;> omega
  · have hq2 : n / d = m / d := by omega
    have hr : n % d ≤ m % d := by rw [hq2] at e1; omega
    by_cases h1 : way = 1
    · subst h1; rw [rnd_1, rnd_1, hq2]; split <;> split <;> omega
    · by_cases h2 : way = 2
      · subst h2; rw [rnd_2, rnd_2, hq2]; split <;> split <;> omega
      · by_cases h3 : way = 3
        · subst h3; rw [rnd_3, rnd_3, hq2]; split <;> split <;> omega
        · rw [rnd_other n d way h1 h2 h3, rnd_other m d way h1 h2 h3]; omega

/-- rounding towards the nearest turns round with the sign; down and up change places -/
theorem neg_div_mod (n d : Int) (hd : 1 ≤ d) : (n % d = 0 ∧ (-n) / d = -(n / d) ∧ (-n) % d = 0) ∨ (n % d ≠ 0 ∧ (-n) / d = -(n / d) - 1 ∧ (-n) % d = d - n % d) := by
  have e := div_mod n d
  have r0 : 0 ≤ n % d := Int.emod_nonneg _ (by omega)
  have r1 : n % d < d := Int.emod_lt_of_pos _ (by omega)
  by_cases h : n % d = 0
  · refine .inl ⟨h, ?_, ?_⟩
    · rw [Int.neg_ediv_of_dvd (Int.dvd_of_emod_eq_zero h)]
    · rw [Int.emod_eq_zero_of_dvd]; exact Int.dvd_neg.2 (Int.dvd_of_emod_eq_zero h)
  · refine .inr ⟨h, ?_, ?_⟩
    · have : -n = (d - n % d) + d * (-(n / d) - 1) := by rw [Int.mul_sub, Int.mul_neg]; omega
      rw [this, Int.add_mul_ediv_left _ _ (by omega), Int.ediv_eq_zero_of_lt (by omega) (by omega)]; omega
    · have : -n = (d - n % d) + d * (-(n / d) - 1) := by rw [Int.mul_sub, Int.mul_neg]; omega
      rw [this, Int.add_mul_emod_self_left, Int.emod_eq_of_lt (by omega) (by omega)]

theorem rnd_neg_near (n d : Int) (hd : 1 ≤ d) : rnd (-n) d 2 = -rnd n d 2 := by
  have e := div_mod n d
  have r0 : 0 ≤ n % d := Int.emod_nonneg _ (by omega)
  have r1 : n % d < d := Int.emod_lt_of_pos _ (by omega)
  have hz : n = 0 → n % d = 0 := by intro h; subst h; simp
  rw [rnd_2, rnd_2]
  rcases neg_div_mod n d hd with ⟨h, a, b⟩ | ⟨h, a, b⟩ <;> rw [a, b] <;> split <;> split <;> omega
theorem rnd_neg_even (n d : Int) (hd : 1 ≤ d) : rnd (-n) d 3 = -rnd n d 3 := by
  have r0 : 0 ≤ n % d := Int.emod_nonneg _ (by omega)
  have r1 : n % d < d := Int.emod_lt_of_pos _ (by omega)
  rw [rnd_3, rnd_3]
  rcases neg_div_mod n d hd with ⟨h, a, b⟩ | ⟨h, a, b⟩ <;> rw [a, b] <;> split <;> split <;> omega
theorem rnd_neg_up (n d : Int) (hd : 1 ≤ d) : rnd (-n) d 1 = -rnd n d 0 := by
  have r0 : 0 ≤ n % d := Int.emod_nonneg _ (by omega)
  have r1 : n % d < d := Int.emod_lt_of_pos _ (by omega)
  rw [rnd_1, rnd_0]
  rcases neg_div_mod n d hd with ⟨h, a, b⟩ | ⟨h, a, b⟩ <;> rw [a, b] <;> split <;> omega

/-- the nearest ways are no farther than a half away -/
theorem rnd_half (n d way : Int) (hd : 1 ≤ d) (hw : way = 2 ∨ way = 3) : 2 * (d * rnd n d way - n) ≤ d ∧ 2 * (n - d * rnd n d way) ≤ d := by
  have e := div_mod n d
  have r0 : 0 ≤ n % d := Int.emod_nonneg _ (by omega)
  have r1 : n % d < d := Int.emod_lt_of_pos _ (by omega)
  rcases hw with rfl | rfl
  · rw [rnd_2]; split <;> rw [Int.mul_add] <;> omega
  · rw [rnd_3]; split <;> rw [Int.mul_add] <;> omega
/-- what lies less than a half from c is rounded to c -/
theorem rnd_close (c d e way : Int) (hd : 1 ≤ d) (hw : way = 2 ∨ way = 3) (h1 : -d < 2 * e) (h2 : 2 * e < d) : rnd (d * c + e) d way = c := by
  obtain ⟨a, b⟩ := rnd_half (d * c + e) d way hd hw
  have x1 : d * (rnd (d * c + e) d way - c) < d * 1 := by rw [Int.mul_sub]; omega
  have x2 : d * (-1) < d * (rnd (d * c + e) d way - c) := by rw [Int.mul_sub]; omega
  have := Int.lt_of_mul_lt_mul_left x1 (by omega)
  have := Int.lt_of_mul_lt_mul_left x2 (by omega)
  omega
/-- what a tax is added to comes back when it is taken out -/
theorem tax_back (a r way : Int) (h3 : 0 ≤ r) (hw : way = 2 ∨ way = 3) : rnd ((a + rnd (a * r) 1000000 way) * 1000000) (1000000 + r) way = a := by
  obtain ⟨x, y⟩ := rnd_half (a * r) 1000000 way (by omega) hw
  have e : (a + rnd (a * r) 1000000 way) * 1000000 = (1000000 + r) * a + (1000000 * rnd (a * r) 1000000 way - a * r) := by
    rw [Int.add_mul, Int.add_mul, Int.mul_comm r a]; omega
  rw [e]
  refine rnd_close _ _ _ _ (by omega) hw ?_ ?_
  all_goals
    by_cases hr : r = 0
    · subst hr
      rw [Int.mul_zero, show rnd 0 1000000 way = 0 from rnd_exact 1000000 way 0 (by omega)]; omega
    · omega

/-- a share by a rate -/
theorem rnd_share (a r way : Int) (h1 : 0 ≤ a) (h3 : 0 ≤ r) (h4 : r ≤ 1000000) : 0 ≤ rnd (a * r) 1000000 way ∧ rnd (a * r) 1000000 way ≤ a := by
  have e1 : 0 ≤ a * r := Int.mul_nonneg h1 h3
  have e2 : a * r ≤ a * 1000000 := Int.mul_le_mul_of_nonneg_left h4 h1
  exact ⟨le_rnd _ _ _ _ (by omega) (by omega), rnd_le _ _ _ _ (by omega) (by omega)⟩

end Go.Proofs.Ytnahbblglalagaa
