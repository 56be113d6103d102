/- Plain arithmetic: rounding, reduction modulo, greatest common divisors. No program in sight. -/
import Derived.WalkKit
namespace Go.Proofs.YtohpibjjlfpaaaaGreatDoor
set_option maxRecDepth 100000

/-- Within(k, n) for n from 1 on -/
def wi (k n : Int) : Int := (k % 18446744073709551616) % n

/-- 'up' of Rounded: the remainder r (0 ≤ r < d), the quotient q -/
def rup (n d way : Int) : Bool :=
  if way = 1 then decide (0 < n % d)
  else if way = 2 then decide (d < 2 * (n % d)) || (decide (2 * (n % d) = d) && decide (0 < n))
  else if way = 3 then decide (d < 2 * (n % d)) || (decide (2 * (n % d) = d) && decide ((n / d) % 2 ≠ 0))
  else false

/-- Rounded(n, d, way) for d from 1 on -/
def rnd (n d way : Int) : Int := n / d + if rup n d way then 1 else 0

theorem rnd_1 (n d : Int) : rnd n d 1 = n / d + if 0 < n % d then 1 else 0 := by simp [rnd, rup]
theorem rnd_2 (n d : Int) : rnd n d 2 = n / d + if d < 2 * (n % d) ∨ 2 * (n % d) = d ∧ 0 < n then 1 else 0 := by simp [rnd, rup]
theorem rnd_3 (n d : Int) : rnd n d 3 = n / d + if d < 2 * (n % d) ∨ 2 * (n % d) = d ∧ (n / d) % 2 ≠ 0 then 1 else 0 := by simp [rnd, rup]
theorem rnd_other (n d way : Int) (h1 : way ≠ 1) (h2 : way ≠ 2) (h3 : way ≠ 3) : rnd n d way = n / d := by simp [rnd, rup, h1, h2, h3]

/-- the value of a rounding, way by way -/
theorem rnd_cases (n d way : Int) (hd : 1 ≤ d) :
    (rnd n d way = n / d ∧ n % d < d ∧ 0 ≤ n % d) ∨ (rnd n d way = n / d + 1 ∧ 0 < n % d ∧ n % d < d) := by
  have r0 : 0 ≤ n % d := Int.emod_nonneg _ (by omega)
  have r1 : n % d < d := Int.emod_lt_of_pos _ (by omega)
  by_cases h1 : way = 1
  · subst h1; rw [rnd_1]; split <;> omega
  · by_cases h2 : way = 2
    · subst h2; rw [rnd_2]; split <;> omega
    · by_cases h3 : way = 3
      · subst h3; rw [rnd_3]; split <;> omega
      · rw [rnd_other n d way h1 h2 h3]; omega

theorem div_mod (n d : Int) : d * (n / d) + n % d = n := Int.mul_ediv_add_emod n d

/-- a rounding lies less than one away -/
theorem rnd_near (n d way : Int) (hd : 1 ≤ d) : d * rnd n d way < n + d ∧ n - d < d * rnd n d way := by
  have e := div_mod n d
  rcases rnd_cases n d way hd with ⟨h, h1, h2⟩ | ⟨h, h1, h2⟩
  · rw [h]; omega
  · rw [h, Int.mul_add]; omega

/-- a bound that is a multiple of the divisor bounds the rounding, too -/
theorem rnd_le (n d way c : Int) (hd : 1 ≤ d) (h : n ≤ d * c) : rnd n d way ≤ c := by
  have e := (rnd_near n d way hd).1
  have : d * rnd n d way < d * (c + 1) := by rw [Int.mul_add]; omega
  have := Int.lt_of_mul_lt_mul_left this (by omega)
  omega
theorem le_rnd (n d way c : Int) (hd : 1 ≤ d) (h : d * c ≤ n) : c ≤ rnd n d way := by
  have e := (rnd_near n d way hd).2
  have : d * (c - 1) < d * rnd n d way := by rw [Int.mul_sub]; omega
  have := Int.lt_of_mul_lt_mul_left this (by omega)
  omega
end Go.Proofs.YtohpibjjlfpaaaaGreatDoor

/- The plain law of the calendar: the months since 1600 January, their first days and lengths. -/
namespace Go.Proofs.YtohpibjjlfpaaaaGreatDoor
set_option linter.unusedVariables false
set_option maxRecDepth 100000

/-- days ahead of a year -/
def yrs (y : Int) : Int := 365 * (y - 1600) + (y - 1600 + 3) / 4 - (y - 1600 + 99) / 100 + (y - 1600 + 399) / 400
/-- has the year a day more? -/
def lp (y : Int) : Bool := decide (y % 4 = 0) && (!decide (y % 100 = 0) || decide (y % 400 = 0))
def lpn (y : Int) : Int := if lp y then 1 else 0
def mtab : List Int := [0, 31, 28, 31, 30, 31, 30, 31, 31, 30, 31, 30, 31]
def ctab : List Int := [0, 0, 31, 59, 90, 120, 151, 181, 212, 243, 273, 304, 334, 365]
/-- the length of a month -/
def mlen (y m : Int) : Int := if m = 2 ∧ lp y = true then 29 else mtab.getD m.toNat 0
/-- the first day of a month -/
def fst (y m : Int) : Int := yrs y + ctab.getD m.toNat 0 + (if 2 < m then lpn y else 0)

theorem lpn_cases (y : Int) : (lpn y = 0 ∧ lp y = false) ∨ (lpn y = 1 ∧ lp y = true) := by
  unfold lpn; cases lp y <;> simp
theorem lp_iff (y : Int) : lp y = true ↔ y % 4 = 0 ∧ (y % 100 ≠ 0 ∨ y % 400 = 0) := by unfold lp; simp
theorem lp_false (y : Int) : lp y = false ↔ ¬ (y % 4 = 0 ∧ (y % 100 ≠ 0 ∨ y % 400 = 0)) := by rw [← lp_iff]; simp
theorem yrs_succ (y : Int) : yrs (y + 1) = yrs y + 365 + lpn y := by
  unfold yrs
  rcases lpn_cases y with ⟨h, h'⟩ | ⟨h, h'⟩
  · rw [h]; rw [lp_false] at h'; omega
  · rw [h]; rw [lp_iff] at h'; omega
theorem yrs_le (y : Int) (h : 1600 ≤ y) : yrs y ≤ 366 * (y - 1600) := by unfold yrs; omega
theorem yrs_ge (y : Int) (h : 1600 ≤ y) : 365 * (y - 1600) ≤ yrs y := by unfold yrs; omega
theorem yrs_mono (y z : Int) (h : y ≤ z) : yrs y + 365 * (z - y) ≤ yrs z := by unfold yrs; omega
theorem yrs_top : yrs 2400 = 292194 := by decide
theorem m_cases {m : Int} (h1 : 1 ≤ m) (h2 : m ≤ 12) : m = 1 ∨ m = 2 ∨ m = 3 ∨ m = 4 ∨ m = 5 ∨ m = 6 ∨ m = 7 ∨ m = 8 ∨ m = 9 ∨ m = 10 ∨ m = 11 ∨ m = 12 := by omega
theorem mlen_eq {y m : Int} (h1 : 1 ≤ m) (h2 : m ≤ 12) :
    (m = 2 ∧ mlen y m = 28 + lpn y) ∨ ((m = 4 ∨ m = 6 ∨ m = 9 ∨ m = 11) ∧ mlen y m = 30) ∨ ((m = 1 ∨ m = 3 ∨ m = 5 ∨ m = 7 ∨ m = 8 ∨ m = 10 ∨ m = 12) ∧ mlen y m = 31) := by
  unfold mlen lpn
  rcases m_cases h1 h2 with rfl | rfl | rfl | rfl | rfl | rfl | rfl | rfl | rfl | rfl | rfl | rfl <;> cases lp y <;> decide
theorem mlen_bd {y m : Int} (h1 : 1 ≤ m) (h2 : m ≤ 12) : 28 ≤ mlen y m ∧ mlen y m ≤ 31 := by
  rcases mlen_eq (y := y) h1 h2 with ⟨_, h⟩ | ⟨_, h⟩ | ⟨_, h⟩
  · rcases lpn_cases y with ⟨e, _⟩ | ⟨e, _⟩ <;> omega
  · omega
  · omega
theorem fst_one (y : Int) : fst y 1 = yrs y := by unfold fst; simp [ctab]
theorem fst_succ {y m : Int} (h1 : 1 ≤ m) (h2 : m ≤ 11) : fst y (m + 1) = fst y m + mlen y m := by
  have h3 : m ≤ 12 := by omega
  unfold fst mlen lpn
  rcases m_cases h1 h3 with rfl | rfl | rfl | rfl | rfl | rfl | rfl | rfl | rfl | rfl | rfl | rfl <;> cases lp y <;> simp [ctab, mtab] <;> omega
theorem fst_year (y : Int) : yrs (y + 1) = fst y 12 + mlen y 12 := by
  rw [yrs_succ]; unfold fst mlen; simp [ctab, mtab]; omega

/-- the first day of the month k since 1600 January -/
def fk (k : Int) : Int := fst (1600 + k / 12) (1 + k % 12)
def lk (k : Int) : Int := mlen (1600 + k / 12) (1 + k % 12)
theorem lk_bd (k : Int) : 28 ≤ lk k ∧ lk k ≤ 31 := mlen_bd (by omega) (by omega)
theorem fk_succ (k : Int) : fk (k + 1) = fk k + lk k := by
  unfold fk lk
  by_cases h : k % 12 = 11
  · rw [show (k + 1) / 12 = k / 12 + 1 by omega, show 1 + (k + 1) % 12 = 1 by omega, show 1 + k % 12 = 12 by omega, show 1600 + (k / 12 + 1) = 1600 + k / 12 + 1 by omega, fst_one, fst_year]
  · rw [show (k + 1) / 12 = k / 12 by omega, show 1 + (k + 1) % 12 = 1 + k % 12 + 1 by omega, fst_succ (by omega) (by omega)]
theorem fk_zero : fk 0 = 0 := by decide
theorem fk_top : fk 9600 = 292194 := by decide
theorem fk_add (k : Int) (n : Nat) : fk k + 28 * n ≤ fk (k + n) := by
  induction n with
  | zero => simp
  | succ n ih =>
    rw [show k + ((n + 1 : Nat) : Int) = k + n + 1 by omega, fk_succ]
    have := lk_bd (k + n); omega
theorem fk_mono {j k : Int} (h : j ≤ k) : fk j + 28 * (k - j) ≤ fk k := by
  obtain ⟨n, hn⟩ := Int.eq_ofNat_of_zero_le (show 0 ≤ k - j by omega)
  have := fk_add j n
  rw [show j + (n : Int) = k by omega] at this; omega
theorem fk_lt {j k : Int} (h : j < k) : fk j + lk j ≤ fk k := by
  have := fk_mono (show j + 1 ≤ k by omega)
  rw [fk_succ] at this; omega
/-- the day n is the day D of the month k -/
structure IsD (n k D : Int) : Prop where
  k0 : 0 ≤ k
  k1 : k < 9600
  d0 : 1 ≤ D
  d1 : D ≤ lk k
  eq : n = fk k + D - 1
theorem IsD.bd {n k D : Int} (h : IsD n k D) : 0 ≤ n ∧ n ≤ 292193 := by
  have a := fk_mono h.k0
  have b := fk_lt h.k1
  rw [fk_zero] at a; rw [fk_top] at b
  have := h.eq; have := h.d0; have := h.d1; have := h.k0
  omega
theorem isD_ex (n : Nat) (h : (n : Int) ≤ 292193) : ∃ k D, IsD n k D := by
  induction n with
  | zero => exact ⟨0, 1, ⟨by omega, by omega, by omega, by have := lk_bd 0; omega, by rw [fk_zero]; rfl⟩⟩
  | succ n ih =>
    obtain ⟨k, D, hd⟩ := ih (by omega)
    by_cases h1 : D < lk k
    · exact ⟨k, D + 1, ⟨hd.k0, hd.k1, by have := hd.d0; omega, by omega, by have := hd.eq; omega⟩⟩
    · refine ⟨k + 1, 1, ⟨by have := hd.k0; omega, ?_, by omega, by have := lk_bd (k + 1); omega, by rw [fk_succ]; have := hd.eq; have := hd.d1; omega⟩⟩
      by_cases h9 : k + 1 = 9600
      · have e := fk_succ k
        rw [h9, fk_top] at e
        have := hd.eq; have := hd.d1; omega
      · have := hd.k1; omega
/-- the month of a day, the day of the month -/
noncomputable def dk (n : Int) : Int := @dite _ (∃ k D, IsD n k D) (Classical.propDecidable _) (fun h => Classical.choose h) (fun _ => 0)
noncomputable def dm (n : Int) : Int := n - fk (dk n) + 1
theorem isD_of {n : Int} (h0 : 0 ≤ n) (h1 : n ≤ 292193) : IsD n (dk n) (dm n) := by
  have h : ∃ k D, IsD n k D := by
    obtain ⟨m, rfl⟩ := Int.eq_ofNat_of_zero_le h0
    exact isD_ex m h1
  unfold dm dk
  rw [dif_pos h]
  obtain ⟨D, hD⟩ := Classical.choose_spec h
  have : n - fk (Classical.choose h) + 1 = D := by have := hD.eq; omega
  rw [this]; exact hD
theorem IsD.uniq {n k D k' D' : Int} (h : IsD n k D) (h' : IsD n k' D') : k = k' ∧ D = D' := by
  have e := h.eq; have e' := h'.eq
  have := h.d0; have := h.d1; have := h'.d0; have := h'.d1
  rcases Int.lt_trichotomy k k' with l | l | l
  · have := fk_lt l; omega
  · subst l; exact ⟨rfl, by omega⟩
  · have := fk_lt l; omega
theorem IsD.dk {n k D : Int} (h : IsD n k D) : dk n = k := ((isD_of h.bd.1 h.bd.2).uniq h).1
theorem IsD.dm {n k D : Int} (h : IsD n k D) : dm n = D := ((isD_of h.bd.1 h.bd.2).uniq h).2
/-- days in order: months in order -/
theorem IsD.le {n k D n' k' D' : Int} (h : IsD n k D) (h' : IsD n' k' D') : n ≤ n' ↔ k < k' ∨ (k = k' ∧ D ≤ D') := by
  have e := h.eq; have e' := h'.eq
  have := h.d0; have := h.d1; have := h'.d0; have := h'.d1
  rcases Int.lt_trichotomy k k' with l | l | l
  · have := fk_lt l; constructor <;> intro <;> omega
  · subst l; omega
  · have := fk_lt l; constructor <;> intro <;> omega
theorem isD_mk {k D : Int} (h0 : 0 ≤ k) (h1 : k < 9600) (d0 : 1 ≤ D) (d1 : D ≤ lk k) : IsD (fk k + D - 1) k D := ⟨h0, h1, d0, d1, rfl⟩

end Go.Proofs.YtohpibjjlfpaaaaGreatDoor

/- Plain arithmetic of fractions: lowest terms by the rational numbers of Lean's core. No program in sight. -/
namespace Go.Proofs.YtohpibjjlfpaaaaGreatDoor
set_option maxRecDepth 100000

def fn (q : Rat) : Int := q.num
theorem prod_bd (a r : Int) (M R : Int) (h1 : -M ≤ a) (h2 : a ≤ M) (h3 : 0 ≤ r) (h4 : r ≤ R) (hM : 0 ≤ M) : -(M * R) ≤ a * r ∧ a * r ≤ M * R := by
  have e1 : a * r ≤ M * r := Int.mul_le_mul_of_nonneg_right h2 h3
  have e2 : M * r ≤ M * R := Int.mul_le_mul_of_nonneg_left h4 hM
  have e3 : -M * r ≤ a * r := Int.mul_le_mul_of_nonneg_right h1 h3
  have e4 : -M * r = -(M * r) := by rw [Int.neg_mul]
  omega

end Go.Proofs.YtohpibjjlfpaaaaGreatDoor
