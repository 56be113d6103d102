/- Plain arithmetic of fractions: lowest terms by the rational numbers of Lean's core. No program in sight. -/
import Derived.Test.YtbjfmhncpfhdmaaPlainA
namespace Go.Proofs.Ytbjfmhncpfhdmaa

/-- the rational number n/d, its numerator and denominator in lowest terms -/
def fq (n d : Int) : Rat := Rat.divInt n d
def fn (q : Rat) : Int := q.num
def fd (q : Rat) : Int := (q.den : Int)
def gg (n d : Int) : Int := (Int.gcd n d : Int)

theorem fd_pos (q : Rat) : 1 ≤ fd q := by have := q.den_nz; unfold fd; omega
theorem fq_self (q : Rat) : fq (fn q) (fd q) = q := Rat.num_divInt_den q
theorem gg_pos (n d : Int) (h : 1 ≤ d) : 1 ≤ gg n d := by
  have : Int.gcd n d ≠ 0 := by intro e; rw [Int.gcd_eq_zero_iff] at e; omega
  unfold gg; omega
theorem gg_le (n d : Int) (h : 1 ≤ d) : gg n d ≤ d := Int.le_of_dvd (by omega) (Int.gcd_dvd_right ..)
theorem gg_n (n d : Int) : gg n d ∣ n := Int.gcd_dvd_left ..
theorem gg_d (n d : Int) : gg n d ∣ d := Int.gcd_dvd_right ..

theorem fn_fq (n d : Int) (h : 1 ≤ d) : fn (fq n d) = n / gg n d := by
  unfold fn fq gg; rw [Rat.num_divInt, Int.sign_eq_one_of_pos (by omega), Int.one_mul, Int.gcd_comm]
theorem fd_fq (n d : Int) (h : 1 ≤ d) : fd (fq n d) = d / gg n d := by
  unfold fd fq gg; rw [Rat.den_divInt, if_neg (by omega), Int.gcd_comm]
  rw [Int.natCast_ediv, Int.natAbs_of_nonneg (by omega)]
theorem fn_mul (n d : Int) (h : 1 ≤ d) : fn (fq n d) * gg n d = n := by rw [fn_fq n d h]; exact Int.ediv_mul_cancel (gg_n n d)
theorem fd_mul (n d : Int) (h : 1 ≤ d) : fd (fq n d) * gg n d = d := by rw [fd_fq n d h]; exact Int.ediv_mul_cancel (gg_d n d)
/-- crosswise -/
theorem fq_cross (n d : Int) (h : 1 ≤ d) : fn (fq n d) * d = n * fd (fq n d) := by
  have e1 := fn_mul n d h
  have e2 := fd_mul n d h
  calc fn (fq n d) * d = fn (fq n d) * (fd (fq n d) * gg n d) := by rw [e2]
    _ = (fn (fq n d) * gg n d) * fd (fq n d) := by rw [Int.mul_assoc, Int.mul_comm (gg n d)]
    _ = n * fd (fq n d) := by rw [e1]
theorem fd_dvd (n d : Int) (h : 1 ≤ d) : fd (fq n d) ∣ d := ⟨gg n d, (fd_mul n d h).symm⟩
theorem fd_le (n d : Int) (h : 1 ≤ d) : fd (fq n d) ≤ d := Int.le_of_dvd (by omega) (fd_dvd n d h)
theorem fn_bd (n d M : Int) (h : 1 ≤ d) (h1 : -M ≤ n) (h2 : n ≤ M) : -M ≤ fn (fq n d) ∧ fn (fq n d) ≤ M := by
  have e := fn_mul n d h
  have g := gg_pos n d h
  generalize fn (fq n d) = a at *
  generalize gg n d = b at *
  by_cases ha : 0 ≤ a
  · have : a * 1 ≤ a * b := Int.mul_le_mul_of_nonneg_left g ha
    omega
  · have : a * b ≤ a * 1 := by
      have := Int.mul_le_mul_of_nonneg_left g (show 0 ≤ -a by omega)
      rw [Int.neg_mul, Int.neg_mul] at this; omega
    omega
theorem fq_eq_iff (n d m e : Int) (h : 1 ≤ d) (k : 1 ≤ e) : fq n d = fq m e ↔ n * e = m * d := by
  unfold fq; exact Rat.divInt_eq_divInt_iff (by omega) (by omega)
theorem fq_add (n d m e : Int) (h : 1 ≤ d) (k : 1 ≤ e) : fq n d + fq m e = fq (n * e + m * d) (d * e) := by
  unfold fq; exact Rat.divInt_add_divInt _ _ (by omega) (by omega)
theorem fq_mul (n d m e : Int) : fq n d * fq m e = fq (n * m) (d * e) := by
  unfold fq; exact Rat.divInt_mul_divInt _ _
theorem q_eq {p q : Rat} (h1 : fn p = fn q) (h2 : fd p = fd q) : p = q := by
  rw [← fq_self p, ← fq_self q, h1, h2]

theorem prod_bd (a r : Int) (M R : Int) (h1 : -M ≤ a) (h2 : a ≤ M) (h3 : 0 ≤ r) (h4 : r ≤ R) (hM : 0 ≤ M) : -(M * R) ≤ a * r ∧ a * r ≤ M * R := by
  have e1 : a * r ≤ M * r := Int.mul_le_mul_of_nonneg_right h2 h3
  have e2 : M * r ≤ M * R := Int.mul_le_mul_of_nonneg_left h4 hM
  have e3 : -M * r ≤ a * r := Int.mul_le_mul_of_nonneg_right h1 h3
  have e4 : -M * r = -(M * r) := by rw [Int.neg_mul]
  omega

end Go.Proofs.Ytbjfmhncpfhdmaa
