/- Plain arithmetic: rounding, reduction modulo, greatest common divisors. No program in sight. -/
import Derived.WalkKit
namespace Go.Proofs.Ytdpphneebikdpaa
set_option maxRecDepth 100000

/-- Within(k, n) for n from 1 on -/
def wi (k n : Int) : Int := (k % 18446744073709551616) % n

theorem wi_lo (k n : Int) (h : 1 ≤ n) : 0 ≤ wi k n := Int.emod_nonneg _ (by omega)
theorem wi_hi (k n : Int) (h : 1 ≤ n) : wi k n < n := Int.emod_lt_of_pos _ (by omega)

end Go.Proofs.Ytdpphneebikdpaa
