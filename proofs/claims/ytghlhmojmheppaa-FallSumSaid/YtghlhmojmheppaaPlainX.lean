/- Plain laws of declining-balance depreciation: sums, monotonicity. No program in sight. -/
import Derived.Test.YtghlhmojmheppaaPlainW
namespace Go.Proofs.Ytghlhmojmheppaa
set_option linter.unusedVariables false

theorem flist_sum_all (cost rest rate N : Int) (k : Nat) : (flist cost rest rate N k).sum = cost - fleft cost rest rate N k := by
  induction k with
  | zero => simp [flist, fleft]
  | succ k ih => rw [flist_succ, List.sum_append_int, ih, fleft_succ]; simp; omega
theorem flist_take (cost rest rate N : Int) (m k : Nat) (h : k ≤ m) : (flist cost rest rate N m).take k = flist cost rest rate N k := by
  unfold flist
  rw [← List.map_take, List.take_range, Nat.min_eq_left h]
theorem flist_bd (cost rest rate N : Int) (m : Nat) (h0 : 0 ≤ rest) (h1 : rest ≤ cost) (h2 : cost ≤ 1000000000000) (h3 : 0 ≤ rate) (hm : (m : Int) ≤ N) : ∀ x ∈ flist cost rest rate N m, -1000000000000000 ≤ x ∧ x ≤ 1000000000000000 := by
  intro x hx
  simp only [flist, List.mem_map, List.mem_range] at hx
  obtain ⟨i, hi, rfl⟩ := hx
  have a := fleft_bd cost rest rate N h1 h0 h3 i (by omega)
  have b := dstep_bd (fleft cost rest rate N i) rest rate (N - i) a.1 h0 h3 (by omega)
  unfold fdd; omega

/-- what is left after a period -/
def fnext (L rest rate n : Int) : Int := L - dstep L rest rate n
theorem rnd_step (L M rate : Int) (h0 : 0 ≤ L) (h : L ≤ M) (h3 : 0 ≤ rate) (h4 : rate ≤ 1000000) : L - rnd (L * rate) 1000000 2 ≤ M - rnd (M * rate) 1000000 2 := by
  have e : M * rate ≤ L * rate + 1000000 * (M - L) := by
    have : M * rate = L * rate + (M - L) * rate := by rw [← Int.add_mul]; congr 1; omega
    have g := Int.mul_le_mul_of_nonneg_left h4 (show 0 ≤ M - L by omega)
    rw [Int.mul_comm (M - L) 1000000] at g
    omega
  have a := rnd_mono (M * rate) (L * rate + 1000000 * (M - L)) 1000000 2 (by omega) e
  have b : rnd (L * rate + 1000000 * (M - L)) 1000000 2 ≤ rnd (L * rate) 1000000 2 + (M - L) := by
    by_cases hz : M = L
    · subst hz; simp
    · have hp := Int.mul_nonneg h0 h3
      rw [rnd_2, rnd_2, Int.add_mul_ediv_left _ _ (by omega), Int.add_mul_emod_self_left]
      split <;> split <;> omega
  omega
theorem ceil_step (L M n : Int) (h : L ≤ M) (hn : 1 ≤ n) : L - rnd L n 1 ≤ M - rnd M n 1 := by
  have e : M ≤ L + n * (M - L) := by
    have := Int.mul_le_mul_of_nonneg_right hn (show 0 ≤ M - L by omega); omega
  have a := rnd_mono M (L + n * (M - L)) n 1 hn e
  have b : rnd (L + n * (M - L)) n 1 = rnd L n 1 + (M - L) := by
    rw [rnd_1, rnd_1, Int.add_mul_ediv_left _ _ (by omega), Int.add_mul_emod_self_left]; omega
  omega
/-- more left, by a lesser rate, with more that must be left: no less is left -/
theorem fnext_mono (L M rest rest' rate rate' n : Int) (hL : L ≤ M) (hr : rest ≤ rest') (h0 : 0 ≤ L) (hR : rate' ≤ rate) (h3 : 0 ≤ rate') (h4 : rate ≤ 1000000) (hn : 1 ≤ n) :
    fnext L rest rate n ≤ fnext M rest' rate' n := by
  have a := rnd_step L M rate' h0 hL h3 (by omega)
  have a2 := rnd_mono (L * rate') (L * rate) 1000000 2 (by omega) (Int.mul_le_mul_of_nonneg_left hR h0)
  have b := ceil_step (L - rest') (M - rest') n (by omega) hn
  have b2 := rnd_mono (L - rest') (L - rest) n 1 hn (by omega)
  unfold fnext dstep; omega
theorem fleft_mono (cost rest rest' rate rate' N : Int) (h1 : rest' ≤ cost) (h2 : 0 ≤ rest) (hr : rest ≤ rest') (hR : rate' ≤ rate) (h3 : 0 ≤ rate') (h4 : rate ≤ 1000000) (k : Nat) (hk : (k : Int) ≤ N) :
    fleft cost rest rate N k ≤ fleft cost rest' rate' N k := by
  induction k with
  | zero => exact Int.le_refl _
  | succ k ih =>
    have a := fleft_bd cost rest rate N (by omega) h2 (by omega) k (by omega)
    exact fnext_mono _ _ rest rest' rate rate' (N - k) (ih (by omega)) hr (by omega) hR h3 h4 (by omega)

end Go.Proofs.Ytghlhmojmheppaa
