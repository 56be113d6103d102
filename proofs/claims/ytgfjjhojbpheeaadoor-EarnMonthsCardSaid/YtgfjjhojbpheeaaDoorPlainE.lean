/- Plain laws of what is earned by a day. No program in sight. -/
import Derived.Test.YtgfjjhojbpheeaaDoorPlainF
namespace Go.Proofs.YtgfjjhojbpheeaaDoor

/-- days earned -/
def dd (F T A : Int) : Int := if A < F then 0 else if A ≤ T then A - F + 1 else T - F + 1
/-- what is earned by the day A -/
def ev (a F T A : Int) : Int := rnd (a * dd F T A) (T - F + 1) 2

theorem dd_bd (F T A : Int) (h : F ≤ T) : 0 ≤ dd F T A ∧ dd F T A ≤ T - F + 1 := by unfold dd; split <;> (try split) <;> omega
theorem dd_mono (F T A B : Int) (h : F ≤ T) (hAB : A ≤ B) : dd F T A ≤ dd F T B := by unfold dd; split <;> split <;> (try split) <;> (try split) <;> omega
theorem dd_none (F T A : Int) (h : A < F) : dd F T A = 0 := if_pos h
theorem dd_all (F T A : Int) (h : F ≤ T) (hA : T ≤ A) : dd F T A = T - F + 1 := by unfold dd; rw [if_neg (by omega)]; split <;> omega

theorem ev_neg (a F T A : Int) (h : F ≤ T) : ev (-a) F T A = -ev a F T A := by
  unfold ev; rw [Int.neg_mul]; exact rnd_neg_near _ _ (by omega)
theorem ev_none (a F T A : Int) (h : F ≤ T) (hA : A < F) : ev a F T A = 0 := by
  unfold ev; rw [dd_none F T A hA, Int.mul_zero]
  have := rnd_exact (T - F + 1) 2 0 (by omega)
  rwa [Int.mul_zero] at this
theorem ev_all (a F T A : Int) (h : F ≤ T) (hA : T ≤ A) : ev a F T A = a := by
  unfold ev; rw [dd_all F T A h hA, Int.mul_comm]; exact rnd_exact _ _ _ (by omega)
theorem ev_pos (a F T A B : Int) (h : F ≤ T) (hAB : A ≤ B) (ha : 0 ≤ a) : 0 ≤ ev a F T A ∧ ev a F T A ≤ ev a F T B ∧ ev a F T B ≤ a := by
  obtain ⟨x1, x2⟩ := dd_bd F T A h
  obtain ⟨y1, y2⟩ := dd_bd F T B h
  have m := dd_mono F T A B h hAB
  unfold ev
  refine ⟨le_rnd _ _ _ _ (by omega) ?_, rnd_mono _ _ _ _ (by omega) (Int.mul_le_mul_of_nonneg_left m ha), rnd_le _ _ _ _ (by omega) ?_⟩
  · rw [Int.mul_zero]; exact Int.mul_nonneg ha x1
  · rw [Int.mul_comm]; exact Int.mul_le_mul_of_nonneg_right y2 ha
theorem ev_facts (a F T A B : Int) (h : F ≤ T) (hAB : A ≤ B) :
    (A < F → ev a F T A = 0) ∧ (T ≤ B → ev a F T B = a) ∧ (0 ≤ a → 0 ≤ ev a F T A ∧ ev a F T A ≤ ev a F T B ∧ ev a F T B ≤ a) ∧ (a < 0 → ev a F T B ≤ ev a F T A ∧ ev a F T A ≤ 0 ∧ a ≤ ev a F T B) := by
  refine ⟨ev_none a F T A h, ev_all a F T B h, ev_pos a F T A B h hAB, fun ha => ?_⟩
  have p := ev_pos (-a) F T A B h hAB (by omega)
  rw [ev_neg a F T A h, ev_neg a F T B h] at p
  omega
theorem ev_bd (a F T A : Int) (h : F ≤ T) (h1 : -1000000000000 ≤ a) (h2 : a ≤ 1000000000000) : -1000000000000 ≤ ev a F T A ∧ ev a F T A ≤ 1000000000000 := by
  have := ev_facts a F T A A h (by omega)
  omega
/-- an amount of n a day -/
theorem ev_days (n F L A : Int) (h : 1 ≤ L) (h1 : 0 ≤ A) (h2 : A < L) : ev (n * L) F (F + L - 1) (F + A) = n * (A + 1) := by
  unfold ev
  have e : dd F (F + L - 1) (F + A) = A + 1 := by unfold dd; rw [if_neg (by omega), if_pos (by omega)]; omega
  rw [e, show F + L - 1 - F + 1 = L by omega, show n * L * (A + 1) = L * (n * (A + 1)) by ac_rfl]
  exact rnd_exact _ _ _ h

end Go.Proofs.YtgfjjhojbpheeaaDoor
