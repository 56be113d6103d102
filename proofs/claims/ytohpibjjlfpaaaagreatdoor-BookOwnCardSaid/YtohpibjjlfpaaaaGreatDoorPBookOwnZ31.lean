/- The walks of Within and frac.Rounded: what they compute, for arguments in their bounds. -/
import Derived.Test.YtohpibjjlfpaaaaGreatDoorPBookOwnZ1
import Derived.Test.YtohpibjjlfpaaaaGreatDoorPBookOwnZ26
import Derived.Test.YtohpibjjlfpaaaaGreatDoorRows
import Derived.BigQuiet
import Derived.Deep.QuietTactic
import Derived.Handy
import Derived.Lib.Hide
import Derived.OpenShut
import Derived.Outline
import Derived.ProofKit
import Derived.RegionTactic
import Derived.WalkKit
namespace Go.Proofs.YtohpibjjlfpaaaaGreatDoor
open Go.ChangeShapes Go.WideShapes Go.ChangeAt Go.RowKit
set_option maxRecDepth 100000

theorem tm2 (a : Int) : a.tmod 2 = 0 ↔ a % 2 = 0 := by rw [Int.tmod_eq_emod]; split <;> omega

set_option maxHeartbeats 1000000 in
theorem rounded_any (n d way : Int) (w : World) (h1 : 1 ≤ d) (h2 : d ≤ 4000000000000) (h3 : -1000000000000000000 ≤ n) (h4 : n ≤ 1000000000000000000) :
    Calls Tryz.prog 118 #[.int .i64 n, .int .i64 d, .int .i64 way] w fun e w' => e = .returned (.int .i64 (rnd n d way)) ∧ ∃ k, w' = w.drewN k := by
  have r0 : 0 ≤ n % d := Int.emod_nonneg _ (by omega)
  have r1 : n % d < d := Int.emod_lt_of_pos _ (by omega)
  have q0 : -1000000000000000000 ≤ n / d := by
    rw [Int.le_ediv_iff_mul_le (by omega)]; have := Int.mul_le_mul_of_nonneg_left h1 (show (0:Int) ≤ 1000000000000000000 by omega); omega
  have q1 : n / d ≤ 1000000000000000000 := by
    by_cases hn : 0 ≤ n
    · have := Int.ediv_le_self d hn; omega
    · have := Int.ediv_neg_of_neg_of_pos (show n < 0 by omega) (show 0 < d by omega); omega
  by_cases hn : 0 ≤ n
  · have q2 : 0 ≤ n / d := Int.ediv_nonneg hn (by omega)
    go_enter Tryz.func118, Tryz.ntmps118
    go_wp2
    go_quiet (fail)
    go_wp2_with fail
    all_goals go_ret
    all_goals refine ⟨ret_i ?_, nq, rfl⟩
    all_goals clear r0 r1 q0 q1 q2
    all_goals (simp only [rnd, rup]; simp_all)
    all_goals omega
  · by_cases hz : n % d = 0
    · have e1 : n.tdiv d = n / d := by rw [Int.tdiv_eq_ediv]; simp [Int.dvd_of_emod_eq_zero hz]
      have e2 : n.tmod d = 0 := by rw [Int.tmod_eq_emod]; simp [hz, Int.dvd_of_emod_eq_zero hz]
      go_enter Tryz.func118, Tryz.ntmps118
      go_wp2
      go_quiet (fail)
      go_wp2_with fail
      all_goals go_ret
      all_goals refine ⟨ret_i ?_, nq, rfl⟩
      all_goals clear r0 r1 q0 q1 e1 e2
      all_goals (simp only [rnd, rup]; simp_all)
      all_goals omega
    · have hv : ¬ d ∣ n := fun h => hz (Int.emod_eq_zero_of_dvd h)
      have e1 : n.tdiv d = n / d + 1 := by rw [Int.tdiv_eq_ediv, if_neg (by omega)]; rw [Int.sign_eq_one_of_pos (by omega)]
      have e2 : n.tmod d = n % d - d := by rw [Int.tmod_eq_emod, if_neg (by omega)]; omega
      have r2 : 0 < n % d := by omega
      clear hz hv
      go_enter Tryz.func118, Tryz.ntmps118
      go_wp2
      go_quiet (fail)
      go_wp2_with fail
      all_goals go_ret
      all_goals refine ⟨ret_i ?_, nq, rfl⟩
      all_goals clear r0 r1 q0 q1 e1 e2
      all_goals (simp only [rnd, rup]; simp_all [tm2])
      all_goals omega
end Go.Proofs.YtohpibjjlfpaaaaGreatDoor
