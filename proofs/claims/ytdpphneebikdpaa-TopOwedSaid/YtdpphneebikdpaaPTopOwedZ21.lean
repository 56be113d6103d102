/- The walk of talkeep.Within, without frac. -/
import Derived.Test.YtdpphneebikdpaaPTopOwedZ1
import Derived.Test.YtdpphneebikdpaaPTopOwedZ20
import Derived.Test.YtdpphneebikdpaaRows
import Derived.BigQuiet
import Derived.Deep.QuietTactic
import Derived.Handy
import Derived.Lib.Hide
import Derived.OpenShut
import Derived.Outline
import Derived.ProofKit
import Derived.RegionTactic
import Derived.WalkKit
namespace Go.Proofs.Ytdpphneebikdpaa
open Go.ChangeShapes Go.WideShapes Go.ChangeAt Go.RowKit
set_option maxRecDepth 100000

theorem wi_tmod (k n : Int) (h1 : 1 ≤ n) (h2 : n ≤ 4000000000000) : wrap64 ((IntKind.u64.wrap k).tmod n) = wi k n := by
  have h0 := wi_lo k n h1
  have h3 := wi_hi k n h1
  rw [IntKind.wrap_u64, Int.tmod_eq_emod_of_nonneg (by omega)]
  exact IntWalk.wrap64_in _ ⟨by unfold wi at h0; omega, by unfold wi at h3; omega⟩

set_option maxHeartbeats 400000 in
theorem within_any (k n : Int) (w : World) (h1 : 1 ≤ n) (h2 : n ≤ 4000000000000) :
    Calls Try.prog 11 #[.int .i64 k, .int .i64 n] w fun e w' => e = .returned (.int .i64 (wi k n)) ∧ w = w' := by
  go_enter Try.func11, Try.ntmps11
  go_wp2
  go_ret
  exact ⟨ret_i (wi_tmod k n h1 h2), rfl⟩

end Go.Proofs.Ytdpphneebikdpaa
