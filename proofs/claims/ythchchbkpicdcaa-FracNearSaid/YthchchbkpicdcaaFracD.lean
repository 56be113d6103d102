/- The walk of frac.Add where the sum is too great. -/
import Derived.Test.YthchchbkpicdcaaFracC
namespace Go.Proofs.Ythchchbkpicdcaa
open Go.ChangeShapes Go.WideShapes Go.ChangeAt Go.RowKit
set_option linter.unusedVariables false

set_option maxHeartbeats 800000 in
theorem add_large (n d m c : Int) (w : World) (h1 : okF n d) (h2 : okF m c) (hf : ¬ fitQ (fq n d + fq m c)) :
    Calls Try.prog 21 #[.agg #[.int .i64 n, .int .i64 d], .agg #[.int .i64 m, .int .i64 c]] w fun e w' => e = .returned (.tuple #[.agg #[.int .i64 0, .int .i64 0], .int .i64 2]) ∧ Mor w w' := by
  have H1 := Lib.hid (fun w => two_ok n d m c w h1 h2)
  obtain ⟨x1, x2, x3, x4⟩ := two_terms n d m c h1 h2
  have hs : fq (n * c + m * d) (d * c) = fq n d + fq m c := (fq_add n d m c h1.1 h2.1).symm
  have H2 := Lib.hid (fun w => told_no (n * c + m * d) (d * c) w (by omega) (by omega) (by omega) (by omega) (by rw [hs]; exact hf))
  have b1 := prod_bd n c 1000000000000 1000000 h1.2.2.1 h1.2.2.2 (by have := h2.1; omega) h2.2.1 (by omega)
  have b2 := prod_bd m d 1000000000000 1000000 h2.2.2.1 h2.2.2.2 (by have := h1.1; omega) h1.2.1 (by omega)
  obtain ⟨b3, b4⟩ := b1
  obtain ⟨b5, b6⟩ := b2
  clear h1 h2 hf hs
  go_enter Try.func21, Try.ntmps21
  go_wp2_with (first | (go_at_call 32; (with_reducible refine (H1.out _).mono ?_); rintro e w1 ⟨rfl, bs, k, rfl⟩) | (go_at_call 33; (with_reducible refine (H2.out _).mono ?_); rintro e w1 ⟨rfl, bs, k, rfl⟩))
  go_returns
  exact ⟨rfl, (by repeat (first | exact Mor.refl _ | apply Mor.alloc | apply Mor.more | apply Mor.drewN | apply Mor.drew))⟩

end Go.Proofs.Ythchchbkpicdcaa
