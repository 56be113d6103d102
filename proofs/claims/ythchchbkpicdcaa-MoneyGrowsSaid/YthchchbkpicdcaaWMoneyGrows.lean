/- The walk of talkeep.MoneyGrows. -/
import Derived.Test.YthchchbkpicdcaaMoneyA
namespace Go.Proofs.Ythchchbkpicdcaa.moneyGrows
open Go.ChangeShapes Go.WideShapes Go.ChangeAt Go.RowKit
set_option linter.unusedVariables false

theorem share_begun (w : World) : Calls Try.prog 24 #[.int .i64 150, .int .i64 10000, .int .i64 3] w fun e w' => e = .returned (.tuple #[.int .i64 2, .int .i64 0]) ∧ ∃ k, w' = w.drewN k :=
  share_ok 150 10000 3 w (by omega) (by omega) (by omega) (by omega) (by omega) (by omega)

/-- the net part of a gross amount -/
theorem rnd_net (a r way : Int) (h1 : 0 ≤ a) (h3 : 0 ≤ r) : 0 ≤ rnd (a * 1000000) (1000000 + r) way ∧ rnd (a * 1000000) (1000000 + r) way ≤ a := by
  refine ⟨le_rnd _ _ _ _ (by omega) (by omega), rnd_le _ _ _ _ (by omega) ?_⟩
  rw [Int.add_mul]
  have := Int.mul_nonneg h3 h1
  omega

/-- what the walk needs of the numbers -/
theorem facts (A B R S Y : Int) (hA : 0 ≤ A) (hAB : A ≤ B) (hR : 0 ≤ R) (hR2 : R ≤ 500000) (hS : 0 ≤ S) (hS2 : S ≤ 500000) :
    rnd (A * R) 1000000 Y ≤ rnd (B * R) 1000000 Y ∧ rnd (A * R) 1000000 Y ≤ rnd (A * (R + S)) 1000000 Y ∧ 0 ≤ rnd (B * 1000000) (1000000 + R) Y ∧ rnd (B * 1000000) (1000000 + R) Y ≤ B := by
  refine ⟨rnd_mono _ _ _ _ (by omega) (Int.mul_le_mul_of_nonneg_right hAB hR), rnd_mono _ _ _ _ (by omega) (Int.mul_le_mul_of_nonneg_left (by omega) hA), ?_, ?_⟩
  · exact (rnd_net B R Y (by omega) hR).1
  · exact (rnd_net B R Y (by omega) hR).2

set_option maxHeartbeats 800000 in
theorem moneyGrows_walk (w : World) (a0 : Int) (w0 : (Lit.int .i64 a0).wf = true) (a1 : Int) (w1 : (Lit.int .i64 a1).wf = true) (a2 : Int) (w2 : (Lit.int .i64 a2).wf = true) (a3 : Int) (w3 : (Lit.int .i64 a3).wf = true) (a4 : Int) (w4 : (Lit.int .i64 a4).wf = true) :
    Calls Try.prog 12 #[.int .i64 a0, .int .i64 a1, .int .i64 a2, .int .i64 a3, .int .i64 a4] w fun e w' => e = .returned (.bool true) ∧ Below w.heap.size w w' := by
  clear w0 w1 w2 w3 w4
  have l0 := wi_lo a0 1000000000000 (by omega)
  have l1 := wi_hi a0 1000000000000 (by omega)
  have l2 := wi_lo a1 1000000000000 (by omega)
  have l3 := wi_hi a1 1000000000000 (by omega)
  have l4 := wi_lo a2 500000 (by omega)
  have l5 := wi_hi a2 500000 (by omega)
  have l6 := wi_lo a3 500000 (by omega)
  have l7 := wi_hi a3 500000 (by omega)
  have l8 := wi_lo a4 4 (by omega)
  have l9 := wi_hi a4 4 (by omega)
  rcases Int.lt_trichotomy (wi a0 1000000000000) (wi a1 1000000000000) with hab | hab | hab
  · obtain ⟨f1, f2, f3, f4⟩ := facts (wi a0 1000000000000) (wi a1 1000000000000) (wi a2 500000) (wi a3 500000) (wi a4 4) l0 (by omega) l4 (by omega) l6 (by omega)
    go_enter Try.func12, Try.ntmps12
    go_wp2_with (first | (go_at_call 24; (with_reducible refine (share_begun _).mono ?_); rintro e w' ⟨rfl, k, rfl⟩) | (go_at_call 18; refine (within_any _ _ _ (by omega) (by omega)).mono ?_; rintro e w' ⟨rfl, rfl⟩) | (go_at_call 24; refine (share_ok _ _ _ _ (by omega) (by omega) (by omega) (by omega) (by omega) (by omega)).mono ?_; rintro e w' ⟨rfl, k, rfl⟩) | (go_at_call 25; refine (mwithin_ok _ _ _ _ (by omega) (by omega) (by omega) (by omega) (by omega) (by omega) (by omega) (by omega)).mono ?_; rintro e w' ⟨rfl, k, rfl⟩))
    go_ret
    exact ⟨ret_b (by first | rfl | (simp; done) | (simp; omega)), bel_drewN _ _⟩
  · have hba := hab.symm
    clear hab
    obtain ⟨f1, f2, f3, f4⟩ := facts (wi a0 1000000000000) (wi a0 1000000000000) (wi a2 500000) (wi a3 500000) (wi a4 4) l0 (by omega) l4 (by omega) l6 (by omega)
    go_enter Try.func12, Try.ntmps12
    go_wp2_with (first | (go_at_call 24; (with_reducible refine (share_begun _).mono ?_); rintro e w' ⟨rfl, k, rfl⟩) | (go_at_call 18; refine (within_any _ _ _ (by omega) (by omega)).mono ?_; rintro e w' ⟨rfl, rfl⟩) | (go_at_call 24; refine (share_ok _ _ _ _ (by omega) (by omega) (by omega) (by omega) (by omega) (by omega)).mono ?_; rintro e w' ⟨rfl, k, rfl⟩) | (go_at_call 25; refine (mwithin_ok _ _ _ _ (by omega) (by omega) (by omega) (by omega) (by omega) (by omega) (by omega) (by omega)).mono ?_; rintro e w' ⟨rfl, k, rfl⟩))
    go_ret
    exact ⟨ret_b (by first | rfl | (simp; done) | (simp; omega)), bel_drewN _ _⟩
  · obtain ⟨f1, f2, f3, f4⟩ := facts (wi a1 1000000000000) (wi a0 1000000000000) (wi a2 500000) (wi a3 500000) (wi a4 4) l2 (by omega) l4 (by omega) l6 (by omega)
    go_enter Try.func12, Try.ntmps12
    go_wp2_with (first | (go_at_call 24; (with_reducible refine (share_begun _).mono ?_); rintro e w' ⟨rfl, k, rfl⟩) | (go_at_call 18; refine (within_any _ _ _ (by omega) (by omega)).mono ?_; rintro e w' ⟨rfl, rfl⟩) | (go_at_call 24; refine (share_ok _ _ _ _ (by omega) (by omega) (by omega) (by omega) (by omega) (by omega)).mono ?_; rintro e w' ⟨rfl, k, rfl⟩) | (go_at_call 25; refine (mwithin_ok _ _ _ _ (by omega) (by omega) (by omega) (by omega) (by omega) (by omega) (by omega) (by omega)).mono ?_; rintro e w' ⟨rfl, k, rfl⟩))
    go_ret
    exact ⟨ret_b (by first | rfl | (simp; done) | (simp; omega)), bel_drewN _ _⟩

end Go.Proofs.Ythchchbkpicdcaa.moneyGrows
