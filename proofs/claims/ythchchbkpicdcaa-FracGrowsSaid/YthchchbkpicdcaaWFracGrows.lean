/- The walk of talkeep.FracGrows. -/
import Derived.Test.YthchchbkpicdcaaPlainG
import Derived.Test.YthchchbkpicdcaaFracC
namespace Go.Proofs.Ythchchbkpicdcaa.fracGrows
open Go.ChangeShapes Go.WideShapes Go.ChangeAt Go.RowKit
set_option linter.unusedVariables false

theorem round_begun (w : World) : Calls Try.prog 15 #[.agg #[.int .i64 7, .int .i64 2], .int .i64 1] w fun e w' => e = .returned (.tuple #[.int .i64 4, .int .i64 0]) ∧ Mor w w' :=
  round_ok 7 2 1 w (by unfold okF; omega) (by omega) (by omega)

theorem sg_le {x y : Int} (h : x ≤ y) : sg x y ≤ 0 := by unfold sg; split <;> (try split) <;> omega
theorem sg_gt {x y : Int} (h : y < x) : sg x y = 1 := by unfold sg; rw [if_neg (by omega), if_pos h]

set_option maxHeartbeats 800000 in
theorem fracGrows_walk (w : World) (n : Int) (wn : (Lit.int .i64 n).wf = true) (d : Int) (wd : (Lit.int .i64 d).wf = true) (m : Int) (wm : (Lit.int .i64 m).wf = true) (c : Int) (wc : (Lit.int .i64 c).wf = true) (a : Int) (wa : (Lit.int .i64 a).wf = true) :
    Calls Try.prog 6 #[.agg #[.int .i64 n, .int .i64 d], .agg #[.int .i64 m, .int .i64 c], .int .i64 a] w fun e w' => e = .returned (.bool true) ∧ Below w.heap.size w w' := by
  clear wn wd wm wc wa
  have v1 := wi_lo a 4 (by omega)
  have v2 := wi_hi a 4 (by omega)
  by_cases h1 : okF n d
  · have HR := Lib.hid (fun w => round_ok n d (wi a 4) w h1 v1 (by omega))
    by_cases h2 : okF m c
    · have HS := Lib.hid (fun w => round_ok m c (wi a 4) w h2 v1 (by omega))
      have HC := Lib.hid (fun w => cmp_ok n d m c w h1 h2)
      by_cases hle : n * c ≤ m * d
      · have hs := sg_le hle
        have hr := rnd_frac_mono n d m c (wi a 4) h1.1 h2.1 hle
        clear h1 h2 hle
        generalize sg (n * c) (m * d) = s at *
        generalize rnd n d (wi a 4) = x at *
        generalize rnd m c (wi a 4) = y at *
        go_enter Try.func6, Try.ntmps6
        go_wp2_with (first | (go_at_call 15; (with_reducible refine (round_begun _).mono ?_); rintro e w1 ⟨rfl, bs, k, rfl⟩) | (go_at_call 18; refine (within_any _ _ _ (by omega) (by omega)).mono ?_; rintro e w1 ⟨rfl, rfl⟩) | (go_at_call 20; (with_reducible refine (HC.out _).mono ?_); rintro e w1 ⟨rfl, bs, k, rfl⟩) | (go_at_call 15; (with_reducible refine (HR.out _).mono ?_); rintro e w1 ⟨rfl, bs, k, rfl⟩) | (go_at_call 15; (with_reducible refine (HS.out _).mono ?_); rintro e w1 ⟨rfl, bs, k, rfl⟩))
        go_ret
        exact ⟨ret_b (by first | rfl | (simp; done) | (simp; omega)), (Mor.below (by repeat (first | exact Mor.refl _ | apply Mor.alloc | apply Mor.more | apply Mor.drewN | apply Mor.drew)))⟩
      · rw [sg_gt (show m * d < n * c by omega)] at HC
        clear h1 h2 hle
        generalize rnd n d (wi a 4) = x at *
        generalize rnd m c (wi a 4) = y at *
        go_enter Try.func6, Try.ntmps6
        go_wp2_with (first | (go_at_call 15; (with_reducible refine (round_begun _).mono ?_); rintro e w1 ⟨rfl, bs, k, rfl⟩) | (go_at_call 18; refine (within_any _ _ _ (by omega) (by omega)).mono ?_; rintro e w1 ⟨rfl, rfl⟩) | (go_at_call 20; (with_reducible refine (HC.out _).mono ?_); rintro e w1 ⟨rfl, bs, k, rfl⟩) | (go_at_call 15; (with_reducible refine (HR.out _).mono ?_); rintro e w1 ⟨rfl, bs, k, rfl⟩) | (go_at_call 15; (with_reducible refine (HS.out _).mono ?_); rintro e w1 ⟨rfl, bs, k, rfl⟩))
        go_ret
        exact ⟨ret_b (by first | rfl | (simp; done) | (simp; omega)), (Mor.below (by repeat (first | exact Mor.refl _ | apply Mor.alloc | apply Mor.more | apply Mor.drewN | apply Mor.drew)))⟩
    · have HS := Lib.hid (fun w => round_no m c (wi a 4) w h2)
      have HC := Lib.hid (fun w => cmp_no n d m c _ w (.inr ⟨h1, h2, rfl⟩))
      have l := chk_lo m c
      clear h1 h2
      generalize rnd n d (wi a 4) = x at *
      go_enter Try.func6, Try.ntmps6
      go_wp2_with (first | (go_at_call 15; (with_reducible refine (round_begun _).mono ?_); rintro e w1 ⟨rfl, bs, k, rfl⟩) | (go_at_call 18; refine (within_any _ _ _ (by omega) (by omega)).mono ?_; rintro e w1 ⟨rfl, rfl⟩) | (go_at_call 20; (with_reducible refine (HC.out _).mono ?_); rintro e w1 ⟨rfl, bs, k, rfl⟩) | (go_at_call 15; (with_reducible refine (HR.out _).mono ?_); rintro e w1 ⟨rfl, bs, k, rfl⟩) | (go_at_call 15; (with_reducible refine (HS.out _).mono ?_); rintro e w1 ⟨rfl, bs, k, rfl⟩))
      go_ret
      exact ⟨ret_b (by first | rfl | (simp; done) | (simp; omega)), (Mor.below (by repeat (first | exact Mor.refl _ | apply Mor.alloc | apply Mor.more | apply Mor.drewN | apply Mor.drew)))⟩
  · have HR := Lib.hid (fun w => round_no n d (wi a 4) w h1)
    have HC := Lib.hid (fun w => cmp_no n d m c _ w (.inl ⟨h1, rfl⟩))
    have l := chk_lo n d
    by_cases h2 : okF m c
    · have HS := Lib.hid (fun w => round_ok m c (wi a 4) w h2 v1 (by omega))
      clear h1 h2
      generalize rnd m c (wi a 4) = y at *
      go_enter Try.func6, Try.ntmps6
      go_wp2_with (first | (go_at_call 15; (with_reducible refine (round_begun _).mono ?_); rintro e w1 ⟨rfl, bs, k, rfl⟩) | (go_at_call 18; refine (within_any _ _ _ (by omega) (by omega)).mono ?_; rintro e w1 ⟨rfl, rfl⟩) | (go_at_call 20; (with_reducible refine (HC.out _).mono ?_); rintro e w1 ⟨rfl, bs, k, rfl⟩) | (go_at_call 15; (with_reducible refine (HR.out _).mono ?_); rintro e w1 ⟨rfl, bs, k, rfl⟩) | (go_at_call 15; (with_reducible refine (HS.out _).mono ?_); rintro e w1 ⟨rfl, bs, k, rfl⟩))
      go_ret
      exact ⟨ret_b (by first | rfl | (simp; done) | (simp; omega)), (Mor.below (by repeat (first | exact Mor.refl _ | apply Mor.alloc | apply Mor.more | apply Mor.drewN | apply Mor.drew)))⟩
    · have HS := Lib.hid (fun w => round_no m c (wi a 4) w h2)
      have l2 := chk_lo m c
      clear h1 h2
      go_enter Try.func6, Try.ntmps6
      go_wp2_with (first | (go_at_call 15; (with_reducible refine (round_begun _).mono ?_); rintro e w1 ⟨rfl, bs, k, rfl⟩) | (go_at_call 18; refine (within_any _ _ _ (by omega) (by omega)).mono ?_; rintro e w1 ⟨rfl, rfl⟩) | (go_at_call 20; (with_reducible refine (HC.out _).mono ?_); rintro e w1 ⟨rfl, bs, k, rfl⟩) | (go_at_call 15; (with_reducible refine (HR.out _).mono ?_); rintro e w1 ⟨rfl, bs, k, rfl⟩) | (go_at_call 15; (with_reducible refine (HS.out _).mono ?_); rintro e w1 ⟨rfl, bs, k, rfl⟩))
      go_ret
      exact ⟨ret_b (by first | rfl | (simp; done) | (simp; omega)), (Mor.below (by repeat (first | exact Mor.refl _ | apply Mor.alloc | apply Mor.more | apply Mor.drewN | apply Mor.drew)))⟩

end Go.Proofs.Ythchchbkpicdcaa.fracGrows
