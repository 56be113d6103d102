/- The walk of talkeep.FracNorm. -/
import Derived.Test.YthchchbkpicdcaaFracB
namespace Go.Proofs.Ythchchbkpicdcaa.fracNorm
open Go.ChangeShapes Go.WideShapes Go.ChangeAt Go.RowKit
set_option linter.unusedVariables false

theorem norm_begun (w : World) : Calls Try.prog 19 #[.agg #[.int .i64 (-6), .int .i64 4]] w fun e w' => e = .returned (.tuple #[.agg #[.int .i64 (-3), .int .i64 2], .int .i64 0]) ∧ Mor w w' :=
  norm_ok (-6) 4 w (by unfold okF; omega)

theorem okF_lowest {n d : Int} (h : okF n d) : okF (fn (fq n d)) (fd (fq n d)) := by
  obtain ⟨h1, h2, h3, h4⟩ := h
  have := fn_bd n d 1000000000000 h1 h3 h4
  have := fd_le n d h1
  have := fd_pos (fq n d)
  unfold okF; omega

theorem lowest_dvd {n d : Int} (h : okF n d) : d % fd (fq n d) = 0 := Int.emod_eq_zero_of_dvd (fd_dvd n d h.1)
theorem sg_zero {x y : Int} (h : x = y) : sg x y = 0 := by unfold sg; rw [if_neg (by omega), if_neg (by omega)]
theorem sg_nz {x y : Int} (h : x ≠ y) : sg x y ≠ 0 := by unfold sg; split <;> (try split) <;> omega

set_option maxHeartbeats 800000 in
theorem fracNorm_walk (w : World) (n : Int) (wn : (Lit.int .i64 n).wf = true) (d : Int) (wd : (Lit.int .i64 d).wf = true) (m : Int) (wm : (Lit.int .i64 m).wf = true) (c : Int) (wc : (Lit.int .i64 c).wf = true) :
    Calls Try.prog 5 #[.agg #[.int .i64 n, .int .i64 d], .agg #[.int .i64 m, .int .i64 c]] w fun e w' => e = .returned (.bool true) ∧ Below w.heap.size w w' := by
  clear wn wd wm wc
  by_cases h1 : okF n d
  · have HN := Lib.hid (fun w => norm_ok n d w h1)
    have HX := Lib.hid (fun w => norm_ok (fn (fq n d)) (fd (fq n d)) w (okF_lowest h1))
    rw [fq_self] at HX
    have HC := Lib.hid (fun w => cmp_ok n d (fn (fq n d)) (fd (fq n d)) w h1 (okF_lowest h1))
    rw [sg_zero (fq_cross n d h1.1).symm] at HC
    have hm := lowest_dvd h1
    have b1 := fd_pos (fq n d)
    have b2 := h1.1
    by_cases h2 : okF m c
    · have HG := Lib.hid (fun w => norm_ok m c w h2)
      have HD := Lib.hid (fun w => cmp_ok n d m c w h1 h2)
      have hiff := fq_eq_iff n d m c h1.1 h2.1
      by_cases he : fq n d = fq m c
      · rw [sg_zero (hiff.1 he)] at HD
        rw [← he] at HG
        clear h1 h2 hiff he
        generalize fn (fq n d) = x at *
        generalize fd (fq n d) = y at *
        go_enter Try.func5, Try.ntmps5
        go_wp2_with (first | (go_at_call 19; (with_reducible refine (norm_begun _).mono ?_); rintro e w1 ⟨rfl, bs, k, rfl⟩) | (go_at_call 19; (with_reducible refine (HN.out _).mono ?_); rintro e w1 ⟨rfl, bs, k, rfl⟩) | (go_at_call 19; (with_reducible refine (HX.out _).mono ?_); rintro e w1 ⟨rfl, bs, k, rfl⟩) | (go_at_call 19; (with_reducible refine (HG.out _).mono ?_); rintro e w1 ⟨rfl, bs, k, rfl⟩) | (go_at_call 20; (with_reducible refine (HC.out _).mono ?_); rintro e w1 ⟨rfl, bs, k, rfl⟩) | (go_at_call 20; (with_reducible refine (HD.out _).mono ?_); rintro e w1 ⟨rfl, bs, k, rfl⟩))
        go_ret
        exact ⟨ret_b (by first | rfl | (simp; done) | (simp; omega)), (Mor.below (by repeat (first | exact Mor.refl _ | apply Mor.alloc | apply Mor.more | apply Mor.drewN | apply Mor.drew)))⟩
      · have hv := sg_nz (fun e => he (hiff.2 e))
        have hd : ¬ (fn (fq n d) = fn (fq m c) ∧ fd (fq n d) = fd (fq m c)) := fun ⟨e1, e2⟩ => he (q_eq e1 e2)
        clear h1 h2 hiff he
        generalize fn (fq n d) = x at *
        generalize fd (fq n d) = y at *
        generalize fn (fq m c) = p at *
        generalize fd (fq m c) = q at *
        generalize sg (n * c) (m * d) = v at *
        by_cases hx : x = p
        · subst hx
          have hy : ¬ y = q := fun e => hd ⟨rfl, e⟩
          clear hd
          go_enter Try.func5, Try.ntmps5
          go_wp2_with (first | (go_at_call 19; (with_reducible refine (norm_begun _).mono ?_); rintro e w1 ⟨rfl, bs, k, rfl⟩) | (go_at_call 19; (with_reducible refine (HN.out _).mono ?_); rintro e w1 ⟨rfl, bs, k, rfl⟩) | (go_at_call 19; (with_reducible refine (HX.out _).mono ?_); rintro e w1 ⟨rfl, bs, k, rfl⟩) | (go_at_call 19; (with_reducible refine (HG.out _).mono ?_); rintro e w1 ⟨rfl, bs, k, rfl⟩) | (go_at_call 20; (with_reducible refine (HC.out _).mono ?_); rintro e w1 ⟨rfl, bs, k, rfl⟩) | (go_at_call 20; (with_reducible refine (HD.out _).mono ?_); rintro e w1 ⟨rfl, bs, k, rfl⟩))
          go_ret
          exact ⟨ret_b (by first | rfl | (simp; done) | (simp; omega)), (Mor.below (by repeat (first | exact Mor.refl _ | apply Mor.alloc | apply Mor.more | apply Mor.drewN | apply Mor.drew)))⟩
        · clear hd
          go_enter Try.func5, Try.ntmps5
          go_wp2_with (first | (go_at_call 19; (with_reducible refine (norm_begun _).mono ?_); rintro e w1 ⟨rfl, bs, k, rfl⟩) | (go_at_call 19; (with_reducible refine (HN.out _).mono ?_); rintro e w1 ⟨rfl, bs, k, rfl⟩) | (go_at_call 19; (with_reducible refine (HX.out _).mono ?_); rintro e w1 ⟨rfl, bs, k, rfl⟩) | (go_at_call 19; (with_reducible refine (HG.out _).mono ?_); rintro e w1 ⟨rfl, bs, k, rfl⟩) | (go_at_call 20; (with_reducible refine (HC.out _).mono ?_); rintro e w1 ⟨rfl, bs, k, rfl⟩) | (go_at_call 20; (with_reducible refine (HD.out _).mono ?_); rintro e w1 ⟨rfl, bs, k, rfl⟩))
          go_ret
          exact ⟨ret_b (by first | rfl | (simp; done) | (simp; omega)), (Mor.below (by repeat (first | exact Mor.refl _ | apply Mor.alloc | apply Mor.more | apply Mor.drewN | apply Mor.drew)))⟩
    · have l := chk_lo m c
      have HG := Lib.hid (fun w => norm_no m c w h2)
      clear h1 h2
      generalize fn (fq n d) = x at *
      generalize fd (fq n d) = y at *
      go_enter Try.func5, Try.ntmps5
      go_wp2_with (first | (go_at_call 19; (with_reducible refine (norm_begun _).mono ?_); rintro e w1 ⟨rfl, bs, k, rfl⟩) | (go_at_call 19; (with_reducible refine (HN.out _).mono ?_); rintro e w1 ⟨rfl, bs, k, rfl⟩) | (go_at_call 19; (with_reducible refine (HX.out _).mono ?_); rintro e w1 ⟨rfl, bs, k, rfl⟩) | (go_at_call 19; (with_reducible refine (HG.out _).mono ?_); rintro e w1 ⟨rfl, bs, k, rfl⟩) | (go_at_call 20; (with_reducible refine (HC.out _).mono ?_); rintro e w1 ⟨rfl, bs, k, rfl⟩))
      go_ret
      exact ⟨ret_b (by first | rfl | (simp; done) | (simp; omega)), (Mor.below (by repeat (first | exact Mor.refl _ | apply Mor.alloc | apply Mor.more | apply Mor.drewN | apply Mor.drew)))⟩
  · have l := chk_lo n d
    have HN := Lib.hid (fun w => norm_no n d w h1)
    clear h1
    go_enter Try.func5, Try.ntmps5
    go_wp2_with (first | (go_at_call 19; (with_reducible refine (norm_begun _).mono ?_); rintro e w1 ⟨rfl, bs, k, rfl⟩) | (go_at_call 19; (with_reducible refine (HN.out _).mono ?_); rintro e w1 ⟨rfl, bs, k, rfl⟩))
    go_ret
    exact ⟨ret_b (by first | rfl | (simp; done) | (simp; omega)), (Mor.below (by repeat (first | exact Mor.refl _ | apply Mor.alloc | apply Mor.more | apply Mor.drewN | apply Mor.drew)))⟩

end Go.Proofs.Ythchchbkpicdcaa.fracNorm
