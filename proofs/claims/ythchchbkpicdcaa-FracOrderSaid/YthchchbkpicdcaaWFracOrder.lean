/- The walk of talkeep.FracOrder. -/
import Derived.Test.YthchchbkpicdcaaPlainG
import Derived.Test.YthchchbkpicdcaaFracD
namespace Go.Proofs.Ythchchbkpicdcaa.fracOrder
open Go.ChangeShapes Go.WideShapes Go.ChangeAt Go.RowKit
set_option linter.unusedVariables false

theorem cmp_begun (w : World) : Calls Try.prog 20 #[.agg #[.int .i64 1, .int .i64 3], .agg #[.int .i64 1, .int .i64 2]] w fun e w' => e = .returned (.tuple #[.int .i64 (-1), .int .i64 0]) ∧ Mor w w' :=
  cmp_ok 1 3 1 2 w (by unfold okF; omega) (by unfold okF; omega)

/-- whatever the two: some outcome, an error only if one of them may not be -/
theorem cmp_gen (n d m c : Int) : ∃ V E : Int, 0 ≤ E ∧ ∀ w : World, Calls Try.prog 20 #[.agg #[.int .i64 n, .int .i64 d], .agg #[.int .i64 m, .int .i64 c]] w fun e w' => e = .returned (.tuple #[.int .i64 V, .int .i64 E]) ∧ Mor w w' := by
  by_cases h : okF n d ∧ okF m c
  · exact ⟨_, 0, by omega, fun w => cmp_ok n d m c w h.1 h.2⟩
  · obtain ⟨E, hE⟩ := twoE_of n d m c h
    exact ⟨0, E, by have := twoE_lo hE; omega, fun w => cmp_no n d m c E w hE⟩

theorem sg_turn (x y : Int) : sg y x = -sg x y := by unfold sg; split <;> split <;> (try split) <;> omega
theorem sg_iff (x y x' y' : Int) (h1 : x < y ↔ x' < y') (h2 : y < x ↔ y' < x') : sg x y = sg x' y' := by
  unfold sg; simp only [h1, h2]
theorem sg_le {x y : Int} : sg x y ≤ 0 ↔ x ≤ y := by unfold sg; split <;> (try split) <;> omega

/-- the order of three fractions goes on -/
theorem order (n d m c i j : Int) (h1 : okF n d) (h2 : okF m c) (h3 : okF i j) : sg (n * c) (m * d) ≤ 0 → sg (m * j) (i * c) ≤ 0 → sg (n * j) (i * d) ≤ 0 := by
  rw [sg_le, sg_le, sg_le]
  intro a b
  have a' : ¬ fq m c < fq n d := by rw [← fq_lt m c n d h2.1 h1.1]; omega
  have b' : ¬ fq i j < fq m c := by rw [← fq_lt i j m c h3.1 h2.1]; omega
  have : ¬ fq i j < fq n d := by rw [Rat.not_lt] at *; exact Rat.le_trans a' b'
  rw [← fq_lt i j n d h3.1 h1.1] at this
  omega
/-- and does not change when both have the same more -/
theorem order_add (n d m c : Int) (r : Rat) (h1 : okF n d) (h2 : okF m c) : sg (fn (fq n d + r) * fd (fq m c + r)) (fn (fq m c + r) * fd (fq n d + r)) = sg (n * c) (m * d) :=
  sg_iff _ _ _ _ (by rw [q_lt, Rat.add_lt_add_right, fq_lt n d m c h1.1 h2.1]) (by rw [q_lt, Rat.add_lt_add_right, fq_lt m c n d h2.1 h1.1])

theorem okF_q {q : Rat} (h : fitQ q) : okF (fn q) (fd q) := ⟨fd_pos q, h.2.2, h.1, h.2.1⟩

set_option maxHeartbeats 1600000 in
theorem all_ok (n d m c i j : Int) (w : World) (h1 : okF n d) (h2 : okF m c) (h3 : okF i j) :
    Calls Try.prog 7 #[.agg #[.int .i64 n, .int .i64 d], .agg #[.int .i64 m, .int .i64 c], .agg #[.int .i64 i, .int .i64 j]] w fun e w' => e = .returned (.bool true) ∧ Below w.heap.size w w' := by
  have C1 := Lib.hid (fun w => cmp_ok n d m c w h1 h2)
  have C2 := Lib.hid (fun w => cmp_ok m c n d w h2 h1)
  have C3 := Lib.hid (fun w => cmp_ok m c i j w h2 h3)
  have C4 := Lib.hid (fun w => cmp_ok n d i j w h1 h3)
  have ho := order n d m c i j h1 h2 h3
  have ha := order_add n d m c (fq i j) h1 h2
  rw [sg_turn (n * c)] at C2
  by_cases f1 : fitQ (fq n d + fq i j)
  · have A1 := Lib.hid (fun w => add_ok n d i j _ w h1 h3 rfl f1)
    by_cases f2 : fitQ (fq m c + fq i j)
    · have A2 := Lib.hid (fun w => add_ok m c i j _ w h2 h3 rfl f2)
      have C5 := Lib.hid (fun w => cmp_ok _ _ _ _ w (okF_q f1) (okF_q f2))
      rw [ha] at C5
      clear ha h1 h2 h3 f1 f2
      generalize fn (fq n d + fq i j) = an at *
      generalize fd (fq n d + fq i j) = ad at *
      generalize fn (fq m c + fq i j) = bn at *
      generalize fd (fq m c + fq i j) = bd at *
      obtain ⟨x, hx⟩ : ∃ x, sg (n * c) (m * d) = x := ⟨_, rfl⟩
      obtain ⟨z, hz⟩ : ∃ z, sg (m * j) (i * c) = z := ⟨_, rfl⟩
      obtain ⟨v, hv⟩ : ∃ v, sg (n * j) (i * d) = v := ⟨_, rfl⟩
      have b0 : -1 ≤ x ∧ x ≤ 1 := by rw [← hx]; unfold sg; split <;> (try split) <;> omega
      rw [hx] at C1 C2 C5 ho
      rw [hz] at C3 ho
      rw [hv] at C4 ho
      clear hx hz hv
      obtain ⟨b1, b2⟩ := b0
      by_cases hx : x ≤ 0
      · by_cases hz : z ≤ 0
        · have hv := ho hx hz
          clear ho
          go_enter Try.func7, Try.ntmps7
          go_wp2_with (first | (go_at_call 20; (with_reducible refine (cmp_begun _).mono ?_); rintro e w1 ⟨rfl, bs, k, rfl⟩) | (go_at_call 20; (with_reducible refine (C1.out _).mono ?_); rintro e w1 ⟨rfl, bs, k, rfl⟩) | (go_at_call 20; (with_reducible refine (C2.out _).mono ?_); rintro e w1 ⟨rfl, bs, k, rfl⟩) | (go_at_call 20; (with_reducible refine (C3.out _).mono ?_); rintro e w1 ⟨rfl, bs, k, rfl⟩) | (go_at_call 20; (with_reducible refine (C4.out _).mono ?_); rintro e w1 ⟨rfl, bs, k, rfl⟩) | (go_at_call 20; (with_reducible refine (C5.out _).mono ?_); rintro e w1 ⟨rfl, bs, k, rfl⟩) | (go_at_call 21; (with_reducible refine (A1.out _).mono ?_); rintro e w1 ⟨rfl, bs, k, rfl⟩) | (go_at_call 21; (with_reducible refine (A2.out _).mono ?_); rintro e w1 ⟨rfl, bs, k, rfl⟩))
          go_ret
          exact ⟨ret_b (by first | rfl | (simp; done) | (simp; omega)), (Mor.below (by repeat (first | exact Mor.refl _ | apply Mor.alloc | apply Mor.more | apply Mor.drewN | apply Mor.drew)))⟩
        · clear ho
          go_enter Try.func7, Try.ntmps7
          go_wp2_with (first | (go_at_call 20; (with_reducible refine (cmp_begun _).mono ?_); rintro e w1 ⟨rfl, bs, k, rfl⟩) | (go_at_call 20; (with_reducible refine (C1.out _).mono ?_); rintro e w1 ⟨rfl, bs, k, rfl⟩) | (go_at_call 20; (with_reducible refine (C2.out _).mono ?_); rintro e w1 ⟨rfl, bs, k, rfl⟩) | (go_at_call 20; (with_reducible refine (C3.out _).mono ?_); rintro e w1 ⟨rfl, bs, k, rfl⟩) | (go_at_call 20; (with_reducible refine (C4.out _).mono ?_); rintro e w1 ⟨rfl, bs, k, rfl⟩) | (go_at_call 20; (with_reducible refine (C5.out _).mono ?_); rintro e w1 ⟨rfl, bs, k, rfl⟩) | (go_at_call 21; (with_reducible refine (A1.out _).mono ?_); rintro e w1 ⟨rfl, bs, k, rfl⟩) | (go_at_call 21; (with_reducible refine (A2.out _).mono ?_); rintro e w1 ⟨rfl, bs, k, rfl⟩))
          go_ret
          exact ⟨ret_b (by first | rfl | (simp; done) | (simp; omega)), (Mor.below (by repeat (first | exact Mor.refl _ | apply Mor.alloc | apply Mor.more | apply Mor.drewN | apply Mor.drew)))⟩
      · clear ho
        go_enter Try.func7, Try.ntmps7
        go_wp2_with (first | (go_at_call 20; (with_reducible refine (cmp_begun _).mono ?_); rintro e w1 ⟨rfl, bs, k, rfl⟩) | (go_at_call 20; (with_reducible refine (C1.out _).mono ?_); rintro e w1 ⟨rfl, bs, k, rfl⟩) | (go_at_call 20; (with_reducible refine (C2.out _).mono ?_); rintro e w1 ⟨rfl, bs, k, rfl⟩) | (go_at_call 20; (with_reducible refine (C3.out _).mono ?_); rintro e w1 ⟨rfl, bs, k, rfl⟩) | (go_at_call 20; (with_reducible refine (C4.out _).mono ?_); rintro e w1 ⟨rfl, bs, k, rfl⟩) | (go_at_call 20; (with_reducible refine (C5.out _).mono ?_); rintro e w1 ⟨rfl, bs, k, rfl⟩) | (go_at_call 21; (with_reducible refine (A1.out _).mono ?_); rintro e w1 ⟨rfl, bs, k, rfl⟩) | (go_at_call 21; (with_reducible refine (A2.out _).mono ?_); rintro e w1 ⟨rfl, bs, k, rfl⟩))
        go_ret
        exact ⟨ret_b (by first | rfl | (simp; done) | (simp; omega)), (Mor.below (by repeat (first | exact Mor.refl _ | apply Mor.alloc | apply Mor.more | apply Mor.drewN | apply Mor.drew)))⟩
    · have A2 := Lib.hid (fun w => add_large m c i j w h2 h3 f2)
      obtain ⟨x, hx⟩ : ∃ x, sg (n * c) (m * d) = x := ⟨_, rfl⟩
      obtain ⟨z, hz⟩ : ∃ z, sg (m * j) (i * c) = z := ⟨_, rfl⟩
      obtain ⟨v, hv⟩ : ∃ v, sg (n * j) (i * d) = v := ⟨_, rfl⟩
      have b0 : -1 ≤ x ∧ x ≤ 1 := by rw [← hx]; unfold sg; split <;> (try split) <;> omega
      rw [hx] at C1 C2 ho
      rw [hz] at C3 ho
      rw [hv] at C4 ho
      clear hx hz hv ha h1 h2 h3 f1 f2
      obtain ⟨b1, b2⟩ := b0
      by_cases hx : x ≤ 0
      · by_cases hz : z ≤ 0
        · have hv := ho hx hz
          clear ho
          go_enter Try.func7, Try.ntmps7
          go_wp2_with (first | (go_at_call 20; (with_reducible refine (cmp_begun _).mono ?_); rintro e w1 ⟨rfl, bs, k, rfl⟩) | (go_at_call 20; (with_reducible refine (C1.out _).mono ?_); rintro e w1 ⟨rfl, bs, k, rfl⟩) | (go_at_call 20; (with_reducible refine (C2.out _).mono ?_); rintro e w1 ⟨rfl, bs, k, rfl⟩) | (go_at_call 20; (with_reducible refine (C3.out _).mono ?_); rintro e w1 ⟨rfl, bs, k, rfl⟩) | (go_at_call 20; (with_reducible refine (C4.out _).mono ?_); rintro e w1 ⟨rfl, bs, k, rfl⟩) | (go_at_call 21; (with_reducible refine (A1.out _).mono ?_); rintro e w1 ⟨rfl, bs, k, rfl⟩) | (go_at_call 21; (with_reducible refine (A2.out _).mono ?_); rintro e w1 ⟨rfl, bs, k, rfl⟩))
          go_ret
          exact ⟨ret_b (by first | rfl | (simp; done) | (simp; omega)), (Mor.below (by repeat (first | exact Mor.refl _ | apply Mor.alloc | apply Mor.more | apply Mor.drewN | apply Mor.drew)))⟩
        · clear ho
          go_enter Try.func7, Try.ntmps7
          go_wp2_with (first | (go_at_call 20; (with_reducible refine (cmp_begun _).mono ?_); rintro e w1 ⟨rfl, bs, k, rfl⟩) | (go_at_call 20; (with_reducible refine (C1.out _).mono ?_); rintro e w1 ⟨rfl, bs, k, rfl⟩) | (go_at_call 20; (with_reducible refine (C2.out _).mono ?_); rintro e w1 ⟨rfl, bs, k, rfl⟩) | (go_at_call 20; (with_reducible refine (C3.out _).mono ?_); rintro e w1 ⟨rfl, bs, k, rfl⟩) | (go_at_call 20; (with_reducible refine (C4.out _).mono ?_); rintro e w1 ⟨rfl, bs, k, rfl⟩) | (go_at_call 21; (with_reducible refine (A1.out _).mono ?_); rintro e w1 ⟨rfl, bs, k, rfl⟩) | (go_at_call 21; (with_reducible refine (A2.out _).mono ?_); rintro e w1 ⟨rfl, bs, k, rfl⟩))
          go_ret
          exact ⟨ret_b (by first | rfl | (simp; done) | (simp; omega)), (Mor.below (by repeat (first | exact Mor.refl _ | apply Mor.alloc | apply Mor.more | apply Mor.drewN | apply Mor.drew)))⟩
      · clear ho
        go_enter Try.func7, Try.ntmps7
        go_wp2_with (first | (go_at_call 20; (with_reducible refine (cmp_begun _).mono ?_); rintro e w1 ⟨rfl, bs, k, rfl⟩) | (go_at_call 20; (with_reducible refine (C1.out _).mono ?_); rintro e w1 ⟨rfl, bs, k, rfl⟩) | (go_at_call 20; (with_reducible refine (C2.out _).mono ?_); rintro e w1 ⟨rfl, bs, k, rfl⟩) | (go_at_call 20; (with_reducible refine (C3.out _).mono ?_); rintro e w1 ⟨rfl, bs, k, rfl⟩) | (go_at_call 20; (with_reducible refine (C4.out _).mono ?_); rintro e w1 ⟨rfl, bs, k, rfl⟩) | (go_at_call 21; (with_reducible refine (A1.out _).mono ?_); rintro e w1 ⟨rfl, bs, k, rfl⟩) | (go_at_call 21; (with_reducible refine (A2.out _).mono ?_); rintro e w1 ⟨rfl, bs, k, rfl⟩))
        go_ret
        exact ⟨ret_b (by first | rfl | (simp; done) | (simp; omega)), (Mor.below (by repeat (first | exact Mor.refl _ | apply Mor.alloc | apply Mor.more | apply Mor.drewN | apply Mor.drew)))⟩
  · have A1 := Lib.hid (fun w => add_large n d i j w h1 h3 f1)
    by_cases f2 : fitQ (fq m c + fq i j)
    · have A2 := Lib.hid (fun w => add_ok m c i j _ w h2 h3 rfl f2)
      obtain ⟨x, hx⟩ : ∃ x, sg (n * c) (m * d) = x := ⟨_, rfl⟩
      obtain ⟨z, hz⟩ : ∃ z, sg (m * j) (i * c) = z := ⟨_, rfl⟩
      obtain ⟨v, hv⟩ : ∃ v, sg (n * j) (i * d) = v := ⟨_, rfl⟩
      have b0 : -1 ≤ x ∧ x ≤ 1 := by rw [← hx]; unfold sg; split <;> (try split) <;> omega
      rw [hx] at C1 C2 ho
      rw [hz] at C3 ho
      rw [hv] at C4 ho
      clear hx hz hv ha h1 h2 h3 f1 f2
      obtain ⟨b1, b2⟩ := b0
      by_cases hx : x ≤ 0
      · by_cases hz : z ≤ 0
        · have hv := ho hx hz
          clear ho
          go_enter Try.func7, Try.ntmps7
          go_wp2_with (first | (go_at_call 20; (with_reducible refine (cmp_begun _).mono ?_); rintro e w1 ⟨rfl, bs, k, rfl⟩) | (go_at_call 20; (with_reducible refine (C1.out _).mono ?_); rintro e w1 ⟨rfl, bs, k, rfl⟩) | (go_at_call 20; (with_reducible refine (C2.out _).mono ?_); rintro e w1 ⟨rfl, bs, k, rfl⟩) | (go_at_call 20; (with_reducible refine (C3.out _).mono ?_); rintro e w1 ⟨rfl, bs, k, rfl⟩) | (go_at_call 20; (with_reducible refine (C4.out _).mono ?_); rintro e w1 ⟨rfl, bs, k, rfl⟩) | (go_at_call 21; (with_reducible refine (A1.out _).mono ?_); rintro e w1 ⟨rfl, bs, k, rfl⟩) | (go_at_call 21; (with_reducible refine (A2.out _).mono ?_); rintro e w1 ⟨rfl, bs, k, rfl⟩))
          go_ret
          exact ⟨ret_b (by first | rfl | (simp; done) | (simp; omega)), (Mor.below (by repeat (first | exact Mor.refl _ | apply Mor.alloc | apply Mor.more | apply Mor.drewN | apply Mor.drew)))⟩
        · clear ho
          go_enter Try.func7, Try.ntmps7
          go_wp2_with (first | (go_at_call 20; (with_reducible refine (cmp_begun _).mono ?_); rintro e w1 ⟨rfl, bs, k, rfl⟩) | (go_at_call 20; (with_reducible refine (C1.out _).mono ?_); rintro e w1 ⟨rfl, bs, k, rfl⟩) | (go_at_call 20; (with_reducible refine (C2.out _).mono ?_); rintro e w1 ⟨rfl, bs, k, rfl⟩) | (go_at_call 20; (with_reducible refine (C3.out _).mono ?_); rintro e w1 ⟨rfl, bs, k, rfl⟩) | (go_at_call 20; (with_reducible refine (C4.out _).mono ?_); rintro e w1 ⟨rfl, bs, k, rfl⟩) | (go_at_call 21; (with_reducible refine (A1.out _).mono ?_); rintro e w1 ⟨rfl, bs, k, rfl⟩) | (go_at_call 21; (with_reducible refine (A2.out _).mono ?_); rintro e w1 ⟨rfl, bs, k, rfl⟩))
          go_ret
          exact ⟨ret_b (by first | rfl | (simp; done) | (simp; omega)), (Mor.below (by repeat (first | exact Mor.refl _ | apply Mor.alloc | apply Mor.more | apply Mor.drewN | apply Mor.drew)))⟩
      · clear ho
        go_enter Try.func7, Try.ntmps7
        go_wp2_with (first | (go_at_call 20; (with_reducible refine (cmp_begun _).mono ?_); rintro e w1 ⟨rfl, bs, k, rfl⟩) | (go_at_call 20; (with_reducible refine (C1.out _).mono ?_); rintro e w1 ⟨rfl, bs, k, rfl⟩) | (go_at_call 20; (with_reducible refine (C2.out _).mono ?_); rintro e w1 ⟨rfl, bs, k, rfl⟩) | (go_at_call 20; (with_reducible refine (C3.out _).mono ?_); rintro e w1 ⟨rfl, bs, k, rfl⟩) | (go_at_call 20; (with_reducible refine (C4.out _).mono ?_); rintro e w1 ⟨rfl, bs, k, rfl⟩) | (go_at_call 21; (with_reducible refine (A1.out _).mono ?_); rintro e w1 ⟨rfl, bs, k, rfl⟩) | (go_at_call 21; (with_reducible refine (A2.out _).mono ?_); rintro e w1 ⟨rfl, bs, k, rfl⟩))
        go_ret
        exact ⟨ret_b (by first | rfl | (simp; done) | (simp; omega)), (Mor.below (by repeat (first | exact Mor.refl _ | apply Mor.alloc | apply Mor.more | apply Mor.drewN | apply Mor.drew)))⟩
    · have A2 := Lib.hid (fun w => add_large m c i j w h2 h3 f2)
      obtain ⟨x, hx⟩ : ∃ x, sg (n * c) (m * d) = x := ⟨_, rfl⟩
      obtain ⟨z, hz⟩ : ∃ z, sg (m * j) (i * c) = z := ⟨_, rfl⟩
      obtain ⟨v, hv⟩ : ∃ v, sg (n * j) (i * d) = v := ⟨_, rfl⟩
      have b0 : -1 ≤ x ∧ x ≤ 1 := by rw [← hx]; unfold sg; split <;> (try split) <;> omega
      rw [hx] at C1 C2 ho
      rw [hz] at C3 ho
      rw [hv] at C4 ho
      clear hx hz hv ha h1 h2 h3 f1 f2
      obtain ⟨b1, b2⟩ := b0
      by_cases hx : x ≤ 0
      · by_cases hz : z ≤ 0
        · have hv := ho hx hz
          clear ho
          go_enter Try.func7, Try.ntmps7
          go_wp2_with (first | (go_at_call 20; (with_reducible refine (cmp_begun _).mono ?_); rintro e w1 ⟨rfl, bs, k, rfl⟩) | (go_at_call 20; (with_reducible refine (C1.out _).mono ?_); rintro e w1 ⟨rfl, bs, k, rfl⟩) | (go_at_call 20; (with_reducible refine (C2.out _).mono ?_); rintro e w1 ⟨rfl, bs, k, rfl⟩) | (go_at_call 20; (with_reducible refine (C3.out _).mono ?_); rintro e w1 ⟨rfl, bs, k, rfl⟩) | (go_at_call 20; (with_reducible refine (C4.out _).mono ?_); rintro e w1 ⟨rfl, bs, k, rfl⟩) | (go_at_call 21; (with_reducible refine (A1.out _).mono ?_); rintro e w1 ⟨rfl, bs, k, rfl⟩) | (go_at_call 21; (with_reducible refine (A2.out _).mono ?_); rintro e w1 ⟨rfl, bs, k, rfl⟩))
          go_ret
          exact ⟨ret_b (by first | rfl | (simp; done) | (simp; omega)), (Mor.below (by repeat (first | exact Mor.refl _ | apply Mor.alloc | apply Mor.more | apply Mor.drewN | apply Mor.drew)))⟩
        · clear ho
          go_enter Try.func7, Try.ntmps7
          go_wp2_with (first | (go_at_call 20; (with_reducible refine (cmp_begun _).mono ?_); rintro e w1 ⟨rfl, bs, k, rfl⟩) | (go_at_call 20; (with_reducible refine (C1.out _).mono ?_); rintro e w1 ⟨rfl, bs, k, rfl⟩) | (go_at_call 20; (with_reducible refine (C2.out _).mono ?_); rintro e w1 ⟨rfl, bs, k, rfl⟩) | (go_at_call 20; (with_reducible refine (C3.out _).mono ?_); rintro e w1 ⟨rfl, bs, k, rfl⟩) | (go_at_call 20; (with_reducible refine (C4.out _).mono ?_); rintro e w1 ⟨rfl, bs, k, rfl⟩) | (go_at_call 21; (with_reducible refine (A1.out _).mono ?_); rintro e w1 ⟨rfl, bs, k, rfl⟩) | (go_at_call 21; (with_reducible refine (A2.out _).mono ?_); rintro e w1 ⟨rfl, bs, k, rfl⟩))
          go_ret
          exact ⟨ret_b (by first | rfl | (simp; done) | (simp; omega)), (Mor.below (by repeat (first | exact Mor.refl _ | apply Mor.alloc | apply Mor.more | apply Mor.drewN | apply Mor.drew)))⟩
      · clear ho
        go_enter Try.func7, Try.ntmps7
        go_wp2_with (first | (go_at_call 20; (with_reducible refine (cmp_begun _).mono ?_); rintro e w1 ⟨rfl, bs, k, rfl⟩) | (go_at_call 20; (with_reducible refine (C1.out _).mono ?_); rintro e w1 ⟨rfl, bs, k, rfl⟩) | (go_at_call 20; (with_reducible refine (C2.out _).mono ?_); rintro e w1 ⟨rfl, bs, k, rfl⟩) | (go_at_call 20; (with_reducible refine (C3.out _).mono ?_); rintro e w1 ⟨rfl, bs, k, rfl⟩) | (go_at_call 20; (with_reducible refine (C4.out _).mono ?_); rintro e w1 ⟨rfl, bs, k, rfl⟩) | (go_at_call 21; (with_reducible refine (A1.out _).mono ?_); rintro e w1 ⟨rfl, bs, k, rfl⟩) | (go_at_call 21; (with_reducible refine (A2.out _).mono ?_); rintro e w1 ⟨rfl, bs, k, rfl⟩))
        go_ret
        exact ⟨ret_b (by first | rfl | (simp; done) | (simp; omega)), (Mor.below (by repeat (first | exact Mor.refl _ | apply Mor.alloc | apply Mor.more | apply Mor.drewN | apply Mor.drew)))⟩

set_option maxHeartbeats 1600000 in
theorem fracOrder_walk (w : World) (n : Int) (wn : (Lit.int .i64 n).wf = true) (d : Int) (wd : (Lit.int .i64 d).wf = true) (m : Int) (wm : (Lit.int .i64 m).wf = true) (c : Int) (wc : (Lit.int .i64 c).wf = true) (i : Int) (wi : (Lit.int .i64 i).wf = true) (j : Int) (wj : (Lit.int .i64 j).wf = true) :
    Calls Try.prog 7 #[.agg #[.int .i64 n, .int .i64 d], .agg #[.int .i64 m, .int .i64 c], .agg #[.int .i64 i, .int .i64 j]] w fun e w' => e = .returned (.bool true) ∧ Below w.heap.size w w' := by
  clear wn wd wm wc wi wj
  by_cases h1 : okF n d
  · by_cases h2 : okF m c
    · by_cases h3 : okF i j
      · exact all_ok n d m c i j w h1 h2 h3
      · have C1 := Lib.hid (fun w => cmp_ok n d m c w h1 h2)
        have C2 := Lib.hid (fun w => cmp_ok m c n d w h2 h1)
        have l := chk_lo i j
        have C3 := Lib.hid (fun w => cmp_no m c i j _ w (.inr ⟨h2, h3, rfl⟩))
        have C4 := Lib.hid (fun w => cmp_no n d i j _ w (.inr ⟨h1, h3, rfl⟩))
        clear h1 h2 h3
        go_enter Try.func7, Try.ntmps7
        go_wp2_with (first | (go_at_call 20; (with_reducible refine (cmp_begun _).mono ?_); rintro e w1 ⟨rfl, bs, k, rfl⟩) | (go_at_call 20; (with_reducible refine (C1.out _).mono ?_); rintro e w1 ⟨rfl, bs, k, rfl⟩) | (go_at_call 20; (with_reducible refine (C2.out _).mono ?_); rintro e w1 ⟨rfl, bs, k, rfl⟩) | (go_at_call 20; (with_reducible refine (C3.out _).mono ?_); rintro e w1 ⟨rfl, bs, k, rfl⟩) | (go_at_call 20; (with_reducible refine (C4.out _).mono ?_); rintro e w1 ⟨rfl, bs, k, rfl⟩))
        go_ret
        exact ⟨ret_b (by first | rfl | (simp; done) | (simp; omega)), (Mor.below (by repeat (first | exact Mor.refl _ | apply Mor.alloc | apply Mor.more | apply Mor.drewN | apply Mor.drew)))⟩
    · have l := chk_lo m c
      have C1 := Lib.hid (fun w => cmp_no n d m c _ w (.inr ⟨h1, h2, rfl⟩))
      have C2 := Lib.hid (fun w => cmp_no m c n d _ w (.inl ⟨h2, rfl⟩))
      obtain ⟨V3, E3, l3, c3⟩ := cmp_gen m c i j
      obtain ⟨V4, E4, l4, c4⟩ := cmp_gen n d i j
      have C3 := Lib.hid c3
      have C4 := Lib.hid c4
      clear h1 h2 c3 c4
      go_enter Try.func7, Try.ntmps7
      go_wp2_with (first | (go_at_call 20; (with_reducible refine (cmp_begun _).mono ?_); rintro e w1 ⟨rfl, bs, k, rfl⟩) | (go_at_call 20; (with_reducible refine (C1.out _).mono ?_); rintro e w1 ⟨rfl, bs, k, rfl⟩) | (go_at_call 20; (with_reducible refine (C2.out _).mono ?_); rintro e w1 ⟨rfl, bs, k, rfl⟩) | (go_at_call 20; (with_reducible refine (C3.out _).mono ?_); rintro e w1 ⟨rfl, bs, k, rfl⟩) | (go_at_call 20; (with_reducible refine (C4.out _).mono ?_); rintro e w1 ⟨rfl, bs, k, rfl⟩))
      go_ret
      exact ⟨ret_b (by first | rfl | (simp; done) | (simp; omega)), (Mor.below (by repeat (first | exact Mor.refl _ | apply Mor.alloc | apply Mor.more | apply Mor.drewN | apply Mor.drew)))⟩
  · have l := chk_lo n d
    obtain ⟨V2, E2, l2, c2⟩ := cmp_gen m c n d
    obtain ⟨V3, E3, l3, c3⟩ := cmp_gen m c i j
    obtain ⟨V4, E4, l4, c4⟩ := cmp_gen n d i j
    have C1 := Lib.hid (fun w => cmp_no n d m c _ w (.inl ⟨h1, rfl⟩))
    have C2 := Lib.hid c2
    have C3 := Lib.hid c3
    have C4 := Lib.hid c4
    clear h1 c2 c3 c4
    go_enter Try.func7, Try.ntmps7
    go_wp2_with (first | (go_at_call 20; (with_reducible refine (cmp_begun _).mono ?_); rintro e w1 ⟨rfl, bs, k, rfl⟩) | (go_at_call 20; (with_reducible refine (C1.out _).mono ?_); rintro e w1 ⟨rfl, bs, k, rfl⟩) | (go_at_call 20; (with_reducible refine (C2.out _).mono ?_); rintro e w1 ⟨rfl, bs, k, rfl⟩) | (go_at_call 20; (with_reducible refine (C3.out _).mono ?_); rintro e w1 ⟨rfl, bs, k, rfl⟩) | (go_at_call 20; (with_reducible refine (C4.out _).mono ?_); rintro e w1 ⟨rfl, bs, k, rfl⟩))
    go_ret
    exact ⟨ret_b (by first | rfl | (simp; done) | (simp; omega)), (Mor.below (by repeat (first | exact Mor.refl _ | apply Mor.alloc | apply Mor.more | apply Mor.drewN | apply Mor.drew)))⟩

end Go.Proofs.Ythchchbkpicdcaa.fracOrder
