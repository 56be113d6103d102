/- The walk of talkeep.SeatsTwo. -/
import Derived.Test.YtmpcnipngepfgaaSeatsC
namespace Go.Proofs.Ytmpcnipngepfgaa.seatsTwo
open Go.ChangeShapes Go.WideShapes Go.ChangeAt Go.RowKit
set_option linter.unusedVariables false

theorem beg {xs : List Int} (h : DealInv 1 [7, 2] xs 3) : xs = [2, 1] := deal_beg (by decide) h (by decide) rfl (by decide)
theorem beg_code : lcode 3 [7, 2] = 0 := by decide

/-- each has his share, to the nearest seat -/
theorem near {a b : Int} {n : Nat} {xs : List Int} (ha : 1 ≤ a) (hb : 1 ≤ b) (h : DealInv 1 [a, b] xs n) : ∃ x y, xs = [x, y] ∧ 0 ≤ x ∧ 0 ≤ y ∧ x + y = n ∧ 2 * (x * (a + b) - n * a) ≤ a + b ∧ -(a + b) ≤ 2 * (x * (a + b) - n * a) := by
  obtain ⟨hl, hf, hs⟩ := h
  match xs, hl with
  | [x, y], _ =>
    have hv : ∀ i, i < 2 → 0 ≤ at0 [a, b] i := by
      intro i hi
      match i, hi with
      | 0, _ => show 0 ≤ a; omega
      | 1, _ => show 0 ≤ b; omega
    have x0 : 0 ≤ x := hf.1 0 (by simp)
    have y0 : 0 ≤ y := hf.1 1 (by simp)
    have sxy : x + y = n := by
      have : sumTo (at0 [x, y]) 2 = n := hs
      simp only [sumTo] at this
      have e0 : at0 [x, y] 0 = x := rfl
      have e1 : at0 [x, y] 1 = y := rfl
      rw [e0, e1] at this; omega
    have c1 : 0 < x → b * (2 * x - 1) ≤ a * (2 * y + 1) := by
      intro h
      have := fair_claim hv hf (i := 1) (k := 0) (by simp) (by simp) h (by show 0 < b; omega)
      rw [dv_1, dv_1] at this
      have e : 2 * (at0 [x, y] 0 - 1) + 1 = 2 * x - 1 := by show 2 * (x - 1) + 1 = 2 * x - 1; omega
      rw [e] at this; exact this
    have c2 : 0 < y → a * (2 * y - 1) ≤ b * (2 * x + 1) := by
      intro h
      have := fair_claim hv hf (i := 0) (k := 1) (by simp) (by simp) h (by show 0 < a; omega)
      rw [dv_1, dv_1] at this
      have e : 2 * (at0 [x, y] 1 - 1) + 1 = 2 * y - 1 := by show 2 * (y - 1) + 1 = 2 * y - 1; omega
      rw [e] at this; exact this
    have e1 : x * (a + b) - n * a = x * b - y * a := by rw [← sxy, Int.mul_add, Int.add_mul]; omega
    have e2 : b * (2 * x - 1) = 2 * (x * b) - b := by rw [Int.mul_sub, Int.mul_one, Int.mul_left_comm, Int.mul_comm b x]
    have e3 : a * (2 * y + 1) = 2 * (y * a) + a := by rw [Int.mul_add, Int.mul_one, Int.mul_left_comm, Int.mul_comm a y]
    have e4 : a * (2 * y - 1) = 2 * (y * a) - a := by rw [Int.mul_sub, Int.mul_one, Int.mul_left_comm, Int.mul_comm a y]
    have e5 : b * (2 * x + 1) = 2 * (x * b) + b := by rw [Int.mul_add, Int.mul_one, Int.mul_left_comm, Int.mul_comm b x]
    have p1 := Int.mul_nonneg x0 (show 0 ≤ b by omega)
    have p2 := Int.mul_nonneg y0 (show 0 ≤ a by omega)
    rw [e2, e3] at c1
    rw [e4, e5] at c2
    refine ⟨x, y, rfl, x0, y0, sxy, ?_, ?_⟩
    · rw [e1]
      by_cases h : 0 < x
      · have := c1 h; omega
      · have e : x = 0 := by omega
        subst e; simp only [Int.zero_mul]; omega
    · rw [e1]
      by_cases h : 0 < y
      · have := c2 h; omega
      · have e : y = 0 := by omega
        subst e; simp only [Int.zero_mul]; omega

set_option maxRecDepth 100000 in
set_option maxHeartbeats 3200000 in
theorem seatsTwo_walk (w : World) (n : Int) (wn : (Lit.int .i64 n).wf = true) (a : Int) (wa : (Lit.int .i64 a).wf = true) (b : Int) (wb : (Lit.int .i64 b).wf = true) :
    Calls Try.prog 6 #[.int .i64 n, .int .i64 a, .int .i64 b] w fun e w' => e = .returned (.bool true) ∧ Below w.heap.size w w' := by
  have n1 := wi_lo n 500 (by omega)
  have n2 := wi_hi n 500 (by omega)
  have HN := Lib.hid (fun w => within_any n 500 w (by omega) (by omega))
  have a1 := wi_lo a 1000 (by omega)
  have a2 := wi_hi a 1000 (by omega)
  have HA := Lib.hid (fun w => within_any a 1000 w (by omega) (by omega))
  have b1 := wi_lo b 1000 (by omega)
  have b2 := wi_hi b 1000 (by omega)
  have HB := Lib.hid (fun w => within_any b 1000 w (by omega) (by omega))
  generalize wi n 500 = n0 at *
  generalize wi a 1000 = A at *
  generalize wi b 1000 = B at *
  obtain ⟨N, rfl⟩ := Int.eq_ofNat_of_zero_le n1
  have hcode : lcode N [1 + A, 1 + B] = 0 := by
    unfold lcode
    rw [if_neg (by simp), if_pos, if_neg (by omega), if_neg (by simp; omega)]
    intro v hv
    simp at hv
    rcases hv with rfl | rfl <;> exact ⟨by omega, by omega⟩
  have HD := Lib.hid (fun A0 w (h : Ri w A0 [1 + A, 1 + B]) => deal_int 1 N N A0 2 2 [1 + A, 1 + B] w rfl (by omega) (by omega) h rfl hcode)
  clear hcode
  go_enter Try.func6, Try.ntmps6
  go_wp2_with fail
  refine (deal_int 1 3 3 _ 2 2 [7, 2] _ rfl (by omega) (by omega) (Ri.of_row (row_lit [7, 2] (by simp) rfl)) rfl beg_code).mono ?_
  rintro e w1 ⟨xs0, g0, bs0, k0, rfl, rfl, hinv, hr⟩
  obtain rfl := beg hinv
  have HR := Lib.hid hr
  clear hinv hr
  go_wp2_with fail
  refine (equal_yes _ _ _ _ _ _ 2 [2, 1] _ (HR.out.alloc) (row_lit [2, 1] (by simp) rfl) rfl (by omega)).mono ?_
  rintro e w1 ⟨rfl, m0, rfl⟩
  clear HR
  go_wp2_with (first | (go_at_call 18; (with_reducible refine (HN.out _).mono ?_); rintro e w1 ⟨rfl, rfl⟩) | (go_at_call 18; (with_reducible refine (HA.out _).mono ?_); rintro e w1 ⟨rfl, rfl⟩) | (go_at_call 18; (with_reducible refine (HB.out _).mono ?_); rintro e w1 ⟨rfl, rfl⟩))
  refine (HD.out _ _ (Ri.of_row (Row.drewN (row_lit [1 + A, 1 + B] (by simp) rfl)))).mono ?_
  rintro e w1 ⟨xs, g, bs, k, rfl, rfl, hinv, hr⟩
  obtain ⟨x, y, rfl, x0, y0, sxy, t1, t2⟩ := near (by omega) (by omega) hinv
  have cx := hr.2 0 (by simp)
  simp at cx
  obtain ⟨p1, p2⟩ := prod_bd x (1 + A + (1 + B)) 500 2000 (by omega) (by omega) (by omega) (by omega) (by omega)
  obtain ⟨p3, p4⟩ := prod_bd (N : Int) (1 + A) 500 1000 (by omega) (by omega) (by omega) (by omega) (by omega)
  clear hinv hr HD HN HA HB
  have d1 : decide (2 * (x * (1 + A + (1 + B)) - (N : Int) * (1 + A)) ≤ 1 + A + (1 + B)) = true := decide_eq_true t1
  have d2 : decide (-2 * (x * (1 + A + (1 + B)) - (N : Int) * (1 + A)) ≤ 1 + A + (1 + B)) = true := decide_eq_true (by generalize x * (1 + A + (1 + B)) = P at *; generalize (N : Int) * (1 + A) = Q at *; omega)
  go_wp2_with fail
  go_ret
  exact ⟨ret_b (by first | rfl | (simp; done) | (simp; omega)), (Mor.below (by repeat (first | exact Mor.refl _ | apply Mor.alloc | apply Mor.more | apply Mor.drewN | apply Mor.drew)))⟩

end Go.Proofs.Ytmpcnipngepfgaa.seatsTwo
