/- small fractions, fracBegun, and bounds of sums and products of small rational numbers. -/
import Derived.Test.YthchchbkpicdcaaPlainG
import Derived.Test.YthchchbkpicdcaaFracD
namespace Go.Proofs.Ythchchbkpicdcaa
open Go.ChangeShapes Go.WideShapes Go.ChangeAt Go.RowKit
set_option linter.unusedVariables false

def smn (a : Int) : Int := wi a 2001 - 1000
def smd (b : Int) : Int := 1 + wi b 40
theorem smn_lo (a : Int) : -1000 ≤ smn a := by have := wi_lo a 2001 (by omega); unfold smn; omega
theorem smn_hi (a : Int) : smn a ≤ 1000 := by have := wi_hi a 2001 (by omega); unfold smn; omega
theorem smd_lo (a : Int) : 1 ≤ smd a := by have := wi_lo a 40 (by omega); unfold smd; omega
theorem smd_hi (a : Int) : smd a ≤ 40 := by have := wi_hi a 40 (by omega); unfold smd; omega

set_option maxHeartbeats 400000 in
theorem small_any (a b : Int) (w : World) :
    Calls Try.prog 17 #[.int .i64 a, .int .i64 b] w fun e w' => e = .returned (.agg #[.int .i64 (smn a), .int .i64 (smd b)]) ∧ Mor w w' := by
  have l0 := wi_lo a 2001 (by omega)
  have l1 := wi_hi a 2001 (by omega)
  have l2 := wi_lo b 40 (by omega)
  have l3 := wi_hi b 40 (by omega)
  have E1 := Lib.hid (show wi a 2001 - 1000 = smn a from rfl)
  have E2 := Lib.hid (show 1 + wi b 40 = smd b from rfl)
  go_enter Try.func17, Try.ntmps17
  go_wp2_with (first | (go_at_call 18; refine (within_any _ _ _ (by omega) (by omega)).mono ?_; rintro e w1 ⟨rfl, rfl⟩))
  go_returns
  refine ⟨?_, (by repeat (first | exact Mor.refl _ | apply Mor.alloc | apply Mor.more | apply Mor.drewN | apply Mor.drew))⟩
  first | rw [E1.out, E2.out] | (rw [← E1.out, ← E2.out]; rfl)

/-- the rational number lies within N, its denominator within D -/
def bq (q : Rat) (N D : Int) : Prop := -N ≤ fn q ∧ fn q ≤ N ∧ fd q ≤ D
theorem bq_fq {n d N D : Int} (h : 1 ≤ d) (h1 : -N ≤ n) (h2 : n ≤ N) (h3 : d ≤ D) : bq (fq n d) N D := by
  have := fn_bd n d N h h1 h2; have := fd_le n d h; unfold bq; omega
theorem bq_add {p q : Rat} {N D M E : Int} (h : bq p N D) (k : bq q M E) (hN : 0 ≤ N) (hM : 0 ≤ M) : bq (p + q) (N * E + M * D) (D * E) := by
  have d1 := fd_pos p
  have d2 := fd_pos q
  rw [← fq_self p, ← fq_self q, fq_add _ _ _ _ d1 d2]
  have x1 := prod_bd (fn p) (fd q) N E h.1 h.2.1 (by omega) k.2.2 hN
  have x2 := prod_bd (fn q) (fd p) M D k.1 k.2.1 (by omega) h.2.2 hM
  have x3 : fd p * fd q ≤ D * E := Int.le_trans (Int.mul_le_mul_of_nonneg_right h.2.2 (by omega)) (Int.mul_le_mul_of_nonneg_left k.2.2 (by have := h.2.2; omega))
  exact bq_fq (Int.mul_pos (by omega) (by omega)) (by omega) (by omega) x3
theorem bq_mul {p q : Rat} {N D M E : Int} (h : bq p N D) (k : bq q M E) (hN : 0 ≤ N) (hM : 0 ≤ M) : bq (p * q) (N * M) (D * E) := by
  have d1 := fd_pos p
  have d2 := fd_pos q
  rw [← fq_self p, ← fq_self q, fq_mul]
  have x3 : fd p * fd q ≤ D * E := Int.le_trans (Int.mul_le_mul_of_nonneg_right h.2.2 (by omega)) (Int.mul_le_mul_of_nonneg_left k.2.2 (by have := h.2.2; omega))
  have a1 : (fn p).natAbs ≤ N.natAbs := by have := h.1; have := h.2.1; omega
  have a2 : (fn q).natAbs ≤ M.natAbs := by have := k.1; have := k.2.1; omega
  have a3 : (fn p * fn q).natAbs ≤ (N * M).natAbs := by rw [Int.natAbs_mul, Int.natAbs_mul]; exact Nat.mul_le_mul a1 a2
  have a4 : 0 ≤ N * M := Int.mul_nonneg hN hM
  exact bq_fq (Int.mul_pos (by omega) (by omega)) (by omega) (by omega) x3
theorem bq_fit {q : Rat} {N D : Int} (h : bq q N D) (h1 : N ≤ 1000000000000) (h2 : D ≤ 1000000) : fitQ q := by
  unfold bq at h; unfold fitQ; omega
theorem bq_ok {q : Rat} {N D : Int} (h : bq q N D) (h1 : N ≤ 1000000000000) (h2 : D ≤ 1000000) : okF (fn q) (fd q) := by
  have := fd_pos q; unfold bq at h; unfold okF; omega
theorem sm_ok (a b : Int) : okF (smn a) (smd b) := by
  have := smn_lo a; have := smn_hi a; have := smd_lo b; have := smd_hi b; unfold okF; omega
theorem sm_bq (a b : Int) : bq (fq (smn a) (smd b)) 1000 40 := bq_fq (smd_lo b) (smn_lo a) (smn_hi a) (smd_hi b)

set_option maxHeartbeats 400000 in
theorem fracBegun_any (w : World) : Calls Try.prog 22 #[] w fun e w' => e = .returned (.bool true) ∧ Mor w w' := by
  have H := Lib.hid (fun w => add_ok 1 2 1 3 (fq 5 6) w (by unfold okF; omega) (by unfold okF; omega) (by rw [fq_add _ _ _ _ (by omega) (by omega)]; rfl) (by unfold fitQ; exact ⟨by decide, by decide, by decide⟩))
  rw [show fn (fq 5 6) = 5 from rfl, show fd (fq 5 6) = 6 from rfl] at H
  go_enter Try.func22, Try.ntmps22
  go_wp2_with (first | (go_at_call 21; (with_reducible refine (H.out _).mono ?_); rintro e w1 ⟨rfl, bs, k, rfl⟩))
  go_ret
  exact ⟨ret_b (by first | rfl | (simp; done)), (by repeat (first | exact Mor.refl _ | apply Mor.alloc | apply Mor.more | apply Mor.drewN | apply Mor.drew))⟩

end Go.Proofs.Ythchchbkpicdcaa
