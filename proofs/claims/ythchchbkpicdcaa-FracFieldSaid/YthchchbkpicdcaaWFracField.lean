/- The walk of talkeep.FracField. -/
import Derived.Test.YthchchbkpicdcaaPlainG
import Derived.Test.YthchchbkpicdcaaSmall
import Derived.Test.YthchchbkpicdcaaLong
namespace Go.Proofs.Ythchchbkpicdcaa.fracField
open Go.ChangeShapes Go.WideShapes Go.ChangeAt Go.RowKit
set_option linter.unusedVariables false

set_option maxRecDepth 100000 in
set_option maxHeartbeats 6400000 in
theorem fracField_walk (w : World) (a : Int) (wa : (Lit.int .i64 a).wf = true) (b : Int) (wb : (Lit.int .i64 b).wf = true) (c : Int) (wc : (Lit.int .i64 c).wf = true) (d : Int) (wd : (Lit.int .i64 d).wf = true) (e : Int) (we : (Lit.int .i64 e).wf = true) (f : Int) (wf : (Lit.int .i64 f).wf = true) :
    Calls Try.prog 8 #[.int .i64 a, .int .i64 b, .int .i64 c, .int .i64 d, .int .i64 e, .int .i64 f] w fun e w' => e = .returned (.bool true) ∧ Below w.heap.size w w' := by
  clear wa wb wc wd we wf
  have X := sm_bq a b
  have Y := sm_bq c d
  have Z := sm_bq e f
  have ox := sm_ok a b
  have oy := sm_ok c d
  have oz := sm_ok e f
  obtain ⟨x, hx⟩ : ∃ x, fq (smn a) (smd b) = x := ⟨_, rfl⟩
  obtain ⟨y, hy⟩ : ∃ y, fq (smn c) (smd d) = y := ⟨_, rfl⟩
  obtain ⟨z, hz⟩ : ∃ z, fq (smn e) (smd f) = z := ⟨_, rfl⟩
  rw [hx] at X
  rw [hy] at Y
  rw [hz] at Z
  have bP := bq_add X Y (by omega) (by omega)
  have bS := bq_add Y Z (by omega) (by omega)
  have bL := bq_add bP Z (by omega) (by omega)
  have bQ := bq_mul X Y (by omega) (by omega)
  have bU := bq_mul bQ Z (by omega) (by omega)
  have bV := bq_mul Y Z (by omega) (by omega)
  have bT := bq_mul X bS (by omega) (by omega)
  have bR := bq_mul X Z (by omega) (by omega)
  have fl : -1000 ≤ smn a ∧ smn a ≤ 1000 ∧ -1000 ≤ smn c ∧ smn c ≤ 1000 ∧ -1000 ≤ smn e ∧ smn e ≤ 1000 := ⟨smn_lo a, smn_hi a, smn_lo c, smn_hi c, smn_lo e, smn_hi e⟩
  obtain ⟨n1, n2, n3, n4, n5, n6⟩ := fl
  have A1 := Lib.hid (fun w => add_ok (smn a) (smd b) (smn c) (smd d) (x + y) w ox oy (by rw [hx, hy]) (bq_fit bP (by omega) (by omega)))
  have A2 := Lib.hid (fun w => add_ok (smn c) (smd d) (smn a) (smd b) (x + y) w oy ox (by rw [hx, hy, Rat.add_comm]) (bq_fit bP (by omega) (by omega)))
  have A3 := Lib.hid (fun w => add_ok (fn (x + y)) (fd (x + y)) (smn e) (smd f) (x + y + z) w (bq_ok bP (by omega) (by omega)) oz (by rw [fq_self, hz]) (bq_fit bL (by omega) (by omega)))
  have A4 := Lib.hid (fun w => add_ok (smn c) (smd d) (smn e) (smd f) (y + z) w oy oz (by rw [hy, hz]) (bq_fit bS (by omega) (by omega)))
  have A5 := Lib.hid (fun w => add_ok (smn a) (smd b) (fn (y + z)) (fd (y + z)) (x + y + z) w ox (bq_ok bS (by omega) (by omega)) (by rw [fq_self, hx, Rat.add_assoc]) (bq_fit bL (by omega) (by omega)))
  have M1 := Lib.hid (fun w => mul_ok (smn a) (smd b) (smn c) (smd d) (x * y) 1000 1000 w ox oy (by rw [hx, hy]) (bq_fit bQ (by omega) (by omega)) n1 n2 n3 n4 (by omega))
  have M2 := Lib.hid (fun w => mul_ok (smn c) (smd d) (smn a) (smd b) (x * y) 1000 1000 w oy ox (by rw [hx, hy, Rat.mul_comm]) (bq_fit bQ (by omega) (by omega)) n3 n4 n1 n2 (by omega))
  have M3 := Lib.hid (fun w => mul_ok (fn (x * y)) (fd (x * y)) (smn e) (smd f) (x * y * z) 1000000 1000 w (bq_ok bQ (by omega) (by omega)) oz (by rw [fq_self, hz]) (bq_fit bU (by omega) (by omega)) (by have := bQ.1; omega) (by have := bQ.2.1; omega) n5 n6 (by omega))
  have M4 := Lib.hid (fun w => mul_ok (smn c) (smd d) (smn e) (smd f) (y * z) 1000 1000 w oy oz (by rw [hy, hz]) (bq_fit bV (by omega) (by omega)) n3 n4 n5 n6 (by omega))
  have M5 := Lib.hid (fun w => mul_ok (smn a) (smd b) (fn (y * z)) (fd (y * z)) (x * y * z) 1000 1000000 w ox (bq_ok bV (by omega) (by omega)) (by rw [fq_self, hx, Rat.mul_assoc]) (bq_fit bU (by omega) (by omega)) n1 n2 (by have := bV.1; omega) (by have := bV.2.1; omega) (by omega))
  have M6 := Lib.hid (fun w => mul_ok (smn a) (smd b) (fn (y + z)) (fd (y + z)) (x * (y + z)) 1000 80000 w ox (bq_ok bS (by omega) (by omega)) (by rw [fq_self, hx]) (bq_fit bT (by omega) (by omega)) n1 n2 (by have := bS.1; omega) (by have := bS.2.1; omega) (by omega))
  have M7 := Lib.hid (fun w => mul_ok (smn a) (smd b) (smn e) (smd f) (x * z) 1000 1000 w ox oz (by rw [hx, hz]) (bq_fit bR (by omega) (by omega)) n1 n2 n5 n6 (by omega))
  have A6 := Lib.hid (fun w => add_ok (fn (x * y)) (fd (x * y)) (fn (x * z)) (fd (x * z)) (x * (y + z)) w (bq_ok bQ (by omega) (by omega)) (bq_ok bR (by omega) (by omega)) (by rw [fq_self, fq_self, Rat.mul_add]) (bq_fit bT (by omega) (by omega)))
  clear X Y Z ox oy oz bP bS bL bQ bU bV bT bR n1 n2 n3 n4 n5 n6 hx hy hz
  generalize fn (x * (y + z)) = tn at *
  generalize fd (x * (y + z)) = td at *
  generalize fn (x * y * z) = un at *
  generalize fd (x * y * z) = ud at *
  generalize fn (x + y + z) = ln at *
  generalize fd (x + y + z) = ld at *
  generalize fn (x + y) = pn at *
  generalize fd (x + y) = pd at *
  generalize fn (y + z) = sn at *
  generalize fd (y + z) = sd at *
  generalize fn (x * y) = qn at *
  generalize fd (x * y) = qd at *
  generalize fn (y * z) = vn at *
  generalize fd (y * z) = vd at *
  generalize fn (x * z) = rn at *
  generalize fd (x * z) = rd at *
  go_enter Try.func8, Try.ntmps8
  go_wp2_with (first | (go_at_call 22; (with_reducible refine (fracBegun_any _).mono ?_); rintro e w1 ⟨rfl, bs, k, rfl⟩) | (go_at_call 17; (with_reducible refine (small_any _ _ _).mono ?_); rintro e w1 ⟨rfl, bs, k, rfl⟩) | (go_at_call 21; (with_reducible refine (A1.out _).mono ?_); rintro e w1 ⟨rfl, bs, k, rfl⟩) | (go_at_call 21; (with_reducible refine (A2.out _).mono ?_); rintro e w1 ⟨rfl, bs, k, rfl⟩) | (go_at_call 21; (with_reducible refine (A3.out _).mono ?_); rintro e w1 ⟨rfl, bs, k, rfl⟩) | (go_at_call 21; (with_reducible refine (A4.out _).mono ?_); rintro e w1 ⟨rfl, bs, k, rfl⟩) | (go_at_call 21; (with_reducible refine (A5.out _).mono ?_); rintro e w1 ⟨rfl, bs, k, rfl⟩) | (go_at_call 21; (with_reducible refine (A6.out _).mono ?_); rintro e w1 ⟨rfl, bs, k, rfl⟩) | (go_at_call 23; (with_reducible refine (M1.out _).mono ?_); rintro e w1 ⟨rfl, bs, k, rfl⟩) | (go_at_call 23; (with_reducible refine (M2.out _).mono ?_); rintro e w1 ⟨rfl, bs, k, rfl⟩) | (go_at_call 23; (with_reducible refine (M3.out _).mono ?_); rintro e w1 ⟨rfl, bs, k, rfl⟩) | (go_at_call 23; (with_reducible refine (M4.out _).mono ?_); rintro e w1 ⟨rfl, bs, k, rfl⟩) | (go_at_call 23; (with_reducible refine (M5.out _).mono ?_); rintro e w1 ⟨rfl, bs, k, rfl⟩) | (go_at_call 23; (with_reducible refine (M6.out _).mono ?_); rintro e w1 ⟨rfl, bs, k, rfl⟩) | (go_at_call 23; (with_reducible refine (M7.out _).mono ?_); rintro e w1 ⟨rfl, bs, k, rfl⟩))
  go_rounds 14
  go_ret
  exact ⟨ret_b (by first | rfl | (simp; done)), (Mor.below (by repeat (first | exact Mor.refl _ | apply Mor.alloc | apply Mor.more | apply Mor.drewN | apply Mor.drew)))⟩

end Go.Proofs.Ythchchbkpicdcaa.fracField
