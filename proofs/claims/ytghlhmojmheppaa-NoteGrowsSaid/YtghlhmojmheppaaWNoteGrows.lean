/- The walk of talkeep.NoteGrows. -/
import Derived.Test.YtghlhmojmheppaaNoteC
namespace Go.Proofs.Ytghlhmojmheppaa.noteGrows
open Go.ChangeShapes Go.WideShapes Go.ChangeAt Go.RowKit
set_option linter.unusedVariables false

theorem beg {p : Int} (h : leastP 100 100000 1 p) : p = 110 := by
  have h0 : leastP 100 100000 1 110 := ⟨by omega, by omega, by decide, .inr (by decide)⟩
  have a := least_le 100 100 100000 100000 p 110 1 1 (by omega) (by omega) (by omega) (by omega) (by omega) h h0
  have b := least_le 100 100 100000 100000 110 p 1 1 (by omega) (by omega) (by omega) (by omega) (by omega) h0 h
  omega

set_option maxRecDepth 100000 in
set_option maxHeartbeats 3200000 in
theorem noteGrows_walk (w : World) (o : Int) (wo : (Lit.int .i64 o).wf = true) (m : Int) (wm : (Lit.int .i64 m).wf = true) (r : Int) (wr : (Lit.int .i64 r).wf = true) (u : Int) (wu : (Lit.int .i64 u).wf = true) (n : Int) (wn : (Lit.int .i64 n).wf = true) (l : Int) (wl : (Lit.int .i64 l).wf = true) :
    Calls Try.prog 9 #[.int .i64 o, .int .i64 m, .int .i64 r, .int .i64 u, .int .i64 n, .int .i64 l] w fun e w' => e = .returned (.bool true) ∧ Below w.heap.size w w' := by
  have HB := Lib.hid (fun w => Least_int 100 100000 1 1 w rfl ⟨by omega, by omega, by omega, by omega⟩ (by omega) (by omega))
  have o1 := wi_lo o 500000000000 (by omega)
  have o2 := wi_hi o 500000000000 (by omega)
  have HO := Lib.hid (fun w => within_any o 500000000000 w (by omega) (by omega))
  have m1 := wi_lo m 500000000000 (by omega)
  have m2 := wi_hi m 500000000000 (by omega)
  have HM := Lib.hid (fun w => within_any m 500000000000 w (by omega) (by omega))
  have r1 := wi_lo r 500000 (by omega)
  have r2 := wi_hi r 500000 (by omega)
  have HR := Lib.hid (fun w => within_any r 500000 w (by omega) (by omega))
  have u1 := wi_lo u 500000 (by omega)
  have u2 := wi_hi u 500000 (by omega)
  have HU := Lib.hid (fun w => within_any u 500000 w (by omega) (by omega))
  have n1 := wi_lo n 40 (by omega)
  have n2 := wi_hi n 40 (by omega)
  have HN := Lib.hid (fun w => within_any n 40 w (by omega) (by omega))
  generalize wi o 500000000000 = O at *
  generalize wi m 500000000000 = M at *
  generalize wi r 500000 = R at *
  generalize wi u 500000 = U at *
  generalize wi n 40 = n0 at *
  have l1 := wi_lo l (1 + n0) (by omega)
  have l2 := wi_hi l (1 + n0) (by omega)
  have HL := Lib.hid (fun w => within_any l (1 + n0) w (by omega) (by omega))
  generalize wi l (1 + n0) = L at *
  obtain ⟨N, rfl⟩ := Int.eq_ofNat_of_zero_le n1
  have HP := Lib.hid (fun w => Least_int O R (1 + (N : Int)) (N + 1) w (by omega) ⟨by omega, by omega, by omega, by omega⟩ (by omega) (by omega))
  have HX := Lib.hid (fun w => Least_int (O + M) R (1 + (N : Int)) (N + 1) w (by omega) ⟨by omega, by omega, by omega, by omega⟩ (by omega) (by omega))
  have HY := Lib.hid (fun w => Least_int O (R + U) (1 + (N : Int)) (N + 1) w (by omega) ⟨by omega, by omega, by omega, by omega⟩ (by omega) (by omega))
  obtain ⟨Ln, rfl⟩ := Int.eq_ofNat_of_zero_le l1
  have HZ := Lib.hid (fun w => Least_int O R (1 + (N : Int) - (Ln : Int)) (N + 1 - Ln) w (by omega) ⟨by omega, by omega, by omega, by omega⟩ (by omega) (by omega))
  go_enter Try.func9, Try.ntmps9
  go_wp2_with fail
  refine (HB.out _).mono ?_
  rintro e w1 ⟨p0, rfl, ⟨bs, k, rfl⟩, hp0⟩
  obtain rfl := beg hp0
  clear hp0 HB
  go_wp2_with (first | (go_at_call 17; (with_reducible refine (HO.out _).mono ?_); rintro e w1 ⟨rfl, rfl⟩) | (go_at_call 17; (with_reducible refine (HM.out _).mono ?_); rintro e w1 ⟨rfl, rfl⟩) | (go_at_call 17; (with_reducible refine (HR.out _).mono ?_); rintro e w1 ⟨rfl, rfl⟩) | (go_at_call 17; (with_reducible refine (HU.out _).mono ?_); rintro e w1 ⟨rfl, rfl⟩) | (go_at_call 17; (with_reducible refine (HN.out _).mono ?_); rintro e w1 ⟨rfl, rfl⟩))
  refine (HP.out _).mono ?_
  rintro e w1 ⟨p, rfl, ⟨bs1, k1, rfl⟩, hp⟩
  have HPP := Lib.hid hp
  clear hp
  go_wp2_with fail
  refine (HX.out _).mono ?_
  rintro e w1 ⟨x, rfl, ⟨bs2, k2, rfl⟩, hx⟩
  have px := least_le O (O + M) R R p x (N + 1) (N + 1) (by omega) (by omega) (by omega) (by omega) (by omega) HPP.out hx
  clear hx
  go_wp2_with fail
  refine (HY.out _).mono ?_
  rintro e w1 ⟨y, rfl, ⟨bs3, k3, rfl⟩, hy⟩
  have py := least_le O O R (R + U) p y (N + 1) (N + 1) (by omega) (by omega) (by omega) (by omega) (by omega) HPP.out hy
  clear hy
  go_wp2_with (first | (go_at_call 17; (with_reducible refine (HL.out _).mono ?_); rintro e w1 ⟨rfl, rfl⟩))
  refine (HZ.out _).mono ?_
  rintro e w1 ⟨z, rfl, ⟨bs4, k4, rfl⟩, hz⟩
  have pz := least_le O O R R p z (N + 1) (N + 1 - Ln) (by omega) (by omega) (by omega) (by omega) (by omega) HPP.out hz
  clear hz
  go_wp2_with fail
  go_ret
  exact ⟨ret_b (by first | rfl | (simp; done) | (simp; omega)), (Mor.below (by repeat (first | exact Mor.refl _ | apply Mor.alloc | apply Mor.more | apply Mor.drewN | apply Mor.drew)))⟩

end Go.Proofs.Ytghlhmojmheppaa.noteGrows
