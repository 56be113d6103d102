/- The walk of talkeep.LineOnce. -/
import Derived.Test.YtmkmbfficpgmdaaPlainL
import Derived.Test.YtmkmbfficpgmdaaPlainM
import Derived.Test.YtmkmbfficpgmdaaFallA
import Derived.Test.YtmkmbfficpgmdaaInts
namespace Go.Proofs.Ytmkmbfficpgmdaa.lineOnce
open Go.ChangeShapes Go.WideShapes Go.ChangeAt Go.RowKit
set_option linter.unusedVariables false

/-- a call that hands back the list xs -/
def Gives (w : World) (n : Nat) (xs : List Int) (e : Ending) (w' : World) : Prop :=
  ∃ v q, e = .returned (.tuple #[.slice (some ⟨v, 0, none⟩) n q, .int .i64 0]) ∧ n ≤ q ∧ Mor w w' ∧ Row w' v 0 xs
theorem give_line {w : World} {xs : List Int} {n : Nat} {e : Ending} {w' : World} (h : LinePost w xs n e w') : Gives w n xs e w' := by
  obtain ⟨bs, k, v, q, rfl, rfl, hl, hq, hr⟩ := h
  exact ⟨v, q, rfl, hq, ⟨bs, k, rfl⟩, hr⟩
theorem give_fall {w : World} {xs : List Int} {n : Nat} {e : Ending} {w' : World} (h : FallPost w xs n e w') : Gives w n xs e w' := by
  obtain ⟨bs, k, v, q, rfl, rfl, hl, hq, hr⟩ := h
  exact ⟨v, q, rfl, hq, ⟨bs, k, rfl⟩, hr⟩
theorem straight_int (cost rest nI : Int) (n : Nat) (xs : List Int) (w : World) (hn : nI = n) (hx : difl (stB (cost - rest) n) n = xs) (h1 : 0 ≤ cost) (h2 : cost ≤ 1000000000000) (h3 : 0 ≤ rest) (h4 : rest ≤ cost) (h5 : 1 ≤ n) (h6 : n ≤ 40) :
    Calls Try.prog 25 #[.int .i64 cost, .int .i64 rest, .int .i64 nI] w (Gives w n xs) := by
  subst hn hx; exact (straight_ok cost rest n w h1 h2 h3 h4 h5 h6).mono fun _ _ h => give_line h
theorem digits_int (cost rest nI : Int) (n : Nat) (xs : List Int) (w : World) (hn : nI = n) (hx : difl (dgB (cost - rest) n) n = xs) (h1 : 0 ≤ cost) (h2 : cost ≤ 1000000000000) (h3 : 0 ≤ rest) (h4 : rest ≤ cost) (h5 : 1 ≤ n) (h6 : n ≤ 40) :
    Calls Try.prog 26 #[.int .i64 cost, .int .i64 rest, .int .i64 nI] w (Gives w n xs) := by
  subst hn hx; exact (digits_ok cost rest n w h1 h2 h3 h4 h5 h6).mono fun _ _ h => give_line h
theorem falling_int (cost rest rate nI : Int) (N : Nat) (xs : List Int) (w : World) (hn : nI = N) (hx : flist cost rest rate N N = xs) (h1 : 0 ≤ cost) (h2 : cost ≤ 1000000000000) (h3 : 0 ≤ rest) (h4 : rest ≤ cost) (h5 : 0 ≤ rate) (h6 : rate ≤ 1000000) (h7 : 1 ≤ N) (h8 : N ≤ 40) :
    Calls Try.prog 27 #[.int .i64 cost, .int .i64 rest, .int .i64 rate, .int .i64 nI] w (Gives w N xs) := by
  subst hn hx; exact (falling_ok cost rest rate N w h1 h2 h3 h4 h5 h6 h7 h8).mono fun _ _ h => give_fall h
theorem within_eq (k n v : Int) (w : World) (h1 : 1 ≤ n) (h2 : n ≤ 4000000000000) (h : wi k n = v) :
    Calls Try.prog 17 #[.int .i64 k, .int .i64 n] w fun e w' => e = .returned (.int .i64 v) ∧ w = w' := by
  have := within_any k n w h1 h2
  rw [h] at this
  exact this
theorem one_st (D : Int) : difl (stB D (1 : Nat)) 1 = [D] := by
  have a := stB_all D ((1 : Nat) : Int) (by omega)
  have b := stB_zero D ((1 : Nat) : Int) (by omega)
  show [stB D ((1 : Nat) : Int) (((0 : Nat) : Int) + 1) - stB D ((1 : Nat) : Int) ((0 : Nat) : Int)] = [D]
  rw [show ((0 : Nat) : Int) + 1 = ((1 : Nat) : Int) by omega, a, show ((0 : Nat) : Int) = 0 by omega, b]; simp
theorem one_dg (D : Int) : difl (dgB D (1 : Nat)) 1 = [D] := by
  have a := dgB_all D ((1 : Nat) : Int) (by omega) (by omega)
  have b := dgB_zero D ((1 : Nat) : Int) (by decide)
  show [dgB D ((1 : Nat) : Int) (((0 : Nat) : Int) + 1) - dgB D ((1 : Nat) : Int) ((0 : Nat) : Int)] = [D]
  rw [show ((0 : Nat) : Int) + 1 = ((1 : Nat) : Int) by omega, a, show ((0 : Nat) : Int) = 0 by omega, b]; simp
theorem one_fall (A B R : Int) (h1 : B ≤ A) (h2 : 0 ≤ B) (h3 : 0 ≤ R) : flist A B R (1 : Nat) 1 = [A - B] := by
  show [dstep A B R (((1 : Nat) : Int) - ((0 : Nat) : Int))] = [A - B]
  rw [show ((1 : Nat) : Int) - ((0 : Nat) : Int) = 1 by omega]
  obtain ⟨d1, d2⟩ := dstep_bd A B R 1 h1 h2 h3 (by omega)
  have e : rnd (A - B) 1 1 = A - B := by
    have := rnd_exact 1 1 (A - B) (by omega)
    rwa [Int.one_mul] at this
  have hd : dstep A B R 1 = min (max (rnd (A * R) 1000000 2) (rnd (A - B) 1 1)) (A - B) := rfl
  rw [show dstep A B R 1 = A - B by omega]
theorem none_st (n : Nat) (hn : 1 ≤ n) : difl (stB 0 n) n = List.replicate n 0 := by
  have z : ∀ k : Int, stB 0 n k = 0 := by
    intro k
    have := stB_zero 0 n (by omega)
    unfold stB at this ⊢
    rw [Int.zero_mul] at this ⊢; exact this
  unfold difl
  rw [List.eq_replicate_iff]
  refine ⟨by simp, fun b hb => ?_⟩
  simp only [List.mem_map, z] at hb
  obtain ⟨_, _, rfl⟩ := hb
  rfl
theorem none_dg (n : Nat) (hn : 1 ≤ n) (h40 : n ≤ 40) : difl (dgB 0 n) n = List.replicate n 0 := by
  have t7 := (tri_bd (n : Int) n (by omega) (by omega) (by omega) (by omega)).2.2.2.2.2.2.1
  have z : ∀ k : Int, dgB 0 n k = 0 := by
    intro k
    have := dgB_zero 0 n t7
    unfold dgB at this ⊢
    rw [Int.zero_mul] at this ⊢; exact this
  unfold difl
  rw [List.eq_replicate_iff]
  refine ⟨by simp, fun b hb => ?_⟩
  simp only [List.mem_map, z] at hb
  obtain ⟨_, _, rfl⟩ := hb
  rfl
theorem none_fall (A R : Int) (n : Nat) (h2 : 0 ≤ A) (h3 : 0 ≤ R) : flist A A R n n = List.replicate n 0 := by
  have key : ∀ k, k < n → fleft A A R n k = A ∧ fdd A A R n k = 0 := by
    intro k
    induction k with
    | zero =>
      intro hk
      obtain ⟨d1, d2⟩ := dstep_bd A A R (n - ((0 : Nat) : Int)) (by omega) h2 h3 (by omega)
      refine ⟨rfl, ?_⟩
      show dstep A A R (n - ((0 : Nat) : Int)) = 0
      omega
    | succ k ih =>
      intro hk
      obtain ⟨e1, e2⟩ := ih (by omega)
      have e3 : fleft A A R n (k + 1) = A := by
        show fleft A A R n k - fdd A A R n k = A
        rw [e1, e2]; omega
      refine ⟨e3, ?_⟩
      obtain ⟨d1, d2⟩ := dstep_bd A A R (n - ((k + 1 : Nat) : Int)) (by omega) h2 h3 (by omega)
      show dstep (fleft A A R n (k + 1)) A R (n - ((k + 1 : Nat) : Int)) = 0
      rw [e3]; omega
  unfold flist
  rw [List.eq_replicate_iff]
  refine ⟨by simp, fun b hb => ?_⟩
  simp only [List.mem_map, List.mem_range] at hb
  obtain ⟨k, hk, rfl⟩ := hb
  exact (key k hk).2

set_option maxRecDepth 100000 in
set_option maxHeartbeats 3200000 in
theorem lineOnce_walk (w : World) (c : Int) (wc : (Lit.int .i64 c).wf = true) (r : Int) (wr : (Lit.int .i64 r).wf = true) (t : Int) (wt : (Lit.int .i64 t).wf = true) (n : Int) (wn : (Lit.int .i64 n).wf = true) :
    Calls Try.prog 14 #[.int .i64 c, .int .i64 r, .int .i64 t, .int .i64 n] w fun e w' => e = .returned (.bool true) ∧ Below w.heap.size w w' := by
  have a0 := wi_lo c 1000000000001 (by omega)
  have a1 := wi_hi c 1000000000001 (by omega)
  have HA := Lib.hid (fun w => within_any c 1000000000001 w (by omega) (by omega))
  generalize wi c 1000000000001 = A at *
  have b0 := wi_lo r (A + 1) (by omega)
  have b1 := wi_hi r (A + 1) (by omega)
  have HB := Lib.hid (fun w => within_any r (A + 1) w (by omega) (by omega))
  generalize wi r (A + 1) = B at *
  have t0 := wi_lo t 1000001 (by omega)
  have t1 := wi_hi t 1000001 (by omega)
  have HT := Lib.hid (fun w => within_any t 1000001 w (by omega) (by omega))
  generalize wi t 1000001 = R at *
  have n0 := wi_lo n 40 (by omega)
  have n1 := wi_hi n 40 (by omega)
  obtain ⟨N, hN⟩ := Int.eq_ofNat_of_zero_le n0
  have HN := Lib.hid (fun w => within_eq n 40 N w (by omega) (by omega) hN)
  rw [hN] at n0 n1
  clear hN
  have CX := Lib.hid (fun w => straight_int A B 1 1 [A - B] w rfl (one_st _) a0 (by omega) b0 (by omega) (by omega) (by omega))
  have CY := Lib.hid (fun w => digits_int A B 1 1 [A - B] w rfl (one_dg _) a0 (by omega) b0 (by omega) (by omega) (by omega))
  have CZ := Lib.hid (fun w => falling_int A B R 1 1 [A - B] w rfl (one_fall A B R (by omega) b0 t0) a0 (by omega) b0 (by omega) t0 (by omega) (by omega) (by omega))
  have CU := Lib.hid (fun w => straight_int A A (1 + (N : Int)) (N + 1) (List.replicate (N + 1) 0) w (by omega) (by rw [Int.sub_self]; exact none_st _ (by omega)) a0 (by omega) a0 (by omega) (by omega) (by omega))
  have CV := Lib.hid (fun w => digits_int A A (1 + (N : Int)) (N + 1) (List.replicate (N + 1) 0) w (by omega) (by rw [Int.sub_self]; exact none_dg _ (by omega) (by omega)) a0 (by omega) a0 (by omega) (by omega) (by omega))
  have CT := Lib.hid (fun w => falling_int A A R (1 + (N : Int)) (N + 1) (List.replicate (N + 1) 0) w (by omega) (none_fall A R (N + 1) a0 t0) a0 (by omega) a0 (by omega) t0 (by omega) (by omega) (by omega))
  have hmk := fun w => run_make_row' (P := Try.prog) 22 3 (.int .i64 0) 8 Try.underlying22 info_int rfl .i64 .i64 (N + 1) (by omega) (by omega) w
  have hcN : ((N + 1 : Nat) : Int) = 1 + (N : Int) := by omega
  simp only [hcN] at hmk
  have HCN := Lib.hid hcN
  clear hcN
  have HMK := Lib.hid hmk
  clear hmk
  go_enter Try.func14, Try.ntmps14
  go_wp2_with fail
  refine (straight_int 9 2 1 1 [7] _ rfl (one_st 7) (by omega) (by omega) (by omega) (by omega) (by omega) (by omega)).mono ?_
  rintro e w1 ⟨v0, q0, rfl, hq0, ⟨bs0, k0, rfl⟩, hr⟩
  have HR := Lib.hid hr
  clear hr
  go_wp2_with fail
  refine (equal_yes _ _ _ _ _ _ 1 [7] _ (HR.out.alloc) (row_lit [7] (by simp) rfl) rfl (by omega)).mono ?_
  rintro e w1 ⟨rfl, m, rfl⟩
  clear HR
  go_wp2_with (first | (go_at_call 17; (with_reducible refine (HA.out _).mono ?_); rintro e w1 ⟨rfl, rfl⟩) | (go_at_call 17; (with_reducible refine (HB.out _).mono ?_); rintro e w1 ⟨rfl, rfl⟩) | (go_at_call 17; (with_reducible refine (HT.out _).mono ?_); rintro e w1 ⟨rfl, rfl⟩) | (go_at_call 17; (with_reducible refine (HN.out _).mono ?_); rintro e w1 ⟨rfl, rfl⟩))
  refine (CX.out _).mono ?_
  rintro e w2 ⟨v2, q2, rfl, hq2, hm2, hr2⟩
  have HM2 := Lib.hid (show Mor w w2 from Mor.trans (by repeat (first | exact Mor.refl _ | apply Mor.alloc | apply Mor.more | apply Mor.drewN | apply Mor.drew)) hm2)
  have R2_2 := Lib.hid hr2
  clear hm2 hr2
  go_wp2_with fail
  refine (CY.out _).mono ?_
  rintro e w3 ⟨v3, q3, rfl, hq3, hm3, hr3⟩
  have HM3 := Lib.hid (show Mor w w3 from Mor.trans HM2.out hm3)
  have R2_3 := Lib.hid (R2_2.out.mor hm3)
  have R3_3 := Lib.hid hr3
  clear hm3 hr3 R2_2
  go_wp2_with fail
  refine (CZ.out _).mono ?_
  rintro e w4 ⟨v4, q4, rfl, hq4, hm4, hr4⟩
  have HM4 := Lib.hid (show Mor w w4 from Mor.trans HM3.out hm4)
  have R2_4 := Lib.hid (R2_3.out.mor hm4)
  have R3_4 := Lib.hid (R3_3.out.mor hm4)
  have R4_4 := Lib.hid hr4
  clear hm4 hr4 R2_3 R3_3
  go_wp2_with fail
  refine (CU.out _).mono ?_
  rintro e w5 ⟨v5, q5, rfl, hq5, hm5, hr5⟩
  have HM5 := Lib.hid (show Mor w w5 from Mor.trans HM4.out hm5)
  have R2_5 := Lib.hid (R2_4.out.mor hm5)
  have R3_5 := Lib.hid (R3_4.out.mor hm5)
  have R4_5 := Lib.hid (R4_4.out.mor hm5)
  have R5_5 := Lib.hid hr5
  clear hm5 hr5 R2_4 R3_4 R4_4
  go_wp2_with fail
  refine (CV.out _).mono ?_
  rintro e w6 ⟨v6, q6, rfl, hq6, hm6, hr6⟩
  have HM6 := Lib.hid (show Mor w w6 from Mor.trans HM5.out hm6)
  have R2_6 := Lib.hid (R2_5.out.mor hm6)
  have R3_6 := Lib.hid (R3_5.out.mor hm6)
  have R4_6 := Lib.hid (R4_5.out.mor hm6)
  have R5_6 := Lib.hid (R5_5.out.mor hm6)
  have R6_6 := Lib.hid hr6
  clear hm6 hr6 R2_5 R3_5 R4_5 R5_5
  go_wp2_with fail
  refine (CT.out _).mono ?_
  rintro e w7 ⟨v7, q7, rfl, hq7, hm7, hr7⟩
  have HM7 := Lib.hid (show Mor w w7 from Mor.trans HM6.out hm7)
  have R2_7 := Lib.hid (R2_6.out.mor hm7)
  have R3_7 := Lib.hid (R3_6.out.mor hm7)
  have R4_7 := Lib.hid (R4_6.out.mor hm7)
  have R5_7 := Lib.hid (R5_6.out.mor hm7)
  have R6_7 := Lib.hid (R6_6.out.mor hm7)
  have R7_7 := Lib.hid hr7
  clear hm7 hr7 R2_6 R3_6 R4_6 R5_6 R6_6
  go_wp2_with fail
  have hmk := HMK.out
  go_region
  all_goals (rw [ic_zero])
  all_goals clear hmk HMK
  · obtain ⟨W1, hW1⟩ : ∃ W1 : World, W1 = ((w7.alloc (.cells #[.int .i64 (A - B)] 3)).alloc (.cells (ic (List.replicate (N + 1) 0)) 3)).drew := ⟨_, rfl⟩
    have HW := Lib.hid (show Mor w7 W1 by rw [hW1]; exact Mor.drew (Mor.alloc (Mor.alloc (Mor.refl _))))
    have HALL := Lib.hid (show Row W1 (w7.heap.size) 0 [A - B] by rw [hW1]; exact Row.drew (Row.alloc (row_lit [A - B] rfl rfl)))
    have HNONE := Lib.hid (show Row W1 (w7.heap.size + 1) 0 (List.replicate (N + 1) 0) by rw [hW1]; exact Row.drew (row_lit (List.replicate (N + 1) 0) (by simp) rfl))
    have HMF := Lib.hid (HM7.out.trans HW.out)
    have E2 := Lib.hid (fun W (h : Mor W1 W) => equal_yes v2 0 q2 (w7.heap.size) 0 1 1 [A - B] W ((R2_7.out.mor HW.out).mor h) (HALL.out.mor h) rfl (by omega))
    have E3 := Lib.hid (fun W (h : Mor W1 W) => equal_yes v3 0 q3 (w7.heap.size) 0 1 1 [A - B] W ((R3_7.out.mor HW.out).mor h) (HALL.out.mor h) rfl (by omega))
    have E4 := Lib.hid (fun W (h : Mor W1 W) => equal_yes v4 0 q4 (w7.heap.size) 0 1 1 [A - B] W ((R4_7.out.mor HW.out).mor h) (HALL.out.mor h) rfl (by omega))
    have E5 := Lib.hid (fun W (h : Mor W1 W) => equal_yes v5 0 q5 (w7.heap.size + 1) 0 (N + 1) (N + 1) (List.replicate (N + 1) 0) W ((R5_7.out.mor HW.out).mor h) (HNONE.out.mor h) (by simp) (by omega))
    have E6 := Lib.hid (fun W (h : Mor W1 W) => equal_yes v6 0 q6 (w7.heap.size + 1) 0 (N + 1) (N + 1) (List.replicate (N + 1) 0) W ((R6_7.out.mor HW.out).mor h) (HNONE.out.mor h) (by simp) (by omega))
    have E7 := Lib.hid (fun W (h : Mor W1 W) => equal_yes v7 0 q7 (w7.heap.size + 1) 0 (N + 1) (N + 1) (List.replicate (N + 1) 0) W ((R7_7.out.mor HW.out).mor h) (HNONE.out.mor h) (by simp) (by omega))
    rw [← hW1]
    clear hW1
    go_wp2_with (first | (go_at_call 16; (with_reducible refine (E2.out _ (by repeat (first | exact Mor.refl _ | apply Mor.alloc | apply Mor.more | apply Mor.drewN | apply Mor.drew))).mono ?_); rintro e w9 ⟨rfl, m2, rfl⟩) | (go_at_call 16; (with_reducible refine (E3.out _ (by repeat (first | exact Mor.refl _ | apply Mor.alloc | apply Mor.more | apply Mor.drewN | apply Mor.drew))).mono ?_); rintro e w9 ⟨rfl, m3, rfl⟩) | (go_at_call 16; (with_reducible refine (E4.out _ (by repeat (first | exact Mor.refl _ | apply Mor.alloc | apply Mor.more | apply Mor.drewN | apply Mor.drew))).mono ?_); rintro e w9 ⟨rfl, m4, rfl⟩) | (go_at_call 16; (with_reducible refine (E5.out _ (by repeat (first | exact Mor.refl _ | apply Mor.alloc | apply Mor.more | apply Mor.drewN | apply Mor.drew))).mono ?_); rintro e w9 ⟨rfl, m5, rfl⟩) | (go_at_call 16; (with_reducible refine (E6.out _ (by repeat (first | exact Mor.refl _ | apply Mor.alloc | apply Mor.more | apply Mor.drewN | apply Mor.drew))).mono ?_); rintro e w9 ⟨rfl, m6, rfl⟩) | (go_at_call 16; (with_reducible refine (E7.out _ (by repeat (first | exact Mor.refl _ | apply Mor.alloc | apply Mor.more | apply Mor.drewN | apply Mor.drew))).mono ?_); rintro e w9 ⟨rfl, m7, rfl⟩))
    go_ret
    exact ⟨ret_b (by first | rfl | (simp; done) | (simp; omega)), (HMF.out.trans (by repeat (first | exact Mor.refl _ | apply Mor.alloc | apply Mor.more | apply Mor.drewN | apply Mor.drew))).below⟩
  · obtain ⟨W1, hW1⟩ : ∃ W1 : World, W1 = ((w7.alloc (.cells (ic (List.replicate (N + 1) 0)) 3)).alloc (.cells #[.int .i64 (A - B)] 3)).drew := ⟨_, rfl⟩
    have HW := Lib.hid (show Mor w7 W1 by rw [hW1]; exact Mor.drew (Mor.alloc (Mor.alloc (Mor.refl _))))
    have HALL := Lib.hid (show Row W1 (w7.heap.size + 1) 0 [A - B] by rw [hW1]; exact Row.drew (row_lit [A - B] (by simp) rfl))
    have HNONE := Lib.hid (show Row W1 (w7.heap.size) 0 (List.replicate (N + 1) 0) by rw [hW1]; exact Row.drew (Row.alloc (row_lit (List.replicate (N + 1) 0) rfl rfl)))
    have HMF := Lib.hid (HM7.out.trans HW.out)
    have E2 := Lib.hid (fun W (h : Mor W1 W) => equal_yes v2 0 q2 (w7.heap.size + 1) 0 1 1 [A - B] W ((R2_7.out.mor HW.out).mor h) (HALL.out.mor h) rfl (by omega))
    have E3 := Lib.hid (fun W (h : Mor W1 W) => equal_yes v3 0 q3 (w7.heap.size + 1) 0 1 1 [A - B] W ((R3_7.out.mor HW.out).mor h) (HALL.out.mor h) rfl (by omega))
    have E4 := Lib.hid (fun W (h : Mor W1 W) => equal_yes v4 0 q4 (w7.heap.size + 1) 0 1 1 [A - B] W ((R4_7.out.mor HW.out).mor h) (HALL.out.mor h) rfl (by omega))
    have E5 := Lib.hid (fun W (h : Mor W1 W) => equal_yes v5 0 q5 (w7.heap.size) 0 (N + 1) (N + 1) (List.replicate (N + 1) 0) W ((R5_7.out.mor HW.out).mor h) (HNONE.out.mor h) (by simp) (by omega))
    have E6 := Lib.hid (fun W (h : Mor W1 W) => equal_yes v6 0 q6 (w7.heap.size) 0 (N + 1) (N + 1) (List.replicate (N + 1) 0) W ((R6_7.out.mor HW.out).mor h) (HNONE.out.mor h) (by simp) (by omega))
    have E7 := Lib.hid (fun W (h : Mor W1 W) => equal_yes v7 0 q7 (w7.heap.size) 0 (N + 1) (N + 1) (List.replicate (N + 1) 0) W ((R7_7.out.mor HW.out).mor h) (HNONE.out.mor h) (by simp) (by omega))
    rw [← hW1]
    clear hW1
    go_wp2_with (first | (go_at_call 16; (with_reducible refine (E2.out _ (by repeat (first | exact Mor.refl _ | apply Mor.alloc | apply Mor.more | apply Mor.drewN | apply Mor.drew))).mono ?_); rintro e w9 ⟨rfl, m2, rfl⟩) | (go_at_call 16; (with_reducible refine (E3.out _ (by repeat (first | exact Mor.refl _ | apply Mor.alloc | apply Mor.more | apply Mor.drewN | apply Mor.drew))).mono ?_); rintro e w9 ⟨rfl, m3, rfl⟩) | (go_at_call 16; (with_reducible refine (E4.out _ (by repeat (first | exact Mor.refl _ | apply Mor.alloc | apply Mor.more | apply Mor.drewN | apply Mor.drew))).mono ?_); rintro e w9 ⟨rfl, m4, rfl⟩) | (go_at_call 16; (with_reducible refine (E5.out _ (by repeat (first | exact Mor.refl _ | apply Mor.alloc | apply Mor.more | apply Mor.drewN | apply Mor.drew))).mono ?_); rintro e w9 ⟨rfl, m5, rfl⟩) | (go_at_call 16; (with_reducible refine (E6.out _ (by repeat (first | exact Mor.refl _ | apply Mor.alloc | apply Mor.more | apply Mor.drewN | apply Mor.drew))).mono ?_); rintro e w9 ⟨rfl, m6, rfl⟩) | (go_at_call 16; (with_reducible refine (E7.out _ (by repeat (first | exact Mor.refl _ | apply Mor.alloc | apply Mor.more | apply Mor.drewN | apply Mor.drew))).mono ?_); rintro e w9 ⟨rfl, m7, rfl⟩))
    go_ret
    exact ⟨ret_b (by first | rfl | (simp; done) | (simp; omega)), (HMF.out.trans (by repeat (first | exact Mor.refl _ | apply Mor.alloc | apply Mor.more | apply Mor.drewN | apply Mor.drew))).below⟩

end Go.Proofs.Ytmkmbfficpgmdaa.lineOnce
