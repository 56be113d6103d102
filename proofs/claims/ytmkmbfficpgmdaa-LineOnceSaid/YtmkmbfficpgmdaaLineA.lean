/- The walks of package line: the closures, parts, Straight, Digits. -/
import Derived.Test.YtmkmbfficpgmdaaPlainF
import Derived.Test.YtmkmbfficpgmdaaFracA
import Derived.Test.YtmkmbfficpgmdaaFill
namespace Go.Proofs.Ytmkmbfficpgmdaa
open Go.ChangeShapes Go.WideShapes Go.ChangeAt Go.RowKit
set_option linter.unusedVariables false

theorem line_info : (Try.prog.info? 3).map (fun i => (i.zero, i.size, i.bytes)) = some (some (.int .i64 0), 1, 8) := by kernel_rfl

/-- what is written off by the k-th period, the same each time -/
def stB (D n : Int) (k : Int) : Int := rnd (D * k) n 2

set_option maxHeartbeats 400000 in
theorem straight1 (cost rest n k : Int) (b0 b1 b2 : Nat) (w : World) (c0 : w.cell? ⟨b0, 0, none⟩ = some (.int .i64 cost)) (c1 : w.cell? ⟨b1, 0, none⟩ = some (.int .i64 rest)) (c2 : w.cell? ⟨b2, 0, none⟩ = some (.int .i64 n))
    (h1 : 0 ≤ cost) (h2 : cost ≤ 1000000000000) (h3 : 0 ≤ rest) (h4 : rest ≤ cost) (h5 : 1 ≤ n) (h6 : n ≤ 40) (h7 : 0 ≤ k) (h8 : k ≤ 41) :
    Calls Try.prog 37 #[.int .i64 k, .pointer (some ⟨b0, 0, none⟩), .pointer (some ⟨b1, 0, none⟩), .pointer (some ⟨b2, 0, none⟩)] w fun e w' => e = .returned (.int .i64 (stB (cost - rest) n k)) ∧ ∃ m, w' = w.drewN m := by
  obtain ⟨p1, p2⟩ := prod_bd (cost - rest) k 1000000000000 41 (by omega) (by omega) h7 h8 (by omega)
  have E := Lib.hid (show rnd ((cost - rest) * k) n 2 = stB (cost - rest) n k from rfl)
  go_enter Try.func37, Try.ntmps37
  go_wp2_with (first | (go_at_call 38; refine (rounded_any _ _ _ _ (by omega) (by omega) (by omega) (by omega)).mono ?_; rintro e w1 ⟨rfl, m, rfl⟩))
  go_ret
  exact ⟨ret_i (by rw [E.out]), _, rfl⟩

theorem kept {w : World} {b : Nat} {v : Value} (h : w.cell? ⟨b, 0, none⟩ = some v) (hb : b < w.heap.size) (o : Obj) (m : Nat) : ((w.alloc o).drewN m).cell? ⟨b, 0, none⟩ = some v := by
  rw [World.cell?_drewN, World.cell?_alloc_past _ _ _ hb]; exact h

/-- the k-th part -/
def stP (D n : Int) (k : Nat) : Int := stB D n (k + 1) - stB D n k
theorem stB_bd (D n k : Int) (h1 : 0 ≤ D) (h2 : D ≤ 1000000000000) (h5 : 1 ≤ n) (h7 : 0 ≤ k) (h8 : k ≤ 41) : 0 ≤ stB D n k ∧ stB D n k ≤ 41000000000000 := by
  obtain ⟨p1, p2⟩ := prod_bd D k 1000000000000 41 (by omega) h2 h7 h8 (by omega)
  have p0 : 0 ≤ D * k := Int.mul_nonneg h1 h7
  have := Int.mul_le_mul_of_nonneg_right h5 (show (0:Int) ≤ 41000000000000 by omega)
  exact ⟨le_rnd _ _ _ _ h5 (by omega), rnd_le _ _ _ _ h5 (by omega)⟩

set_option maxHeartbeats 1600000 in
theorem parts_straight (cost rest : Int) (n : Nat) (b0 b1 b2 : Nat) (w : World) (c0 : w.cell? ⟨b0, 0, none⟩ = some (.int .i64 cost)) (c1 : w.cell? ⟨b1, 0, none⟩ = some (.int .i64 rest)) (c2 : w.cell? ⟨b2, 0, none⟩ = some (.int .i64 (n : Int)))
    (l0 : b0 < w.heap.size) (l1 : b1 < w.heap.size) (l2 : b2 < w.heap.size)
    (h1 : 0 ≤ cost) (h2 : cost ≤ 1000000000000) (h3 : 0 ≤ rest) (h4 : rest ≤ cost) (h5 : 1 ≤ n) (h6 : n ≤ 40) :
    Calls Try.prog 36 #[.int .i64 (n : Int), .func (.func 37) #[] #[.pointer (some ⟨b0, 0, none⟩), .pointer (some ⟨b1, 0, none⟩), .pointer (some ⟨b2, 0, none⟩)]] w fun e w' =>
      e = .returned (.slice (some ⟨w.heap.size, 0, none⟩) n n) ∧ ∃ k, w' = (w.alloc (.cells (fc (stP (cost - rest) n) n n) 3)).drewN k := by
  have C0 := Lib.hid (kept c0 l0)
  have C1 := Lib.hid (kept c1 l1)
  have C2 := Lib.hid (kept c2 l2)
  have hmk := fun w => run_make_row' (P := Try.prog) 22 3 (.int .i64 0) 8 Try.underlying22 line_info rfl .i64 .i64 n (by omega) (by omega) w
  go_enter Try.func36, Try.ntmps36
  go_wp2_with fail
  rw [fc_zero (stP (cost - rest) n) n]
  go_loopw [11] (fun i wr => ∃ k m : Nat, k ≤ n ∧ i = .int .i64 k ∧ wr = (w.alloc (.cells (fc (stP (cost - rest) n) n k) 3)).drewN m) (fun i _ => n - (intOf i).toNat)
  case atStart => exact ⟨0, 0, Nat.zero_le _, rfl, rfl⟩
  case round =>
    obtain ⟨k, m, hk, rfl, rfl⟩ := hrel
    clear hmk
    by_cases hlt : k < n
    · have E := Lib.hid (show stB (cost - rest) n ((k : Int) + 1) - stB (cost - rest) n k = stP (cost - rest) n k from rfl)
      obtain ⟨s1, s2⟩ := stB_bd (cost - rest) n ((k : Int) + 1) (by omega) (by omega) (by omega) (by omega) (by omega)
      obtain ⟨s3, s4⟩ := stB_bd (cost - rest) n (k : Int) (by omega) (by omega) (by omega) (by omega) (by omega)
      have f0 : (fc (stP (cost - rest) n) n k)[k]? = some (.int .i64 0) := by rw [fc_get _ _ _ _ hlt, if_neg (by omega)]
      have hi : ((k : Nat) : Int) < (n : Int) := by omega
      go_wp2_with (first | (go_at_call 37; refine (straight1 cost rest n _ b0 b1 b2 _ (by exact C0.out _ _) (by exact C1.out _ _) (by exact C2.out _ _) h1 h2 h3 h4 (by omega) (by omega) (by omega) (by omega)).mono ?_; rintro e w1 ⟨rfl, m2, rfl⟩))
      go_roundw
      case rel => exact ⟨k + 1, _, by omega, by go_num, by rw [E.out, fc_step _ _ _ hlt]⟩
      case measure => simp [intOf]; omega
    · have e : k = n := by omega
      subst e
      go_wp2
      go_ret
      exact ⟨rfl, _, rfl⟩

/-- what package line hands back -/
def LinePost (w : World) (xs : List Int) (n : Nat) (e : Ending) (w' : World) : Prop :=
  ∃ bs k b c, e = .returned (.tuple #[.slice (some ⟨b, 0, none⟩) n c, .int .i64 0]) ∧ w' = more w bs k ∧ xs.length = n ∧ n ≤ c ∧ Row (more w bs k) b 0 xs

theorem line_post {w w' : World} {b n : Nat} {xs : List Int} (hm : Mor w w') (hl : xs.length = n) (hr : Row w' b 0 xs) :
    LinePost w xs n (.returned (.tuple #[.slice (some ⟨b, 0, none⟩) n n, .int .i64 0])) w' := by
  obtain ⟨bs, k, rfl⟩ := hm
  exact ⟨bs, k, b, n, rfl, rfl, hl, Nat.le_refl _, hr⟩

set_option maxHeartbeats 400000 in
theorem lineLook_ok (cost rest n : Int) (w : World) (h1 : 0 ≤ cost) (h2 : cost ≤ 1000000000000) (h3 : 0 ≤ rest) (h4 : rest ≤ cost) (h5 : 1 ≤ n) (h6 : n ≤ 40) :
    Calls Try.prog 35 #[.int .i64 cost, .int .i64 rest, .int .i64 n] w fun e w' => e = .returned (.int .i64 0) ∧ w = w' := by
  go_enter Try.func35, Try.ntmps35
  go_wp2
  all_goals go_ret
  all_goals exact ⟨rfl, rfl⟩

set_option maxHeartbeats 1600000 in
theorem straight_ok (cost rest : Int) (n : Nat) (w : World) (h1 : 0 ≤ cost) (h2 : cost ≤ 1000000000000) (h3 : 0 ≤ rest) (h4 : rest ≤ cost) (h5 : 1 ≤ n) (h6 : n ≤ 40) :
    Calls Try.prog 25 #[.int .i64 cost, .int .i64 rest, .int .i64 (n : Int)] w (LinePost w ((List.range n).map (stP (cost - rest) n)) n) := by
  have HL := Lib.hid (fun w => lineLook_ok cost rest n w h1 h2 h3 h4 (by omega) (by omega))
  go_enter Try.func25, Try.ntmps25
  go_wp2_with (first | (go_at_call 35; (with_reducible refine (HL.out _).mono ?_); rintro e w1 ⟨rfl, rfl⟩))
  refine (parts_straight cost rest n _ _ _ _ (by simp [go_sem]) (by simp [go_sem]) (by simp [go_sem]) (by simp [go_sem]) (by simp [go_sem]) (by simp [go_sem]) h1 h2 h3 h4 h5 h6).mono ?_
  rintro e w1 ⟨rfl, k, rfl⟩
  have R := Lib.hid (fun (w : World) k => fc_row w (stP (cost - rest) n) n 3 k)
  go_wp2
  go_returns
  refine line_post (by repeat (first | exact Mor.refl _ | apply Mor.alloc | apply Mor.more | apply Mor.drewN | apply Mor.drew)) (by simp) ?_
  have r := R.out (((w.alloc (.cells #[.int .i64 cost] 3)).alloc (.cells #[.int .i64 rest] 3)).alloc (.cells #[.int .i64 (n : Int)] 3)) k
  simp [go_sem] at r
  exact r

end Go.Proofs.Ytmkmbfficpgmdaa
