/- The walk of split.Even: what it computes. -/
import Derived.Test.YtahegjhjonodlaaDoorPNumbersOwnZ1
import Derived.Test.YtahegjhjonodlaaDoorPNumbersOwnZ2
import Derived.Test.YtahegjhjonodlaaDoorPNumbersOwnZ6
import Derived.Test.YtahegjhjonodlaaDoorPNumbersOwnZ7
import Derived.Test.YtahegjhjonodlaaDoorRows
import Derived.BigQuiet
import Derived.Deep.OwnRows
import Derived.Deep.QuietTactic
import Derived.Handy
import Derived.Lib.Hide
import Derived.OpenShut
import Derived.Outline
import Derived.ProofKit
import Derived.RegionTactic
import Derived.WalkKit
namespace Go.Proofs.YtahegjhjonodlaaDoor
open Go.ChangeShapes Go.WideShapes Go.ChangeAt Go.RowKit
set_option linter.unusedVariables false
set_option maxRecDepth 100000

/-- the k-th of n even parts of a (a from 0 on), with the sign s -/
def evp (s a n : Int) (k : Nat) : Int := s * (a * (k + 1) / n - a * k / n)
def evl (s a n : Int) (m : Nat) : List Int := (List.range m).map (evp s a n)

theorem info_intE : (Tryd.prog.info? 3).map (fun i => (i.zero, i.size, i.bytes)) = some (some (.int .i64 0), 1, 8) := by kernel_rfl

/-- the cells of the block after k rounds -/
def evc (s a n : Int) (m k : Nat) : Array Value := (((List.range m).map (fun i => Value.int .i64 (if i < k then evp s a n i else 0)))).toArray

theorem evc_size (s a n : Int) (m k : Nat) : (evc s a n m k).size = m := by simp [evc]
theorem evc_get (s a n : Int) (m k i : Nat) (h : i < m) : (evc s a n m k)[i]? = some (.int .i64 (if i < k then evp s a n i else 0)) := by
  simp [evc, h]
theorem evc_zero (s a n : Int) (m : Nat) : madeCells #[Value.int .i64 0] m = evc s a n m 0 := by
  apply Array.ext_getElem?
  intro i
  by_cases h : i < m
  · rw [evc_get _ _ _ _ _ _ h]; simp [madeCells, h, Nat.mod_one]
  · rw [Array.getElem?_eq_none (by rw [size_madeCells]; omega), Array.getElem?_eq_none (by rw [evc_size]; omega)]
theorem evc_step (s a n : Int) (m k : Nat) (hk : k < m) : (evc s a n m k).setIfInBounds k (.int .i64 (evp s a n k)) = evc s a n m (k + 1) := by
  apply Array.ext_getElem?
  intro i
  rw [Array.getElem?_setIfInBounds, evc_size]
  by_cases h : i < m
  · by_cases hi : k = i
    · subst hi; rw [if_pos rfl, if_pos hk, evc_get _ _ _ _ _ _ h, if_pos (by omega)]
    · rw [if_neg hi, evc_get _ _ _ _ _ _ h, evc_get _ _ _ _ _ _ h]
      by_cases hl : i < k
      · rw [if_pos hl, if_pos (by omega)]
      · rw [if_neg hl, if_neg (by omega)]
  · rw [if_neg (by omega), Array.getElem?_eq_none (by rw [evc_size]; omega), Array.getElem?_eq_none (by rw [evc_size]; omega)]

set_option maxHeartbeats 1600000 in
theorem even_pos (a : Int) (n : Nat) (w : World) (h1 : 0 ≤ a) (h2 : a ≤ 1000000000000) (h3 : 1 ≤ n) (h4 : n ≤ 40) :
    Calls Tryd.prog 8 #[.int .i64 a, .int .i64 (n : Int)] w fun e w' => e = .returned (.tuple #[.slice (some ⟨w.heap.size, 0, none⟩) n n, .int .i64 0]) ∧ ∃ k, w' = (w.alloc (.cells (evc 1 a n n n) 3)).drewN k := by
  have hmk := fun w => run_make_row' (P := Tryd.prog) 22 3 (.int .i64 0) 8 Tryd.underlying22 info_intE rfl .i64 .i64 n (by omega) (by omega) w
  go_enter Tryd.func8, Tryd.ntmps8
  go_wp2_with (first | (go_at_call 50; refine (money_yes _ _ (by omega) (by omega)).mono ?_; rintro e w1 ⟨rfl, rfl⟩))
  rw [evc_zero 1 a n n]
  go_loopw [28] (fun i wr => ∃ k m : Nat, k ≤ n ∧ i = .int .i64 k ∧ wr = (w.alloc (.cells (evc 1 a n n k) 3)).drewN m) (fun i _ => n - (intOf i).toNat)
  case atStart => exact ⟨0, 0, Nat.zero_le _, rfl, rfl⟩
  case round =>
    obtain ⟨k, m, hk, rfl, rfl⟩ := hrel
    clear hmk
    by_cases hlt : k < n
    · obtain ⟨b1, b2⟩ := prod_bd a ((k : Int) + 1) 1000000000000 40 (by omega) h2 (by omega) (by omega) (by omega)
      obtain ⟨b3, b4⟩ := prod_bd a (k : Int) 1000000000000 40 (by omega) h2 (by omega) (by omega) (by omega)
      have b5 : 0 ≤ a * ((k : Int) + 1) := Int.mul_nonneg (by omega) (by omega)
      have b6 : 0 ≤ a * (k : Int) := Int.mul_nonneg (by omega) (by omega)
      have b7 := Int.ediv_nonneg b5 (show (0 : Int) ≤ (n : Int) by omega)
      have b8 := Int.ediv_nonneg b6 (show (0 : Int) ≤ (n : Int) by omega)
      have b9 := Int.ediv_le_self (n : Int) b5
      have b10 := Int.ediv_le_self (n : Int) b6
      have E := Lib.hid (show a * ((k : Int) + 1) / n - a * (k : Int) / n = evp 1 a n k by unfold evp; omega)
      have c0 : (evc 1 a n n k)[k]? = some (.int .i64 0) := by rw [evc_get _ _ _ _ _ _ hlt, if_neg (by omega)]
      have hi : ((k : Nat) : Int) < (n : Int) := by omega
      go_wp2
      go_region
      go_wp2
      go_roundw
      case rel => exact ⟨k + 1, m + 1, by omega, by go_num, by rw [E.out, evc_step _ _ _ _ _ hlt]⟩
      case measure => simp [intOf]; omega
    · have e : k = n := by omega
      subst e
      go_wp2
      go_returns
      exact ⟨rfl, _, rfl⟩

set_option maxHeartbeats 1600000 in
theorem even_neg (a : Int) (n : Nat) (w : World) (h1 : 1 ≤ a) (h2 : a ≤ 1000000000000) (h3 : 1 ≤ n) (h4 : n ≤ 40) :
    Calls Tryd.prog 8 #[.int .i64 (-a), .int .i64 (n : Int)] w fun e w' => e = .returned (.tuple #[.slice (some ⟨w.heap.size, 0, none⟩) n n, .int .i64 0]) ∧ ∃ k, w' = (w.alloc (.cells (evc (-1) a n n n) 3)).drewN k := by
  have hmk := fun w => run_make_row' (P := Tryd.prog) 22 3 (.int .i64 0) 8 Tryd.underlying22 info_intE rfl .i64 .i64 n (by omega) (by omega) w
  go_enter Tryd.func8, Tryd.ntmps8
  go_wp2_with (first | (go_at_call 50; refine (money_yes _ _ (by omega) (by omega)).mono ?_; rintro e w1 ⟨rfl, rfl⟩))
  rw [evc_zero (-1) a n n]
  go_loopw [28] (fun i wr => ∃ k m : Nat, k ≤ n ∧ i = .int .i64 k ∧ wr = (w.alloc (.cells (evc (-1) a n n k) 3)).drewN m) (fun i _ => n - (intOf i).toNat)
  case atStart => exact ⟨0, 0, Nat.zero_le _, rfl, rfl⟩
  case round =>
    obtain ⟨k, m, hk, rfl, rfl⟩ := hrel
    clear hmk
    by_cases hlt : k < n
    · obtain ⟨b1, b2⟩ := prod_bd a ((k : Int) + 1) 1000000000000 40 (by omega) h2 (by omega) (by omega) (by omega)
      obtain ⟨b3, b4⟩ := prod_bd a (k : Int) 1000000000000 40 (by omega) h2 (by omega) (by omega) (by omega)
      have b5 : 0 ≤ a * ((k : Int) + 1) := Int.mul_nonneg (by omega) (by omega)
      have b6 : 0 ≤ a * (k : Int) := Int.mul_nonneg (by omega) (by omega)
      have b7 := Int.ediv_nonneg b5 (show (0 : Int) ≤ (n : Int) by omega)
      have b8 := Int.ediv_nonneg b6 (show (0 : Int) ≤ (n : Int) by omega)
      have b9 := Int.ediv_le_self (n : Int) b5
      have b10 := Int.ediv_le_self (n : Int) b6
      have E := Lib.hid (show -(a * ((k : Int) + 1) / n - a * (k : Int) / n) = evp (-1) a n k by unfold evp; omega)
      have c0 : (evc (-1) a n n k)[k]? = some (.int .i64 0) := by rw [evc_get _ _ _ _ _ _ hlt, if_neg (by omega)]
      have hi : ((k : Nat) : Int) < (n : Int) := by omega
      go_wp2
      go_region
      go_wp2
      go_roundw
      case rel => exact ⟨k + 1, m + 1, by omega, by go_num, by rw [E.out, evc_step _ _ _ _ _ hlt]⟩
      case measure => simp [intOf]; omega
    · have e : k = n := by omega
      subst e
      go_wp2
      go_returns
      exact ⟨rfl, _, rfl⟩

theorem evl_len (s a n : Int) (m : Nat) : (evl s a n m).length = m := by simp [evl]
set_option maxHeartbeats 800000 in
theorem even_no (A n : Int) (w : World) (h : ¬ (-1000000000000 ≤ A ∧ A ≤ 1000000000000 ∧ 1 ≤ n ∧ n ≤ 40)) :
    Calls Tryd.prog 8 #[.int .i64 A, .int .i64 n] w fun e w' => e = .returned (.tuple #[.slice none 0 0, .int .i64 1]) ∧ w = w' := by
  by_cases hA : -1000000000000 ≤ A ∧ A ≤ 1000000000000
  · obtain ⟨a1, a2⟩ := hA
    by_cases hn : n < 1
    · clear h
      go_enter Tryd.func8, Tryd.ntmps8
      go_wp2_with (first | (go_at_call 50; refine (money_yes _ _ a1 a2).mono ?_; rintro e w1 ⟨rfl, rfl⟩))
      go_returns
      exact ⟨rfl, rfl⟩
    · have h40 : 40 < n := by omega
      clear h
      go_enter Tryd.func8, Tryd.ntmps8
      go_wp2_with (first | (go_at_call 50; refine (money_yes _ _ a1 a2).mono ?_; rintro e w1 ⟨rfl, rfl⟩))
      go_returns
      exact ⟨rfl, rfl⟩
  · have H := Lib.hid (show A < -1000000000000 ∨ 1000000000000 < A by omega)
    clear h hA
    go_enter Tryd.func8, Tryd.ntmps8
    go_wp2_with (first | (go_at_call 50; refine (money_no _ _ H.out).mono ?_; rintro e w1 ⟨rfl, rfl⟩))
    go_returns
    exact ⟨rfl, rfl⟩

end Go.Proofs.YtahegjhjonodlaaDoor

/- A block of integers that a loop fills from the front. -/
namespace Go.Proofs.YtahegjhjonodlaaDoor
open Go.ChangeShapes Go.WideShapes Go.ChangeAt Go.RowKit
set_option linter.unusedVariables false
set_option maxRecDepth 100000

/-- the cells of the block after k rounds: f 0, .. f (k-1), then zeros -/
def fc (f : Nat → Int) (m k : Nat) : Array Value := ((List.range m).map (fun i => Value.int .i64 (if i < k then f i else 0))).toArray
theorem fc_size (f : Nat → Int) (m k : Nat) : (fc f m k).size = m := by simp [fc]
theorem fc_get (f : Nat → Int) (m k i : Nat) (h : i < m) : (fc f m k)[i]? = some (.int .i64 (if i < k then f i else 0)) := by simp [fc, h]
theorem fc_zero (f : Nat → Int) (m : Nat) : madeCells #[Value.int .i64 0] m = fc f m 0 := by
  apply Array.ext_getElem?
  intro i
  by_cases h : i < m
  · rw [fc_get _ _ _ _ h]; simp [madeCells, h, Nat.mod_one]
  · rw [Array.getElem?_eq_none (by rw [size_madeCells]; omega), Array.getElem?_eq_none (by rw [fc_size]; omega)]
theorem fc_step (f : Nat → Int) (m k : Nat) (hk : k < m) : (fc f m k).setIfInBounds k (.int .i64 (f k)) = fc f m (k + 1) := by
  apply Array.ext_getElem?
  intro i
  rw [Array.getElem?_setIfInBounds, fc_size]
  by_cases h : i < m
  · by_cases hi : k = i
    · subst hi; rw [if_pos rfl, if_pos hk, fc_get _ _ _ _ h, if_pos (by omega)]
    · rw [if_neg hi, fc_get _ _ _ _ h, fc_get _ _ _ _ h]
      by_cases hl : i < k
      · rw [if_pos hl, if_pos (by omega)]
      · rw [if_neg hl, if_neg (by omega)]
  · rw [if_neg (by omega), Array.getElem?_eq_none (by rw [fc_size]; omega), Array.getElem?_eq_none (by rw [fc_size]; omega)]
end Go.Proofs.YtahegjhjonodlaaDoor

/- The walks of package line: the closures, parts, Straight, Digits. -/
namespace Go.Proofs.YtahegjhjonodlaaDoor
open Go.ChangeShapes Go.WideShapes Go.ChangeAt Go.RowKit
set_option linter.unusedVariables false
set_option maxRecDepth 100000

theorem line_info : (Tryd.prog.info? 3).map (fun i => (i.zero, i.size, i.bytes)) = some (some (.int .i64 0), 1, 8) := by kernel_rfl

/-- what is written off by the k-th period, the same each time -/
def stB (D n : Int) (k : Int) : Int := rnd (D * k) n 2

set_option maxHeartbeats 400000 in
theorem straight1 (cost rest n k : Int) (b0 b1 b2 : Nat) (w : World) (c0 : w.cell? ⟨b0, 0, none⟩ = some (.int .i64 cost)) (c1 : w.cell? ⟨b1, 0, none⟩ = some (.int .i64 rest)) (c2 : w.cell? ⟨b2, 0, none⟩ = some (.int .i64 n))
    (h1 : 0 ≤ cost) (h2 : cost ≤ 1000000000000) (h3 : 0 ≤ rest) (h4 : rest ≤ cost) (h5 : 1 ≤ n) (h6 : n ≤ 40) (h7 : 0 ≤ k) (h8 : k ≤ 41) :
    Calls Tryd.prog 57 #[.int .i64 k, .pointer (some ⟨b0, 0, none⟩), .pointer (some ⟨b1, 0, none⟩), .pointer (some ⟨b2, 0, none⟩)] w fun e w' => e = .returned (.int .i64 (stB (cost - rest) n k)) ∧ ∃ m, w' = w.drewN m := by
  obtain ⟨p1, p2⟩ := prod_bd (cost - rest) k 1000000000000 41 (by omega) (by omega) h7 h8 (by omega)
  have E := Lib.hid (show rnd ((cost - rest) * k) n 2 = stB (cost - rest) n k from rfl)
  go_enter Tryd.func57, Tryd.ntmps57
  go_wp2_with (first | (go_at_call 58; refine (rounded_any _ _ _ _ (by omega) (by omega) (by omega) (by omega)).mono ?_; rintro e w1 ⟨rfl, m, rfl⟩))
  go_ret
  exact ⟨ret_i (by rw [E.out]), _, rfl⟩

theorem kept {w : World} {b : Nat} {v : Value} (h : w.cell? ⟨b, 0, none⟩ = some v) (hb : b < w.heap.size) (o : Obj) (m : Nat) : ((w.alloc o).drewN m).cell? ⟨b, 0, none⟩ = some v := by
  rw [World.cell?_drewN, World.cell?_alloc_past _ _ _ hb]; exact h

/-- the k-th part -/
def stP (D n : Int) (k : Nat) : Int := stB D n (k + 1) - stB D n k
theorem stB_bd (D n k : Int) (h1 : 0 ≤ D) (h2 : D ≤ 1000000000000) (h5 : 1 ≤ n) (h7 : 0 ≤ k) (h8 : k ≤ 41) : 0 ≤ stB D n k ∧ stB D n k ≤ 41000000000000 := by
  obtain ⟨p1, p2⟩ := prod_bd D k 1000000000000 41 (by omega) h2 h7 h8 (by omega)
  have p0 : 0 ≤ D * k := Int.mul_nonneg h1 h7
  have := Int.mul_le_mul_of_nonneg_right h5 (show (0:Int) ≤ 41000000000000 by omega)
  exact ⟨le_rnd _ _ _ _ h5 (by omega), rnd_le _ _ _ _ h5 (by omega)⟩

set_option maxHeartbeats 1600000 in
theorem parts_straight (cost rest : Int) (n : Nat) (b0 b1 b2 : Nat) (w : World) (c0 : w.cell? ⟨b0, 0, none⟩ = some (.int .i64 cost)) (c1 : w.cell? ⟨b1, 0, none⟩ = some (.int .i64 rest)) (c2 : w.cell? ⟨b2, 0, none⟩ = some (.int .i64 (n : Int)))
    (l0 : b0 < w.heap.size) (l1 : b1 < w.heap.size) (l2 : b2 < w.heap.size)
    (h1 : 0 ≤ cost) (h2 : cost ≤ 1000000000000) (h3 : 0 ≤ rest) (h4 : rest ≤ cost) (h5 : 1 ≤ n) (h6 : n ≤ 40) :
    Calls Tryd.prog 56 #[.int .i64 (n : Int), .func (.func 57) #[] #[.pointer (some ⟨b0, 0, none⟩), .pointer (some ⟨b1, 0, none⟩), .pointer (some ⟨b2, 0, none⟩)]] w fun e w' =>
      e = .returned (.slice (some ⟨w.heap.size, 0, none⟩) n n) ∧ ∃ k, w' = (w.alloc (.cells (fc (stP (cost - rest) n) n n) 3)).drewN k := by
  have C0 := Lib.hid (kept c0 l0)
  have C1 := Lib.hid (kept c1 l1)
  have C2 := Lib.hid (kept c2 l2)
  have hmk := fun w => run_make_row' (P := Tryd.prog) 22 3 (.int .i64 0) 8 Tryd.underlying22 line_info rfl .i64 .i64 n (by omega) (by omega) w
  go_enter Tryd.func56, Tryd.ntmps56
  go_wp2_with fail
  rw [fc_zero (stP (cost - rest) n) n]
  go_loopw [11] (fun i wr => ∃ k m : Nat, k ≤ n ∧ i = .int .i64 k ∧ wr = (w.alloc (.cells (fc (stP (cost - rest) n) n k) 3)).drewN m) (fun i _ => n - (intOf i).toNat)
  case atStart => exact ⟨0, 0, Nat.zero_le _, rfl, rfl⟩
  case round =>
    obtain ⟨k, m, hk, rfl, rfl⟩ := hrel
    clear hmk
    by_cases hlt : k < n
    · have E := Lib.hid (show stB (cost - rest) n ((k : Int) + 1) - stB (cost - rest) n k = stP (cost - rest) n k from rfl)
      obtain ⟨s1, s2⟩ := stB_bd (cost - rest) n ((k : Int) + 1) (by omega) (by omega) (by omega) (by omega) (by omega)
      obtain ⟨s3, s4⟩ := stB_bd (cost - rest) n (k : Int) (by omega) (by omega) (by omega) (by omega) (by omega)
      have f0 : (fc (stP (cost - rest) n) n k)[k]? = some (.int .i64 0) := by rw [fc_get _ _ _ _ hlt, if_neg (by omega)]
      have hi : ((k : Nat) : Int) < (n : Int) := by omega
      go_wp2_with (first | (go_at_call 57; refine (straight1 cost rest n _ b0 b1 b2 _ (by exact C0.out _ _) (by exact C1.out _ _) (by exact C2.out _ _) h1 h2 h3 h4 (by omega) (by omega) (by omega) (by omega)).mono ?_; rintro e w1 ⟨rfl, m2, rfl⟩))
      go_roundw
      case rel => exact ⟨k + 1, _, by omega, by go_num, by rw [E.out, fc_step _ _ _ hlt]⟩
      case measure => simp [intOf]; omega
    · have e : k = n := by omega
      subst e
      go_wp2
      go_ret
      exact ⟨rfl, _, rfl⟩

set_option maxHeartbeats 400000 in
theorem lineLook_ok (cost rest n : Int) (w : World) (h1 : 0 ≤ cost) (h2 : cost ≤ 1000000000000) (h3 : 0 ≤ rest) (h4 : rest ≤ cost) (h5 : 1 ≤ n) (h6 : n ≤ 40) :
    Calls Tryd.prog 55 #[.int .i64 cost, .int .i64 rest, .int .i64 n] w fun e w' => e = .returned (.int .i64 0) ∧ w = w' := by
  go_enter Tryd.func55, Tryd.ntmps55
  go_wp2
  all_goals go_ret
  all_goals exact ⟨rfl, rfl⟩

end Go.Proofs.YtahegjhjonodlaaDoor

/- The walk of line.Digits. -/
namespace Go.Proofs.YtahegjhjonodlaaDoor
open Go.ChangeShapes Go.WideShapes Go.ChangeAt Go.RowKit
set_option linter.unusedVariables false
set_option maxRecDepth 100000

/-- what is written off by the k-th period, by digits -/
def dgB (D n : Int) (k : Int) : Int := rnd (D * (k * n - k * (k - 1) / 2)) (n * (n + 1) / 2) 2
def dgP (D n : Int) (k : Nat) : Int := dgB D n (k + 1) - dgB D n k

theorem tri_bd (n k : Int) (h5 : 1 ≤ n) (h6 : n ≤ 40) (h7 : 0 ≤ k) (h8 : k ≤ n) :
    0 ≤ k * (k - 1) ∧ k * (k - 1) ≤ 1600 ∧ 0 ≤ k * n ∧ k * n ≤ 1600 ∧ 0 ≤ k * n - k * (k - 1) / 2 ∧ k * n - k * (k - 1) / 2 ≤ 1600 ∧ 1 ≤ n * (n + 1) / 2 ∧ n * (n + 1) / 2 ≤ 820 := by
  have a1 : 0 ≤ k * (k - 1) := by
    by_cases h : k = 0
    · subst h; simp
    · exact Int.mul_nonneg h7 (by omega)
  have a2 : k * n ≤ 40 * n := Int.mul_le_mul_of_nonneg_right (by omega) (by omega)
  have a3 : 0 ≤ k * n := Int.mul_nonneg h7 (by omega)
  have a4 : k * (k - 1) ≤ k * n := Int.mul_le_mul_of_nonneg_left (by omega) h7
  have a5 : n * (n + 1) ≤ 40 * (n + 1) := Int.mul_le_mul_of_nonneg_right (by omega) (by omega)
  have a6 : 1 * (n + 1) ≤ n * (n + 1) := Int.mul_le_mul_of_nonneg_right (by omega) (by omega)
  omega

theorem dgB_bd (D n k : Int) (h1 : 0 ≤ D) (h2 : D ≤ 1000000000000) (h5 : 1 ≤ n) (h6 : n ≤ 40) (h7 : 0 ≤ k) (h8 : k ≤ n) : 0 ≤ dgB D n k ∧ dgB D n k ≤ 1600000000000000 := by
  obtain ⟨t1, t2, t3, t4, t5, t6, t7, t8⟩ := tri_bd n k h5 h6 h7 h8
  obtain ⟨p1, p2⟩ := prod_bd D (k * n - k * (k - 1) / 2) 1000000000000 1600 (by omega) h2 t5 t6 (by omega)
  have p0 : 0 ≤ D * (k * n - k * (k - 1) / 2) := Int.mul_nonneg h1 t5
  have := Int.mul_le_mul_of_nonneg_right t7 (show (0:Int) ≤ 1600000000000000 by omega)
  exact ⟨le_rnd _ _ _ _ t7 (by omega), rnd_le _ _ _ _ t7 (by omega)⟩

set_option maxHeartbeats 400000 in
theorem digits1 (cost rest n k : Int) (b0 b1 b2 b3 : Nat) (w : World) (c0 : w.cell? ⟨b0, 0, none⟩ = some (.int .i64 cost)) (c1 : w.cell? ⟨b1, 0, none⟩ = some (.int .i64 rest)) (c2 : w.cell? ⟨b2, 0, none⟩ = some (.int .i64 n)) (c3 : w.cell? ⟨b3, 0, none⟩ = some (.int .i64 (n * (n + 1) / 2)))
    (h1 : 0 ≤ cost) (h2 : cost ≤ 1000000000000) (h3 : 0 ≤ rest) (h4 : rest ≤ cost) (h5 : 1 ≤ n) (h6 : n ≤ 40) (h7 : 0 ≤ k) (h8 : k ≤ n) :
    Calls Tryd.prog 59 #[.int .i64 k, .pointer (some ⟨b0, 0, none⟩), .pointer (some ⟨b1, 0, none⟩), .pointer (some ⟨b2, 0, none⟩), .pointer (some ⟨b3, 0, none⟩)] w fun e w' => e = .returned (.int .i64 (dgB (cost - rest) n k)) ∧ ∃ m, w' = w.drewN m := by
  obtain ⟨t1, t2, t3, t4, t5, t6, t7, t8⟩ := tri_bd n k h5 h6 h7 h8
  obtain ⟨p1, p2⟩ := prod_bd (cost - rest) (k * n - k * (k - 1) / 2) 1000000000000 1600 (by omega) (by omega) t5 t6 (by omega)
  have E := Lib.hid (show rnd ((cost - rest) * (k * n - k * (k - 1) / 2)) (n * (n + 1) / 2) 2 = dgB (cost - rest) n k from rfl)
  go_enter Tryd.func59, Tryd.ntmps59
  go_wp2_with (first | (go_at_call 58; refine (rounded_any _ _ _ _ (by omega) (by omega) (by omega) (by omega)).mono ?_; rintro e w1 ⟨rfl, m, rfl⟩))
  go_ret
  exact ⟨ret_i (by rw [E.out]), _, rfl⟩

set_option maxHeartbeats 1600000 in
theorem parts_digits (cost rest : Int) (n : Nat) (b0 b1 b2 b3 : Nat) (w : World) (c0 : w.cell? ⟨b0, 0, none⟩ = some (.int .i64 cost)) (c1 : w.cell? ⟨b1, 0, none⟩ = some (.int .i64 rest)) (c2 : w.cell? ⟨b2, 0, none⟩ = some (.int .i64 (n : Int))) (c3 : w.cell? ⟨b3, 0, none⟩ = some (.int .i64 ((n : Int) * (n + 1) / 2)))
    (l0 : b0 < w.heap.size) (l1 : b1 < w.heap.size) (l2 : b2 < w.heap.size) (l3 : b3 < w.heap.size)
    (h1 : 0 ≤ cost) (h2 : cost ≤ 1000000000000) (h3 : 0 ≤ rest) (h4 : rest ≤ cost) (h5 : 1 ≤ n) (h6 : n ≤ 40) :
    Calls Tryd.prog 56 #[.int .i64 (n : Int), .func (.func 59) #[] #[.pointer (some ⟨b0, 0, none⟩), .pointer (some ⟨b1, 0, none⟩), .pointer (some ⟨b2, 0, none⟩), .pointer (some ⟨b3, 0, none⟩)]] w fun e w' =>
      e = .returned (.slice (some ⟨w.heap.size, 0, none⟩) n n) ∧ ∃ k, w' = (w.alloc (.cells (fc (dgP (cost - rest) n) n n) 3)).drewN k := by
  have C0 := Lib.hid (kept c0 l0)
  have C1 := Lib.hid (kept c1 l1)
  have C2 := Lib.hid (kept c2 l2)
  have C3 := Lib.hid (kept c3 l3)
  have hmk := fun w => run_make_row' (P := Tryd.prog) 22 3 (.int .i64 0) 8 Tryd.underlying22 line_info rfl .i64 .i64 n (by omega) (by omega) w
  go_enter Tryd.func56, Tryd.ntmps56
  go_wp2_with fail
  rw [fc_zero (dgP (cost - rest) n) n]
  go_loopw [11] (fun i wr => ∃ k m : Nat, k ≤ n ∧ i = .int .i64 k ∧ wr = (w.alloc (.cells (fc (dgP (cost - rest) n) n k) 3)).drewN m) (fun i _ => n - (intOf i).toNat)
  case atStart => exact ⟨0, 0, Nat.zero_le _, rfl, rfl⟩
  case round =>
    obtain ⟨k, m, hk, rfl, rfl⟩ := hrel
    clear hmk
    by_cases hlt : k < n
    · have E := Lib.hid (show dgB (cost - rest) n ((k : Int) + 1) - dgB (cost - rest) n k = dgP (cost - rest) n k from rfl)
      obtain ⟨s1, s2⟩ := dgB_bd (cost - rest) n ((k : Int) + 1) (by omega) (by omega) (by omega) (by omega) (by omega) (by omega)
      obtain ⟨s3, s4⟩ := dgB_bd (cost - rest) n (k : Int) (by omega) (by omega) (by omega) (by omega) (by omega) (by omega)
      have f0 : (fc (dgP (cost - rest) n) n k)[k]? = some (.int .i64 0) := by rw [fc_get _ _ _ _ hlt, if_neg (by omega)]
      have hi : ((k : Nat) : Int) < (n : Int) := by omega
      go_wp2_with (first | (go_at_call 59; refine (digits1 cost rest n _ b0 b1 b2 b3 _ (by exact C0.out _ _) (by exact C1.out _ _) (by exact C2.out _ _) (by exact C3.out _ _) h1 h2 h3 h4 (by omega) (by omega) (by omega) (by omega)).mono ?_; rintro e w1 ⟨rfl, m2, rfl⟩))
      go_roundw
      case rel => exact ⟨k + 1, _, by omega, by go_num, by rw [E.out, fc_step _ _ _ hlt]⟩
      case measure => simp [intOf]; omega
    · have e : k = n := by omega
      subst e
      go_wp2
      go_ret
      exact ⟨rfl, _, rfl⟩

end Go.Proofs.YtahegjhjonodlaaDoor

/- The walks of line.Straight and line.Digits where an argument may not be. -/
namespace Go.Proofs.YtahegjhjonodlaaDoor
open Go.ChangeShapes Go.WideShapes Go.ChangeAt Go.RowKit
set_option linter.unusedVariables false
set_option maxRecDepth 100000

/-- may the numbers be? -/
def lineP (cost rest n : Int) : Prop := 0 ≤ cost ∧ cost ≤ 1000000000000 ∧ 0 ≤ rest ∧ rest ≤ cost ∧ 1 ≤ n ∧ n ≤ 40

set_option maxHeartbeats 400000 in
theorem lineLook_no (cost rest n : Int) (w : World) (h : ¬ lineP cost rest n) :
    Calls Tryd.prog 55 #[.int .i64 cost, .int .i64 rest, .int .i64 n] w fun e w' => e = .returned (.int .i64 1) ∧ w = w' := by
  have H := Lib.hid h
  clear h
  go_enter Tryd.func55, Tryd.ntmps55
  go_wp2
  all_goals go_ret
  all_goals first | exact ⟨rfl, rfl⟩ | (have h := H.out; exfalso; unfold lineP at h; omega)

set_option maxHeartbeats 400000 in
theorem straight_no (cost rest n : Int) (w : World) (h : ¬ lineP cost rest n) :
    Calls Tryd.prog 12 #[.int .i64 cost, .int .i64 rest, .int .i64 n] w fun e w' => e = .returned (.tuple #[.slice none 0 0, .int .i64 1]) ∧ Mor w w' := by
  have HL := Lib.hid (fun w => lineLook_no cost rest n w h)
  clear h
  go_enter Tryd.func12, Tryd.ntmps12
  go_wp2_with (first | (go_at_call 55; (with_reducible refine (HL.out _).mono ?_); rintro e w1 ⟨rfl, rfl⟩))
  go_returns
  exact ⟨rfl, by repeat (first | exact Mor.refl _ | apply Mor.alloc | apply Mor.more | apply Mor.drewN | apply Mor.drew)⟩
set_option maxHeartbeats 400000 in
theorem digits_no (cost rest n : Int) (w : World) (h : ¬ lineP cost rest n) :
    Calls Tryd.prog 13 #[.int .i64 cost, .int .i64 rest, .int .i64 n] w fun e w' => e = .returned (.tuple #[.slice none 0 0, .int .i64 1]) ∧ Mor w w' := by
  have HL := Lib.hid (fun w => lineLook_no cost rest n w h)
  clear h
  go_enter Tryd.func13, Tryd.ntmps13
  go_wp2_with (first | (go_at_call 55; (with_reducible refine (HL.out _).mono ?_); rintro e w1 ⟨rfl, rfl⟩))
  go_returns
  exact ⟨rfl, by repeat (first | exact Mor.refl _ | apply Mor.alloc | apply Mor.more | apply Mor.drewN | apply Mor.drew)⟩

end Go.Proofs.YtahegjhjonodlaaDoor

/- Plain law of fall.Units: what is used up is written off, at once or in parts. -/
namespace Go.Proofs.YtahegjhjonodlaaDoor
open Go.ChangeShapes Go.WideShapes Go.ChangeAt Go.RowKit
set_option linter.unusedVariables false
set_option maxRecDepth 100000

/-- what is written off by the time s is used up -/
def unow (D t s : Int) : Int := D * min s t / t
def usum (us : List Int) (j : Nat) : Int := (us.take j).sum
def ulist (D t : Int) (us : List Int) (n : Nat) : List Int := (List.range n).map fun j => unow D t (usum us (j + 1)) - unow D t (usum us j)

theorem unow_zero (D t : Int) (ht : 1 ≤ t) : unow D t 0 = 0 := by
  unfold unow
  rw [show min (0 : Int) t = 0 by omega]
  simp
theorem unow_mono {D t s s' : Int} (hD : 0 ≤ D) (ht : 1 ≤ t) (h : s ≤ s') : unow D t s ≤ unow D t s' := by
  unfold unow
  exact Int.ediv_le_ediv (by omega) (Int.mul_le_mul_of_nonneg_left (by omega) hD)
theorem unow_all {D t s : Int} (ht : 1 ≤ t) (h : t ≤ s) : unow D t s = D := by
  unfold unow
  rw [show min s t = t by omega]
  exact Int.mul_ediv_cancel _ (by omega)
theorem unow_bd {D t s : Int} (hD : 0 ≤ D) (ht : 1 ≤ t) (h : 0 ≤ s) : 0 ≤ unow D t s ∧ unow D t s ≤ D := by
  have h1 := unow_mono (s := 0) (s' := s) hD ht h
  rw [unow_zero D t ht] at h1
  refine ⟨h1, ?_⟩
  by_cases hs : s ≤ t
  · have := unow_mono (s := s) (s' := t) hD ht hs
    rw [unow_all ht (Int.le_refl _)] at this; exact this
  · rw [unow_all ht (by omega)]; exact Int.le_refl _
theorem usum_succ (us : List Int) (j : Nat) (h : j < us.length) : usum us (j + 1) = usum us j + us.getD j 0 := sum_take_succ us j h
theorem ulist_succ (D t : Int) (us : List Int) (n : Nat) : ulist D t us (n + 1) = ulist D t us n ++ [unow D t (usum us (n + 1)) - unow D t (usum us n)] := by
  simp [ulist, List.range_succ]
end Go.Proofs.YtahegjhjonodlaaDoor
