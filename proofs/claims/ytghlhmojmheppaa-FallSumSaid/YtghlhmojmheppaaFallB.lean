/- The walk of fall.Falling where an argument may not be; plain laws of its sums. -/
import Derived.Test.YtghlhmojmheppaaPlainX
import Derived.Test.YtghlhmojmheppaaFallA
namespace Go.Proofs.Ytghlhmojmheppaa
open Go.ChangeShapes Go.WideShapes Go.ChangeAt Go.RowKit
set_option linter.unusedVariables false

/-- may the numbers be? -/
def lookF (cost rest n : Int) : Prop := 0 ≤ cost ∧ cost ≤ 1000000000000 ∧ 0 ≤ rest ∧ rest ≤ cost ∧ 1 ≤ n ∧ n ≤ 40

set_option maxHeartbeats 400000 in
theorem look_no (cost rest n : Int) (w : World) (h : ¬ lookF cost rest n) :
    Calls Try.prog 41 #[.int .i64 cost, .int .i64 rest, .int .i64 n] w fun e w' => e = .returned (.int .i64 1) ∧ w = w' := by
  have H := Lib.hid h
  clear h
  go_enter Try.func41, Try.ntmps41
  go_wp2
  all_goals go_ret
  all_goals first | exact ⟨rfl, rfl⟩ | (have h := H.out; exfalso; unfold lookF at h; omega)

set_option maxHeartbeats 400000 in
theorem falling_no (cost rest rate n : Int) (w : World) (h : ¬ (lookF cost rest n ∧ 0 ≤ rate ∧ rate ≤ 1000000)) :
    Calls Try.prog 15 #[.int .i64 cost, .int .i64 rest, .int .i64 rate, .int .i64 n] w fun e w' => e = .returned (.tuple #[.slice none 0 0, .int .i64 1]) ∧ w = w' := by
  by_cases hl : lookF cost rest n
  · obtain ⟨h1, h2, h3, h4, h5, h6⟩ := hl
    have hr : rate < 0 ∨ 1000000 < rate := by
      by_cases hr : 0 ≤ rate ∧ rate ≤ 1000000
      · exact absurd ⟨⟨h1, h2, h3, h4, h5, h6⟩, hr.1, hr.2⟩ h
      · omega
    have HL := Lib.hid (fun w => look_ok cost rest n w h1 h2 h3 h4 h5 h6)
    clear h
    rcases hr with hr | hr
    all_goals
      go_enter Try.func15, Try.ntmps15
      go_wp2_with (first | (go_at_call 41; (with_reducible refine (HL.out _).mono ?_); rintro e w1 ⟨rfl, rfl⟩))
      go_returns
      exact ⟨rfl, rfl⟩
  · have HL := Lib.hid (fun w => look_no cost rest n w hl)
    clear h hl
    go_enter Try.func15, Try.ntmps15
    go_wp2_with (first | (go_at_call 41; (with_reducible refine (HL.out _).mono ?_); rintro e w1 ⟨rfl, rfl⟩))
    go_returns
    exact ⟨rfl, rfl⟩

/-- no time more goes off than the time ahead -/
theorem dstep_falls (L rest rate n : Int) (h1 : rest ≤ L) (h2 : 0 ≤ rest) (h3 : 0 ≤ rate) (h4 : rate ≤ 1000000) (hn : 2 ≤ n) :
    dstep (L - dstep L rest rate n) rest rate (n - 1) ≤ dstep L rest rate n := by
  obtain ⟨d1, d2⟩ := dstep_bd L rest rate n h1 h2 h3 (by omega)
  have a := rnd_mono ((L - dstep L rest rate n) * rate) (L * rate) 1000000 2 (by omega) (Int.mul_le_mul_of_nonneg_right (by omega) h3)
  -- the even part of what is left does not grow
  have b : dstep L rest rate n = L - rest ∨ rnd (L - dstep L rest rate n - rest) (n - 1) 1 ≤ rnd (L - rest) n 1 := by
    by_cases hd : dstep L rest rate n = L - rest
    · exact .inl hd
    · refine .inr (rnd_le _ _ _ _ (by omega) ?_)
      have hB : rnd (L - rest) n 1 ≤ dstep L rest rate n := by
        have : dstep L rest rate n = min (max (rnd (L * rate) 1000000 2) (rnd (L - rest) n 1)) (L - rest) := rfl
        omega
      have c := (rnd_cases (L - rest) n 1 (by omega))
      have e := div_mod (L - rest) n
      have up : L - rest ≤ n * rnd (L - rest) n 1 := by
        have e1 := rnd_1 (L - rest) n
        have r0 := Int.emod_nonneg (L - rest) (show n ≠ 0 by omega)
        have r1 := Int.emod_lt_of_pos (L - rest) (show 0 < n by omega)
        rw [e1, Int.mul_add]
        split <;> omega
      rw [Int.sub_mul, Int.one_mul]
      omega
  have c : dstep (L - dstep L rest rate n) rest rate (n - 1) = min (max (rnd ((L - dstep L rest rate n) * rate) 1000000 2) (rnd (L - dstep L rest rate n - rest) (n - 1) 1)) (L - dstep L rest rate n - rest) := rfl
  have d : dstep L rest rate n = min (max (rnd (L * rate) 1000000 2) (rnd (L - rest) n 1)) (L - rest) := rfl
  rcases b with b | b <;> omega

theorem flist_get (cost rest rate N : Int) (m k : Nat) (h : k < m) : (flist cost rest rate N m).getD k 0 = fdd cost rest rate N k := by
  simp [flist, List.getD_eq_getElem?_getD, h]
theorem flist_falls (cost rest rate N : Int) (k : Nat) (h1 : rest ≤ cost) (h2 : 0 ≤ rest) (h3 : 0 ≤ rate) (h4 : rate ≤ 1000000) (hk : (k : Int) + 2 ≤ N) :
    fdd cost rest rate N (k + 1) ≤ fdd cost rest rate N k := by
  have l := fleft_bd cost rest rate N h1 h2 h3 k (by omega)
  have := dstep_falls (fleft cost rest rate N k) rest rate (N - k) l.1 h2 h3 h4 (by omega)
  unfold fdd
  rw [fleft_succ, show N - ((k + 1 : Nat) : Int) = N - k - 1 by omega]
  exact this
/-- at a whole rate all goes off at first -/
theorem first_all (cost rest N : Int) (h1 : rest ≤ cost) (h2 : 0 ≤ rest) (hN : 1 ≤ N) : fdd cost rest 1000000 N 0 = cost - rest := by
  have e : rnd (cost * 1000000) 1000000 2 = cost := by rw [Int.mul_comm]; exact rnd_exact _ _ _ (by omega)
  show min (max (rnd (cost * 1000000) 1000000 2) (rnd (cost - rest) (N - ((0 : Nat) : Int)) 1)) (cost - rest) = cost - rest
  rw [e]; omega
/-- the whole is written off -/
theorem fleft_end (cost rest rate : Int) (N : Nat) (h1 : rest ≤ cost) (h2 : 0 ≤ rest) (h3 : 0 ≤ rate) (hN : 1 ≤ N) : fleft cost rest rate N N = rest := by
  obtain ⟨m, rfl⟩ : ∃ m, N = m + 1 := ⟨N - 1, by omega⟩
  rw [fleft_succ]
  have l := fleft_bd cost rest rate ((m + 1 : Nat) : Int) h1 h2 h3 m (by omega)
  unfold fdd
  rw [show ((m + 1 : Nat) : Int) - m = 1 by omega]
  have d : dstep (fleft cost rest rate ((m + 1 : Nat) : Int) m) rest rate 1 = min (max (rnd (fleft cost rest rate ((m + 1 : Nat) : Int) m * rate) 1000000 2) (rnd (fleft cost rest rate ((m + 1 : Nat) : Int) m - rest) 1 1)) (fleft cost rest rate ((m + 1 : Nat) : Int) m - rest) := rfl
  have e : rnd (fleft cost rest rate ((m + 1 : Nat) : Int) m - rest) 1 1 = fleft cost rest rate ((m + 1 : Nat) : Int) m - rest := by
    have := rnd_exact 1 1 (fleft cost rest rate ((m + 1 : Nat) : Int) m - rest) (by omega); rwa [Int.one_mul] at this
  omega

end Go.Proofs.Ytghlhmojmheppaa
