/- The walk of split.Even: what it computes. -/
import Derived.Test.YtmkmbfficpgmdaaPlainF
import Derived.Test.YtmkmbfficpgmdaaAmt
import Derived.Test.YtmkmbfficpgmdaaIntRows
namespace Go.Proofs.Ytmkmbfficpgmdaa
open Go.ChangeShapes Go.WideShapes Go.ChangeAt Go.RowKit
set_option linter.unusedVariables false

/-- the k-th of n even parts of a (a from 0 on), with the sign s -/
def evp (s a n : Int) (k : Nat) : Int := s * (a * (k + 1) / n - a * k / n)
def evl (s a n : Int) (m : Nat) : List Int := (List.range m).map (evp s a n)

theorem info_int : (Try.prog.info? 3).map (fun i => (i.zero, i.size, i.bytes)) = some (some (.int .i64 0), 1, 8) := by kernel_rfl

/-- the cells of the block after k rounds -/
def evc (s a n : Int) (m k : Nat) : Array Value := (((List.range m).map (fun i => Value.int .i64 (if i < k then evp s a n i else 0)))).toArray

theorem evc_size (s a n : Int) (m k : Nat) : (evc s a n m k).size = m := by simp [evc]
theorem evc_get (s a n : Int) (m k i : Nat) (h : i < m) : (evc s a n m k)[i]? = some (.int .i64 (if i < k then evp s a n i else 0)) := by
  simp [evc, h]
theorem evc_zero (s a n : Int) (m : Nat) : madeCells #[Value.int .i64 0] m = evc s a n m 0 := by
  apply Array.ext_getElem?
  intro i
  by_cases h : i < m
  · rw [evc_get _ _ _ _ _ _ h]; simp [madeCells, h, Nat.mod_one]
  · rw [Array.getElem?_eq_none (by rw [size_madeCells]; omega), Array.getElem?_eq_none (by rw [evc_size]; omega)]
theorem evc_step (s a n : Int) (m k : Nat) (hk : k < m) : (evc s a n m k).setIfInBounds k (.int .i64 (evp s a n k)) = evc s a n m (k + 1) := by
  apply Array.ext_getElem?
  intro i
  rw [Array.getElem?_setIfInBounds, evc_size]
  by_cases h : i < m
  · by_cases hi : k = i
    · subst hi; rw [if_pos rfl, if_pos hk, evc_get _ _ _ _ _ _ h, if_pos (by omega)]
    · rw [if_neg hi, evc_get _ _ _ _ _ _ h, evc_get _ _ _ _ _ _ h]
      by_cases hl : i < k
      · rw [if_pos hl, if_pos (by omega)]
      · rw [if_neg hl, if_neg (by omega)]
  · rw [if_neg (by omega), Array.getElem?_eq_none (by rw [evc_size]; omega), Array.getElem?_eq_none (by rw [evc_size]; omega)]

set_option maxHeartbeats 1600000 in
theorem even_pos (a : Int) (n : Nat) (w : World) (h1 : 0 ≤ a) (h2 : a ≤ 1000000000000) (h3 : 1 ≤ n) (h4 : n ≤ 40) :
    Calls Try.prog 15 #[.int .i64 a, .int .i64 (n : Int)] w fun e w' => e = .returned (.tuple #[.slice (some ⟨w.heap.size, 0, none⟩) n n, .int .i64 0]) ∧ ∃ k, w' = (w.alloc (.cells (evc 1 a n n n) 3)).drewN k := by
  have hmk := fun w => run_make_row' (P := Try.prog) 22 3 (.int .i64 0) 8 Try.underlying22 info_int rfl .i64 .i64 n (by omega) (by omega) w
  go_enter Try.func15, Try.ntmps15
  go_wp2_with (first | (go_at_call 28; refine (money_yes _ _ (by omega) (by omega)).mono ?_; rintro e w1 ⟨rfl, rfl⟩))
  rw [evc_zero 1 a n n]
  go_loopw [28] (fun i wr => ∃ k m : Nat, k ≤ n ∧ i = .int .i64 k ∧ wr = (w.alloc (.cells (evc 1 a n n k) 3)).drewN m) (fun i _ => n - (intOf i).toNat)
  case atStart => exact ⟨0, 0, Nat.zero_le _, rfl, rfl⟩
  case round =>
    obtain ⟨k, m, hk, rfl, rfl⟩ := hrel
    clear hmk
    by_cases hlt : k < n
    · obtain ⟨b1, b2⟩ := prod_bd a ((k : Int) + 1) 1000000000000 40 (by omega) h2 (by omega) (by omega) (by omega)
      obtain ⟨b3, b4⟩ := prod_bd a (k : Int) 1000000000000 40 (by omega) h2 (by omega) (by omega) (by omega)
      have b5 : 0 ≤ a * ((k : Int) + 1) := Int.mul_nonneg (by omega) (by omega)
      have b6 : 0 ≤ a * (k : Int) := Int.mul_nonneg (by omega) (by omega)
      have b7 := Int.ediv_nonneg b5 (show (0 : Int) ≤ (n : Int) by omega)
      have b8 := Int.ediv_nonneg b6 (show (0 : Int) ≤ (n : Int) by omega)
      have b9 := Int.ediv_le_self (n : Int) b5
      have b10 := Int.ediv_le_self (n : Int) b6
      have E := Lib.hid (show a * ((k : Int) + 1) / n - a * (k : Int) / n = evp 1 a n k by unfold evp; omega)
      have c0 : (evc 1 a n n k)[k]? = some (.int .i64 0) := by rw [evc_get _ _ _ _ _ _ hlt, if_neg (by omega)]
      have hi : ((k : Nat) : Int) < (n : Int) := by omega
      go_wp2
      go_region
      go_wp2
      go_roundw
      case rel => exact ⟨k + 1, m + 1, by omega, by go_num, by rw [E.out, evc_step _ _ _ _ _ hlt]⟩
      case measure => simp [intOf]; omega
    · have e : k = n := by omega
      subst e
      go_wp2
      go_returns
      exact ⟨rfl, _, rfl⟩

set_option maxHeartbeats 1600000 in
theorem even_neg (a : Int) (n : Nat) (w : World) (h1 : 1 ≤ a) (h2 : a ≤ 1000000000000) (h3 : 1 ≤ n) (h4 : n ≤ 40) :
    Calls Try.prog 15 #[.int .i64 (-a), .int .i64 (n : Int)] w fun e w' => e = .returned (.tuple #[.slice (some ⟨w.heap.size, 0, none⟩) n n, .int .i64 0]) ∧ ∃ k, w' = (w.alloc (.cells (evc (-1) a n n n) 3)).drewN k := by
  have hmk := fun w => run_make_row' (P := Try.prog) 22 3 (.int .i64 0) 8 Try.underlying22 info_int rfl .i64 .i64 n (by omega) (by omega) w
  go_enter Try.func15, Try.ntmps15
  go_wp2_with (first | (go_at_call 28; refine (money_yes _ _ (by omega) (by omega)).mono ?_; rintro e w1 ⟨rfl, rfl⟩))
  rw [evc_zero (-1) a n n]
  go_loopw [28] (fun i wr => ∃ k m : Nat, k ≤ n ∧ i = .int .i64 k ∧ wr = (w.alloc (.cells (evc (-1) a n n k) 3)).drewN m) (fun i _ => n - (intOf i).toNat)
  case atStart => exact ⟨0, 0, Nat.zero_le _, rfl, rfl⟩
  case round =>
    obtain ⟨k, m, hk, rfl, rfl⟩ := hrel
    clear hmk
    by_cases hlt : k < n
    · obtain ⟨b1, b2⟩ := prod_bd a ((k : Int) + 1) 1000000000000 40 (by omega) h2 (by omega) (by omega) (by omega)
      obtain ⟨b3, b4⟩ := prod_bd a (k : Int) 1000000000000 40 (by omega) h2 (by omega) (by omega) (by omega)
      have b5 : 0 ≤ a * ((k : Int) + 1) := Int.mul_nonneg (by omega) (by omega)
      have b6 : 0 ≤ a * (k : Int) := Int.mul_nonneg (by omega) (by omega)
      have b7 := Int.ediv_nonneg b5 (show (0 : Int) ≤ (n : Int) by omega)
      have b8 := Int.ediv_nonneg b6 (show (0 : Int) ≤ (n : Int) by omega)
      have b9 := Int.ediv_le_self (n : Int) b5
      have b10 := Int.ediv_le_self (n : Int) b6
      have E := Lib.hid (show -(a * ((k : Int) + 1) / n - a * (k : Int) / n) = evp (-1) a n k by unfold evp; omega)
      have c0 : (evc (-1) a n n k)[k]? = some (.int .i64 0) := by rw [evc_get _ _ _ _ _ _ hlt, if_neg (by omega)]
      have hi : ((k : Nat) : Int) < (n : Int) := by omega
      go_wp2
      go_region
      go_wp2
      go_roundw
      case rel => exact ⟨k + 1, m + 1, by omega, by go_num, by rw [E.out, evc_step _ _ _ _ _ hlt]⟩
      case measure => simp [intOf]; omega
    · have e : k = n := by omega
      subst e
      go_wp2
      go_returns
      exact ⟨rfl, _, rfl⟩

/-- the parts of an amount -/
def evA (A : Int) (n : Nat) : List Int := if 0 ≤ A then evl 1 A n n else evl (-1) (-A) n n
theorem evl_len (s a n : Int) (m : Nat) : (evl s a n m).length = m := by simp [evl]
theorem evA_len (A : Int) (n : Nat) : (evA A n).length = n := by unfold evA; split <;> exact evl_len _ _ _ _

theorem row_evc (w : World) (s a n : Int) (m : Nat) (T : TypeId) (k : Nat) : Row ((w.alloc (.cells (evc s a n m m) T)).drewN k) w.heap.size 0 (evl s a n m) := by
  refine ⟨by show w.heap.size < (w.heap.push _).size; simp, fun i hi => ?_⟩
  rw [evl_len] at hi
  rw [World.cell?_drewN, Nat.zero_add, World.cell?_alloc_new, evc_get _ _ _ _ _ _ hi, if_pos hi]
  simp [evl, List.getD_eq_getElem?_getD, hi]

/-- what split.Even hands back -/
def EvenPost (w : World) (A : Int) (n : Nat) (e : Ending) (w' : World) : Prop :=
  ∃ bs k, e = .returned (.tuple #[.slice (some ⟨w.heap.size, 0, none⟩) n n, .int .i64 0]) ∧ w' = more w bs k ∧ Row (more w bs k) w.heap.size 0 (evA A n)

theorem even_any (A nI : Int) (n : Nat) (w : World) (hn : nI = n) (h1 : -1000000000000 ≤ A) (h2 : A ≤ 1000000000000) (h3 : 1 ≤ n) (h4 : n ≤ 40) :
    Calls Try.prog 15 #[.int .i64 A, .int .i64 nI] w (EvenPost w A n) := by
  subst hn
  by_cases h : 0 ≤ A
  · refine (even_pos A n w h h2 h3 h4).mono ?_
    rintro e w' ⟨rfl, k, rfl⟩
    refine ⟨_, _, rfl, by rw [alloc_more, more_drewN], ?_⟩
    have := row_evc w 1 A n n 3 k
    rw [alloc_more, more_drewN] at this
    unfold evA; rw [if_pos h]; exact this
  · have := even_neg (-A) n w (by omega) (by omega) h3 h4
    rw [Int.neg_neg] at this
    refine this.mono ?_
    rintro e w' ⟨rfl, k, rfl⟩
    refine ⟨_, _, rfl, by rw [alloc_more, more_drewN], ?_⟩
    have := row_evc w (-1) (-A) n n 3 k
    rw [alloc_more, more_drewN] at this
    unfold evA; rw [if_neg h]; exact this

set_option maxHeartbeats 800000 in
theorem even_no (A n : Int) (w : World) (h : ¬ (-1000000000000 ≤ A ∧ A ≤ 1000000000000 ∧ 1 ≤ n ∧ n ≤ 40)) :
    Calls Try.prog 15 #[.int .i64 A, .int .i64 n] w fun e w' => e = .returned (.tuple #[.slice none 0 0, .int .i64 1]) ∧ w = w' := by
  by_cases hA : -1000000000000 ≤ A ∧ A ≤ 1000000000000
  · obtain ⟨a1, a2⟩ := hA
    by_cases hn : n < 1
    · clear h
      go_enter Try.func15, Try.ntmps15
      go_wp2_with (first | (go_at_call 28; refine (money_yes _ _ a1 a2).mono ?_; rintro e w1 ⟨rfl, rfl⟩))
      go_returns
      exact ⟨rfl, rfl⟩
    · have h40 : 40 < n := by omega
      clear h
      go_enter Try.func15, Try.ntmps15
      go_wp2_with (first | (go_at_call 28; refine (money_yes _ _ a1 a2).mono ?_; rintro e w1 ⟨rfl, rfl⟩))
      go_returns
      exact ⟨rfl, rfl⟩
  · have H := Lib.hid (show A < -1000000000000 ∨ 1000000000000 < A by omega)
    clear h hA
    go_enter Try.func15, Try.ntmps15
    go_wp2_with (first | (go_at_call 28; refine (money_no _ _ H.out).mono ?_; rintro e w1 ⟨rfl, rfl⟩))
    go_returns
    exact ⟨rfl, rfl⟩

end Go.Proofs.Ytmkmbfficpgmdaa
