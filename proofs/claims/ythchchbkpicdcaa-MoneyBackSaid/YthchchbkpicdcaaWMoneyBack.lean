/- The walk of talkeep.MoneyBack. -/
import Derived.Test.YthchchbkpicdcaaMoneyA
namespace Go.Proofs.Ythchchbkpicdcaa.moneyBack
open Go.ChangeShapes Go.WideShapes Go.ChangeAt Go.RowKit
set_option linter.unusedVariables false

theorem with_begun (w : World) : Calls Try.prog 26 #[.int .i64 100, .int .i64 190000, .int .i64 2] w fun e w' => e = .returned (.tuple #[.int .i64 119, .int .i64 19, .int .i64 0]) ∧ ∃ k, w' = w.drewN k :=
  with_ok 100 190000 2 19 w (by omega) (by omega) (by omega) (by omega) (by omega) (by omega) (by decide) (by omega) (by omega)
theorem within_begun (w : World) : Calls Try.prog 25 #[.int .i64 119, .int .i64 190000, .int .i64 2] w fun e w' => e = .returned (.tuple #[.int .i64 100, .int .i64 19, .int .i64 0]) ∧ ∃ k, w' = w.drewN k :=
  mwithin_ok 119 190000 2 w (by omega) (by omega) (by omega) (by omega) (by omega) (by omega) (by decide) (by decide)

/-- taken out again: the contract of money.Within at what money.With gave -/
theorem within_back (a rate way t : Int) (w : World) (h1 : -1000000000000 ≤ a) (h2 : a ≤ 1000000000000) (h3 : 0 ≤ rate) (h4 : rate ≤ 1000000) (hw : way = 2 ∨ way = 3)
    (ht : rnd (a * rate) 1000000 way = t) (g1 : -1000000000000 ≤ a + t) (g2 : a + t ≤ 1000000000000) :
    Calls Try.prog 25 #[.int .i64 (a + t), .int .i64 rate, .int .i64 way] w fun e w' => e = .returned (.tuple #[.int .i64 a, .int .i64 t, .int .i64 0]) ∧ ∃ k, w' = w.drewN k := by
  have e := tax_back a rate way h3 hw
  rw [ht] at e
  have h := mwithin_ok (a + t) rate way w g1 g2 h3 h4 (by omega) (by omega) (by omega) (by omega)
  rw [e, show a + t - a = t by omega] at h
  exact h

/-- which way -/
theorem way_cases (k : Int) : wi k 2 = 0 ∨ wi k 2 = 1 := by
  have := wi_lo k 2 (by omega); have := wi_hi k 2 (by omega); omega

theorem within_eq (k n v : Int) (w : World) (h1 : 1 ≤ n) (h2 : n ≤ 4000000000000) (h : wi k n = v) :
    Calls Try.prog 18 #[.int .i64 k, .int .i64 n] w fun e w' => e = .returned (.int .i64 v) ∧ w = w' := by
  have := within_any k n w h1 h2
  rw [h] at this
  exact this

/-- the law's walk, its callees' outcomes as hypotheses: the two ways -/
theorem drew_alloc (w : World) (m : Nat) (o : Obj) : Below w.heap.size w ((w.alloc o).drewN m) :=
  ⟨rfl, rfl, rfl, (by show w.heap.size ≤ (w.heap.push o).size; simp), fun i hi => Below.heap_alloc w o i hi⟩

set_option maxHeartbeats 800000 in
theorem walk_2 (w : World) (a0 a1 a2 : Int) (hy : wi a2 2 = 0) :
    Calls Try.prog 13 #[.int .i64 a0, .int .i64 a1, .int .i64 a2] w fun e w' => e = .returned (.bool true) ∧ Below w.heap.size w w' := by
  have HY := Lib.hid hy
  clear hy
  by_cases hl : lookP a0 a1 2
  · obtain ⟨h1, h2, h3, h4, _, _⟩ := hl
    obtain ⟨t, ht⟩ : ∃ t, rnd (a0 * a1) 1000000 2 = t := ⟨_, rfl⟩
    obtain ⟨b1, b2⟩ := prod_bd a0 a1 1000000000000 1000000 h1 h2 h3 h4 (by omega)
    have t1 := rnd_le (a0 * a1) 1000000 2 1000000000000 (by omega) (by omega)
    have t2 := le_rnd (a0 * a1) 1000000 2 (-1000000000000) (by omega) (by omega)
    rw [ht] at t1 t2
    by_cases g : -1000000000000 ≤ a0 + t ∧ a0 + t ≤ 1000000000000
    · obtain ⟨g1, g2⟩ := g
      have HA := Lib.hid (fun w => with_ok a0 a1 2 t w h1 h2 h3 h4 (by omega) (by omega) ht g1 g2)
      have HB := Lib.hid (fun w => within_back a0 a1 2 t w h1 h2 h3 h4 (by omega) ht g1 g2)
      clear ht
      go_enter Try.func13, Try.ntmps13
      go_wp2_with (first | (go_at_call 26; (with_reducible refine (with_begun _).mono ?_); rintro e w' ⟨rfl, k, rfl⟩) | (go_at_call 25; (with_reducible refine (within_begun _).mono ?_); rintro e w' ⟨rfl, k, rfl⟩) | (go_at_call 18; refine (within_eq _ _ _ _ (by omega) (by omega) HY.out).mono ?_; rintro e w' ⟨rfl, rfl⟩) | (go_at_call 26; refine (HA.out _).mono ?_; rintro e w' ⟨rfl, k, rfl⟩) | (go_at_call 25; refine (HB.out _).mono ?_; rintro e w' ⟨rfl, k, rfl⟩))
      go_ret
      exact ⟨rfl, drew_alloc _ _ _⟩
    · have HA := Lib.hid (fun w => with_large a0 a1 2 t w h1 h2 h3 h4 (by omega) (by omega) ht (by omega) (by omega) (by omega))
      clear ht
      go_enter Try.func13, Try.ntmps13
      go_wp2_with (first | (go_at_call 26; (with_reducible refine (with_begun _).mono ?_); rintro e w' ⟨rfl, k, rfl⟩) | (go_at_call 25; (with_reducible refine (within_begun _).mono ?_); rintro e w' ⟨rfl, k, rfl⟩) | (go_at_call 18; refine (within_eq _ _ _ _ (by omega) (by omega) HY.out).mono ?_; rintro e w' ⟨rfl, rfl⟩) | (go_at_call 26; refine (HA.out _).mono ?_; rintro e w' ⟨rfl, k, rfl⟩))
      go_ret
      exact ⟨rfl, drew_alloc _ _ _⟩
  · have HA := Lib.hid (fun w => with_no a0 a1 2 w hl)
    clear hl
    go_enter Try.func13, Try.ntmps13
    go_wp2_with (first | (go_at_call 26; (with_reducible refine (with_begun _).mono ?_); rintro e w' ⟨rfl, k, rfl⟩) | (go_at_call 25; (with_reducible refine (within_begun _).mono ?_); rintro e w' ⟨rfl, k, rfl⟩) | (go_at_call 18; refine (within_eq _ _ _ _ (by omega) (by omega) HY.out).mono ?_; rintro e w' ⟨rfl, rfl⟩) | (go_at_call 26; refine (HA.out _).mono ?_; rintro e w' ⟨rfl, k, rfl⟩))
    go_ret
    exact ⟨rfl, drew_alloc _ _ _⟩

set_option maxHeartbeats 800000 in
theorem walk_3 (w : World) (a0 a1 a2 : Int) (hy : wi a2 2 = 1) :
    Calls Try.prog 13 #[.int .i64 a0, .int .i64 a1, .int .i64 a2] w fun e w' => e = .returned (.bool true) ∧ Below w.heap.size w w' := by
  have HY := Lib.hid hy
  clear hy
  by_cases hl : lookP a0 a1 3
  · obtain ⟨h1, h2, h3, h4, _, _⟩ := hl
    obtain ⟨t, ht⟩ : ∃ t, rnd (a0 * a1) 1000000 3 = t := ⟨_, rfl⟩
    obtain ⟨b1, b2⟩ := prod_bd a0 a1 1000000000000 1000000 h1 h2 h3 h4 (by omega)
    have t1 := rnd_le (a0 * a1) 1000000 3 1000000000000 (by omega) (by omega)
    have t2 := le_rnd (a0 * a1) 1000000 3 (-1000000000000) (by omega) (by omega)
    rw [ht] at t1 t2
    by_cases g : -1000000000000 ≤ a0 + t ∧ a0 + t ≤ 1000000000000
    · obtain ⟨g1, g2⟩ := g
      have HA := Lib.hid (fun w => with_ok a0 a1 3 t w h1 h2 h3 h4 (by omega) (by omega) ht g1 g2)
      have HB := Lib.hid (fun w => within_back a0 a1 3 t w h1 h2 h3 h4 (by omega) ht g1 g2)
      clear ht
      go_enter Try.func13, Try.ntmps13
      go_wp2_with (first | (go_at_call 26; (with_reducible refine (with_begun _).mono ?_); rintro e w' ⟨rfl, k, rfl⟩) | (go_at_call 25; (with_reducible refine (within_begun _).mono ?_); rintro e w' ⟨rfl, k, rfl⟩) | (go_at_call 18; refine (within_eq _ _ _ _ (by omega) (by omega) HY.out).mono ?_; rintro e w' ⟨rfl, rfl⟩) | (go_at_call 26; refine (HA.out _).mono ?_; rintro e w' ⟨rfl, k, rfl⟩) | (go_at_call 25; refine (HB.out _).mono ?_; rintro e w' ⟨rfl, k, rfl⟩))
      go_ret
      exact ⟨rfl, drew_alloc _ _ _⟩
    · have HA := Lib.hid (fun w => with_large a0 a1 3 t w h1 h2 h3 h4 (by omega) (by omega) ht (by omega) (by omega) (by omega))
      clear ht
      go_enter Try.func13, Try.ntmps13
      go_wp2_with (first | (go_at_call 26; (with_reducible refine (with_begun _).mono ?_); rintro e w' ⟨rfl, k, rfl⟩) | (go_at_call 25; (with_reducible refine (within_begun _).mono ?_); rintro e w' ⟨rfl, k, rfl⟩) | (go_at_call 18; refine (within_eq _ _ _ _ (by omega) (by omega) HY.out).mono ?_; rintro e w' ⟨rfl, rfl⟩) | (go_at_call 26; refine (HA.out _).mono ?_; rintro e w' ⟨rfl, k, rfl⟩))
      go_ret
      exact ⟨rfl, drew_alloc _ _ _⟩
  · have HA := Lib.hid (fun w => with_no a0 a1 3 w hl)
    clear hl
    go_enter Try.func13, Try.ntmps13
    go_wp2_with (first | (go_at_call 26; (with_reducible refine (with_begun _).mono ?_); rintro e w' ⟨rfl, k, rfl⟩) | (go_at_call 25; (with_reducible refine (within_begun _).mono ?_); rintro e w' ⟨rfl, k, rfl⟩) | (go_at_call 18; refine (within_eq _ _ _ _ (by omega) (by omega) HY.out).mono ?_; rintro e w' ⟨rfl, rfl⟩) | (go_at_call 26; refine (HA.out _).mono ?_; rintro e w' ⟨rfl, k, rfl⟩))
    go_ret
    exact ⟨rfl, drew_alloc _ _ _⟩

theorem moneyBack_walk (w : World) (a0 : Int) (w0 : (Lit.int .i64 a0).wf = true) (a1 : Int) (w1 : (Lit.int .i64 a1).wf = true) (a2 : Int) (w2 : (Lit.int .i64 a2).wf = true) :
    Calls Try.prog 13 #[.int .i64 a0, .int .i64 a1, .int .i64 a2] w fun e w' => e = .returned (.bool true) ∧ Below w.heap.size w w' := by
  rcases way_cases a2 with hy | hy
  · exact walk_2 w a0 a1 a2 hy
  · exact walk_3 w a0 a1 a2 hy

end Go.Proofs.Ythchchbkpicdcaa.moneyBack
