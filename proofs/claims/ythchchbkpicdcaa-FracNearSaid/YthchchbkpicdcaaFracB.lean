/- The walks of package frac: Check, gcd, norm, told, two, Norm, Add, Mul, Cmp, Round: what they compute. -/
import Derived.Test.YthchchbkpicdcaaPlainF
import Derived.Test.YthchchbkpicdcaaFracA
namespace Go.Proofs.Ythchchbkpicdcaa
open Go.ChangeShapes Go.WideShapes Go.ChangeAt Go.RowKit
set_option linter.unusedVariables false

/-- a fraction that may be -/
def okF (n d : Int) : Prop := 1 ≤ d ∧ d ≤ 1000000 ∧ -1000000000000 ≤ n ∧ n ≤ 1000000000000
/-- the error of Check -/
def chk (n d : Int) : Int := if d = 0 then 6 else 1

theorem gg_step (p q : Int) (h : 0 ≤ q) : gg q (p % q) = gg p q := by 
  unfold gg
  rw [Int.gcd_comm q]
  have e := Int.gcd_add_mul_left_left q (p % q) (p / q)
  rw [Int.emod_add_mul_ediv] at e
  rw [e]
theorem gg_zero (p : Int) (h : 0 ≤ p) : gg p 0 = p := by unfold gg; simp; omega

theorem one_block (w : World) (o : Obj) : Mor w (w.alloc o) := (Mor.refl w).alloc

set_option maxHeartbeats 400000 in
theorem check_ok (n d : Int) (w : World) (h1 : 1 ≤ d) (h2 : d ≤ 1000000) (h3 : -1000000000000 ≤ n) (h4 : n ≤ 1000000000000) :
    Calls Try.prog 29 #[.agg #[.int .i64 n, .int .i64 d]] w fun e w' => e = .returned (.int .i64 0) ∧ Mor w w' := by
  go_enter Try.func29, Try.ntmps29
  go_wp2
  go_ret
  exact ⟨rfl, one_block _ _⟩

set_option maxHeartbeats 400000 in
theorem check_no (n d : Int) (w : World) (h : ¬ okF n d) :
    Calls Try.prog 29 #[.agg #[.int .i64 n, .int .i64 d]] w fun e w' => e = .returned (.int .i64 (chk n d)) ∧ Mor w w' := by
  by_cases hd : d = 0
  · subst hd
    go_enter Try.func29, Try.ntmps29
    go_wp2
    go_ret
    exact ⟨rfl, one_block _ _⟩
  · have E := Lib.hid (show chk n d = 1 from if_neg hd)
    have H := Lib.hid h
    have hdb : (d == 0) = false := by simpa using hd
    clear h hd
    go_enter Try.func29, Try.ntmps29
    go_wp2
    all_goals go_ret
    all_goals refine ⟨ret_i ?_, one_block _ _⟩
    all_goals rw [E.out]
    all_goals (exfalso; have h := H.out; unfold okF at h; simp at hdb; omega)

set_option maxHeartbeats 400000 in
theorem gcd_any (a b : Int) (w : World) (h1 : 0 ≤ a) (h2 : a ≤ 4000000000000000000) (h3 : 0 ≤ b) (h4 : b ≤ 4000000000000000000) :
    Calls Try.prog 41 #[.int .i64 a, .int .i64 b] w fun e w' => e = .returned (.int .i64 (gg a b)) ∧ ∃ k, w' = w.drewN k := by
  go_enter Try.func41, Try.ntmps41
  go_wp2
  go_loopw [0, 1] (fun x y wr => ∃ (p q : Int) (k : Nat), x = .int .i64 p ∧ y = .int .i64 q ∧ 0 ≤ p ∧ p ≤ 4000000000000000000 ∧ 0 ≤ q ∧ q ≤ 4000000000000000000 ∧ gg p q = gg a b ∧ wr = w.drewN k) (fun _ y _ => (intOf y).toNat)
  case atStart => exact ⟨a, b, 0, rfl, rfl, h1, h2, h3, h4, rfl, rfl⟩
  case round =>
    obtain ⟨p, q, k, rfl, rfl, p1, p2, q1, q2, hg, rfl⟩ := hrel
    have HG := Lib.hid hg
    clear hg
    by_cases hq : 0 < q
    · have m0 : 0 ≤ p % q := Int.emod_nonneg _ (by omega)
      have m1 : p % q < q := Int.emod_lt_of_pos _ hq
      go_wp2
      go_quiet (fail)
      go_wp2
      go_roundw
      case rel => exact ⟨q, p % q, _, rfl, rfl, by omega, by omega, by omega, by omega, by rw [gg_step _ _ (by omega)]; exact HG.out, World.drewN_drewN _ _ _⟩
      case measure => simp [intOf]; omega
    · go_wp2
      go_ret
      have e := HG.out
      rw [show q = 0 by omega, gg_zero p p1] at e
      exact ⟨ret_i e, k, rfl⟩

set_option maxHeartbeats 400000 in
theorem abs_any (a : Int) (w : World) (h1 : -4000000000000000000 ≤ a) (h2 : a ≤ 4000000000000000000) :
    Calls Try.prog 34 #[.int .i64 a] w fun e w' => e = .returned (.int .i64 (a.natAbs : Int)) ∧ w = w' := by
  by_cases h : a < 0
  · go_enter Try.func34, Try.ntmps34
    go_wp2
    go_ret
    exact ⟨ret_i (by omega), rfl⟩
  · go_enter Try.func34, Try.ntmps34
    go_wp2
    go_ret
    exact ⟨ret_i (by omega), rfl⟩

theorem gcd_abs (n d : Int) (w : World) (h1 : 1 ≤ d) (h2 : d ≤ 1000000000000000) (h3 : -3000000000000000000 ≤ n) (h4 : n ≤ 3000000000000000000) :
    Calls Try.prog 41 #[.int .i64 (n.natAbs : Int), .int .i64 d] w fun e w' => e = .returned (.int .i64 (gg n d)) ∧ ∃ k, w' = w.drewN k := by
  have h := gcd_any (n.natAbs : Int) d w (by omega) (by omega) (by omega) (by omega)
  rw [show gg (n.natAbs : Int) d = gg n d by unfold gg Int.gcd; simp] at h
  exact h

theorem tdiv_dvd (n g : Int) (h : g ∣ n) : n.tdiv g = n / g := by rw [Int.tdiv_eq_ediv]; simp [h]

set_option maxHeartbeats 400000 in
theorem norm_any (n d : Int) (w : World) (h1 : 1 ≤ d) (h2 : d ≤ 1000000000000000) (h3 : -3000000000000000000 ≤ n) (h4 : n ≤ 3000000000000000000) :
    Calls Try.prog 31 #[.agg #[.int .i64 n, .int .i64 d]] w fun e w' => e = .returned (.agg #[.int .i64 (fn (fq n d)), .int .i64 (fd (fq n d))]) ∧ Mor w w' := by
  have g1 := gg_pos n d h1
  have g2 := gg_le n d h1
  have e1 : n.tdiv (gg n d) = fn (fq n d) := by rw [tdiv_dvd _ _ (gg_n n d), fn_fq n d h1]
  have e3 : n / (gg n d) = fn (fq n d) := (fn_fq n d h1).symm
  have e2 : d / gg n d = fd (fq n d) := (fd_fq n d h1).symm
  obtain ⟨b1, b2⟩ := fn_bd n d 3000000000000000000 h1 h3 h4
  have b3 := fd_le n d h1
  have b4 := fd_pos (fq n d)
  go_enter Try.func31, Try.ntmps31
  go_wp2
  go_quiet (first | (go_at_call 34; exact quiet_eq (abs_any _ _ (by omega) (by omega))) | (go_at_call 41; exact Calls.quiet_of (gcd_abs _ _ _ (by omega) (by omega) (by omega) (by omega))))
  go_wp2
  go_region
  go_wp2
  refine bodyPost_ret (v := .agg #[.int .i64 (fn (fq n d)), .int .i64 (fd (fq n d))]) (by simp [results, Try.results31, go_sem]) rfl ⟨rfl, ?_⟩
  exact (Mor.refl w).alloc.alloc.drewN

set_option maxHeartbeats 400000 in
theorem bounded_yes (a b : Int) (w : World) (h0 : 0 ≤ b) (h5 : b ≤ 1000000000000) (h1 : -b ≤ a) (h2 : a ≤ b) :
    Calls Try.prog 40 #[.int .i64 a, .int .i64 b] w fun e w' => e = .returned (.bool true) ∧ w = w' := by
  have hd : decide (a ≤ b) = true := by simpa using h2
  go_enter Try.func40, Try.ntmps40
  go_wp2
  go_ret
  exact ⟨rfl, rfl⟩
set_option maxHeartbeats 400000 in
theorem bounded_no (a b : Int) (w : World) (h0 : 0 ≤ b) (h5 : b ≤ 1000000000000) (h : a < -b ∨ b < a) :
    Calls Try.prog 40 #[.int .i64 a, .int .i64 b] w fun e w' => e = .returned (.bool false) ∧ w = w' := by
  rcases h with h | h
  · go_enter Try.func40, Try.ntmps40
    go_wp2
    go_ret
    exact ⟨rfl, rfl⟩
  · have hd : decide (a ≤ b) = false := by simpa using h
    go_enter Try.func40, Try.ntmps40
    go_wp2
    all_goals go_ret
    all_goals exact ⟨rfl, rfl⟩

set_option maxHeartbeats 400000 in
theorem told_ok (n d : Int) (w : World) (h1 : 1 ≤ d) (h2 : d ≤ 1000000000000000) (h3 : -3000000000000000000 ≤ n) (h4 : n ≤ 3000000000000000000)
    (g1 : -1000000000000 ≤ fn (fq n d)) (g2 : fn (fq n d) ≤ 1000000000000) (g3 : fd (fq n d) ≤ 1000000) :
    Calls Try.prog 33 #[.agg #[.int .i64 n, .int .i64 d]] w fun e w' => e = .returned (.tuple #[.agg #[.int .i64 (fn (fq n d)), .int .i64 (fd (fq n d))], .int .i64 0]) ∧ Mor w w' := by
  go_enter Try.func33, Try.ntmps33
  go_wp2_with (first | (go_at_call 31; refine (norm_any _ _ _ h1 h2 h3 h4).mono ?_; rintro e w1 ⟨rfl, bs, k, rfl⟩) | (go_at_call 40; refine (bounded_yes _ _ _ (by omega) (by omega) (by omega) (by omega)).mono ?_; rintro e w1 ⟨rfl, rfl⟩))
  go_returns
  exact ⟨rfl, (Mor.refl w).alloc.alloc.more⟩

/-- in bounds, in lowest terms -/
def fitQ (q : Rat) : Prop := -1000000000000 ≤ fn q ∧ fn q ≤ 1000000000000 ∧ fd q ≤ 1000000

set_option maxHeartbeats 400000 in
theorem told_no (n d : Int) (w : World) (h1 : 1 ≤ d) (h2 : d ≤ 1000000000000000) (h3 : -3000000000000000000 ≤ n) (h4 : n ≤ 3000000000000000000)
    (g : ¬ fitQ (fq n d)) :
    Calls Try.prog 33 #[.agg #[.int .i64 n, .int .i64 d]] w fun e w' => e = .returned (.tuple #[.agg #[.int .i64 0, .int .i64 0], .int .i64 2]) ∧ Mor w w' := by
  by_cases hb : -1000000000000 ≤ fn (fq n d) ∧ fn (fq n d) ≤ 1000000000000
  · obtain ⟨g1, g2⟩ := hb
    have g3 : 1000000 < fd (fq n d) := by unfold fitQ at g; omega
    clear g
    go_enter Try.func33, Try.ntmps33
    go_wp2_with (first | (go_at_call 31; refine (norm_any _ _ _ h1 h2 h3 h4).mono ?_; rintro e w1 ⟨rfl, bs, k, rfl⟩) | (go_at_call 40; refine (bounded_yes _ _ _ (by omega) (by omega) (by omega) (by omega)).mono ?_; rintro e w1 ⟨rfl, rfl⟩))
    go_returns
    exact ⟨rfl, (Mor.refl w).alloc.alloc.more⟩
  · have G := Lib.hid (show fn (fq n d) < -1000000000000 ∨ 1000000000000 < fn (fq n d) by omega)
    clear g hb
    go_enter Try.func33, Try.ntmps33
    go_wp2_with (first | (go_at_call 31; refine (norm_any _ _ _ h1 h2 h3 h4).mono ?_; rintro e w1 ⟨rfl, bs, k, rfl⟩) | (go_at_call 40; refine (bounded_no _ _ _ (by omega) (by omega) G.out).mono ?_; rintro e w1 ⟨rfl, rfl⟩))
    go_returns
    exact ⟨rfl, (Mor.refl w).alloc.alloc.more⟩

set_option maxHeartbeats 400000 in
theorem two_ok (n d m c : Int) (w : World) (h1 : okF n d) (h2 : okF m c) :
    Calls Try.prog 32 #[.agg #[.int .i64 n, .int .i64 d], .agg #[.int .i64 m, .int .i64 c]] w fun e w' => e = .returned (.int .i64 0) ∧ Mor w w' := by
  have H1 := Lib.hid (fun w => check_ok n d w h1.1 h1.2.1 h1.2.2.1 h1.2.2.2)
  have H2 := Lib.hid (fun w => check_ok m c w h2.1 h2.2.1 h2.2.2.1 h2.2.2.2)
  clear h1 h2
  go_enter Try.func32, Try.ntmps32
  go_wp2_with (first | (go_at_call 29; (with_reducible refine (H1.out _).mono ?_); rintro e w1 ⟨rfl, bs, k, rfl⟩) | (go_at_call 29; (with_reducible refine (H2.out _).mono ?_); rintro e w1 ⟨rfl, bs, k, rfl⟩))
  go_ret
  exact ⟨rfl, (by repeat (first | exact Mor.refl _ | apply Mor.alloc | apply Mor.more | apply Mor.drewN | apply Mor.drew))⟩

theorem chk_lo (n d : Int) : 1 ≤ chk n d := by unfold chk; split <;> omega

/-- the first of two fractions that may not be gives the error E -/
def twoE (n d m c E : Int) : Prop := (¬ okF n d ∧ chk n d = E) ∨ (okF n d ∧ ¬ okF m c ∧ chk m c = E)
theorem twoE_lo {n d m c E : Int} (h : twoE n d m c E) : 1 ≤ E := by
  have := chk_lo n d; have := chk_lo m c
  rcases h with ⟨_, h⟩ | ⟨_, _, h⟩ <;> omega
theorem twoE_of (n d m c : Int) (h : ¬ (okF n d ∧ okF m c)) : ∃ E, twoE n d m c E := by
  by_cases h1 : okF n d
  · exact ⟨_, .inr ⟨h1, fun h2 => h ⟨h1, h2⟩, rfl⟩⟩
  · exact ⟨_, .inl ⟨h1, rfl⟩⟩

set_option maxHeartbeats 400000 in
theorem two_no (n d m c E : Int) (w : World) (h : twoE n d m c E) :
    Calls Try.prog 32 #[.agg #[.int .i64 n, .int .i64 d], .agg #[.int .i64 m, .int .i64 c]] w fun e w' => e = .returned (.int .i64 E) ∧ Mor w w' := by
  have hE := twoE_lo h
  rcases h with ⟨h1, h3⟩ | ⟨h1, h2, h3⟩
  · have H1 := Lib.hid (fun w => h3 ▸ check_no n d w h1)
    clear h1 h3
    go_enter Try.func32, Try.ntmps32
    go_wp2_with (first | (go_at_call 29; (with_reducible refine (H1.out _).mono ?_); rintro e w1 ⟨rfl, bs, k, rfl⟩))
    go_ret
    exact ⟨rfl, (by repeat (first | exact Mor.refl _ | apply Mor.alloc | apply Mor.more | apply Mor.drewN | apply Mor.drew))⟩
  · have H1 := Lib.hid (fun w => check_ok n d w h1.1 h1.2.1 h1.2.2.1 h1.2.2.2)
    have H2 := Lib.hid (fun w => h3 ▸ check_no m c w h2)
    clear h1 h2 h3
    go_enter Try.func32, Try.ntmps32
    go_wp2_with (first | (go_at_call 29; (with_reducible refine (H1.out _).mono ?_); rintro e w1 ⟨rfl, bs, k, rfl⟩) | (go_at_call 29; (with_reducible refine (H2.out _).mono ?_); rintro e w1 ⟨rfl, bs, k, rfl⟩))
    go_ret
    exact ⟨rfl, (by repeat (first | exact Mor.refl _ | apply Mor.alloc | apply Mor.more | apply Mor.drewN | apply Mor.drew))⟩

set_option maxHeartbeats 400000 in
theorem norm_ok (n d : Int) (w : World) (h1 : okF n d) :
    Calls Try.prog 19 #[.agg #[.int .i64 n, .int .i64 d]] w fun e w' => e = .returned (.tuple #[.agg #[.int .i64 (fn (fq n d)), .int .i64 (fd (fq n d))], .int .i64 0]) ∧ Mor w w' := by
  have H1 := Lib.hid (fun w => check_ok n d w h1.1 h1.2.1 h1.2.2.1 h1.2.2.2)
  have H2 := Lib.hid (fun w => norm_any n d w h1.1 (by have := h1.2.1; omega) (by have := h1.2.2.1; omega) (by have := h1.2.2.2; omega))
  clear h1
  go_enter Try.func19, Try.ntmps19
  go_wp2_with (first | (go_at_call 29; (with_reducible refine (H1.out _).mono ?_); rintro e w1 ⟨rfl, bs, k, rfl⟩) | (go_at_call 31; (with_reducible refine (H2.out _).mono ?_); rintro e w1 ⟨rfl, bs, k, rfl⟩))
  go_returns
  exact ⟨rfl, (by repeat (first | exact Mor.refl _ | apply Mor.alloc | apply Mor.more | apply Mor.drewN | apply Mor.drew))⟩
set_option maxHeartbeats 400000 in
theorem norm_no (n d : Int) (w : World) (h1 : ¬ okF n d) :
    Calls Try.prog 19 #[.agg #[.int .i64 n, .int .i64 d]] w fun e w' => e = .returned (.tuple #[.agg #[.int .i64 0, .int .i64 0], .int .i64 (chk n d)]) ∧ Mor w w' := by
  have hE := chk_lo n d
  have H1 := Lib.hid (fun w => check_no n d w h1)
  clear h1
  go_enter Try.func19, Try.ntmps19
  go_wp2_with (first | (go_at_call 29; (with_reducible refine (H1.out _).mono ?_); rintro e w1 ⟨rfl, bs, k, rfl⟩))
  go_returns
  exact ⟨rfl, (by repeat (first | exact Mor.refl _ | apply Mor.alloc | apply Mor.more | apply Mor.drewN | apply Mor.drew))⟩

/-- -1, 0 or 1, as x is less than, equal to or greater than y -/
def sg (x y : Int) : Int := if x < y then -1 else if y < x then 1 else 0

set_option maxHeartbeats 400000 in
theorem cmp_ok (n d m c : Int) (w : World) (h1 : okF n d) (h2 : okF m c) :
    Calls Try.prog 20 #[.agg #[.int .i64 n, .int .i64 d], .agg #[.int .i64 m, .int .i64 c]] w fun e w' => e = .returned (.tuple #[.int .i64 (sg (n * c) (m * d)), .int .i64 0]) ∧ Mor w w' := by
  have H1 := Lib.hid (fun w => two_ok n d m c w h1 h2)
  obtain ⟨b1, b2⟩ := prod_bd n c 1000000000000 1000000 h1.2.2.1 h1.2.2.2 (by have := h2.1; omega) h2.2.1 (by omega)
  obtain ⟨b3, b4⟩ := prod_bd m d 1000000000000 1000000 h2.2.2.1 h2.2.2.2 (by have := h1.1; omega) h1.2.1 (by omega)
  clear h1 h2
  rcases Int.lt_trichotomy (n * c) (m * d) with h | h | h
  · have E := Lib.hid (show sg (n * c) (m * d) = -1 from if_pos h)
    go_enter Try.func20, Try.ntmps20
    go_wp2_with (first | (go_at_call 32; (with_reducible refine (H1.out _).mono ?_); rintro e w1 ⟨rfl, bs, k, rfl⟩))
    try go_region
    try go_wp2
    go_returns
    rw [E.out]
    exact ⟨rfl, (by repeat (first | exact Mor.refl _ | apply Mor.alloc | apply Mor.more | apply Mor.drewN | apply Mor.drew))⟩
  · have E := Lib.hid (show sg (n * c) (m * d) = 0 by unfold sg; rw [if_neg (by omega), if_neg (by omega)])
    have l1 : n * c ≤ m * d := by omega
    have l2 : m * d ≤ n * c := by omega
    clear h
    go_enter Try.func20, Try.ntmps20
    go_wp2_with (first | (go_at_call 32; (with_reducible refine (H1.out _).mono ?_); rintro e w1 ⟨rfl, bs, k, rfl⟩))
    try go_region
    try go_wp2
    go_returns
    rw [E.out]
    exact ⟨rfl, (by repeat (first | exact Mor.refl _ | apply Mor.alloc | apply Mor.more | apply Mor.drewN | apply Mor.drew))⟩
  · have E := Lib.hid (show sg (n * c) (m * d) = 1 by unfold sg; rw [if_neg (by omega), if_pos h])
    go_enter Try.func20, Try.ntmps20
    go_wp2_with (first | (go_at_call 32; (with_reducible refine (H1.out _).mono ?_); rintro e w1 ⟨rfl, bs, k, rfl⟩))
    try go_region
    try go_wp2
    go_returns
    rw [E.out]
    exact ⟨rfl, (by repeat (first | exact Mor.refl _ | apply Mor.alloc | apply Mor.more | apply Mor.drewN | apply Mor.drew))⟩

set_option maxHeartbeats 400000 in
theorem cmp_no (n d m c E : Int) (w : World) (h : twoE n d m c E) :
    Calls Try.prog 20 #[.agg #[.int .i64 n, .int .i64 d], .agg #[.int .i64 m, .int .i64 c]] w fun e w' => e = .returned (.tuple #[.int .i64 0, .int .i64 E]) ∧ Mor w w' := by
  have hE := twoE_lo h
  have H1 := Lib.hid (fun w => two_no n d m c E w h)
  clear h
  go_enter Try.func20, Try.ntmps20
  go_wp2_with (first | (go_at_call 32; (with_reducible refine (H1.out _).mono ?_); rintro e w1 ⟨rfl, bs, k, rfl⟩))
  go_returns
  exact ⟨rfl, (by repeat (first | exact Mor.refl _ | apply Mor.alloc | apply Mor.more | apply Mor.drewN | apply Mor.drew))⟩

set_option maxHeartbeats 400000 in
theorem round_ok (n d way : Int) (w : World) (h1 : okF n d) (h5 : 0 ≤ way) (h6 : way ≤ 3) :
    Calls Try.prog 15 #[.agg #[.int .i64 n, .int .i64 d], .int .i64 way] w fun e w' => e = .returned (.tuple #[.int .i64 (rnd n d way), .int .i64 0]) ∧ Mor w w' := by
  have H1 := Lib.hid (fun w => check_ok n d w h1.1 h1.2.1 h1.2.2.1 h1.2.2.2)
  have H2 := Lib.hid (fun w => rounded_any n d way w h1.1 (by have := h1.2.1; omega) (by have := h1.2.2.1; omega) (by have := h1.2.2.2; omega))
  clear h1
  go_enter Try.func15, Try.ntmps15
  go_wp2_with (first | (go_at_call 29; (with_reducible refine (H1.out _).mono ?_); rintro e w1 ⟨rfl, bs, k, rfl⟩) | (go_at_call 30; (with_reducible refine (H2.out _).mono ?_); rintro e w1 ⟨rfl, k, rfl⟩))
  try go_quiet ((first | (go_at_call 30; exact Calls.quiet_of (H2.out _))))
  try go_wp2
  go_returns
  exact ⟨rfl, (by repeat (first | exact Mor.refl _ | apply Mor.alloc | apply Mor.more | apply Mor.drewN | apply Mor.drew))⟩
set_option maxHeartbeats 400000 in
theorem round_no (n d way : Int) (w : World) (h1 : ¬ okF n d) :
    Calls Try.prog 15 #[.agg #[.int .i64 n, .int .i64 d], .int .i64 way] w fun e w' => e = .returned (.tuple #[.int .i64 0, .int .i64 (chk n d)]) ∧ Mor w w' := by
  have hE := chk_lo n d
  have H1 := Lib.hid (fun w => check_no n d w h1)
  clear h1
  go_enter Try.func15, Try.ntmps15
  go_wp2_with (first | (go_at_call 29; (with_reducible refine (H1.out _).mono ?_); rintro e w1 ⟨rfl, bs, k, rfl⟩))
  go_returns
  exact ⟨rfl, (by repeat (first | exact Mor.refl _ | apply Mor.alloc | apply Mor.more | apply Mor.drewN | apply Mor.drew))⟩

end Go.Proofs.Ythchchbkpicdcaa
