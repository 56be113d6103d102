/- The walks of frac.Add and frac.Mul, by the rational numbers. -/
import Derived.Test.YthchchbkpicdcaaFracB
import Derived.Deep.RegionWith
import Derived.Deep.RegionHeld3
import Derived.Deep.DeepCutAuto
namespace Go.Proofs.Ythchchbkpicdcaa
open Go.ChangeShapes Go.WideShapes Go.ChangeAt Go.RowKit
set_option linter.unusedVariables false

theorem two_terms (n d m c : Int) (h1 : okF n d) (h2 : okF m c) : -2000000000000000000 ≤ n * c + m * d ∧ n * c + m * d ≤ 2000000000000000000 ∧ 1 ≤ d * c ∧ d * c ≤ 1000000000000 := by
  obtain ⟨a1, a2, a3, a4⟩ := h1
  obtain ⟨b1, b2, b3, b4⟩ := h2
  have x1 := prod_bd n c 1000000000000 1000000 a3 a4 (by omega) b2 (by omega)
  have x2 := prod_bd m d 1000000000000 1000000 b3 b4 (by omega) a2 (by omega)
  have x3 := prod_bd d c 1000000 1000000 (by omega) a2 (by omega) b2 (by omega)
  have x4 : 0 < d * c := Int.mul_pos (by omega) (by omega)
  omega

set_option maxHeartbeats 800000 in
theorem add_ok (n d m c : Int) (q : Rat) (w : World) (h1 : okF n d) (h2 : okF m c) (hq : fq n d + fq m c = q) (hf : fitQ q) :
    Calls Try.prog 21 #[.agg #[.int .i64 n, .int .i64 d], .agg #[.int .i64 m, .int .i64 c]] w fun e w' => e = .returned (.tuple #[.agg #[.int .i64 (fn q), .int .i64 (fd q)], .int .i64 0]) ∧ Mor w w' := by
  have H1 := Lib.hid (fun w => two_ok n d m c w h1 h2)
  obtain ⟨x1, x2, x3, x4⟩ := two_terms n d m c h1 h2
  have hs : fq (n * c + m * d) (d * c) = q := by rw [← fq_add n d m c h1.1 h2.1]; exact hq
  have H2 := Lib.hid (fun w => told_ok (n * c + m * d) (d * c) w (by omega) (by omega) (by omega) (by omega) (by rw [hs]; exact hf.1) (by rw [hs]; exact hf.2.1) (by rw [hs]; exact hf.2.2))
  rw [hs] at H2
  have b1 := prod_bd n c 1000000000000 1000000 h1.2.2.1 h1.2.2.2 (by have := h2.1; omega) h2.2.1 (by omega)
  have b2 := prod_bd m d 1000000000000 1000000 h2.2.2.1 h2.2.2.2 (by have := h1.1; omega) h1.2.1 (by omega)
  obtain ⟨b3, b4⟩ := b1
  obtain ⟨b5, b6⟩ := b2
  clear h1 h2 hq hf hs
  go_enter Try.func21, Try.ntmps21
  go_wp2_with (first | (go_at_call 32; (with_reducible refine (H1.out _).mono ?_); rintro e w1 ⟨rfl, bs, k, rfl⟩) | (go_at_call 33; (with_reducible refine (H2.out _).mono ?_); rintro e w1 ⟨rfl, bs, k, rfl⟩))
  go_returns
  exact ⟨rfl, (by repeat (first | exact Mor.refl _ | apply Mor.alloc | apply Mor.more | apply Mor.drewN | apply Mor.drew))⟩

theorem abs_prod (x y N M : Int) (x1 : -N ≤ x) (x2 : x ≤ N) (y1 : -M ≤ y) (y2 : y ≤ M) (h : N * M ≤ 1000000000000) :
    (y.natAbs : Int) * (x.natAbs : Int) ≤ 1000000000000 := by
  have a : (x.natAbs : Int) ≤ N := by omega
  have b : (y.natAbs : Int) ≤ M := by omega
  have e1 : (y.natAbs : Int) * (x.natAbs : Int) ≤ M * (x.natAbs : Int) := Int.mul_le_mul_of_nonneg_right b (by omega)
  have e2 : M * (x.natAbs : Int) ≤ M * N := Int.mul_le_mul_of_nonneg_left a (by omega)
  rw [Int.mul_comm M N] at e2
  omega

set_option maxHeartbeats 1600000 in
theorem mul_ok (n d m c : Int) (q : Rat) (N M : Int) (w : World) (h1 : okF n d) (h2 : okF m c) (hq : fq n d * fq m c = q) (hf : fitQ q)
    (n1 : -N ≤ n) (n2 : n ≤ N) (m1 : -M ≤ m) (m2 : m ≤ M) (hNM : N * M ≤ 1000000000000) :
    Calls Try.prog 23 #[.agg #[.int .i64 n, .int .i64 d], .agg #[.int .i64 m, .int .i64 c]] w fun e w' => e = .returned (.tuple #[.agg #[.int .i64 (fn q), .int .i64 (fd q)], .int .i64 0]) ∧ Mor w w' := by
  have H1 := Lib.hid (fun w => two_ok n d m c w h1 h2)
  obtain ⟨p, hp⟩ : ∃ p, fq n d = p := ⟨_, rfl⟩
  obtain ⟨r, hr⟩ : ∃ r, fq m c = r := ⟨_, rfl⟩
  have H2 := Lib.hid (fun w => norm_any n d w h1.1 (by have := h1.2.1; omega) (by have := h1.2.2.1; omega) (by have := h1.2.2.2; omega))
  have H3 := Lib.hid (fun w => norm_any m c w h2.1 (by have := h2.2.1; omega) (by have := h2.2.2.1; omega) (by have := h2.2.2.2; omega))
  rw [hp] at H2
  rw [hr] at H3
  have p1 := fn_bd n d 1000000000000 h1.1 h1.2.2.1 h1.2.2.2
  have p2 := fd_le n d h1.1
  have p3 := fd_pos p
  have r1 := fn_bd m c 1000000000000 h2.1 h2.2.2.1 h2.2.2.2
  have r2 := fd_le m c h2.1
  have r3 := fd_pos r
  rw [hp] at p1 p2
  rw [hr] at r1 r2
  obtain ⟨x, hx⟩ : ∃ x, fq (fn p) (fd r) = x := ⟨_, rfl⟩
  obtain ⟨y, hy⟩ : ∃ y, fq (fn r) (fd p) = y := ⟨_, rfl⟩
  have H4 := Lib.hid (fun w => norm_any (fn p) (fd r) w r3 (by have := h2.2.1; omega) (by omega) (by omega))
  have H5 := Lib.hid (fun w => norm_any (fn r) (fd p) w p3 (by have := h1.2.1; omega) (by omega) (by omega))
  rw [hx] at H4
  rw [hy] at H5
  have x1 := fn_bd (fn p) (fd r) (if 0 ≤ N then N else -N) r3 (by have := fn_bd n d N h1.1 n1 n2; rw [hp] at this; split <;> omega) (by have := fn_bd n d N h1.1 n1 n2; rw [hp] at this; split <;> omega)
  have y1 := fn_bd (fn r) (fd p) (if 0 ≤ M then M else -M) p3 (by have := fn_bd m c M h2.1 m1 m2; rw [hr] at this; split <;> omega) (by have := fn_bd m c M h2.1 m1 m2; rw [hr] at this; split <;> omega)
  rw [if_pos (by omega), hx] at x1
  rw [if_pos (by omega), hy] at y1
  have xd := fd_le (fn p) (fd r) r3
  have yd := fd_le (fn r) (fd p) p3
  rw [hx] at xd
  rw [hy] at yd
  have xd0 := fd_pos x
  have yd0 := fd_pos y
  have hab := abs_prod (fn x) (fn y) N M x1.1 x1.2 y1.1 y1.2 hNM
  have hN0 : -1000000000000 ≤ fn x ∧ fn x ≤ 1000000000000 := by have := fn_bd (fn p) (fd r) 1000000000000 r3 p1.1 p1.2; rw [hx] at this; exact this
  have hM0 : -1000000000000 ≤ fn y ∧ fn y ≤ 1000000000000 := by have := fn_bd (fn r) (fd p) 1000000000000 p3 r1.1 r1.2; rw [hy] at this; exact this
  have hpr : -1000000000000 ≤ fn x * fn y ∧ fn x * fn y ≤ 1000000000000 := by
    have e : (fn x * fn y).natAbs = (fn y).natAbs * (fn x).natAbs := by rw [Int.natAbs_mul, Nat.mul_comm]
    have e2 : ((fn x * fn y).natAbs : Int) = ((fn y).natAbs : Int) * ((fn x).natAbs : Int) := by rw [e]; simp
    omega
  have hdd : 1 ≤ fd x * fd y ∧ fd x * fd y ≤ 1000000000000 := by
    have e1 := prod_bd (fd x) (fd y) 1000000 1000000 (by omega) (by have := h2.2.1; omega) (by omega) (by have := h1.2.1; omega) (by omega)
    have e2 : 0 < fd x * fd y := Int.mul_pos (by omega) (by omega)
    omega
  have hs : fq (fn x * fn y) (fd x * fd y) = q := by
    rw [← fq_mul, fq_self, fq_self, ← hx, ← hy, fq_mul, Int.mul_comm (fd r), ← fq_mul, fq_self, fq_self, ← hp, ← hr]; exact hq
  have H6 := Lib.hid (fun w => told_ok (fn x * fn y) (fd x * fd y) w hdd.1 (by omega) (by omega) (by omega) (by rw [hs]; exact hf.1) (by rw [hs]; exact hf.2.1) (by rw [hs]; exact hf.2.2))
  rw [hs] at H6
  obtain ⟨hpr1, hpr2⟩ := hpr
  obtain ⟨hdd1, hdd2⟩ := hdd
  obtain ⟨hN1, hN2⟩ := hN0
  obtain ⟨hM1, hM2⟩ := hM0
  clear hs hq hf n1 n2 m1 m2 hNM x1 y1 xd yd hp hr hx hy
  obtain ⟨W1, hW1⟩ : ∃ W1 : World, W1 = (((w.alloc (.cells #[.int .i64 (fn p), .int .i64 (fd p)] 23)).alloc (.cells #[.int .i64 (fn r), .int .i64 (fd r)] 23)).alloc (.cells #[.int .i64 0, .int .i64 0] 23)) := ⟨_, rfl⟩
  have k1 : W1.cell? ⟨w.heap.size, 0, none⟩ = some (.int .i64 (fn p)) := by rw [hW1]; simp [go_sem]
  have k2 : W1.cell? ⟨w.heap.size, 1, none⟩ = some (.int .i64 (fd p)) := by rw [hW1]; simp [go_sem]
  have k3 : W1.cell? ⟨w.heap.size + 1, 0, none⟩ = some (.int .i64 (fn r)) := by rw [hW1]; simp [go_sem]
  have k4 : W1.cell? ⟨w.heap.size + 1, 1, none⟩ = some (.int .i64 (fd r)) := by rw [hW1]; simp [go_sem]
  have k5 : W1.heap.size = w.heap.size + 1 + 1 + 1 := by rw [hW1]; simp [go_sem]
  have HW := Lib.hid hW1
  clear h1 h2 hW1
  go_enter Try.func23, Try.ntmps23
  go_wp2_with (first | (go_at_call 32; (with_reducible refine (H1.out _).mono ?_); rintro e w1 ⟨rfl, bs, k, rfl⟩))
  go_cut [2] (fun s2 wx => s2 = .pointer (some ⟨w.heap.size, 0, none⟩) ∧ ∃ bs k, wx = more W1 bs k)
  case first =>
    go_region_with (first | (go_at_call 31; (with_reducible refine (H2.out _).mono ?_); rintro e w1 ⟨rfl, bs, k, rfl⟩) | (go_at_call 31; (with_reducible refine (H3.out _).mono ?_); rintro e w1 ⟨rfl, bs, k, rfl⟩))
    all_goals (go_wp2_with fail; go_meet; exact ⟨rfl, _, _, by rw [HW.out]⟩)
  case rest =>
    obtain ⟨rfl, bs, k, rfl⟩ := hcut
    have c1 : (more W1 bs k).cell? ⟨w.heap.size, 0, none⟩ = some (.int .i64 (fn p)) := (cell?_more _ _ _ _ _ (by omega)).trans k1
    have c2 : (more W1 bs k).cell? ⟨w.heap.size, 1, none⟩ = some (.int .i64 (fd p)) := (cell?_more _ _ _ _ _ (by omega)).trans k2
    have c3 : (more W1 bs k).cell? ⟨w.heap.size + 1, 0, none⟩ = some (.int .i64 (fn r)) := (cell?_more _ _ _ _ _ (by omega)).trans k3
    have c4 : (more W1 bs k).cell? ⟨w.heap.size + 1, 1, none⟩ = some (.int .i64 (fd r)) := (cell?_more _ _ _ _ _ (by omega)).trans k4
    go_wp2_with fail
    go_cut [7, 8] (fun s7 s8 wx => ∃ g7 g8, s7 = .pointer (some ⟨g7, 0, none⟩) ∧ s8 = .pointer (some ⟨g8, 0, none⟩) ∧ Mor W1 wx ∧ wx.cell? ⟨g7, 0, none⟩ = some (.int .i64 (fn x)) ∧ wx.cell? ⟨g7, 1, none⟩ = some (.int .i64 (fd x)) ∧ wx.cell? ⟨g8, 0, none⟩ = some (.int .i64 (fn y)) ∧ wx.cell? ⟨g8, 1, none⟩ = some (.int .i64 (fd y)))
    case first =>
      go_region_held3 (fun w' => w'.cell? ⟨w.heap.size, 0, none⟩ = some (.int .i64 (fn p)) ∧ w'.cell? ⟨w.heap.size, 1, none⟩ = some (.int .i64 (fd p)) ∧ w'.cell? ⟨w.heap.size + 1, 0, none⟩ = some (.int .i64 (fn r)) ∧ w'.cell? ⟨w.heap.size + 1, 1, none⟩ = some (.int .i64 (fd r))) (simp [go_sem, k1, k2, k3, k4, k5]) (first | (go_at_call 31; (with_reducible refine (H4.out _).mono ?_); rintro e w1 ⟨rfl, bs, k, rfl⟩) | (go_at_call 31; (with_reducible refine (H5.out _).mono ?_); rintro e w1 ⟨rfl, bs, k, rfl⟩))
      all_goals (go_wp2_with fail; go_meet; refine ⟨_, _, rfl, rfl, (by repeat (first | exact Mor.refl _ | apply Mor.alloc | apply Mor.more | apply Mor.drewN | apply Mor.drew)), ?_, ?_, ?_, ?_⟩ <;> simp [go_sem, k5])
    case rest =>
      obtain ⟨g7, g8, rfl, rfl, ⟨bs, k, rfl⟩, d1, d2, d3, d4⟩ := hcut
      clear c1 c2 c3 c4 k1 k2 k3 k4 k5
      have hW1 := HW.out
      clear HW
      subst hW1
      go_wp2_with fail
      by_cases hz : fn x = 0
      · have g : (fn x != 0) = false := by simp [hz]
        clear hz hab
        go_quiet (fail)
        go_wp2_with (first | (go_at_call 33; (with_reducible refine (H6.out _).mono ?_); rintro e w1 ⟨rfl, bs, k, rfl⟩))
        go_returns
        exact ⟨rfl, (by repeat (first | exact Mor.refl _ | apply Mor.alloc | apply Mor.more | apply Mor.drewN | apply Mor.drew))⟩
      · have g : (fn x != 0) = true := by simp [hz]
        have hle : ((fn y).natAbs : Int) ≤ 1000000000000 / ((fn x).natAbs : Int) := by
          rw [Int.le_ediv_iff_mul_le (by omega)]; exact hab
        have hx1 : 1 ≤ ((fn x).natAbs : Int) := by omega
        clear hz hab
        go_quiet ((go_at_call 34; exact quiet_eq (abs_any _ _ (by omega) (by omega))))
        go_wp2_with (first | (go_at_call 33; (with_reducible refine (H6.out _).mono ?_); rintro e w1 ⟨rfl, bs, k, rfl⟩))
        go_returns
        exact ⟨rfl, (by repeat (first | exact Mor.refl _ | apply Mor.alloc | apply Mor.more | apply Mor.drewN | apply Mor.drew))⟩

end Go.Proofs.Ythchchbkpicdcaa
