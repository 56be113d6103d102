/- The walk of count.Between. -/
import Derived.Test.YtgfjjhojbpheeaaDoorCalW
namespace Go.Proofs.YtgfjjhojbpheeaaDoor
open Go.ChangeShapes Go.WideShapes Go.ChangeAt Go.RowKit
set_option linter.unusedVariables false

def m30 (d : Int) : Int := if 30 < d then 30 else d
/-- Euro30's days -/
noncomputable def eu (a b : Int) : Int := 360 * (yr b - yr a) + 30 * (mo b - mo a) + m30 (dm b) - m30 (dm a)
theorem eu_eq (a b : Int) : eu a b = 30 * (dk b - dk a) + m30 (dm b) - m30 (dm a) := by
  have := ym_dk a; have := ym_dk b; unfold eu; omega
/-- the days by a way -/
noncomputable def cnt (way a b : Int) : Int := if way = 2 then eu a b else b - a
def den (way : Int) : Int := if way = 1 then 365 else 360

set_option maxHeartbeats 3200000 in
theorem between_yes (way a b : Int) (w : World) (hw0 : 0 ≤ way) (hw2 : way ≤ 2) (h0 : 0 ≤ a) (h9 : b ≤ 292193) (h : a ≤ b) (ht : Tab w) :
    Calls Tryd.prog 25 #[.int .i64 way, .int .i64 a, .int .i64 b] w fun e w' => e = .returned (.tuple #[.agg #[.int .i64 (cnt way a b), .int .i64 (den way)], .int .i64 0]) ∧ Mor w w' := by
  have HT := Lib.hid ht
  clear ht
  have HI := Lib.hid (fun w => is_any a w)
  rw [dec_is h0 (by omega)] at HI
  have HJ := Lib.hid (fun w => is_any b w)
  rw [dec_is (by omega) h9] at HJ
  have hc : way = 0 ∨ way = 1 ∨ way = 2 := by omega
  rcases hc with rfl | rfl | rfl
  · rw [show cnt 0 a b = b - a from rfl, show den 0 = 360 from rfl]
    go_enter Tryd.func25, Tryd.ntmps25
    go_wp2_with (first | (go_at_call 30; (with_reducible refine (HI.out _).mono ?_); rintro e w1 ⟨rfl, rfl⟩) | (go_at_call 30; (with_reducible refine (HJ.out _).mono ?_); rintro e w1 ⟨rfl, rfl⟩))
    go_returns
    exact ⟨rfl, by repeat (first | exact Mor.refl _ | apply Mor.alloc | apply Mor.more | apply Mor.drewN | apply Mor.drew)⟩
  · rw [show cnt 1 a b = b - a from rfl, show den 1 = 365 from rfl]
    go_enter Tryd.func25, Tryd.ntmps25
    go_wp2_with (first | (go_at_call 30; (with_reducible refine (HI.out _).mono ?_); rintro e w1 ⟨rfl, rfl⟩) | (go_at_call 30; (with_reducible refine (HJ.out _).mono ?_); rintro e w1 ⟨rfl, rfl⟩))
    go_returns
    exact ⟨rfl, by repeat (first | exact Mor.refl _ | apply Mor.alloc | apply Mor.more | apply Mor.drewN | apply Mor.drew)⟩
  · have HP := Lib.hid (fun w h => plain_any a w h0 (by omega) h)
    have HQ := Lib.hid (fun w h => plain_any b w (by omega) h9 h)
    obtain ⟨⟨y1, y2, m1, m2, d1, d2⟩, -, -⟩ := ymd (n := a) h0 (by omega)
    obtain ⟨⟨y3, y4, m3, m4, d3, d4⟩, -, -⟩ := ymd (n := b) (by omega) h9
    have l1 := (mlen_bd (y := yr a) m1 m2).2
    have l2 := (mlen_bd (y := yr b) m3 m4).2
    have d5 : dm a ≤ 31 := by omega
    have d6 : dm b ≤ 31 := by omega
    obtain ⟨X, hX⟩ : ∃ X, (if 30 < dm a then 30 else dm a) = X := ⟨_, rfl⟩
    obtain ⟨Z, hZ⟩ : ∃ Z, (if 30 < dm b then 30 else dm b) = Z := ⟨_, rfl⟩
    have x1 : 0 ≤ X := by rw [← hX]; split <;> omega
    have x2 : X ≤ 30 := by rw [← hX]; split <;> omega
    have z1 : 0 ≤ Z := by rw [← hZ]; split <;> omega
    have z2 : Z ≤ 30 := by rw [← hZ]; split <;> omega
    have HE := Lib.hid (show cnt 2 a b = 360 * (yr b - yr a) + 30 * (mo b - mo a) + Z - X by unfold cnt eu m30; rw [if_pos rfl, hX, hZ])
    clear d2 d4 l1 l2
    rw [show den 2 = 360 from rfl]
    generalize cnt 2 a b = C at *
    generalize yr a = Ya at *
    generalize mo a = Ma at *
    generalize dm a = Da at *
    generalize yr b = Yb at *
    generalize mo b = Mb at *
    generalize dm b = Db at *
    go_enter Tryd.func25, Tryd.ntmps25
    go_wp2_with (first | (go_at_call 30; (with_reducible refine (HI.out _).mono ?_); rintro e w1 ⟨rfl, rfl⟩) | (go_at_call 30; (with_reducible refine (HJ.out _).mono ?_); rintro e w1 ⟨rfl, rfl⟩) | (go_at_call 31; (with_reducible refine (HP.out _ (by repeat (first | exact HT.out | apply Tab.alloc | apply Tab.more | apply Tab.drewN | apply Tab.drew))).mono ?_); rintro e w1 ⟨rfl, bs, k, rfl⟩) | (go_at_call 31; (with_reducible refine (HQ.out _ (by repeat (first | exact HT.out | apply Tab.alloc | apply Tab.more | apply Tab.drewN | apply Tab.drew))).mono ?_); rintro e w1 ⟨rfl, bs, k, rfl⟩))
    go_returns
    exact ⟨by rw [HE.out], by repeat (first | exact Mor.refl _ | apply Mor.alloc | apply Mor.more | apply Mor.drewN | apply Mor.drew)⟩

/-- Euro30 of whole months, on a day up to the 28th -/
theorem eu_months {a b E K q : Int} (ha : IsD a K E) (hb : IsD b (K + q) E) : eu a b = 30 * q := by
  rw [eu_eq, ha.dk, hb.dk, ha.dm, hb.dm]; omega
theorem eu0_366 : eu 0 366 = 360 := by rw [eu_eq, d00.dk, d366.dk, d00.dm, d366.dm]; decide
theorem eu0_31 : eu 0 31 = 30 := by rw [eu_eq, d00.dk, d31.dk, d00.dm, d31.dm]; decide
theorem eu_add (a b c : Int) : eu a b + eu b c = eu a c := by rw [eu_eq, eu_eq, eu_eq]; omega
theorem eu_bd {a b : Int} (h0 : 0 ≤ a) (h9 : b ≤ 292193) (h : a ≤ b) : 0 ≤ eu a b ∧ eu a b ≤ 300000 := by
  have ha := isD_of (n := a) h0 (by omega); have hb := isD_of (n := b) (by omega) h9
  have := ha.d0; have := hb.d0; have := ha.d1; have := hb.d1; have := lk_bd (dk a); have := lk_bd (dk b)
  have := ha.k0; have := hb.k1
  rw [eu_eq]
  unfold m30
  rcases (ha.le hb).1 h with h | ⟨h, h'⟩
  · split <;> split <;> omega
  · split <;> split <;> omega

/-- so many years -/
theorem fk_years {k q : Int} (hk : 0 ≤ k) (hq : 0 ≤ q) : fk k + 365 * q ≤ fk (k + 12 * q) ∧ fk (k + 12 * q) ≤ fk k + 366 * q := by
  obtain ⟨n, rfl⟩ := Int.eq_ofNat_of_zero_le hq
  clear hq
  induction n with
  | zero => simp
  | succ n ih =>
    have h : ∀ j : Int, 0 ≤ j → fk j + 365 ≤ fk (j + 12) ∧ fk (j + 12) ≤ fk j + 366 := by
      intro j hj
      unfold fk
      rw [show 1600 + (j + 12) / 12 = 1600 + j / 12 + 1 by omega, show 1 + (j + 12) % 12 = 1 + j % 12 by omega]
      unfold fst
      rw [yrs_succ]
      rcases lpn_cases (1600 + j / 12) with ⟨a, _⟩ | ⟨a, _⟩ <;> rcases lpn_cases (1600 + j / 12 + 1) with ⟨b, _⟩ | ⟨b, _⟩ <;> rw [a, b] <;> split <;> omega
    have h2 := h (k + 12 * (n : Int)) (by omega)
    rw [show k + 12 * ((n + 1 : Nat) : Int) = k + 12 * (n : Int) + 12 by omega]
    omega

end Go.Proofs.YtgfjjhojbpheeaaDoor
