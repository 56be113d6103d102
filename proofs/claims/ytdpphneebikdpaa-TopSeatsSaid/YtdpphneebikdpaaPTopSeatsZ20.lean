/- Plain arithmetic: rounding, reduction modulo, greatest common divisors. No program in sight. -/
import Derived.WalkKit
namespace Go.Proofs.Ytdpphneebikdpaa
set_option maxRecDepth 100000

/-- Within(k, n) for n from 1 on -/
def wi (k n : Int) : Int := (k % 18446744073709551616) % n

theorem wi_lo (k n : Int) (h : 1 ≤ n) : 0 ≤ wi k n := Int.emod_nonneg _ (by omega)
theorem wi_hi (k n : Int) (h : 1 ≤ n) : wi k n < n := Int.emod_lt_of_pos _ (by omega)

end Go.Proofs.Ytdpphneebikdpaa

/- Plain laws of divisor methods (Balinski, Young). No program in sight. -/
namespace Go.Proofs.Ytdpphneebikdpaa
set_option linter.unusedVariables false
set_option maxRecDepth 100000

/-- the divisor of who has s seats -/
def dv (way s : Int) : Int := if way = 0 then s + 1 else if way = 1 then 2 * s + 1 else s
theorem dv_0 (s : Int) : dv 0 s = s + 1 := by simp [dv]
theorem dv_1 (s : Int) : dv 1 s = 2 * s + 1 := by simp [dv]
theorem dv_2 (s : Int) : dv 2 s = s := by simp [dv]
theorem dv_le (way s t : Int) (h : s ≤ t) : dv way s ≤ dv way t := by unfold dv; split <;> (try split) <;> omega
theorem dv_lt (way s t : Int) (h : s < t) : dv way s < dv way t := by unfold dv; split <;> (try split) <;> omega
theorem dv_pos (way s : Int) (h : 0 ≤ s) : 0 ≤ dv way s := by unfold dv; split <;> (try split) <;> omega
theorem dv_bd (way s : Int) (h : 0 ≤ s) (h2 : s ≤ 1000) : 0 ≤ dv way s ∧ dv way s ≤ 2001 := by unfold dv; split <;> (try split) <;> omega

/-- the sum of f over the first m -/
def sumTo (f : Nat → Int) : Nat → Int
  | 0 => 0
  | m + 1 => sumTo f m + f m
theorem sumTo_congr (f g : Nat → Int) (m : Nat) (h : ∀ i, i < m → f i = g i) : sumTo f m = sumTo g m := by
  induction m with
  | zero => rfl
  | succ m ih => simp only [sumTo]; rw [ih (fun i hi => h i (by omega)), h m (by omega)]
theorem sumTo_le (f g : Nat → Int) (m : Nat) (h : ∀ i, i < m → f i ≤ g i) : sumTo f m ≤ sumTo g m := by
  induction m with
  | zero => exact Int.le_refl _
  | succ m ih => have := ih (fun i hi => h i (by omega)); have := h m (by omega); simp only [sumTo]; omega
theorem sumTo_lt (f g : Nat → Int) (m j : Nat) (hj : j < m) (h : ∀ i, i < m → f i ≤ g i) (hs : f j < g j) : sumTo f m < sumTo g m := by
  induction m with
  | zero => omega
  | succ m ih =>
    by_cases e : j = m
    · subst e
      have := sumTo_le f g j (fun i hi => h i (by omega)); simp only [sumTo]; omega
    · have := ih (by omega) (fun i hi => h i (by omega)); have := h m (by omega); simp only [sumTo]; omega
/-- the same sum, and one is less: another one is more -/
theorem sumTo_more (f g : Nat → Int) (m j : Nat) (hj : j < m) (hs : sumTo f m ≤ sumTo g m) (h : g j < f j) : ∃ i, i < m ∧ f i < g i := by
  by_cases hx : ∃ i, i < m ∧ f i < g i
  · exact hx
  · have := sumTo_lt g f m j hj (fun i hi => by
      by_cases hl : f i < g i
      · exact absurd ⟨i, hi, hl⟩ hx
      · omega) h
    omega
theorem sumTo_const (c : Int) (m : Nat) : sumTo (fun _ => c) m = c * m := by
  induction m with
  | zero => simp [sumTo]
  | succ m ih => simp only [sumTo]; rw [ih, Int.natCast_add, Int.mul_add]; simp
/-- one place more by d -/
theorem sumTo_upd (f : Nat → Int) (m j : Nat) (hj : j < m) (d : Int) : sumTo (fun i => if i = j then f i + d else f i) m = sumTo f m + d := by
  induction m with
  | zero => omega
  | succ m ih =>
    simp only [sumTo]
    by_cases e : j = m
    · subst e
      rw [sumTo_congr (fun i => if i = j then f i + d else f i) f j (fun i hi => by (try simp only); rw [if_neg (by omega)]), if_pos rfl]; omega
    · rw [ih (by omega), if_neg (by omega)]; omega

/-- (k, with s seats) has its next seat ahead of (i, with t seats) -/
def Prec (way : Int) (v : Nat → Int) (k : Nat) (s : Int) (i : Nat) (t : Int) : Prop :=
  v i * dv way s < v k * dv way t ∨ (v i * dv way s = v k * dv way t ∧ k < i)

/-- x is what the divisor method hands out -/
def Fair (way : Int) (m : Nat) (v x : Nat → Int) : Prop :=
  (∀ i, i < m → 0 ≤ x i) ∧ (∀ i, i < m → v i = 0 → x i = 0) ∧ ∀ i k, i < m → k < m → i ≠ k → 0 < v i → 0 < x k → Prec way v k (x k - 1) i (x i)

theorem Fair.vpos {way : Int} {m : Nat} {v x : Nat → Int} (h : Fair way m v x) (hv : ∀ i, i < m → 0 ≤ v i) {k : Nat} (hk : k < m) (hx : 0 < x k) : 0 < v k := by
  have := hv k hk
  rcases Int.lt_or_eq_of_le this with h0 | h0
  · exact h0
  · have := h.2.1 k hk h0.symm; omega

/-- two that are fair do not cross -/
theorem no_cross {way : Int} {m : Nat} {v x y : Nat → Int} (hv : ∀ i, i < m → 0 ≤ v i) (hx : Fair way m v x) (hy : Fair way m v y) {i k : Nat} (hi : i < m) (hk : k < m)
    (h1 : x i < y i) (h2 : y k < x k) : False := by
  have x0 := hx.1 i hi
  have y0 := hy.1 k hk
  have hik : i ≠ k := by rintro rfl; omega
  have vi := hy.vpos hv hi (show 0 < y i by omega)
  have vk := hx.vpos hv hk (show 0 < x k by omega)
  have a := hx.2.2 i k hi hk hik vi (by omega)
  have b := hy.2.2 k i hk hi (Ne.symm hik) vk (by omega)
  have c := Int.mul_le_mul_of_nonneg_left (dv_le way (x i) (y i - 1) (by omega)) (show 0 ≤ v k by omega)
  have d := Int.mul_le_mul_of_nonneg_left (dv_le way (y k) (x k - 1) (by omega)) (show 0 ≤ v i by omega)
  rcases a with a | a <;> rcases b with b | b <;> omega
/-- with no fewer seats nobody has fewer -/
theorem fair_le {way : Int} {m : Nat} {v x y : Nat → Int} (hv : ∀ i, i < m → 0 ≤ v i) (hx : Fair way m v x) (hy : Fair way m v y) (hs : sumTo x m ≤ sumTo y m) : ∀ i, i < m → x i ≤ y i := by
  intro k hk
  by_cases h : x k ≤ y k
  · exact h
  · obtain ⟨i, hi, hlt⟩ := sumTo_more x y m k hk hs (by omega)
    exact (no_cross hv hx hy hi hk hlt (by omega)).elim
theorem fair_unique {way : Int} {m : Nat} {v x y : Nat → Int} (hv : ∀ i, i < m → 0 ≤ v i) (hx : Fair way m v x) (hy : Fair way m v y) (hs : sumTo x m = sumTo y m) : ∀ i, i < m → x i = y i := by
  intro i hi
  have a := fair_le hv hx hy (by omega) i hi
  have b := fair_le hv hy hx (by omega) i hi
  omega

/- the greedy round -/
/-- b is the best of the first i (or -1: none of them has votes) -/
def Best (way : Int) (v x : Nat → Int) (i : Nat) (b : Int) : Prop :=
  (b = -1 ∧ ∀ j, j < i → v j = 0) ∨ ∃ B : Nat, b = B ∧ B < i ∧ 0 < v B ∧ ∀ j, j < i → j ≠ B → 0 < v j → Prec way v B (x B) j (x j)
theorem Best.zero (way : Int) (v x : Nat → Int) : Best way v x 0 (-1) := .inl ⟨rfl, fun j hj => absurd hj (Nat.not_lt_zero _)⟩
theorem Best.skip {way : Int} {v x : Nat → Int} {i : Nat} {b : Int} (h : Best way v x i b) (hv : v i = 0) : Best way v x (i + 1) b := by
  rcases h with ⟨e, h⟩ | ⟨B, e, hB, hp, h⟩
  · refine .inl ⟨e, fun j hj => ?_⟩
    by_cases ej : j = i
    · subst ej; exact hv
    · exact h j (by omega)
  · refine .inr ⟨B, e, by omega, hp, fun j hj hjB hvj => ?_⟩
    by_cases ej : j = i
    · subst ej; omega
    · exact h j (by omega) hjB hvj
theorem Best.first {way : Int} {v x : Nat → Int} {i : Nat} {b : Int} (h : Best way v x i b) (hb : b < 0) (hv : 0 < v i) : Best way v x (i + 1) i := by
  rcases h with ⟨e, h⟩ | ⟨B, e, _⟩
  · refine .inr ⟨i, rfl, by omega, hv, fun j hj hji hvj => ?_⟩
    have := h j (by omega); omega
  · omega
theorem Best.stay {way : Int} {v x : Nat → Int} {i B : Nat} (h : Best way v x i B) (hv : 0 < v i) (hc : v i * dv way (x B) ≤ v B * dv way (x i)) : Best way v x (i + 1) B := by
  rcases h with ⟨e, h⟩ | ⟨B', e, hB, hp, h⟩
  · omega
  · obtain rfl : B = B' := by omega
    refine .inr ⟨B, rfl, by omega, hp, fun j hj hjB hvj => ?_⟩
    by_cases ej : j = i
    · subst ej; unfold Prec; omega
    · exact h j (by omega) hjB hvj
theorem Best.take {way : Int} {v x : Nat → Int} {i B : Nat} (h : Best way v x i B) (hx : ∀ j, j < i + 1 → 0 ≤ x j) (hv : 0 < v i) (hc : v B * dv way (x i) < v i * dv way (x B)) : Best way v x (i + 1) i := by
  rcases h with ⟨e, h⟩ | ⟨B', e, hB, hp, h⟩
  · omega
  · obtain rfl : B = B' := by omega
    refine .inr ⟨i, rfl, by omega, hv, fun j hj hji hvj => .inl ?_⟩
    have di := dv_pos way (x i) (hx i (by omega))
    have dj := dv_pos way (x j) (hx j hj)
    have db0 := dv_pos way (x B) (hx B (by omega))
    have db : 0 < dv way (x B) := by
      rcases Int.lt_or_eq_of_le db0 with h0 | h0
      · exact h0
      · rw [← h0, Int.mul_zero] at hc
        have := Int.mul_nonneg (show 0 ≤ v B by omega) di; omega
    by_cases ejB : j = B
    · subst ejB; exact hc
    · have a : v j * dv way (x B) ≤ v B * dv way (x j) := by rcases h j (by omega) ejB hvj with t | t <;> omega
      have djp : 0 < dv way (x j) := by
        rcases Int.lt_or_eq_of_le dj with h0 | h0
        · exact h0
        · rw [← h0, Int.mul_zero] at a
          have := Int.mul_pos hvj db; omega
      have s1 := Int.mul_le_mul_of_nonneg_left a di
      have s2 := Int.mul_lt_mul_of_pos_left hc djp
      have e1 : dv way (x i) * (v j * dv way (x B)) = dv way (x B) * (v j * dv way (x i)) := by ac_rfl
      have e2 : dv way (x i) * (v B * dv way (x j)) = dv way (x j) * (v B * dv way (x i)) := by ac_rfl
      have e3 : dv way (x j) * (v i * dv way (x B)) = dv way (x B) * (v i * dv way (x j)) := by ac_rfl
      have s3 : dv way (x B) * (v j * dv way (x i)) < dv way (x B) * (v i * dv way (x j)) := by omega
      exact Int.lt_of_mul_lt_mul_left s3 (by omega)
/-- who is best has the next seat -/
theorem Fair.next {way : Int} {m : Nat} {v x : Nat → Int} (h : Fair way m v x) (hv : ∀ i, i < m → 0 ≤ v i) {B : Nat} (hb : Best way v x m B) : B < m ∧ Fair way m v (fun i => if i = B then x i + 1 else x i) := by
  rcases hb with ⟨e, _⟩ | ⟨B', e, hB, hp, hb⟩
  · omega
  · obtain rfl : B = B' := by omega
    refine ⟨hB, fun i hi => ?_, fun i hi hz => ?_, fun i k hi hk hik hvi hxk => ?_⟩
    · have := h.1 i hi; simp only; split <;> omega
    · have := h.2.1 i hi hz
      simp only; split
      · subst_vars; omega
      · omega
    · simp only at hxk ⊢
      by_cases ek : k = B
      · subst ek
        rw [if_pos rfl, if_neg hik, show x k + 1 - 1 = x k by omega]
        exact hb i hi hik hvi
      · rw [if_neg ek] at hxk ⊢
        have a := h.2.2 i k hi hk hik hvi hxk
        by_cases ei : i = B
        · subst ei
          rw [if_pos rfl]
          have vk := h.vpos hv hk hxk
          have c := Int.mul_lt_mul_of_pos_left (dv_lt way (x i) (x i + 1) (by omega)) vk
          unfold Prec at a ⊢
          rcases a with a | a <;> omega
        · rw [if_neg ei]; exact a
theorem Fair.zero (way : Int) (m : Nat) (v : Nat → Int) : Fair way m v (fun _ => 0) :=
  ⟨fun _ _ => Int.le_refl _, fun _ _ _ => rfl, fun i k _ _ _ _ h => absurd (show (0 : Int) < 0 from h) (by omega)⟩
theorem Best.some {way : Int} {m : Nat} {v x : Nat → Int} {b : Int} (h : Best way v x m b) (hs : sumTo v m ≠ 0) : ∃ B : Nat, b = B ∧ B < m := by
  rcases h with ⟨e, h⟩ | ⟨B, e, hB, _⟩
  · have := sumTo_congr v (fun _ => 0) m h
    rw [sumTo_const] at this; omega
  · exact ⟨B, e, hB⟩

/- scaling, and a party without votes -/
end Go.Proofs.Ytdpphneebikdpaa

/- Plain arithmetic of fractions: lowest terms by the rational numbers of Lean's core. No program in sight. -/
namespace Go.Proofs.Ytdpphneebikdpaa
set_option maxRecDepth 100000

/-- the rational number n/d, its numerator and denominator in lowest terms -/
def fq (n d : Int) : Rat := Rat.divInt n d
theorem prod_bd (a r : Int) (M R : Int) (h1 : -M ≤ a) (h2 : a ≤ M) (h3 : 0 ≤ r) (h4 : r ≤ R) (hM : 0 ≤ M) : -(M * R) ≤ a * r ∧ a * r ≤ M * R := by
  have e1 : a * r ≤ M * r := Int.mul_le_mul_of_nonneg_right h2 h3
  have e2 : M * r ≤ M * R := Int.mul_le_mul_of_nonneg_left h4 hM
  have e3 : -M * r ≤ a * r := Int.mul_le_mul_of_nonneg_right h1 h3
  have e4 : -M * r = -(M * r) := by rw [Int.neg_mul]
  omega

end Go.Proofs.Ytdpphneebikdpaa
