/- Plain laws of divisor methods (Balinski, Young). No program in sight. -/
import Derived.Test.YtmpcnipngepfgaaPlainA
namespace Go.Proofs.Ytmpcnipngepfgaa
set_option linter.unusedVariables false

/-- the divisor of who has s seats -/
def dv (way s : Int) : Int := if way = 0 then s + 1 else if way = 1 then 2 * s + 1 else s
theorem dv_0 (s : Int) : dv 0 s = s + 1 := by simp [dv]
theorem dv_1 (s : Int) : dv 1 s = 2 * s + 1 := by simp [dv]
theorem dv_2 (s : Int) : dv 2 s = s := by simp [dv]
theorem dv_le (way s t : Int) (h : s ≤ t) : dv way s ≤ dv way t := by unfold dv; split <;> (try split) <;> omega
theorem dv_lt (way s t : Int) (h : s < t) : dv way s < dv way t := by unfold dv; split <;> (try split) <;> omega
theorem dv_pos (way s : Int) (h : 0 ≤ s) : 0 ≤ dv way s := by unfold dv; split <;> (try split) <;> omega
theorem dv_bd (way s : Int) (h : 0 ≤ s) (h2 : s ≤ 1000) : 0 ≤ dv way s ∧ dv way s ≤ 2001 := by unfold dv; split <;> (try split) <;> omega

/-- the sum of f over the first m -/
def sumTo (f : Nat → Int) : Nat → Int
  | 0 => 0
  | m + 1 => sumTo f m + f m
theorem sumTo_congr (f g : Nat → Int) (m : Nat) (h : ∀ i, i < m → f i = g i) : sumTo f m = sumTo g m := by
  induction m with
  | zero => rfl
  | succ m ih => simp only [sumTo]; rw [ih (fun i hi => h i (by omega)), h m (by omega)]
theorem sumTo_le (f g : Nat → Int) (m : Nat) (h : ∀ i, i < m → f i ≤ g i) : sumTo f m ≤ sumTo g m := by
  induction m with
  | zero => exact Int.le_refl _
  | succ m ih => have := ih (fun i hi => h i (by omega)); have := h m (by omega); simp only [sumTo]; omega
theorem sumTo_lt (f g : Nat → Int) (m j : Nat) (hj : j < m) (h : ∀ i, i < m → f i ≤ g i) (hs : f j < g j) : sumTo f m < sumTo g m := by
  induction m with
  | zero => omega
  | succ m ih =>
    by_cases e : j = m
    · subst e
      have := sumTo_le f g j (fun i hi => h i (by omega)); simp only [sumTo]; omega
    · have := ih (by omega) (fun i hi => h i (by omega)); have := h m (by omega); simp only [sumTo]; omega
/-- the same sum, and one is less: another one is more -/
theorem sumTo_more (f g : Nat → Int) (m j : Nat) (hj : j < m) (hs : sumTo f m ≤ sumTo g m) (h : g j < f j) : ∃ i, i < m ∧ f i < g i := by
  by_cases hx : ∃ i, i < m ∧ f i < g i
  · exact hx
  · have := sumTo_lt g f m j hj (fun i hi => by
      by_cases hl : f i < g i
      · exact absurd ⟨i, hi, hl⟩ hx
      · omega) h
    omega
theorem sumTo_add (f g : Nat → Int) (m : Nat) : sumTo (fun i => f i + g i) m = sumTo f m + sumTo g m := by
  induction m with
  | zero => rfl
  | succ m ih => simp only [sumTo]; rw [ih]; omega
theorem sumTo_mul (c : Int) (f : Nat → Int) (m : Nat) : sumTo (fun i => c * f i) m = c * sumTo f m := by
  induction m with
  | zero => simp [sumTo]
  | succ m ih => simp only [sumTo]; rw [ih, Int.mul_add]
theorem sumTo_const (c : Int) (m : Nat) : sumTo (fun _ => c) m = c * m := by
  induction m with
  | zero => simp [sumTo]
  | succ m ih => simp only [sumTo]; rw [ih, Int.natCast_add, Int.mul_add]; simp
/-- one place more by d -/
theorem sumTo_upd (f : Nat → Int) (m j : Nat) (hj : j < m) (d : Int) : sumTo (fun i => if i = j then f i + d else f i) m = sumTo f m + d := by
  induction m with
  | zero => omega
  | succ m ih =>
    simp only [sumTo]
    by_cases e : j = m
    · subst e
      rw [sumTo_congr (fun i => if i = j then f i + d else f i) f j (fun i hi => by (try simp only); rw [if_neg (by omega)]), if_pos rfl]; omega
    · rw [ih (by omega), if_neg (by omega)]; omega

/-- (k, with s seats) has its next seat ahead of (i, with t seats) -/
def Prec (way : Int) (v : Nat → Int) (k : Nat) (s : Int) (i : Nat) (t : Int) : Prop :=
  v i * dv way s < v k * dv way t ∨ (v i * dv way s = v k * dv way t ∧ k < i)

/-- x is what the divisor method hands out -/
def Fair (way : Int) (m : Nat) (v x : Nat → Int) : Prop :=
  (∀ i, i < m → 0 ≤ x i) ∧ (∀ i, i < m → v i = 0 → x i = 0) ∧ ∀ i k, i < m → k < m → i ≠ k → 0 < v i → 0 < x k → Prec way v k (x k - 1) i (x i)

theorem Fair.vpos {way : Int} {m : Nat} {v x : Nat → Int} (h : Fair way m v x) (hv : ∀ i, i < m → 0 ≤ v i) {k : Nat} (hk : k < m) (hx : 0 < x k) : 0 < v k := by
  have := hv k hk
  rcases Int.lt_or_eq_of_le this with h0 | h0
  · exact h0
  · have := h.2.1 k hk h0.symm; omega

/-- two that are fair do not cross -/
theorem no_cross {way : Int} {m : Nat} {v x y : Nat → Int} (hv : ∀ i, i < m → 0 ≤ v i) (hx : Fair way m v x) (hy : Fair way m v y) {i k : Nat} (hi : i < m) (hk : k < m)
    (h1 : x i < y i) (h2 : y k < x k) : False := by
  have x0 := hx.1 i hi
  have y0 := hy.1 k hk
  have hik : i ≠ k := by rintro rfl; omega
  have vi := hy.vpos hv hi (show 0 < y i by omega)
  have vk := hx.vpos hv hk (show 0 < x k by omega)
  have a := hx.2.2 i k hi hk hik vi (by omega)
  have b := hy.2.2 k i hk hi (Ne.symm hik) vk (by omega)
  have c := Int.mul_le_mul_of_nonneg_left (dv_le way (x i) (y i - 1) (by omega)) (show 0 ≤ v k by omega)
  have d := Int.mul_le_mul_of_nonneg_left (dv_le way (y k) (x k - 1) (by omega)) (show 0 ≤ v i by omega)
  rcases a with a | a <;> rcases b with b | b <;> omega
/-- with no fewer seats nobody has fewer -/
theorem fair_le {way : Int} {m : Nat} {v x y : Nat → Int} (hv : ∀ i, i < m → 0 ≤ v i) (hx : Fair way m v x) (hy : Fair way m v y) (hs : sumTo x m ≤ sumTo y m) : ∀ i, i < m → x i ≤ y i := by
  intro k hk
  by_cases h : x k ≤ y k
  · exact h
  · obtain ⟨i, hi, hlt⟩ := sumTo_more x y m k hk hs (by omega)
    exact (no_cross hv hx hy hi hk hlt (by omega)).elim
theorem fair_unique {way : Int} {m : Nat} {v x y : Nat → Int} (hv : ∀ i, i < m → 0 ≤ v i) (hx : Fair way m v x) (hy : Fair way m v y) (hs : sumTo x m = sumTo y m) : ∀ i, i < m → x i = y i := by
  intro i hi
  have a := fair_le hv hx hy (by omega) i hi
  have b := fair_le hv hy hx (by omega) i hi
  omega

/-- HUNTINGTON -/
theorem fair_claim {way : Int} {m : Nat} {v x : Nat → Int} (hv : ∀ i, i < m → 0 ≤ v i) (hx : Fair way m v x) {i k : Nat} (hi : i < m) (hk : k < m) (h1 : 0 < x k) (h2 : 0 < v i) : v i * dv way (x k - 1) ≤ v k * dv way (x i) := by
  by_cases e : i = k
  · subst e
    exact Int.mul_le_mul_of_nonneg_left (dv_le way _ _ (by omega)) (by omega)
  · rcases hx.2.2 i k hi hk e h2 h1 with a | a <;> omega

/-- who has more votes has no fewer seats, but of Adams with too few seats -/
theorem fair_more {way : Int} {m : Nat} {v x : Nat → Int} (hw : way = 0 ∨ way = 1 ∨ way = 2) (hv : ∀ i, i < m → 0 ≤ v i) (hx : Fair way m v x) {i k : Nat} (hi : i < m) (hk : k < m) (h1 : v k < v i) (h2 : x i < x k) :
    way = 2 ∧ sumTo x m < sumTo (fun j => min (v j) 1) m := by
  have v0 := hv k hk
  have x0 := hx.1 i hi
  have key : ∀ j, j < m → 0 < x j → v i * dv way (x j - 1) ≤ v j * dv way (x i) := fun j hj hp => fair_claim hv hx hi hj hp (by omega)
  have a := key k hk (by omega)
  have b := Int.mul_le_mul_of_nonneg_left (dv_le way (x i) (x k - 1) (by omega)) (show 0 ≤ v i by omega)
  have c : dv way (x i) = 0 := by
    have p := dv_pos way (x i) x0
    rcases Int.lt_or_eq_of_le p with h0 | h0
    · have := Int.mul_lt_mul_of_pos_right h1 h0; omega
    · exact h0.symm
  have hway : way = 2 ∧ x i = 0 := by
    rcases hw with rfl | rfl | rfl
    · rw [dv_0] at c; omega
    · rw [dv_1] at c; omega
    · rw [dv_2] at c; exact ⟨rfl, c⟩
  obtain ⟨rfl, xi⟩ := hway
  refine ⟨rfl, sumTo_lt _ _ m i hi (fun j hj => ?_) (by (try simp only); omega)⟩
  have vj := hv j hj
  have xj := hx.1 j hj
  by_cases hp : 0 < x j
  · have e := key j hj hp
    rw [c, dv_2, Int.mul_zero] at e
    have f : x j - 1 ≤ 0 := by
      by_cases hz : x j - 1 ≤ 0
      · exact hz
      · have := Int.mul_pos (show 0 < v i by omega) (show 0 < x j - 1 by omega); omega
    have g := hx.vpos hv hj hp
    (try simp only); omega
  · (try simp only); omega

/-- who alone gains votes -/
theorem fair_votes {way : Int} {m : Nat} {v u x y : Nat → Int} (hv : ∀ i, i < m → 0 ≤ v i) (hx : Fair way m v x) (hy : Fair way m u y) (hs : sumTo x m = sumTo y m) {i : Nat} (hi : i < m) (h1 : v i ≤ u i)
    (h2 : ∀ j, j < m → j ≠ i → u j = v j) : x i ≤ y i ∧ ∀ k, k < m → k ≠ i → y k ≤ x k := by
  have hu : ∀ i, i < m → 0 ≤ u i := by
    intro j hj
    by_cases e : j = i
    · subst e; have := hv j hj; omega
    · rw [h2 j hj e]; exact hv j hj
  have mine : x i ≤ y i := by
    by_cases h : x i ≤ y i
    · exact h
    · obtain ⟨k, hk, hlt⟩ := sumTo_more x y m i hi (by omega) (by omega)
      have hik : k ≠ i := by rintro rfl; omega
      have x0 := hx.1 k hk
      have y0 := hy.1 i hi
      have vk' := hy.vpos hu hk (show 0 < y k by omega)
      have ek := h2 k hk hik
      rw [ek] at vk'
      have vi := hx.vpos hv hi (show 0 < x i by omega)
      have a := hx.2.2 k i hk hi hik vk' (by omega)
      have b := hy.2.2 i k hi hk (Ne.symm hik) (by omega) (by omega)
      unfold Prec at a b
      rw [ek] at b
      have c := Int.mul_le_mul_of_nonneg_left (dv_le way (y i) (x i - 1) (by omega)) (show 0 ≤ v k by omega)
      have d := Int.mul_le_mul_of_nonneg_left (dv_le way (x k) (y k - 1) (by omega)) (show 0 ≤ u i by omega)
      have e := Int.mul_le_mul_of_nonneg_right h1 (dv_pos way (x k) x0)
      rcases a with a | a <;> rcases b with b | b <;> omega
  refine ⟨mine, fun k hk hki => ?_⟩
  by_cases h : y k ≤ x k
  · exact h
  · obtain ⟨j, hj, hlt⟩ := sumTo_more y x m k hk (by omega) (by omega)
    have hji : j ≠ i := by rintro rfl; omega
    have hjk : j ≠ k := by rintro rfl; omega
    have x0 := hx.1 k hk
    have y0 := hy.1 j hj
    have vk' := hy.vpos hu hk (show 0 < y k by omega)
    have ek := h2 k hk hki
    have ej := h2 j hj hji
    rw [ek] at vk'
    have vj := hx.vpos hv hj (show 0 < x j by omega)
    have a := hx.2.2 k j hk hj (Ne.symm hjk) vk' (by omega)
    have b := hy.2.2 j k hj hk hjk (by omega) (by omega)
    unfold Prec at a b
    rw [ek, ej] at b
    have c := Int.mul_le_mul_of_nonneg_left (dv_le way (y j) (x j - 1) (by omega)) (show 0 ≤ v k by omega)
    have d := Int.mul_le_mul_of_nonneg_left (dv_le way (x k) (y k - 1) (by omega)) (show 0 ≤ v j by omega)
    rcases a with a | a <;> rcases b with b | b <;> omega

/-- of Jefferson nobody is below his quota -/
theorem fair_lower {m : Nat} {v x : Nat → Int} (hv : ∀ i, i < m → 0 ≤ v i) (hx : Fair 0 m v x) {i : Nat} (hi : i < m) (hp : 0 < v i) : v i * sumTo x m < sumTo v m * (x i + 1) := by
  rw [← sumTo_mul, Int.mul_comm (sumTo v m), ← sumTo_mul]
  have x0 := hx.1 i hi
  refine sumTo_lt _ _ m i hi (fun j hj => ?_) ?_
  · by_cases h : 0 < x j
    · have := fair_claim hv hx hi hj h hp
      rw [dv_0, dv_0, show x j - 1 + 1 = x j by omega, Int.mul_comm (v j)] at this
      exact this
    · have := hx.1 j hj
      have e : x j = 0 := by omega
      (try simp only)
      rw [e, Int.mul_zero]
      exact Int.mul_nonneg (by omega) (hv j hj)
  · (try simp only); rw [Int.mul_comm (x i + 1)]; exact Int.mul_lt_mul_of_pos_left (by omega) hp
/-- of Adams nobody is above it -/
theorem fair_upper {m : Nat} {v x : Nat → Int} (hv : ∀ i, i < m → 0 ≤ v i) (hx : Fair 2 m v x) {i : Nat} (hi : i < m) (hp : 0 < x i) : (x i - 1) * sumTo v m < sumTo x m * v i := by
  have vp := hx.vpos hv hi hp
  rw [← sumTo_mul, Int.mul_comm (sumTo x m), ← sumTo_mul]
  refine sumTo_lt _ _ m i hi (fun j hj => ?_) ?_
  · have v0 := hv j hj
    by_cases h : 0 < v j
    · have := fair_claim hv hx hj hi hp h
      rw [dv_2, dv_2, Int.mul_comm (v j)] at this
      exact this
    · have e : v j = 0 := by omega
      (try simp only)
      rw [e, Int.mul_zero]
      exact Int.mul_nonneg (by omega) (hx.1 j hj)
  · (try simp only); rw [Int.mul_comm (x i - 1)]; exact Int.mul_lt_mul_of_pos_left (by omega) vp

/-- of Jefferson two who join, in the place of the first, have no fewer -/
theorem fair_join {m : Nat} {v u x p : Nat → Int} (hv : ∀ i, i < m → 0 ≤ v i) (hx : Fair 0 m v x) (hp : Fair 0 m u p) (hs : sumTo x m = sumTo p m) {i k : Nat} (hik : i < k) (hk : k < m)
    (h1 : u i = v i + v k) (h2 : u k = 0) (h3 : ∀ j, j < m → j ≠ i → j ≠ k → u j = v j) : x i + x k ≤ p i := by
  have hi : i < m := by omega
  have hu : ∀ j, j < m → 0 ≤ u j := by
    intro j hj
    by_cases e : j = i
    · subst e; have := hv j hj; have := hv k hk; omega
    · by_cases e2 : j = k
      · subst e2; omega
      · rw [h3 j hj e e2]; exact hv j hj
  by_cases h : x i + x k ≤ p i
  · exact h
  · have p0 := hp.1 i hi
    have pk := hp.2.1 k hk h2
    have xi0 := hx.1 i hi
    have xk0 := hx.1 k hk
    -- join x in one place
    have hz : ∃ j, j < m ∧ (if j = i then x i + x k else if j = k then 0 else x j) < p j := by
      refine sumTo_more (fun j => if j = i then x i + x k else if j = k then 0 else x j) p m i hi ?_ (by simp only [if_true]; omega)
      have e1 := sumTo_upd x m i hi (x k)
      have e2 := sumTo_upd (fun j => if j = i then x j + x k else x j) m k hk (-x k)
      have e3 : sumTo (fun j => if j = i then x i + x k else if j = k then 0 else x j) m = sumTo (fun j => if j = k then (if j = i then x j + x k else x j) + -x k else (if j = i then x j + x k else x j)) m := by
        refine sumTo_congr _ _ _ (fun j hj => ?_)
        by_cases a : j = i
        · subst a; simp only [if_true]; rw [if_neg (by omega)]
        · by_cases b : j = k
          · subst b; simp only [if_true]; rw [if_neg a, if_neg a]; omega
          · (try simp only); rw [if_neg a, if_neg b, if_neg b, if_neg a]
      omega
    obtain ⟨j, hj, hlt⟩ := hz
    have hji : j ≠ i := by rintro rfl; simp only [if_true] at hlt; omega
    have hjk : j ≠ k := by rintro rfl; rw [if_neg hji] at hlt; simp only [if_true] at hlt; omega
    rw [if_neg hji, if_neg hjk] at hlt
    have xj0 := hx.1 j hj
    have uj := hp.vpos hu hj (show 0 < p j by omega)
    have vj := h3 j hj hji hjk
    rw [vj] at uj
    have ui : 0 < u i := by
      have a := hv i hi
      have b := hv k hk
      by_cases hz : v i = 0 ∧ v k = 0
      · have := hx.2.1 i hi hz.1; have := hx.2.1 k hk hz.2; omega
      · omega
    have a := hp.2.2 i j hi hj (Ne.symm hji) ui (by omega)
    have bi : v j * x i ≤ v i * (x j + 1) ∧ (0 < x i → j < i → v j * x i < v i * (x j + 1)) := by
      by_cases hx0 : 0 < x i
      · have := hx.2.2 j i hj hi hji uj hx0
        unfold Prec at this
        rw [dv_0, dv_0, show x i - 1 + 1 = x i by omega] at this
        constructor
        · rcases this with t | t <;> omega
        · intro _ hl; rcases this with t | t <;> omega
      · have e : x i = 0 := by omega
        refine ⟨?_, fun h => absurd h hx0⟩
        rw [e, Int.mul_zero]; exact Int.mul_nonneg (hv i hi) (by omega)
    have bk : v j * x k ≤ v k * (x j + 1) ∧ (0 < x k → j < k → v j * x k < v k * (x j + 1)) := by
      by_cases hx0 : 0 < x k
      · have := hx.2.2 j k hj hk hjk uj hx0
        unfold Prec at this
        rw [dv_0, dv_0, show x k - 1 + 1 = x k by omega] at this
        constructor
        · rcases this with t | t <;> omega
        · intro _ hl; rcases this with t | t <;> omega
      · have e : x k = 0 := by omega
        refine ⟨?_, fun h => absurd h hx0⟩
        rw [e, Int.mul_zero]; exact Int.mul_nonneg (hv k hk) (by omega)
    unfold Prec at a
    rw [dv_0, dv_0, show p j - 1 + 1 = p j by omega, vj, h1] at a
    have c := Int.mul_le_mul_of_nonneg_left (show x j + 1 ≤ p j by omega) (show 0 ≤ v i + v k by have := hv i hi; have := hv k hk; omega)
    have d := Int.mul_le_mul_of_nonneg_left (show p i + 1 ≤ x i + x k by omega) (show 0 ≤ v j by omega)
    rw [Int.mul_add (v j) (x i) (x k)] at d
    rw [Int.add_mul (v i) (v k) (x j + 1)] at c
    rcases a with a | ⟨a, hlt2⟩
    · omega
    · by_cases hx0 : 0 < x i
      · have := bi.2 hx0 (by omega); omega
      · have := bk.2 (by omega) (by omega); omega

/-- of Adams two who join, in the place of the second, have no more -/
theorem fair_join2 {m : Nat} {v u x q : Nat → Int} (hv : ∀ i, i < m → 0 ≤ v i) (hx : Fair 2 m v x) (hq : Fair 2 m u q) (hs : sumTo x m = sumTo q m) {i k : Nat} (hik : i < k) (hk : k < m)
    (h1 : u i = 0) (h2 : u k = v i + v k) (h3 : ∀ j, j < m → j ≠ i → j ≠ k → u j = v j) : q k ≤ x i + x k := by
  have hi : i < m := by omega
  have hu : ∀ j, j < m → 0 ≤ u j := by
    intro j hj
    by_cases e : j = i
    · subst e; omega
    · by_cases e2 : j = k
      · subst e2; have := hv j hj; have := hv i hi; omega
      · rw [h3 j hj e e2]; exact hv j hj
  by_cases h : q k ≤ x i + x k
  · exact h
  · have qi := hq.2.1 i hi h1
    have xi0 := hx.1 i hi
    have xk0 := hx.1 k hk
    have hz : ∃ j, j < m ∧ q j < (if j = k then x i + x k else if j = i then 0 else x j) := by
      refine sumTo_more q (fun j => if j = k then x i + x k else if j = i then 0 else x j) m k hk ?_ (by simp only [if_true]; omega)
      have e1 := sumTo_upd x m k hk (x i)
      have e2 := sumTo_upd (fun j => if j = k then x j + x i else x j) m i hi (-x i)
      have e3 : sumTo (fun j => if j = k then x i + x k else if j = i then 0 else x j) m = sumTo (fun j => if j = i then (if j = k then x j + x i else x j) + -x i else (if j = k then x j + x i else x j)) m := by
        refine sumTo_congr _ _ _ (fun j hj => ?_)
        by_cases a : j = k
        · subst a; simp only [if_true]; rw [if_neg (by omega)]; omega
        · by_cases b : j = i
          · subst b; simp only [if_true]; rw [if_neg a, if_neg a]; omega
          · (try simp only); rw [if_neg a, if_neg b, if_neg b, if_neg a]
      omega
    obtain ⟨j, hj, hlt⟩ := hz
    have hjk : j ≠ k := by rintro rfl; simp only [if_true] at hlt; omega
    have hji : j ≠ i := by rintro rfl; rw [if_neg hjk] at hlt; simp only [if_true] at hlt; omega
    rw [if_neg hjk, if_neg hji] at hlt
    have qj0 := hq.1 j hj
    have vjp := hx.vpos hv hj (show 0 < x j by omega)
    have vj := h3 j hj hji hjk
    have a := hq.2.2 j k hj hk hjk (by omega) (by omega)
    have uk := hq.vpos hu hk (show 0 < q k by omega)
    have bi : v i * (x j - 1) ≤ v j * x i ∧ (0 < v i → i < j → v i * (x j - 1) < v j * x i) := by
      have v0 := hv i hi
      by_cases hv0 : 0 < v i
      · have := hx.2.2 i j hi hj (Ne.symm hji) hv0 (by omega)
        unfold Prec at this
        rw [dv_2, dv_2] at this
        constructor
        · rcases this with t | t <;> omega
        · intro _ hl; rcases this with t | t <;> omega
      · have e : v i = 0 := by omega
        refine ⟨?_, fun h => absurd h hv0⟩
        rw [e, Int.zero_mul]; exact Int.mul_nonneg (by omega) (by omega)
    have bk : v k * (x j - 1) ≤ v j * x k ∧ (0 < v k → k < j → v k * (x j - 1) < v j * x k) := by
      have v0 := hv k hk
      by_cases hv0 : 0 < v k
      · have := hx.2.2 k j hk hj (Ne.symm hjk) hv0 (by omega)
        unfold Prec at this
        rw [dv_2, dv_2] at this
        constructor
        · rcases this with t | t <;> omega
        · intro _ hl; rcases this with t | t <;> omega
      · have e : v k = 0 := by omega
        refine ⟨?_, fun h => absurd h hv0⟩
        rw [e, Int.zero_mul]; exact Int.mul_nonneg (by omega) (by omega)
    unfold Prec at a
    rw [dv_2, dv_2, vj, h2] at a
    have v0 := hv i hi
    have v1 := hv k hk
    have c := Int.mul_le_mul_of_nonneg_left (show q j ≤ x j - 1 by omega) (show 0 ≤ v i + v k by omega)
    have d := Int.mul_le_mul_of_nonneg_left (show x i + x k ≤ q k - 1 by omega) (show 0 ≤ v j by omega)
    rw [Int.mul_add (v j) (x i) (x k)] at d
    rw [Int.add_mul (v i) (v k) (x j - 1)] at c
    rcases a with a | ⟨a, hlt2⟩
    · omega
    · by_cases hv0 : 0 < v i
      · have := bi.2 hv0 (by omega); omega
      · have := bk.2 (by omega) (by omega); omega

/- the greedy round -/
/-- b is the best of the first i (or -1: none of them has votes) -/
def Best (way : Int) (v x : Nat → Int) (i : Nat) (b : Int) : Prop :=
  (b = -1 ∧ ∀ j, j < i → v j = 0) ∨ ∃ B : Nat, b = B ∧ B < i ∧ 0 < v B ∧ ∀ j, j < i → j ≠ B → 0 < v j → Prec way v B (x B) j (x j)
theorem Best.zero (way : Int) (v x : Nat → Int) : Best way v x 0 (-1) := .inl ⟨rfl, fun j hj => absurd hj (Nat.not_lt_zero _)⟩
theorem Best.skip {way : Int} {v x : Nat → Int} {i : Nat} {b : Int} (h : Best way v x i b) (hv : v i = 0) : Best way v x (i + 1) b := by
  rcases h with ⟨e, h⟩ | ⟨B, e, hB, hp, h⟩
  · refine .inl ⟨e, fun j hj => ?_⟩
    by_cases ej : j = i
    · subst ej; exact hv
    · exact h j (by omega)
  · refine .inr ⟨B, e, by omega, hp, fun j hj hjB hvj => ?_⟩
    by_cases ej : j = i
    · subst ej; omega
    · exact h j (by omega) hjB hvj
theorem Best.first {way : Int} {v x : Nat → Int} {i : Nat} {b : Int} (h : Best way v x i b) (hb : b < 0) (hv : 0 < v i) : Best way v x (i + 1) i := by
  rcases h with ⟨e, h⟩ | ⟨B, e, _⟩
  · refine .inr ⟨i, rfl, by omega, hv, fun j hj hji hvj => ?_⟩
    have := h j (by omega); omega
  · omega
theorem Best.stay {way : Int} {v x : Nat → Int} {i B : Nat} (h : Best way v x i B) (hv : 0 < v i) (hc : v i * dv way (x B) ≤ v B * dv way (x i)) : Best way v x (i + 1) B := by
  rcases h with ⟨e, h⟩ | ⟨B', e, hB, hp, h⟩
  · omega
  · obtain rfl : B = B' := by omega
    refine .inr ⟨B, rfl, by omega, hp, fun j hj hjB hvj => ?_⟩
    by_cases ej : j = i
    · subst ej; unfold Prec; omega
    · exact h j (by omega) hjB hvj
theorem Best.take {way : Int} {v x : Nat → Int} {i B : Nat} (h : Best way v x i B) (hx : ∀ j, j < i + 1 → 0 ≤ x j) (hv : 0 < v i) (hc : v B * dv way (x i) < v i * dv way (x B)) : Best way v x (i + 1) i := by
  rcases h with ⟨e, h⟩ | ⟨B', e, hB, hp, h⟩
  · omega
  · obtain rfl : B = B' := by omega
    refine .inr ⟨i, rfl, by omega, hv, fun j hj hji hvj => .inl ?_⟩
    have di := dv_pos way (x i) (hx i (by omega))
    have dj := dv_pos way (x j) (hx j hj)
    have db0 := dv_pos way (x B) (hx B (by omega))
    have db : 0 < dv way (x B) := by
      rcases Int.lt_or_eq_of_le db0 with h0 | h0
      · exact h0
      · rw [← h0, Int.mul_zero] at hc
        have := Int.mul_nonneg (show 0 ≤ v B by omega) di; omega
    by_cases ejB : j = B
    · subst ejB; exact hc
    · have a : v j * dv way (x B) ≤ v B * dv way (x j) := by rcases h j (by omega) ejB hvj with t | t <;> omega
      have djp : 0 < dv way (x j) := by
        rcases Int.lt_or_eq_of_le dj with h0 | h0
        · exact h0
        · rw [← h0, Int.mul_zero] at a
          have := Int.mul_pos hvj db; omega
      have s1 := Int.mul_le_mul_of_nonneg_left a di
      have s2 := Int.mul_lt_mul_of_pos_left hc djp
      have e1 : dv way (x i) * (v j * dv way (x B)) = dv way (x B) * (v j * dv way (x i)) := by ac_rfl
      have e2 : dv way (x i) * (v B * dv way (x j)) = dv way (x j) * (v B * dv way (x i)) := by ac_rfl
      have e3 : dv way (x j) * (v i * dv way (x B)) = dv way (x B) * (v i * dv way (x j)) := by ac_rfl
      have s3 : dv way (x B) * (v j * dv way (x i)) < dv way (x B) * (v i * dv way (x j)) := by omega
      exact Int.lt_of_mul_lt_mul_left s3 (by omega)
/-- who is best has the next seat -/
theorem Fair.next {way : Int} {m : Nat} {v x : Nat → Int} (h : Fair way m v x) (hv : ∀ i, i < m → 0 ≤ v i) {B : Nat} (hb : Best way v x m B) : B < m ∧ Fair way m v (fun i => if i = B then x i + 1 else x i) := by
  rcases hb with ⟨e, _⟩ | ⟨B', e, hB, hp, hb⟩
  · omega
  · obtain rfl : B = B' := by omega
    refine ⟨hB, fun i hi => ?_, fun i hi hz => ?_, fun i k hi hk hik hvi hxk => ?_⟩
    · have := h.1 i hi; simp only; split <;> omega
    · have := h.2.1 i hi hz
      simp only; split
      · subst_vars; omega
      · omega
    · simp only at hxk ⊢
      by_cases ek : k = B
      · subst ek
        rw [if_pos rfl, if_neg hik, show x k + 1 - 1 = x k by omega]
        exact hb i hi hik hvi
      · rw [if_neg ek] at hxk ⊢
        have a := h.2.2 i k hi hk hik hvi hxk
        by_cases ei : i = B
        · subst ei
          rw [if_pos rfl]
          have vk := h.vpos hv hk hxk
          have c := Int.mul_lt_mul_of_pos_left (dv_lt way (x i) (x i + 1) (by omega)) vk
          unfold Prec at a ⊢
          rcases a with a | a <;> omega
        · rw [if_neg ei]; exact a
theorem Fair.zero (way : Int) (m : Nat) (v : Nat → Int) : Fair way m v (fun _ => 0) :=
  ⟨fun _ _ => Int.le_refl _, fun _ _ _ => rfl, fun i k _ _ _ _ h => absurd (show (0 : Int) < 0 from h) (by omega)⟩
theorem Best.some {way : Int} {m : Nat} {v x : Nat → Int} {b : Int} (h : Best way v x m b) (hs : sumTo v m ≠ 0) : ∃ B : Nat, b = B ∧ B < m := by
  rcases h with ⟨e, h⟩ | ⟨B, e, hB, _⟩
  · have := sumTo_congr v (fun _ => 0) m h
    rw [sumTo_const] at this; omega
  · exact ⟨B, e, hB⟩

/- scaling, and a party without votes -/
theorem Fair.scale {way : Int} {m : Nat} {v u x : Nat → Int} (h : Fair way m v x) (c : Int) (hc : 0 < c) (hu : ∀ i, i < m → u i = v i * c) : Fair way m u x := by
  refine ⟨h.1, fun i hi hz => ?_, fun i k hi hk hik hvi hxk => ?_⟩
  · rw [hu i hi] at hz
    rcases Int.mul_eq_zero.1 hz with e | e
    · exact h.2.1 i hi e
    · omega
  · rw [hu i hi] at hvi
    have vi : 0 < v i := by
      rcases Int.lt_or_le 0 (v i) with h0 | h0
      · exact h0
      · have := Int.mul_le_mul_of_nonneg_right h0 (show 0 ≤ c by omega); omega
    have a := h.2.2 i k hi hk hik vi hxk
    unfold Prec at a ⊢
    rw [hu i hi, hu k hk, Int.mul_right_comm, Int.mul_right_comm (v k)]
    rcases a with a | ⟨a, b⟩
    · exact .inl (Int.mul_lt_mul_of_pos_right a hc)
    · exact .inr ⟨by rw [a], b⟩
theorem Fair.snoc {way : Int} {m : Nat} {v u x y : Nat → Int} (h : Fair way m v x) (hu : ∀ i, i < m → u i = v i) (hm : u m = 0) (hy : ∀ i, i < m → y i = x i) (hym : y m = 0) : Fair way (m + 1) u y := by
  refine ⟨fun i hi => ?_, fun i hi hz => ?_, fun i k hi hk hik hvi hxk => ?_⟩
  · by_cases e : i = m
    · subst e; omega
    · rw [hy i (by omega)]; exact h.1 i (by omega)
  · by_cases e : i = m
    · subst e; exact hym
    · rw [hy i (by omega)]; exact h.2.1 i (by omega) (by rw [← hu i (by omega)]; exact hz)
  · have ei : i ≠ m := by rintro rfl; omega
    have ek : k ≠ m := by rintro rfl; omega
    rw [hu i (by omega)] at hvi
    rw [hy k (by omega)] at hxk
    have a := h.2.2 i k (by omega) (by omega) hik hvi hxk
    unfold Prec at a ⊢
    rw [hu i (by omega), hu k (by omega), hy i (by omega), hy k (by omega)]
    exact a

end Go.Proofs.Ytmpcnipngepfgaa
