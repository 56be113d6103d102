/- Plain arithmetic: rounding, reduction modulo, greatest common divisors. No program in sight. -/
import Derived.WalkKit
namespace Go.Proofs.Ytdpphneebikdpaa
set_option maxRecDepth 100000

/-- Within(k, n) for n from 1 on -/
def wi (k n : Int) : Int := (k % 18446744073709551616) % n

theorem wi_lo (k n : Int) (h : 1 ≤ n) : 0 ≤ wi k n := Int.emod_nonneg _ (by omega)
theorem wi_hi (k n : Int) (h : 1 ≤ n) : wi k n < n := Int.emod_lt_of_pos _ (by omega)

/-- 'up' of Rounded: the remainder r (0 ≤ r < d), the quotient q -/
def rup (n d way : Int) : Bool :=
  if way = 1 then decide (0 < n % d)
  else if way = 2 then decide (d < 2 * (n % d)) || (decide (2 * (n % d) = d) && decide (0 < n))
  else if way = 3 then decide (d < 2 * (n % d)) || (decide (2 * (n % d) = d) && decide ((n / d) % 2 ≠ 0))
  else false

/-- Rounded(n, d, way) for d from 1 on -/
def rnd (n d way : Int) : Int := n / d + if rup n d way then 1 else 0

theorem rnd_1 (n d : Int) : rnd n d 1 = n / d + if 0 < n % d then 1 else 0 := by simp [rnd, rup]
theorem rnd_2 (n d : Int) : rnd n d 2 = n / d + if d < 2 * (n % d) ∨ 2 * (n % d) = d ∧ 0 < n then 1 else 0 := by simp [rnd, rup]
theorem rnd_3 (n d : Int) : rnd n d 3 = n / d + if d < 2 * (n % d) ∨ 2 * (n % d) = d ∧ (n / d) % 2 ≠ 0 then 1 else 0 := by simp [rnd, rup]
theorem rnd_other (n d way : Int) (h1 : way ≠ 1) (h2 : way ≠ 2) (h3 : way ≠ 3) : rnd n d way = n / d := by simp [rnd, rup, h1, h2, h3]

/-- the value of a rounding, way by way -/
theorem rnd_cases (n d way : Int) (hd : 1 ≤ d) :
    (rnd n d way = n / d ∧ n % d < d ∧ 0 ≤ n % d) ∨ (rnd n d way = n / d + 1 ∧ 0 < n % d ∧ n % d < d) := by
  have r0 : 0 ≤ n % d := Int.emod_nonneg _ (by omega)
  have r1 : n % d < d := Int.emod_lt_of_pos _ (by omega)
  by_cases h1 : way = 1
  · subst h1; rw [rnd_1]; split <;> omega
  · by_cases h2 : way = 2
    · subst h2; rw [rnd_2]; split <;> omega
    · by_cases h3 : way = 3
      · subst h3; rw [rnd_3]; split <;> omega
      · rw [rnd_other n d way h1 h2 h3]; omega

theorem div_mod (n d : Int) : d * (n / d) + n % d = n := Int.mul_ediv_add_emod n d

/-- a rounding lies less than one away -/
theorem rnd_near (n d way : Int) (hd : 1 ≤ d) : d * rnd n d way < n + d ∧ n - d < d * rnd n d way := by
  have e := div_mod n d
  rcases rnd_cases n d way hd with ⟨h, h1, h2⟩ | ⟨h, h1, h2⟩
  · rw [h]; omega
  · rw [h, Int.mul_add]; omega

/-- a bound that is a multiple of the divisor bounds the rounding, too -/
theorem rnd_le (n d way c : Int) (hd : 1 ≤ d) (h : n ≤ d * c) : rnd n d way ≤ c := by
  have e := (rnd_near n d way hd).1
  have : d * rnd n d way < d * (c + 1) := by rw [Int.mul_add]; omega
  have := Int.lt_of_mul_lt_mul_left this (by omega)
  omega
theorem le_rnd (n d way c : Int) (hd : 1 ≤ d) (h : d * c ≤ n) : c ≤ rnd n d way := by
  have e := (rnd_near n d way hd).2
  have : d * (c - 1) < d * rnd n d way := by rw [Int.mul_sub]; omega
  have := Int.lt_of_mul_lt_mul_left this (by omega)
  omega
theorem rnd_exact (d way c : Int) (hd : 1 ≤ d) : rnd (d * c) d way = c := by
  have := rnd_le (d * c) d way c hd (Int.le_refl _)
  have := le_rnd (d * c) d way c hd (Int.le_refl _)
  omega

/-- rounding is monotonic, in every way -/
theorem rnd_mono (n m d way : Int) (hd : 1 ≤ d) (h : n ≤ m) : rnd n d way ≤ rnd m d way := by
  have hq : n / d ≤ m / d := Int.ediv_le_ediv (by omega) h
  have e1 := div_mod n d
  have e2 := div_mod m d
  have r0 : 0 ≤ m % d := Int.emod_nonneg _ (by omega)
  by_cases hlt : n / d < m / d
  · rcases rnd_cases n d way hd with ⟨a, _⟩ | ⟨a, _⟩ <;> rcases rnd_cases m d way hd with ⟨b, _⟩ | ⟨b, _⟩ <;> omega
  · have hq2 : n / d = m / d := by omega
    have hr : n % d ≤ m % d := by rw [hq2] at e1; omega
    by_cases h1 : way = 1
    · subst h1; rw [rnd_1, rnd_1, hq2]; split <;> split <;> omega
    · by_cases h2 : way = 2
      · subst h2; rw [rnd_2, rnd_2, hq2]; split <;> split <;> omega
      · by_cases h3 : way = 3
        · subst h3; rw [rnd_3, rnd_3, hq2]; split <;> split <;> omega
        · rw [rnd_other n d way h1 h2 h3, rnd_other m d way h1 h2 h3]; omega

/-- a share by a rate -/
theorem rnd_share (a r way : Int) (h1 : 0 ≤ a) (h3 : 0 ≤ r) (h4 : r ≤ 1000000) : 0 ≤ rnd (a * r) 1000000 way ∧ rnd (a * r) 1000000 way ≤ a := by
  have e1 : 0 ≤ a * r := Int.mul_nonneg h1 h3
  have e2 : a * r ≤ a * 1000000 := Int.mul_le_mul_of_nonneg_left h4 h1
  exact ⟨le_rnd _ _ _ _ (by omega) (by omega), rnd_le _ _ _ _ (by omega) (by omega)⟩

end Go.Proofs.Ytdpphneebikdpaa

/- Plain laws of loans: what is left after each payment, interest, monotony. No program in sight. -/
namespace Go.Proofs.Ytdpphneebikdpaa
set_option linter.unusedVariables false
set_option maxRecDepth 100000

/-- the interest on what is left -/
def nint (L rate : Int) : Int := rnd (L * rate) 1000000 2
/-- what goes off -/
def noff (L rate pay : Int) : Int := min (pay - nint L rate) L
/-- what is left after k payments -/
def nl (owed rate pay : Int) : Nat → Int
  | 0 => owed
  | k + 1 => nl owed rate pay k - noff (nl owed rate pay k) rate pay

theorem nl_succ (owed rate pay : Int) (k : Nat) : nl owed rate pay (k + 1) = nl owed rate pay k - noff (nl owed rate pay k) rate pay := rfl
theorem nint_bd (L rate : Int) (h1 : 0 ≤ L) (h3 : 0 ≤ rate) (h4 : rate ≤ 1000000) : 0 ≤ nint L rate ∧ nint L rate ≤ L := rnd_share L rate 2 h1 h3 h4
theorem nint_mono (L M r s : Int) (h0 : 0 ≤ L) (h1 : L ≤ M) (h2 : 0 ≤ r) (h3 : r ≤ s) : nint L r ≤ nint M s := by
  refine rnd_mono _ _ _ _ (by omega) ?_
  have a := Int.mul_le_mul_of_nonneg_right h1 h2
  have b := Int.mul_le_mul_of_nonneg_left h3 (show 0 ≤ M by omega)
  omega
theorem nint_zero (r : Int) : nint 0 r = 0 := by
  unfold nint; rw [Int.zero_mul]; exact rnd_exact 1000000 2 0 (by omega)

theorem nl_nonneg (owed rate pay : Int) (h1 : 0 ≤ owed) (k : Nat) : 0 ≤ nl owed rate pay k := by
  induction k with
  | zero => exact h1
  | succ k ih => rw [nl_succ]; unfold noff; omega
/-- a payment above the first interest is above each -/
theorem nl_step (owed rate pay : Int) (h1 : 0 ≤ owed) (h3 : 0 ≤ rate) (h4 : rate ≤ 1000000) (hp : nint owed rate < pay) (k : Nat) :
    nl owed rate pay k ≤ owed ∧ nint (nl owed rate pay k) rate < pay ∧ nl owed rate pay (k + 1) ≤ nl owed rate pay k ∧ (0 < nl owed rate pay k → 1 ≤ noff (nl owed rate pay k) rate pay) := by
  have base : nl owed rate pay k ≤ owed → nint (nl owed rate pay k) rate < pay ∧ nl owed rate pay (k + 1) ≤ nl owed rate pay k ∧ (0 < nl owed rate pay k → 1 ≤ noff (nl owed rate pay k) rate pay) := by
    intro h
    have n0 := nl_nonneg owed rate pay h1 k
    have m := nint_mono _ _ rate rate n0 h h3 (Int.le_refl _)
    rw [nl_succ]
    unfold noff
    refine ⟨by omega, by omega, by omega⟩
  induction k with
  | zero => exact ⟨Int.le_refl _, base (Int.le_refl _)⟩
  | succ k ih =>
    have le : nl owed rate pay k ≤ owed := by
      cases k with
      | zero => exact Int.le_refl _
      | succ j => exact (ih (by
          intro h
          have n0 := nl_nonneg owed rate pay h1 (j + 1)
          have m := nint_mono _ _ rate rate n0 h h3 (Int.le_refl _)
          rw [nl_succ _ _ _ (j + 1)]
          unfold noff
          refine ⟨by omega, by omega, by omega⟩)).1
    have n0 := nl_nonneg owed rate pay h1 k
    have m := nint_mono _ _ rate rate n0 le h3 (Int.le_refl _)
    have s : nl owed rate pay (k + 1) ≤ owed := by rw [nl_succ]; unfold noff; omega
    exact ⟨s, base s⟩
theorem nl_zero (owed rate pay : Int) (h : 0 ≤ pay) (k : Nat) (hk : nl owed rate pay k = 0) (j : Nat) (hj : k ≤ j) : nl owed rate pay j = 0 := by
  induction j with
  | zero => rwa [show k = 0 by omega] at hk
  | succ j ih =>
    by_cases e : k = j + 1
    · rw [← e]; exact hk
    · have i := ih (by omega)
      rw [nl_succ, i]; unfold noff; rw [nint_zero]; omega
/-- who pays more, at a lesser rate, of less, owes less -/
theorem nl_mono (o o' r r' p p' : Int) (h0 : 0 ≤ o) (h1 : o ≤ o') (h2 : 0 ≤ r) (h3 : r ≤ r') (h4 : p' ≤ p) (k : Nat) : nl o r p k ≤ nl o' r' p' k := by
  induction k with
  | zero => exact h1
  | succ k ih =>
    have n0 := nl_nonneg o r p h0 k
    have m := nint_mono _ _ r r' n0 ih h2 h3
    rw [nl_succ, nl_succ]
    unfold noff
    omega

/-- T is the number of payments, up to 41 -/
def NT (owed rate pay : Int) (T : Nat) : Prop := T ≤ 41 ∧ (∀ k, k < T → 0 < nl owed rate pay k) ∧ (T = 41 ∨ nl owed rate pay T = 0)

theorem NT.le {o o' r r' p p' : Int} {T T' : Nat} (h : NT o r p T) (h' : NT o' r' p' T') (hm : ∀ k, nl o r p k ≤ nl o' r' p' k) : T ≤ T' := by
  rcases Nat.lt_or_ge T' T with hlt | hge
  · have a := h.2.1 T' hlt
    have b := hm T'
    have c := h.1
    rcases h'.2.2 with e | e <;> omega
  · exact hge
theorem NT.end_ {o r p : Int} {T n : Nat} (h : NT o r p T) (h0 : 0 ≤ p) (hn : n ≤ 40) : T ≤ n ↔ nl o r p n = 0 := by
  constructor
  · intro hle
    rcases h.2.2 with e | e
    · omega
    · exact nl_zero o r p h0 T e n hle
  · intro hz
    rcases Nat.lt_or_ge n T with hlt | hge
    · have := h.2.1 n hlt; omega
    · exact hge

/-- the interest of T payments -/
def nsum (o r p : Int) : Nat → Int
  | 0 => 0
  | k + 1 => nsum o r p k + nint (nl o r p k) r
theorem nsum_bd (o r p : Int) (h0 : 0 ≤ o) (hM : o ≤ 1000000000000) (h2 : 0 ≤ r) (hr : r ≤ 1000000) (hle : ∀ k, nl o r p k ≤ o) (T : Nat) : 0 ≤ nsum o r p T ∧ nsum o r p T ≤ T * 1000000000000 := by
  induction T with
  | zero => simp [nsum]
  | succ k ih =>
    have m := nint_bd (nl o r p k) r (nl_nonneg o r p h0 k) h2 hr
    have l := hle k
    simp only [nsum]
    rw [show ((k + 1 : Nat) : Int) * 1000000000000 = k * 1000000000000 + 1000000000000 by omega]
    omega

/-- is it paid off in n times? -/
def okp (owed rate : Int) (n : Nat) (pay : Int) : Prop := owed = 0 ∨ (nint owed rate < pay ∧ nl owed rate pay n = 0)
theorem okp_le (o r p : Int) (n : Nat) (l1 : 0 ≤ o) (l3 : 0 ≤ r) (l4 : r ≤ 1000000) (hp : 0 ≤ p) (h : okp o r n p) (k : Nat) : nl o r p k ≤ o := by
  rcases h with e | ⟨e, _⟩
  · subst e
    have := nl_zero 0 r p hp 0 rfl k (by omega); omega
  · exact (nl_step o r p l1 l3 l4 e k).1
theorem okp_mono (o o' r r' p p' : Int) (n n' : Nat) (h0 : 0 ≤ o) (h1 : o ≤ o') (h2 : 0 ≤ r) (h3 : r ≤ r') (h4 : p' ≤ p) (h5 : n' ≤ n) (hp : 0 ≤ p') (h : okp o' r' n' p') : okp o r n p := by
  by_cases hz : o = 0
  · exact .inl hz
  · rcases h with h | ⟨a, b⟩
    · omega
    · refine .inr ⟨?_, ?_⟩
      · have := nint_mono o o' r r' h0 h1 h2 h3; omega
      · have c := nl_mono o o' r r' p p' h0 h1 h2 h3 h4 n
        have d := nl_zero o' r' p' hp n' b n h5
        have e := nl_nonneg o r p h0 n
        omega
/-- p is the least payment -/
def leastP (o r : Int) (n : Nat) (p : Int) : Prop := 1 ≤ p ∧ p ≤ 2000000000000 ∧ okp o r n p ∧ (p = 1 ∨ ¬ okp o r n (p - 1))
theorem okp_most (o r : Int) (n : Nat) (h0 : 0 ≤ o) (h1 : o ≤ 1000000000000) (h2 : 0 ≤ r) (h3 : r ≤ 1000000) (hn : 1 ≤ n) : okp o r n 2000000000000 := by
  have b := nint_bd o r h0 h2 h3
  refine .inr ⟨by omega, nl_zero o r 2000000000000 (by omega) 1 ?_ n hn⟩
  rw [nl_succ]; show o - noff o r 2000000000000 = 0; unfold noff; omega
/- without interest -/
end Go.Proofs.Ytdpphneebikdpaa

/- Plain arithmetic of fractions: lowest terms by the rational numbers of Lean's core. No program in sight. -/
namespace Go.Proofs.Ytdpphneebikdpaa
set_option maxRecDepth 100000

theorem prod_bd (a r : Int) (M R : Int) (h1 : -M ≤ a) (h2 : a ≤ M) (h3 : 0 ≤ r) (h4 : r ≤ R) (hM : 0 ≤ M) : -(M * R) ≤ a * r ∧ a * r ≤ M * R := by
  have e1 : a * r ≤ M * r := Int.mul_le_mul_of_nonneg_right h2 h3
  have e2 : M * r ≤ M * R := Int.mul_le_mul_of_nonneg_left h4 hM
  have e3 : -M * r ≤ a * r := Int.mul_le_mul_of_nonneg_right h1 h3
  have e4 : -M * r = -(M * r) := by rw [Int.neg_mul]
  omega

end Go.Proofs.Ytdpphneebikdpaa
