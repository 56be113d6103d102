/- Plain laws of loans: what is left after each payment, interest, monotony. No program in sight. -/
import Derived.Test.YtghlhmojmheppaaPlainA
namespace Go.Proofs.Ytghlhmojmheppaa
set_option linter.unusedVariables false

/-- the interest on what is left -/
def nint (L rate : Int) : Int := rnd (L * rate) 1000000 2
/-- what goes off -/
def noff (L rate pay : Int) : Int := min (pay - nint L rate) L
/-- what is left after k payments -/
def nl (owed rate pay : Int) : Nat → Int
  | 0 => owed
  | k + 1 => nl owed rate pay k - noff (nl owed rate pay k) rate pay

theorem nl_succ (owed rate pay : Int) (k : Nat) : nl owed rate pay (k + 1) = nl owed rate pay k - noff (nl owed rate pay k) rate pay := rfl
theorem nint_bd (L rate : Int) (h1 : 0 ≤ L) (h3 : 0 ≤ rate) (h4 : rate ≤ 1000000) : 0 ≤ nint L rate ∧ nint L rate ≤ L := rnd_share L rate 2 h1 h3 h4
theorem nint_mono (L M r s : Int) (h0 : 0 ≤ L) (h1 : L ≤ M) (h2 : 0 ≤ r) (h3 : r ≤ s) : nint L r ≤ nint M s := by
  refine rnd_mono _ _ _ _ (by omega) ?_
  have a := Int.mul_le_mul_of_nonneg_right h1 h2
  have b := Int.mul_le_mul_of_nonneg_left h3 (show 0 ≤ M by omega)
  omega
theorem nint_zero (r : Int) : nint 0 r = 0 := by
  unfold nint; rw [Int.zero_mul]; exact rnd_exact 1000000 2 0 (by omega)

theorem nl_nonneg (owed rate pay : Int) (h1 : 0 ≤ owed) (k : Nat) : 0 ≤ nl owed rate pay k := by
  induction k with
  | zero => exact h1
  | succ k ih => rw [nl_succ]; unfold noff; omega
/-- a payment above the first interest is above each -/
theorem nl_step (owed rate pay : Int) (h1 : 0 ≤ owed) (h3 : 0 ≤ rate) (h4 : rate ≤ 1000000) (hp : nint owed rate < pay) (k : Nat) :
    nl owed rate pay k ≤ owed ∧ nint (nl owed rate pay k) rate < pay ∧ nl owed rate pay (k + 1) ≤ nl owed rate pay k ∧ (0 < nl owed rate pay k → 1 ≤ noff (nl owed rate pay k) rate pay) := by
  have base : nl owed rate pay k ≤ owed → nint (nl owed rate pay k) rate < pay ∧ nl owed rate pay (k + 1) ≤ nl owed rate pay k ∧ (0 < nl owed rate pay k → 1 ≤ noff (nl owed rate pay k) rate pay) := by
    intro h
    have n0 := nl_nonneg owed rate pay h1 k
    have m := nint_mono _ _ rate rate n0 h h3 (Int.le_refl _)
    rw [nl_succ]
    unfold noff
    refine ⟨by omega, by omega, by omega⟩
  induction k with
  | zero => exact ⟨Int.le_refl _, base (Int.le_refl _)⟩
  | succ k ih =>
    have le : nl owed rate pay k ≤ owed := by
      cases k with
      | zero => exact Int.le_refl _
      | succ j => exact (ih (by
          intro h
          have n0 := nl_nonneg owed rate pay h1 (j + 1)
          have m := nint_mono _ _ rate rate n0 h h3 (Int.le_refl _)
          rw [nl_succ _ _ _ (j + 1)]
          unfold noff
          refine ⟨by omega, by omega, by omega⟩)).1
    have n0 := nl_nonneg owed rate pay h1 k
    have m := nint_mono _ _ rate rate n0 le h3 (Int.le_refl _)
    have s : nl owed rate pay (k + 1) ≤ owed := by rw [nl_succ]; unfold noff; omega
    exact ⟨s, base s⟩
theorem nl_zero (owed rate pay : Int) (h : 0 ≤ pay) (k : Nat) (hk : nl owed rate pay k = 0) (j : Nat) (hj : k ≤ j) : nl owed rate pay j = 0 := by
  induction j with
  | zero => rwa [show k = 0 by omega] at hk
  | succ j ih =>
    by_cases e : k = j + 1
    · rw [← e]; exact hk
    · have i := ih (by omega)
      rw [nl_succ, i]; unfold noff; rw [nint_zero]; omega
/-- who pays more, at a lesser rate, of less, owes less -/
theorem nl_mono (o o' r r' p p' : Int) (h0 : 0 ≤ o) (h1 : o ≤ o') (h2 : 0 ≤ r) (h3 : r ≤ r') (h4 : p' ≤ p) (k : Nat) : nl o r p k ≤ nl o' r' p' k := by
  induction k with
  | zero => exact h1
  | succ k ih =>
    have n0 := nl_nonneg o r p h0 k
    have m := nint_mono _ _ r r' n0 ih h2 h3
    rw [nl_succ, nl_succ]
    unfold noff
    omega

/-- T is the number of payments, up to 41 -/
def NT (owed rate pay : Int) (T : Nat) : Prop := T ≤ 41 ∧ (∀ k, k < T → 0 < nl owed rate pay k) ∧ (T = 41 ∨ nl owed rate pay T = 0)

theorem NT.le {o o' r r' p p' : Int} {T T' : Nat} (h : NT o r p T) (h' : NT o' r' p' T') (hm : ∀ k, nl o r p k ≤ nl o' r' p' k) : T ≤ T' := by
  rcases Nat.lt_or_ge T' T with hlt | hge
  · have a := h.2.1 T' hlt
    have b := hm T'
    have c := h.1
    rcases h'.2.2 with e | e <;> omega
  · exact hge
theorem NT.end_ {o r p : Int} {T n : Nat} (h : NT o r p T) (h0 : 0 ≤ p) (hn : n ≤ 40) : T ≤ n ↔ nl o r p n = 0 := by
  constructor
  · intro hle
    rcases h.2.2 with e | e
    · omega
    · exact nl_zero o r p h0 T e n hle
  · intro hz
    rcases Nat.lt_or_ge n T with hlt | hge
    · have := h.2.1 n hlt; omega
    · exact hge

/-- the interest of T payments -/
def nsum (o r p : Int) : Nat → Int
  | 0 => 0
  | k + 1 => nsum o r p k + nint (nl o r p k) r
theorem nsum_mono (o o' r r' p p' : Int) (h0 : 0 ≤ o) (h2 : 0 ≤ r) (h3 : r ≤ r') (hr : r' ≤ 1000000) (hm : ∀ k, nl o r p k ≤ nl o' r' p' k) (ho' : 0 ≤ o') (T T' : Nat) (hT : T ≤ T') : nsum o r p T ≤ nsum o' r' p' T' := by
  have a : ∀ T, nsum o r p T ≤ nsum o' r' p' T := by
    intro T
    induction T with
    | zero => exact Int.le_refl _
    | succ k ih =>
      have m := nint_mono _ _ r r' (nl_nonneg o r p h0 k) (hm k) h2 h3
      simp only [nsum]; omega
  have b : ∀ d, nsum o' r' p' T ≤ nsum o' r' p' (T + d) := by
    intro d
    induction d with
    | zero => exact Int.le_refl _
    | succ k ih =>
      have m := (nint_bd (nl o' r' p' (T + k)) r' (nl_nonneg o' r' p' ho' _) (by omega) hr).1
      rw [← Nat.add_assoc]
      simp only [nsum]; omega
  have c := b (T' - T)
  rw [show T + (T' - T) = T' by omega] at c
  have := a T
  omega
theorem nsum_bd (o r p : Int) (h0 : 0 ≤ o) (hM : o ≤ 1000000000000) (h2 : 0 ≤ r) (hr : r ≤ 1000000) (hle : ∀ k, nl o r p k ≤ o) (T : Nat) : 0 ≤ nsum o r p T ∧ nsum o r p T ≤ T * 1000000000000 := by
  induction T with
  | zero => simp [nsum]
  | succ k ih =>
    have m := nint_bd (nl o r p k) r (nl_nonneg o r p h0 k) h2 hr
    have l := hle k
    simp only [nsum]
    rw [show ((k + 1 : Nat) : Int) * 1000000000000 = k * 1000000000000 + 1000000000000 by omega]
    omega

/-- is it paid off in n times? -/
def okp (owed rate : Int) (n : Nat) (pay : Int) : Prop := owed = 0 ∨ (nint owed rate < pay ∧ nl owed rate pay n = 0)
theorem okp_le (o r p : Int) (n : Nat) (l1 : 0 ≤ o) (l3 : 0 ≤ r) (l4 : r ≤ 1000000) (hp : 0 ≤ p) (h : okp o r n p) (k : Nat) : nl o r p k ≤ o := by
  rcases h with e | ⟨e, _⟩
  · subst e
    have := nl_zero 0 r p hp 0 rfl k (by omega); omega
  · exact (nl_step o r p l1 l3 l4 e k).1
theorem okp_mono (o o' r r' p p' : Int) (n n' : Nat) (h0 : 0 ≤ o) (h1 : o ≤ o') (h2 : 0 ≤ r) (h3 : r ≤ r') (h4 : p' ≤ p) (h5 : n' ≤ n) (hp : 0 ≤ p') (h : okp o' r' n' p') : okp o r n p := by
  by_cases hz : o = 0
  · exact .inl hz
  · rcases h with h | ⟨a, b⟩
    · omega
    · refine .inr ⟨?_, ?_⟩
      · have := nint_mono o o' r r' h0 h1 h2 h3; omega
      · have c := nl_mono o o' r r' p p' h0 h1 h2 h3 h4 n
        have d := nl_zero o' r' p' hp n' b n h5
        have e := nl_nonneg o r p h0 n
        omega
/-- p is the least payment -/
def leastP (o r : Int) (n : Nat) (p : Int) : Prop := 1 ≤ p ∧ p ≤ 2000000000000 ∧ okp o r n p ∧ (p = 1 ∨ ¬ okp o r n (p - 1))
theorem okp_most (o r : Int) (n : Nat) (h0 : 0 ≤ o) (h1 : o ≤ 1000000000000) (h2 : 0 ≤ r) (h3 : r ≤ 1000000) (hn : 1 ≤ n) : okp o r n 2000000000000 := by
  have b := nint_bd o r h0 h2 h3
  refine .inr ⟨by omega, nl_zero o r 2000000000000 (by omega) 1 ?_ n hn⟩
  rw [nl_succ]; show o - noff o r 2000000000000 = 0; unfold noff; omega
theorem least_le (o o' r r' p p' : Int) (n n' : Nat) (h0 : 0 ≤ o) (h1 : o ≤ o') (h2 : 0 ≤ r) (h3 : r ≤ r') (h5 : n' ≤ n) (h : leastP o r n p) (h' : leastP o' r' n' p') : p ≤ p' := by
  obtain ⟨a1, a2, a3, a4⟩ := h
  obtain ⟨b1, b2, b3, b4⟩ := h'
  rcases Int.lt_or_le p' p with hlt | hge
  · rcases a4 with e | e
    · omega
    · exact absurd (okp_mono o o' r r' (p - 1) p' n n' h0 h1 h2 h3 (by omega) h5 (by omega) b3) e
  · exact hge

/- without interest -/
theorem nint_free (L : Int) : nint L 0 = 0 := by
  unfold nint; rw [Int.mul_zero]; exact rnd_exact 1000000 2 0 (by omega)
theorem nl_free (o p : Int) (h0 : 0 ≤ o) (hp : 0 ≤ p) (k : Nat) : nl o 0 p k = max (o - k * p) 0 := by
  induction k with
  | zero => simp [nl]; omega
  | succ k ih =>
    rw [nl_succ, ih]
    unfold noff
    rw [nint_free]
    have e : ((k + 1 : Nat) : Int) * p = k * p + p := by rw [Int.natCast_add, Int.add_mul]; simp
    rw [e]
    omega
theorem ceil_le (a n c : Int) (hn : 1 ≤ n) : (a + n - 1) / n ≤ c ↔ a ≤ n * c := by
  have e := div_mod (a + n - 1) n
  have r0 := Int.emod_nonneg (a + n - 1) (show n ≠ 0 by omega)
  have r1 := Int.emod_lt_of_pos (a + n - 1) (show 0 < n by omega)
  constructor
  · intro h
    have := Int.mul_le_mul_of_nonneg_left h (show 0 ≤ n by omega)
    omega
  · intro h
    have x : n * ((a + n - 1) / n) < n * (c + 1) := by rw [Int.mul_add]; omega
    have := Int.lt_of_mul_lt_mul_left x (by omega)
    omega
theorem okp_free (o p : Int) (n : Nat) (h0 : 1 ≤ o) (hp : 1 ≤ p) : okp o 0 n p ↔ o ≤ n * p := by
  unfold okp
  rw [nint_free, nl_free o p (by omega) (by omega) n]
  omega
theorem least_free (o p : Int) (n : Nat) (h0 : 1 ≤ o) (hn : 1 ≤ n) (h : leastP o 0 n p) : p = (o + n - 1) / n := by
  obtain ⟨a1, a2, a3, a4⟩ := h
  rw [okp_free o p n h0 a1] at a3
  have c1 := (ceil_le o n p (by omega)).2 a3
  have c2 := (ceil_le o n ((o + n - 1) / n) (by omega)).1 (Int.le_refl _)
  have c3 : 1 ≤ (o + n - 1) / n := by
    rcases Int.lt_or_le ((o + n - 1) / n) 1 with hl | hl
    · have := (ceil_le o n 0 (by omega)).1 (by omega); omega
    · exact hl
  rcases a4 with e | e
  · omega
  · rcases Int.lt_or_le ((o + n - 1) / n) p with hl | hl
    · have : okp o 0 n (p - 1) := by
        rw [okp_free o (p - 1) n h0 (by omega)]
        have := Int.mul_le_mul_of_nonneg_left (show (o + n - 1) / n ≤ p - 1 by omega) (show (0 : Int) ≤ n by omega)
        omega
      exact absurd this e
    · omega
theorem NT_free (o p : Int) (T : Nat) (h0 : 1 ≤ o) (hp : 1 ≤ p) (h40 : o ≤ 40 * p) (h : NT o 0 p T) : (T : Int) = (o + p - 1) / p ∧ T ≤ 40 := by
  have key : ∀ n : Nat, n ≤ 40 → (T ≤ n ↔ (o + p - 1) / p ≤ n) := by
    intro n hn
    rw [h.end_ (by omega) hn, nl_free o p (by omega) (by omega) n, ceil_le o p n hp, Int.mul_comm p n]
    omega
  have k40 := (key 40 (by omega)).2 ((ceil_le o p 40 hp).2 (by omega))
  have c0 : 0 ≤ (o + p - 1) / p := Int.ediv_nonneg (by omega) (by omega)
  obtain ⟨c, hc⟩ := Int.eq_ofNat_of_zero_le c0
  have c40 := (ceil_le o p 40 hp).2 (by omega)
  have a := (key T k40).1 (Nat.le_refl _)
  have b := (key c (by omega)).2 (by omega)
  omega

end Go.Proofs.Ytghlhmojmheppaa
