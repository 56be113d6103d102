/- Plain laws: lines in another order, a line with another amount. No program in sight. -/
import Derived.Test.YtnahbblglalagaaPlainB
namespace Go.Proofs.Ytnahbblglalagaa
set_option linter.unusedVariables false

theorem cd_at (xs : List Ln) (i : Nat) (h : i < xs.length) : cd xs i = xs[i].1 ∧ am xs i = xs[i].2 := by
  unfold cd am; rw [List.getD_eq_getElem?_getD, List.getElem?_eq_getElem h]; exact ⟨rfl, rfl⟩
def okL (x : Ln) : Prop := codeB x.1 = true ∧ -1000000000000 ≤ x.2 ∧ x.2 ≤ 1000000000000 ∧ x.2 ≠ 0
theorem amS_sum (xs : List Ln) (n : Nat) (h : n ≤ xs.length) : amS xs n = ((xs.take n).map (·.2)).sum := by
  induction n with
  | zero => simp [amS]
  | succ n ih =>
    rw [List.take_succ_eq_append_getElem (by omega), List.map_append, List.sum_append, ← ih (by omega)]
    show amS xs n + am xs n = _
    rw [(cd_at xs n (by omega)).2]; simp
theorem all_of {xs : List Ln} (h : ∀ k, k < xs.length → lnAt xs k = 0) : (∀ x ∈ xs, okL x) ∧ (xs.map (·.1)).Nodup := by
  constructor
  · intro x hx
    obtain ⟨i, hi, rfl⟩ := List.getElem_of_mem hx
    obtain ⟨a, b, c, d, _⟩ := lnAt_ok (h i hi)
    obtain ⟨e1, e2⟩ := cd_at xs i hi
    rw [e1] at a
    rw [e2] at b c d
    exact ⟨a, b, c, d⟩
  · unfold List.Nodup
    rw [List.pairwise_iff_getElem]
    intro i j hi hj hij
    simp only [List.length_map] at hi hj
    have ht := (lnAt_ok (h j hj)).2.2.2.2
    unfold twB at ht
    rw [List.any_eq_false] at ht
    have := ht i (List.mem_range.2 hij)
    rw [(cd_at xs i hi).1, (cd_at xs j hj).1] at this
    simpa using this
theorem of_all {xs : List Ln} (h1 : ∀ x ∈ xs, okL x) (h2 : (xs.map (·.1)).Nodup) : ∀ k, k < xs.length → lnAt xs k = 0 := by
  intro k hk
  obtain ⟨a, b, c, d⟩ := h1 _ (List.getElem_mem hk)
  obtain ⟨e1, e2⟩ := cd_at xs k hk
  rw [← e1] at a
  rw [← e2] at b c d
  have ht : twB xs k = false := by
    unfold twB
    rw [List.any_eq_false]
    intro j hj
    have hj' := List.mem_range.1 hj
    unfold List.Nodup at h2
    rw [List.pairwise_iff_getElem] at h2
    have := h2 j k (by simp; omega) (by simpa using hk) hj'
    rw [(cd_at xs j (by omega)).1, e1]
    simpa using this
  unfold lnAt
  rw [if_neg (by simp [a]), if_neg (by omega), if_neg (by simp [ht])]
theorem linec_iff {xs : List Ln} : linec xs = 0 ↔ xs.length ≤ 12 ∧ 2 ≤ xs.length ∧ (xs.map (·.2)).sum = 0 ∧ (∀ x ∈ xs, okL x) ∧ (xs.map (·.1)).Nodup := by
  constructor
  · intro h
    obtain ⟨a, b, c, d⟩ := linec_ok h
    obtain ⟨e, f⟩ := all_of d
    rw [amS_sum xs _ (Nat.le_refl _), List.take_of_length_le (Nat.le_refl _)] at c
    exact ⟨a, b, c, e, f⟩
  · rintro ⟨a, b, c, d, e⟩
    have hl := lnUp_all (of_all d e)
    unfold linec
    rw [if_neg (by omega), if_neg (by simp [hl]), if_neg]
    rw [amS_sum xs _ (Nat.le_refl _), List.take_of_length_le (Nat.le_refl _), c]
    simp; omega
theorem linec_rot {xs : List Ln} (t : Nat) (h : linec xs = 0) : linec (xs.drop t ++ xs.take t) = 0 := by
  obtain ⟨a, b, c, d, e⟩ := linec_iff.1 h
  have hp : (xs.drop t ++ xs.take t).Perm xs := by
    have := List.perm_append_comm (l₁ := xs.drop t) (l₂ := xs.take t)
    rw [List.take_append_drop] at this; exact this
  refine linec_iff.2 ⟨by rw [hp.length_eq]; exact a, by rw [hp.length_eq]; exact b, ?_, fun x hx => d x (hp.mem_iff.1 hx), (hp.map _).nodup_iff.2 e⟩
  have hs : (xs.map (·.2)).sum = ((xs.take t).map (·.2)).sum + ((xs.drop t).map (·.2)).sum := by
    rw [← List.sum_append, ← List.map_append, List.take_append_drop]
  rw [List.map_append, List.sum_append]; omega
theorem sum_set (xs : List Ln) (i : Nat) (h : i < xs.length) (x : Ln) : ((xs.set i x).map (·.2)).sum = (xs.map (·.2)).sum - am xs i + x.2 := by
  induction xs generalizing i with
  | nil => simp at h
  | cons y ys ih =>
    cases i with
    | zero => simp [am]; omega
    | succ i =>
      have := ih i (by simpa using h)
      have e : am (y :: ys) (i + 1) = am ys i := by unfold am; simp
      simp only [List.set_cons_succ, List.map_cons, List.sum_cons, e]
      omega
theorem linec_set {xs : List Ln} (i : Nat) (b : Int) (h : linec xs = 0) (hi : i < xs.length) (b1 : -1000000000000 ≤ b) (b2 : b ≤ 1000000000000) (b3 : b ≠ 0) (b4 : b ≠ am xs i) : linec (xs.set i (cd xs i, b)) = 7 := by
  obtain ⟨a1, a2, a3, a4, a5⟩ := linec_iff.1 h
  have hd : ∀ x ∈ xs.set i (cd xs i, b), okL x := by
    intro x hx
    rcases List.mem_or_eq_of_mem_set hx with hx | rfl
    · exact a4 x hx
    · exact ⟨by rw [(cd_at xs i hi).1]; exact (a4 _ (List.getElem_mem hi)).1, b1, b2, b3⟩
  have he : ((xs.set i (cd xs i, b)).map (·.1)).Nodup := by
    have : (xs.set i (cd xs i, b)).map (·.1) = xs.map (·.1) := by
      rw [List.map_set]
      show (xs.map (·.1)).set i (cd xs i) = _
      apply List.ext_getElem?
      intro j
      rw [List.getElem?_set]
      by_cases e : i = j
      · subst e
        rw [if_pos rfl, if_pos (by simpa using hi), List.getElem?_map, List.getElem?_eq_getElem hi, (cd_at xs i hi).1]; rfl
      · rw [if_neg e]
    rw [this]; exact a5
  have hl := lnUp_all (of_all hd he)
  have hs := sum_set xs i hi (cd xs i, b)
  unfold linec
  rw [List.length_set] at hl ⊢
  rw [if_neg (by omega), if_neg (by simp [hl]), if_pos]
  right
  rw [amS_sum _ _ (by rw [List.length_set]; omega), List.take_of_length_le (by rw [List.length_set]; omega), hs, a3]
  simp; omega

end Go.Proofs.Ytnahbblglalagaa
