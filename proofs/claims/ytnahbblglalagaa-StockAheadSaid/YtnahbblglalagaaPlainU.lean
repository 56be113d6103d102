/- The plain law of ages: buckets of amounts. No program in sight. -/
import Derived.Test.YtnahbblglalagaaBase
namespace Go.Proofs.Ytnahbblglalagaa
set_option linter.unusedVariables false

abbrev Pr := Int × Int
def px (xs : List Pr) (i : Nat) : Int := (xs.getD i (0, 0)).1
def py (xs : List Pr) (i : Nat) : Int := (xs.getD i (0, 0)).2
/-- entry i -/
def ei (xs : List Int) (i : Nat) : Int := xs.getD i 0
/-- how many of the bounds are below t: where t stands among them -/
def pos (bs : List Int) (t : Int) : Nat := (bs.filter (fun b => decide (b < t))).length
theorem pos_le (bs : List Int) (t : Int) : pos bs t ≤ bs.length := List.length_filter_le _ _
theorem pos_mono (bs : List Int) {s t : Int} (h : s ≤ t) : pos bs s ≤ pos bs t := by
  unfold pos
  induction bs with
  | nil => simp
  | cons b bs ih =>
    by_cases h1 : b < s
    · rw [List.filter_cons_of_pos (by simpa using h1), List.filter_cons_of_pos (by simp; omega)]
      simp; exact ih
    · rw [List.filter_cons_of_neg (by simpa using h1)]
      by_cases h2 : b < t
      · rw [List.filter_cons_of_pos (by simpa using h2)]; simp; omega
      · rw [List.filter_cons_of_neg (by simpa using h2)]; exact ih
/-- bounds that rise -/
def Rise (bs : List Int) : Prop := ∀ i j, i < j → j < bs.length → ei bs i < ei bs j
/-- of rising bounds: all ahead of the place are below t, none behind it is -/
theorem pos_spec {bs : List Int} {t : Int} {p : Nat} (hp : p ≤ bs.length) (h1 : ∀ i, i < p → ei bs i < t) (h2 : ∀ i, p ≤ i → i < bs.length → t ≤ ei bs i) : pos bs t = p := by
  unfold pos
  have e : bs.filter (fun b => decide (b < t)) = bs.take p := by
    conv => lhs; rw [← List.take_append_drop p bs]
    rw [List.filter_append]
    have a : (bs.take p).filter (fun b => decide (b < t)) = bs.take p := by
      refine List.filter_eq_self.2 fun b hb => ?_
      obtain ⟨i, hi, rfl⟩ := List.getElem_of_mem hb
      rw [List.length_take] at hi
      have := h1 i (by omega)
      unfold ei at this
      rw [List.getD_eq_getElem?_getD, List.getElem?_eq_getElem (by omega)] at this
      simpa using this
    have b : (bs.drop p).filter (fun b => decide (b < t)) = [] := by
      refine List.filter_eq_nil_iff.2 fun b hb => ?_
      obtain ⟨i, hi, rfl⟩ := List.getElem_of_mem hb
      rw [List.length_drop] at hi
      have := h2 (p + i) (by omega) (by omega)
      unfold ei at this
      rw [List.getD_eq_getElem?_getD, List.getElem?_eq_getElem (by omega)] at this
      simpa using this
    rw [a, b, List.append_nil]
  rw [e, List.length_take]; omega
/-- the age of the item i -/
def aged (xs : List Pr) (t : Int) (i : Nat) : Int := if t - px xs i < 0 then 0 else t - px xs i
/-- the buckets after j items -/
def ag (xs : List Pr) (t : Int) (bs : List Int) : Nat → List Int
  | 0 => List.replicate (bs.length + 1) 0
  | j + 1 => (ag xs t bs j).set (pos bs (aged xs t j)) (ei (ag xs t bs j) (pos bs (aged xs t j)) + py xs j)
theorem ag_len (xs : List Pr) (t : Int) (bs : List Int) (j : Nat) : (ag xs t bs j).length = bs.length + 1 := by
  induction j with
  | zero => simp [ag]
  | succ j ih => simp [ag, ih]
theorem take_set_sum (l : List Int) (p k : Nat) (v : Int) (h : p < l.length) : ((l.set p (ei l p + v)).take k).sum = (l.take k).sum + if p < k then v else 0 := by
  induction l generalizing p k with
  | nil => simp at h
  | cons x l ih =>
    cases k with
    | zero => simp
    | succ k =>
      cases p with
      | zero => simp [ei]; omega
      | succ p =>
        have e : ei (x :: l) (p + 1) = ei l p := by unfold ei; simp
        have := ih p k (by simpa using h)
        simp only [List.set_cons_succ, List.take_succ_cons, List.sum_cons, e, this]
        by_cases hk : p < k
        · rw [if_pos hk, if_pos (by omega)]; omega
        · rw [if_neg hk, if_neg (by omega)]; omega
/-- what lies in the first k buckets -/
def pre (xs : List Pr) (t : Int) (bs : List Int) (k : Nat) : Nat → Int
  | 0 => 0
  | j + 1 => pre xs t bs k j + if pos bs (aged xs t j) < k then py xs j else 0
theorem ag_pre (xs : List Pr) (t : Int) (bs : List Int) (k j : Nat) : ((ag xs t bs j).take k).sum = pre xs t bs k j := by
  induction j with
  | zero =>
    show ((List.replicate (bs.length + 1) (0 : Int)).take k).sum = 0
    rw [List.take_replicate, List.sum_replicate_int]; simp
  | succ j ih =>
    show (((ag xs t bs j).set _ _).take k).sum = _
    rw [take_set_sum _ _ _ _ (by rw [ag_len]; have := pos_le bs (aged xs t j); omega), ih]; rfl
/-- all that is owed -/
def owd (xs : List Pr) : Nat → Int
  | 0 => 0
  | j + 1 => owd xs j + py xs j
theorem pre_all (xs : List Pr) (t : Int) (bs : List Int) (j : Nat) : pre xs t bs (bs.length + 1) j = owd xs j := by
  induction j with
  | zero => rfl
  | succ j ih => show pre xs t bs (bs.length + 1) j + _ = owd xs j + _; rw [ih, if_pos (by have := pos_le bs (aged xs t j); omega)]
theorem ag_sum (xs : List Pr) (t : Int) (bs : List Int) (j : Nat) : (ag xs t bs j).sum = owd xs j := by
  rw [← pre_all xs t bs j, ← ag_pre, List.take_of_length_le (by rw [ag_len]; exact Nat.le_refl _)]
/-- a day later nothing is younger -/
theorem pre_later (xs : List Pr) (t : Int) (bs : List Int) (k j : Nat) (h : ∀ i, i < j → 0 ≤ py xs i) : pre xs (t + 1) bs k j ≤ pre xs t bs k j := by
  induction j with
  | zero => exact Int.le_refl _
  | succ j ih =>
    have h1 := ih fun i hi => h i (by omega)
    have h2 := h j (by omega)
    have hm : pos bs (aged xs t j) ≤ pos bs (aged xs (t + 1) j) := pos_mono bs (by unfold aged; split <;> split <;> omega)
    show pre xs (t + 1) bs k j + _ ≤ pre xs t bs k j + _
    by_cases h3 : pos bs (aged xs (t + 1) j) < k
    · rw [if_pos h3, if_pos (by omega)]; omega
    · rw [if_neg h3]; split <;> omega
/-- what is wrong with items -/
def itAt (xs : List Pr) (i : Nat) : Bool := decide (0 ≤ px xs i) && decide (px xs i ≤ 292193) && decide (1 ≤ py xs i) && decide (py xs i ≤ 1000000000000)
def itOk (xs : List Pr) (n : Nat) : Bool := (List.range n).all (itAt xs)
def itc (xs : List Pr) : Int := if 40 < xs.length then 2 else if itOk xs xs.length = true then 0 else 1

theorem itOk_at {xs : List Pr} {n k : Nat} (h : itOk xs n = true) (hk : k < n) : 0 ≤ px xs k ∧ px xs k ≤ 292193 ∧ 1 ≤ py xs k ∧ py xs k ≤ 1000000000000 := by
  unfold itOk at h
  rw [List.all_eq_true] at h
  have := h k (List.mem_range.2 hk)
  unfold itAt at this
  simp at this
  omega
theorem itOk_bad {xs : List Pr} {k n : Nat} (h : itAt xs k = false) (hk : k < n) : itOk xs n = false := by
  unfold itOk
  rw [List.all_eq_false]
  exact ⟨k, List.mem_range.2 hk, by simp [h]⟩
theorem itOk_succ (xs : List Pr) (k : Nat) : itOk xs (k + 1) = (itOk xs k && itAt xs k) := by
  unfold itOk; rw [List.range_succ, List.all_append]; simp
theorem owd_bd {xs : List Pr} {n : Nat} (h : ∀ k, k < n → 1 ≤ py xs k ∧ py xs k ≤ 1000000000000) : 0 ≤ owd xs n ∧ owd xs n ≤ 1000000000000 * n := by
  induction n with
  | zero => simp [owd]
  | succ n ih =>
    have h1 := ih fun k hk => h k (by omega)
    have h2 := h n (by omega)
    show 0 ≤ owd xs n + py xs n ∧ owd xs n + py xs n ≤ _
    omega
/-- what is wrong with the bound i -/
def bdAt (bs : List Int) (i : Nat) : Int := if ei bs i < 0 ∨ 292193 < ei bs i then 1 else if 0 < i ∧ ei bs i ≤ ei bs (i - 1) then 3 else 0
def bdUp (bs : List Int) : Nat → Int
  | 0 => 0
  | k + 1 => if bdUp bs k ≠ 0 then bdUp bs k else bdAt bs k
theorem bdUp_bad {bs : List Int} {k n : Nat} (h : bdUp bs k = 0) (hb : bdAt bs k ≠ 0) (hk : k < n) : bdUp bs n = bdAt bs k := by
  induction n with
  | zero => omega
  | succ n ih =>
    by_cases e : k = n
    · subst e
      show (if bdUp bs k ≠ 0 then bdUp bs k else bdAt bs k) = _
      rw [if_neg (by simp [h])]
    · show (if bdUp bs n ≠ 0 then bdUp bs n else bdAt bs n) = _
      rw [ih (by omega), if_pos hb]
theorem bdUp_ok {bs : List Int} {k : Nat} (h : bdUp bs k = 0) (hb : bdAt bs k = 0) : bdUp bs (k + 1) = 0 := by
  show (if bdUp bs k ≠ 0 then bdUp bs k else bdAt bs k) = 0
  rw [if_neg (by simp [h]), hb]
theorem bdUp_at {bs : List Int} {k n : Nat} (h : bdUp bs n = 0) (hk : k < n) : bdAt bs k = 0 := by
  induction n with
  | zero => omega
  | succ n ih =>
    have h' : (if bdUp bs n ≠ 0 then bdUp bs n else bdAt bs n) = 0 := h
    by_cases e : bdUp bs n = 0
    · rw [if_neg (by simp [e])] at h'
      by_cases e2 : k = n
      · subst e2; exact h'
      · exact ih e (by omega)
    · rw [if_pos e] at h'; exact absurd h' e
theorem rise_of {bs : List Int} (h : bdUp bs bs.length = 0) : Rise bs := by
  have step : ∀ i, i + 1 < bs.length → ei bs i < ei bs (i + 1) := fun i hi => by
    have := bdUp_at h hi
    unfold bdAt at this
    split at this
    · omega
    · split at this
      · omega
      · rename_i h2; simp at h2; omega
  intro i j hij hj
  induction j with
  | zero => omega
  | succ j ih =>
    by_cases e : i = j
    · subst e; exact step i hj
    · have := ih (by omega) (by omega); have := step j hj; omega
/-- what age.Ages says -/
def agec (xs : List Pr) (t : Int) (bs : List Int) : Int :=
  if itc xs ≠ 0 then itc xs else if t < 0 ∨ 292193 < t then 1 else if 40 < bs.length then 2 else bdUp bs bs.length

end Go.Proofs.Ytnahbblglalagaa
