/- The plain laws of paying items, the oldest first. No program in sight. -/
import Derived.Test.YtphkckonnogjmaaPlainU
import Derived.Test.YtphkckonnogjmaaIsort
namespace Go.Proofs.Ytphkckonnogjmaa
open Stb
set_option linter.unusedVariables false

/-- an item that may stand -/
def okP (p : Pr) : Prop := 0 ≤ p.1 ∧ p.1 ≤ 292193 ∧ 1 ≤ p.2 ∧ p.2 ≤ 1000000000000
def tot : List Pr → Int
  | [] => 0
  | p :: xs => p.2 + tot xs
/-- the day of an item -/
def dayOf (p : Pr) : Int := p.1
/-- what is left of items that are paid in their order -/
def pay : List Pr → Int → List Pr
  | [], _ => []
  | p :: xs, a => if a < p.2 then (p.1, p.2 - a) :: xs else pay xs (a - p.2)
/-- what is left of the amount -/
def lft (xs : List Pr) (a : Int) : Int := if tot xs < a then a - tot xs else 0
/-- the items and the amount after k rounds, in place -/
def pst (xs : List Pr) (a : Int) : Nat → List Pr × Int
  | 0 => (xs, a)
  | k + 1 => ((pst xs a k).1.set k ((ge xs k).1, (ge xs k).2 - if (ge xs k).2 < (pst xs a k).2 then (ge xs k).2 else (pst xs a k).2), (pst xs a k).2 - if (ge xs k).2 < (pst xs a k).2 then (ge xs k).2 else (pst xs a k).2)
theorem pst_len (xs : List Pr) (a : Int) (k : Nat) : (pst xs a k).1.length = xs.length := by
  induction k with
  | zero => rfl
  | succ k ih => show ((pst xs a k).1.set k _).length = _; rw [List.length_set, ih]
theorem ge_cons (p : Pr) (xs : List Pr) (k : Nat) : ge (p :: xs) (k + 1) = ge xs k := by unfold ge; simp
theorem ge_zero (p : Pr) (xs : List Pr) : ge (p :: xs) 0 = p := by unfold ge; simp
theorem pst_cons (p : Pr) (xs : List Pr) (a : Int) (k : Nat) : pst (p :: xs) a (k + 1) = ((p.1, p.2 - if p.2 < a then p.2 else a) :: (pst xs (a - if p.2 < a then p.2 else a) k).1, (pst xs (a - if p.2 < a then p.2 else a) k).2) := by
  induction k with
  | zero => show ((p :: xs).set 0 _, _) = _; rw [ge_zero]; rfl
  | succ k ih =>
    show ((pst (p :: xs) a (k + 1)).1.set (k + 1) _, (pst (p :: xs) a (k + 1)).2 - _) = _
    rw [ih, ge_cons]
    rfl
theorem ge_pst (xs : List Pr) (a : Int) (k i : Nat) (h : k ≤ i) : ge (pst xs a k).1 i = ge xs i := by
  induction k with
  | zero => rfl
  | succ k ih =>
    show ge ((pst xs a k).1.set k _) i = _
    unfold ge
    rw [List.getD_eq_getElem?_getD, List.getElem?_set, if_neg (by omega), ← List.getD_eq_getElem?_getD]
    exact ih (by omega)
theorem tot_nn {xs : List Pr} (h : ∀ p ∈ xs, 1 ≤ p.2) : 0 ≤ tot xs := by
  induction xs with
  | nil => exact Int.le_refl _
  | cons p xs ih =>
    have h1 := ih fun q hq => h q (List.mem_cons_of_mem _ hq)
    have h2 := h p List.mem_cons_self
    show 0 ≤ p.2 + tot xs
    omega
theorem pst_zero (xs : List Pr) (k : Nat) (h : ∀ p ∈ xs, 1 ≤ p.2) (hk : k ≤ xs.length) : pst xs 0 k = (xs, 0) := by
  induction k with
  | zero => rfl
  | succ k ih =>
    show ((pst xs 0 k).1.set k _, (pst xs 0 k).2 - _) = _
    rw [ih (by omega)]
    have e : ¬ (ge xs k).2 < 0 := by
      have := h (ge xs k) (List.mem_of_getElem? (ge_some (by omega)))
      omega
    simp only [if_neg e, Int.sub_zero]
    have : xs.set k (ge xs k) = xs := by
      refine List.ext_getElem? fun i => ?_
      rw [List.getElem?_set]
      split
      · rename_i c; subst c; rw [if_pos (by omega), ge_some (by omega)]
      · rfl
    exact Prod.ext this rfl
theorem pst_all (xs : List Pr) (a : Int) (ha : 0 ≤ a) (h : ∀ p ∈ xs, 1 ≤ p.2) : (pst xs a xs.length).1.filter (fun p => !decide (p.2 = 0)) = pay xs a ∧ (pst xs a xs.length).2 = lft xs a := by
  induction xs generalizing a with
  | nil => refine ⟨rfl, ?_⟩; show a = if 0 < a then a - 0 else 0; split <;> omega
  | cons p xs ih =>
    have hp := h p List.mem_cons_self
    have hx : ∀ q ∈ xs, 1 ≤ q.2 := fun q hq => h q (List.mem_cons_of_mem _ hq)
    have ht := tot_nn hx
    rw [List.length_cons, pst_cons]
    by_cases c : p.2 < a
    · rw [if_pos c, Int.sub_self, List.filter_cons_of_neg (by simp)]
      obtain ⟨e1, e2⟩ := ih (a - p.2) (by omega) hx
      rw [e1, e2]
      refine ⟨by show _ = if a < p.2 then _ else _; rw [if_neg (by omega)], ?_⟩
      show (if tot xs < a - p.2 then a - p.2 - tot xs else 0) = if p.2 + tot xs < a then a - (p.2 + tot xs) else 0
      split <;> split <;> omega
    · rw [if_neg c, Int.sub_self, pst_zero _ _ hx (Nat.le_refl _)]
      refine ⟨?_, ?_⟩
      · have e : xs.filter (fun p => !decide (p.2 = 0)) = xs := List.filter_eq_self.2 fun q hq => by have := hx q hq; simp; omega
        by_cases c2 : p.2 = a
        · rw [List.filter_cons_of_neg (by simp; omega), e]
          show _ = if a < p.2 then _ else pay xs (a - p.2)
          rw [if_neg (by omega), show a - p.2 = 0 by omega]
          clear ih h e
          cases xs with
          | nil => rfl
          | cons q xs =>
            have := hx q List.mem_cons_self
            show _ = if 0 < q.2 then (q.1, q.2 - 0) :: xs else _
            rw [if_pos (by omega), Int.sub_zero]
        · rw [List.filter_cons_of_pos (by simp; omega), e]
          show _ = if a < p.2 then _ else _
          rw [if_pos (by omega)]
      · show (0 : Int) = if p.2 + tot xs < a then a - (p.2 + tot xs) else 0
        split <;> omega

theorem pay_zero {xs : List Pr} (h : ∀ p ∈ xs, 1 ≤ p.2) : pay xs 0 = xs := by
  cases xs with
  | nil => rfl
  | cons p xs =>
    have := h p List.mem_cons_self
    show (if 0 < p.2 then (p.1, p.2 - 0) :: xs else _) = _
    rw [if_pos (by omega), Int.sub_zero]
theorem pay_all {xs : List Pr} {a : Int} (h : ∀ p ∈ xs, 1 ≤ p.2) (ha : tot xs ≤ a) : pay xs a = [] := by
  induction xs generalizing a with
  | nil => rfl
  | cons p xs ih =>
    have hx : ∀ q ∈ xs, 1 ≤ q.2 := fun q hq => h q (List.mem_cons_of_mem _ hq)
    have h1 := h p List.mem_cons_self
    have h2 := tot_nn hx
    have ha' : p.2 + tot xs ≤ a := ha
    show (if a < p.2 then _ else _) = _
    rw [if_neg (by omega)]
    exact ih hx (by omega)
theorem pay_pay (xs : List Pr) (a b : Int) (ha : 0 ≤ a) (hb : 0 ≤ b) (h : ∀ p ∈ xs, 1 ≤ p.2) : pay (pay xs a) b = pay xs (a + b) := by
  induction xs generalizing a with
  | nil => rfl
  | cons p xs ih =>
    have hx : ∀ q ∈ xs, 1 ≤ q.2 := fun q hq => h q (List.mem_cons_of_mem _ hq)
    have h1 := h p List.mem_cons_self
    show pay (if a < p.2 then (p.1, p.2 - a) :: xs else pay xs (a - p.2)) b = if a + b < p.2 then _ else _
    by_cases c : a < p.2
    · rw [if_pos c]
      show (if b < p.2 - a then (p.1, p.2 - a - b) :: xs else pay xs (b - (p.2 - a))) = _
      by_cases c2 : a + b < p.2
      · rw [if_pos c2, if_pos (by omega), show p.2 - a - b = p.2 - (a + b) by omega]
      · rw [if_neg c2, if_neg (by omega), show b - (p.2 - a) = a + b - p.2 by omega]
    · rw [if_neg c, if_neg (by omega), ih (a - p.2) (by omega) hx, show a - p.2 + b = a + b - p.2 by omega]
theorem tot_pay (xs : List Pr) (a : Int) (ha : 0 ≤ a) (h : ∀ p ∈ xs, 1 ≤ p.2) : tot (pay xs a) = tot xs - (a - lft xs a) := by
  induction xs generalizing a with
  | nil => show (0 : Int) = 0 - (a - if 0 < a then a - 0 else 0); split <;> omega
  | cons p xs ih =>
    have hx : ∀ q ∈ xs, 1 ≤ q.2 := fun q hq => h q (List.mem_cons_of_mem _ hq)
    have h1 := h p List.mem_cons_self
    have h2 := tot_nn hx
    show tot (if a < p.2 then (p.1, p.2 - a) :: xs else pay xs (a - p.2)) = p.2 + tot xs - (a - if p.2 + tot xs < a then a - (p.2 + tot xs) else 0)
    by_cases c : a < p.2
    · rw [if_pos c, if_neg (by omega)]; show p.2 - a + tot xs = _; omega
    · rw [if_neg c, ih _ (by omega) hx]
      show tot xs - (a - p.2 - if tot xs < a - p.2 then a - p.2 - tot xs else 0) = _
      split <;> split <;> omega
theorem pay_ok {xs : List Pr} {a : Int} (ha : 0 ≤ a) (h : ∀ p ∈ xs, okP p) : ∀ p ∈ pay xs a, okP p := by
  induction xs generalizing a with
  | nil => exact h
  | cons p xs ih =>
    have hx : ∀ q ∈ xs, okP q := fun q hq => h q (List.mem_cons_of_mem _ hq)
    have h1 := h p List.mem_cons_self
    show ∀ q ∈ (if a < p.2 then (p.1, p.2 - a) :: xs else pay xs (a - p.2)), okP q
    by_cases c : a < p.2
    · rw [if_pos c]
      intro q hq
      rcases List.mem_cons.1 hq with rfl | hq
      · unfold okP at *; simp only; omega
      · exact hx q hq
    · rw [if_neg c]; exact ih (by omega) hx
theorem pay_len (xs : List Pr) (a : Int) : (pay xs a).length ≤ xs.length := by
  induction xs generalizing a with
  | nil => exact Nat.le_refl _
  | cons p xs ih =>
    show (if a < p.2 then (p.1, p.2 - a) :: xs else pay xs (a - p.2)).length ≤ _
    split
    · exact Nat.le_refl _
    · have := ih (a - p.2); simp only [List.length_cons]; omega
theorem pay_srt {xs : List Pr} {a : Int} (h : Srt dayOf xs) : Srt dayOf (pay xs a) := by
  induction xs generalizing a with
  | nil => exact h
  | cons p xs ih =>
    unfold Srt at h
    rw [List.pairwise_cons] at h
    show Srt dayOf (if a < p.2 then (p.1, p.2 - a) :: xs else pay xs (a - p.2))
    split
    · unfold Srt; rw [List.pairwise_cons]; exact h
    · exact ih h.2
/-- what is younger than the first that is left stands unpaid -/
theorem pay_young {xs : List Pr} {a : Int} {q : Pr} {rest : List Pr} (h : Srt dayOf xs) (he : pay xs a = q :: rest) : ∀ p ∈ xs, q.1 < p.1 → p ∈ rest := by
  induction xs generalizing a with
  | nil => cases he
  | cons p xs ih =>
    unfold Srt at h
    rw [List.pairwise_cons] at h
    change (if a < p.2 then (p.1, p.2 - a) :: xs else pay xs (a - p.2)) = _ at he
    intro r hr hlt
    by_cases c : a < p.2
    · rw [if_pos c] at he
      injection he with e1 e2
      subst e2
      rcases List.mem_cons.1 hr with rfl | hr
      · rw [← e1] at hlt; simp at hlt
      · exact hr
    · rw [if_neg c] at he
      rcases List.mem_cons.1 hr with rfl | hr
      · exfalso
        have hq : ∃ y ∈ xs, y.1 = q.1 := by
          clear ih h hr hlt c
          generalize a - r.2 = b at he
          induction xs generalizing b with
          | nil => cases he
          | cons y xs ih =>
            change (if b < y.2 then (y.1, y.2 - b) :: xs else pay xs (b - y.2)) = _ at he
            by_cases c : b < y.2
            · rw [if_pos c] at he
              injection he with e1 e2
              exact ⟨y, List.mem_cons_self, by rw [← e1]⟩
            · rw [if_neg c] at he
              obtain ⟨z, hz, e⟩ := ih _ he
              exact ⟨z, List.mem_cons_of_mem _ hz, e⟩
        obtain ⟨y, hy, e⟩ := hq
        have := h.1 y hy
        unfold dayOf at this
        omega
      · exact ih h.2 he r hr hlt

theorem tot_perm {xs ys : List Pr} (h : xs.Perm ys) : tot xs = tot ys := by
  induction h with
  | nil => rfl
  | cons x _ ih => show x.2 + _ = x.2 + _; rw [ih]
  | swap x y l => show y.2 + (x.2 + tot l) = x.2 + (y.2 + tot l); omega
  | trans _ _ ih1 ih2 => rw [ih1, ih2]
/-- by days, the items as they stand -/
abbrev byDay (xs : List Pr) : List Pr := isort dayOf xs
theorem byDay_ok {xs : List Pr} (h : ∀ p ∈ xs, okP p) : ∀ p ∈ byDay xs, okP p := fun p hp => h p ((isort_perm xs).mem_iff.1 hp)
theorem ok_one {xs : List Pr} (h : ∀ p ∈ xs, okP p) : ∀ p ∈ xs, 1 ≤ p.2 := fun p hp => (h p hp).2.2.1

theorem ge_px (xs : List Pr) (i : Nat) : (ge xs i).1 = px xs i ∧ (ge xs i).2 = py xs i := ⟨rfl, rfl⟩
theorem itc_iff (xs : List Pr) : itc xs = 0 ↔ xs.length ≤ 40 ∧ ∀ p ∈ xs, okP p := by
  have key : itOk xs xs.length = true ↔ ∀ p ∈ xs, okP p := by
    constructor
    · intro h p hp
      obtain ⟨i, hi, rfl⟩ := List.getElem_of_mem hp
      have := itOk_at h hi
      have e : xs[i] = ge xs i := by have := ge_some hi; rw [List.getElem?_eq_getElem hi] at this; injection this
      rw [e]; exact this
    · intro h
      unfold itOk
      rw [List.all_eq_true]
      intro i hi
      have hi := List.mem_range.1 hi
      have := h (ge xs i) (List.mem_of_getElem? (ge_some hi))
      unfold itAt
      unfold okP at this
      rw [(ge_px xs i).1, (ge_px xs i).2] at this
      simp; omega
  unfold itc
  split
  · constructor
    · intro h; omega
    · rintro ⟨h, _⟩; omega
  · split
    · rename_i h1 h2
      exact ⟨fun _ => ⟨by omega, key.1 h2⟩, fun _ => rfl⟩
    · rename_i h1 h2
      constructor
      · intro h; omega
      · rintro ⟨_, h⟩; exact absurd (key.2 h) h2
theorem owd_tot (xs : List Pr) : owd xs xs.length = tot xs := by
  have key : ∀ k, k ≤ xs.length → owd xs k = tot (xs.take k) := by
    intro k hk
    induction k with
    | zero => rfl
    | succ k ih =>
      show owd xs k + py xs k = _
      rw [ih (by omega), List.take_succ_eq_append_getElem (by omega)]
      have happ : ∀ (ys : List Pr) (p : Pr), tot (ys ++ [p]) = tot ys + p.2 := by
        intro ys p
        induction ys with
        | nil => show p.2 + 0 = 0 + p.2; omega
        | cons y ys ih => show y.2 + tot (ys ++ [p]) = y.2 + tot ys + p.2; rw [ih]; omega
      rw [happ]
      unfold py
      rw [List.getD_eq_getElem?_getD, List.getElem?_eq_getElem (by omega)]; rfl
  rw [key _ (Nat.le_refl _), List.take_length]
theorem tot_bd {xs : List Pr} (h : ∀ p ∈ xs, okP p) : tot xs ≤ 1000000000000 * xs.length := by
  induction xs with
  | nil => exact Int.le_refl _
  | cons p xs ih =>
    have h1 := ih fun q hq => h q (List.mem_cons_of_mem _ hq)
    have h2 := h p List.mem_cons_self
    unfold okP at h2
    show p.2 + tot xs ≤ _
    rw [List.length_cons]
    omega
theorem lft_bd {xs : List Pr} {a : Int} (ha : 0 ≤ a) (h : ∀ p ∈ xs, 1 ≤ p.2) : 0 ≤ lft xs a ∧ lft xs a ≤ a := by
  have := tot_nn h
  unfold lft
  split <;> omega
/-- bounds of the rounds -/
theorem pst_bd (xs : List Pr) (a : Int) (ha : 0 ≤ a) (h : ∀ p ∈ xs, 1 ≤ p.2) (k : Nat) (hk : k ≤ xs.length) : 0 ≤ (pst xs a k).2 ∧ (pst xs a k).2 ≤ a := by
  induction k with
  | zero => exact ⟨ha, Int.le_refl _⟩
  | succ k ih =>
    have h1 := ih (by omega)
    have h2 := h (ge xs k) (List.mem_of_getElem? (ge_some (by omega)))
    show 0 ≤ (pst xs a k).2 - _ ∧ (pst xs a k).2 - _ ≤ a
    split <;> omega

/-- the amounts of those whose day is one of D -/
def sumD (D : Int → Bool) : List Pr → Int
  | [] => 0
  | p :: xs => (if D p.1 = true then p.2 else 0) + sumD D xs
theorem sumD_perm {D : Int → Bool} {xs ys : List Pr} (h : xs.Perm ys) : sumD D xs = sumD D ys := by
  induction h with
  | nil => rfl
  | cons x _ ih => show _ + _ = _ + _; rw [ih]
  | swap x y l => show _ + (_ + sumD D l) = _ + (_ + sumD D l); omega
  | trans _ _ ih1 ih2 => rw [ih1, ih2]
theorem sumD_nn {D : Int → Bool} {xs : List Pr} (h : ∀ p ∈ xs, 1 ≤ p.2) : 0 ≤ sumD D xs := by
  induction xs with
  | nil => exact Int.le_refl _
  | cons p xs ih =>
    have h1 := ih fun q hq => h q (List.mem_cons_of_mem _ hq)
    have h2 := h p List.mem_cons_self
    show 0 ≤ (if D p.1 = true then p.2 else 0) + sumD D xs
    split <;> omega
/-- of those up to a day what is left is all but the amount -/
theorem sumD_pay {D : Int → Bool} (hD : ∀ x y : Int, x ≤ y → D y = true → D x = true) (xs : List Pr) (a : Int) (ha : 0 ≤ a) (h : ∀ p ∈ xs, 1 ≤ p.2) (hs : Srt dayOf xs) :
    sumD D (pay xs a) = if a < sumD D xs then sumD D xs - a else 0 := by
  induction xs generalizing a with
  | nil => show (0 : Int) = if a < 0 then 0 - a else 0; split <;> omega
  | cons p xs ih =>
    have hx : ∀ q ∈ xs, 1 ≤ q.2 := fun q hq => h q (List.mem_cons_of_mem _ hq)
    have h1 := h p List.mem_cons_self
    have h2 := sumD_nn (D := D) hx
    unfold Srt at hs
    rw [List.pairwise_cons] at hs
    show sumD D (if a < p.2 then (p.1, p.2 - a) :: xs else pay xs (a - p.2)) = if a < (if D p.1 = true then p.2 else 0) + sumD D xs then (if D p.1 = true then p.2 else 0) + sumD D xs - a else 0
    have hz : D p.1 ≠ true → sumD D xs = 0 := by
      intro hp
      have : ∀ q ∈ xs, D q.1 ≠ true := fun q hq hd => hp (hD p.1 q.1 (hs.1 q hq) hd)
      clear ih h hx h2 hs
      induction xs with
      | nil => rfl
      | cons q xs ih =>
        show (if D q.1 = true then q.2 else 0) + sumD D xs = 0
        rw [if_neg (this q List.mem_cons_self), ih fun r hr => this r (List.mem_cons_of_mem _ hr)]; rfl
    by_cases c : a < p.2
    · rw [if_pos c]
      show (if D p.1 = true then p.2 - a else 0) + sumD D xs = _
      by_cases d : D p.1 = true
      · rw [if_pos d, if_pos d, if_pos (by omega)]; omega
      · rw [if_neg d, if_neg d, hz d, if_neg (by omega)]; rfl
    · rw [if_neg c, ih (a - p.2) (by omega) hx hs.2]
      by_cases d : D p.1 = true
      · rw [if_pos d]; split <;> split <;> omega
      · rw [if_neg d, hz d, if_neg (by omega), if_neg (by omega)]
/-- the buckets by days -/
theorem pre_sumD (xs : List Pr) (t : Int) (bs : List Int) (k : Nat) : pre xs t bs k xs.length = tot xs - sumD (fun d => decide (k ≤ pos bs (if t - d < 0 then 0 else t - d))) xs := by
  have key : ∀ j, j ≤ xs.length → pre xs t bs k j = tot (xs.take j) - sumD (fun d => decide (k ≤ pos bs (if t - d < 0 then 0 else t - d))) (xs.take j) := by
    intro j hj
    induction j with
    | zero => rfl
    | succ j ih =>
      have happ : ∀ (ys : List Pr) (p : Pr), tot (ys ++ [p]) = tot ys + p.2 := by
        intro ys p
        induction ys with
        | nil => show p.2 + 0 = 0 + p.2; omega
        | cons y ys ih => show y.2 + tot (ys ++ [p]) = y.2 + tot ys + p.2; rw [ih]; omega
      have happ2 : ∀ (D : Int → Bool) (ys : List Pr) (p : Pr), sumD D (ys ++ [p]) = sumD D ys + if D p.1 = true then p.2 else 0 := by
        intro D ys p
        induction ys with
        | nil => show _ + 0 = 0 + _; omega
        | cons y ys ih => show _ + sumD D (ys ++ [p]) = _ + sumD D ys + _; rw [ih]; omega
      show pre xs t bs k j + (if pos bs (aged xs t j) < k then py xs j else 0) = _
      rw [ih (by omega), List.take_succ_eq_append_getElem (by omega), happ, happ2]
      have e : xs[j] = ge xs j := by have := ge_some (xs := xs) (i := j) (by omega); rw [List.getElem?_eq_getElem (by omega)] at this; injection this
      rw [e, (ge_px xs j).1, (ge_px xs j).2]
      unfold aged
      by_cases c : pos bs (if t - px xs j < 0 then 0 else t - px xs j) < k
      · rw [if_pos c, if_neg (by simp; omega)]; omega
      · rw [if_neg c, if_pos (by simp; omega)]; omega
  rw [key _ (Nat.le_refl _), List.take_length]
theorem ag_eq {xs ys : List Pr} {t : Int} {bs : List Int} (h : ∀ k, pre xs t bs k xs.length = pre ys t bs k ys.length) : ag xs t bs xs.length = ag ys t bs ys.length := by
  have h' : ∀ k, ((ag xs t bs xs.length).take k).sum = ((ag ys t bs ys.length).take k).sum := fun k => by rw [ag_pre, ag_pre, h]
  have l1 := ag_len xs t bs xs.length
  have l2 := ag_len ys t bs ys.length
  refine List.ext_getElem (by rw [l1, l2]) fun i h1 h2 => ?_
  have a1 := h' (i + 1)
  rw [List.take_succ_eq_append_getElem h1, List.take_succ_eq_append_getElem h2, List.sum_append, List.sum_append, h' i] at a1
  simp at a1
  exact a1
/-- in whatever order items stand, the same ages are left -/
theorem ag_any {xs ys : List Pr} {a t : Int} {bs : List Int} (ha : 0 ≤ a) (hp : xs.Perm ys) (h : ∀ p ∈ xs, okP p) : ag (pay (byDay xs) a) t bs (pay (byDay xs) a).length = ag (pay (byDay ys) a) t bs (pay (byDay ys) a).length := by
  have hpp : (byDay xs).Perm (byDay ys) := (isort_perm xs).trans (hp.trans (isort_perm ys).symm)
  have hx := ok_one (byDay_ok h)
  have hy : ∀ p ∈ byDay ys, 1 ≤ p.2 := fun p hq => hx p (hpp.mem_iff.2 hq)
  refine ag_eq fun k => ?_
  have hD : ∀ x y : Int, x ≤ y → decide (k ≤ pos bs (if t - y < 0 then 0 else t - y)) = true → decide (k ≤ pos bs (if t - x < 0 then 0 else t - x)) = true := by
    intro x y hxy h1
    simp only [decide_eq_true_eq] at *
    refine Nat.le_trans h1 (pos_mono bs ?_)
    split <;> split <;> omega
  rw [pre_sumD, pre_sumD, sumD_pay hD _ _ ha hx (isort_srt xs), sumD_pay hD _ _ ha hy (isort_srt ys), sumD_perm hpp, tot_pay _ _ ha hx, tot_pay _ _ ha hy]
  unfold lft
  rw [tot_perm hpp]

end Go.Proofs.Ytphkckonnogjmaa
