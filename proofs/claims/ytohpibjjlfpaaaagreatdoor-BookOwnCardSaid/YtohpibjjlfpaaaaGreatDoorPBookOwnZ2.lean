/- The plain law of accounts' codes, entries' keys and lines. No program in sight. -/
import Derived.Test.YtohpibjjlfpaaaaGreatDoorPBookOwnZ1
import Derived.BigQuiet
import Derived.Deep.QuietTactic
import Derived.Handy
import Derived.Lib.Hide
import Derived.OpenShut
import Derived.Outline
import Derived.PlainAid
import Derived.ProofKit
import Derived.RegionTactic
import Derived.WalkKit
namespace Go.Proofs.YtohpibjjlfpaaaaGreatDoor
open Go Go.PlainAid
set_option linter.unusedVariables false
set_option maxRecDepth 100000

/-- a digit? -/
def digB (c : Int) : Bool := decide (48 ≤ c) && decide (c ≤ 57)
/-- of a key? -/
def keyC (c : Int) : Bool := (decide (97 ≤ c) && decide (c ≤ 122)) || (decide (48 ≤ c) && decide (c ≤ 57)) || decide (c = 45)
/-- the first k bytes of s are such -/
def allB (p : Int → Bool) (s : ByteArray) (k : Nat) : Bool := (List.range k).all (fun i => p (bt s i))
theorem allB_succ (p : Int → Bool) (s : ByteArray) (k : Nat) : allB p s (k + 1) = (allB p s k && p (bt s k)) := by
  unfold allB; rw [List.range_succ, List.all_append]; simp
theorem allB_bad {p : Int → Bool} {s : ByteArray} {k n : Nat} (h : p (bt s k) = false) (hk : k < n) : allB p s n = false := by
  unfold allB
  rw [List.all_eq_false]
  exact ⟨k, List.mem_range.2 hk, by simp [h]⟩
/-- may an account be called so? -/
def codeB (s : ByteArray) : Bool := decide (1 ≤ s.size) && decide (s.size ≤ 8) && allB digB s s.size
/-- may an entry be called so? -/
def keyB (s : ByteArray) : Bool := decide (1 ≤ s.size) && decide (s.size ≤ 12) && allB keyC s s.size

abbrev Ln := ByteArray × Int
def cd (xs : List Ln) (i : Nat) : ByteArray := (xs.getD i (ByteArray.empty, 0)).1
def am (xs : List Ln) (i : Nat) : Int := (xs.getD i (ByteArray.empty, 0)).2
/-- stands the code of the line i ahead of it? -/
def twB (xs : List Ln) (i : Nat) : Bool := (List.range i).any (fun j => decide (cd xs j = cd xs i))
/-- what is wrong with the line i -/
def lnAt (xs : List Ln) (i : Nat) : Int :=
  if codeB (cd xs i) = false then 3 else if am xs i < -1000000000000 ∨ 1000000000000 < am xs i ∨ am xs i = 0 then 1 else if twB xs i = true then 5 else 0
def lnUp (xs : List Ln) : Nat → Int
  | 0 => 0
  | k + 1 => if lnUp xs k ≠ 0 then lnUp xs k else lnAt xs k
theorem lnUp_bad {xs : List Ln} {k n : Nat} (h : lnUp xs k = 0) (hb : lnAt xs k ≠ 0) (hk : k < n) : lnUp xs n = lnAt xs k := by
  induction n with
  | zero => omega
  | succ n ih =>
    unfold lnUp
    by_cases e : k = n
    · subst e; rw [if_neg (by simp [h])]
    · rw [ih (by omega), if_pos hb]
theorem lnUp_ok {xs : List Ln} {k : Nat} (h : lnUp xs k = 0) (hb : lnAt xs k = 0) : lnUp xs (k + 1) = 0 := by
  unfold lnUp; rw [if_neg (by simp [h]), hb]
theorem lnUp_at {xs : List Ln} {k n : Nat} (h : lnUp xs n = 0) (hk : k < n) : lnAt xs k = 0 := by
  induction n with
  | zero => omega
  | succ n ih =>
    unfold lnUp at h
    by_cases e : lnUp xs n = 0
    · rw [if_neg (by simp [e])] at h
      by_cases e2 : k = n
      · subst e2; exact h
      · exact ih e (by omega)
    · rw [if_pos e] at h; exact absurd h e
theorem lnUp_all {xs : List Ln} {n : Nat} (h : ∀ k, k < n → lnAt xs k = 0) : lnUp xs n = 0 := by
  induction n with
  | zero => rfl
  | succ n ih => exact lnUp_ok (ih fun k hk => h k (by omega)) (h n (by omega))
/-- the sum of the first k lines -/
def amS (xs : List Ln) : Nat → Int
  | 0 => 0
  | k + 1 => amS xs k + am xs k
/-- what is wrong with the lines -/
def linec (xs : List Ln) : Int :=
  if 12 < xs.length then 2 else if lnUp xs xs.length ≠ 0 then lnUp xs xs.length else if xs.length < 2 ∨ amS xs xs.length ≠ 0 then 7 else 0
theorem amS_bd {xs : List Ln} {n : Nat} (h : ∀ k, k < n → lnAt xs k = 0) : -(1000000000000 * n) ≤ amS xs n ∧ amS xs n ≤ 1000000000000 * n := by
  induction n with
  | zero => simp [amS]
  | succ n ih =>
    have h1 := ih fun k hk => h k (by omega)
    have h2 := h n (by omega)
    unfold lnAt at h2
    unfold amS
    split at h2
    · omega
    · split at h2
      · omega
      · omega
/-- what is wrong with an entry -/
def entc (key : ByteArray) (day : Int) (xs : List Ln) : Int := if keyB key = false then 3 else if day < 0 ∨ 292193 < day then 1 else linec xs
/-- the lines turned -/
def turn (xs : List Ln) : List Ln := xs.map (fun x => (x.1, -x.2))
theorem turn_len (xs : List Ln) : (turn xs).length = xs.length := by simp [turn]
theorem cd_turn (xs : List Ln) (i : Nat) : cd (turn xs) i = cd xs i := by
  unfold cd turn
  rw [List.getD_eq_getElem?_getD, List.getD_eq_getElem?_getD, List.getElem?_map]
  cases xs[i]? <;> rfl
theorem lnAt_ok {xs : List Ln} {i : Nat} (h : lnAt xs i = 0) : codeB (cd xs i) = true ∧ -1000000000000 ≤ am xs i ∧ am xs i ≤ 1000000000000 ∧ am xs i ≠ 0 ∧ twB xs i = false := by
  unfold lnAt at h
  split at h
  · omega
  · rename_i h1
    split at h
    · omega
    · rename_i h2
      split at h
      · omega
      · rename_i h3
        exact ⟨by simpa using h1, by omega, by omega, by omega, by simpa using h3⟩
theorem linec_ok {xs : List Ln} (h : linec xs = 0) : xs.length ≤ 12 ∧ 2 ≤ xs.length ∧ amS xs xs.length = 0 ∧ ∀ k, k < xs.length → lnAt xs k = 0 := by
  unfold linec at h
  split at h
  · omega
  · split at h
    · rename_i h2; exact absurd h h2
    · rename_i h1 h2
      split at h
      · omega
      · rename_i h3
        have h4 : lnUp xs xs.length = 0 := by simpa using h2
        exact ⟨by omega, by omega, by omega, fun k hk => lnUp_at h4 hk⟩
theorem entc_ok {key : ByteArray} {day : Int} {xs : List Ln} (h : entc key day xs = 0) : keyB key = true ∧ 0 ≤ day ∧ day ≤ 292193 ∧ linec xs = 0 := by
  unfold entc at h
  split at h
  · omega
  · rename_i h1
    split at h
    · omega
    · exact ⟨by simpa using h1, by omega, by omega, h⟩
theorem turn_take (xs : List Ln) (k : Nat) (hk : k < xs.length) : turn (xs.take (k + 1)) = turn (xs.take k) ++ [(cd xs k, -am xs k)] := by
  rw [List.take_succ_eq_append_getElem hk]
  unfold turn
  rw [List.map_append]
  congr 1
  unfold cd am
  rw [List.getD_eq_getElem?_getD, List.getElem?_eq_getElem hk]
  rfl

end Go.Proofs.YtohpibjjlfpaaaaGreatDoor

/- Plain laws: lines in another order, a line with another amount. No program in sight. -/
namespace Go.Proofs.YtohpibjjlfpaaaaGreatDoor
set_option linter.unusedVariables false
set_option maxRecDepth 100000

theorem cd_at (xs : List Ln) (i : Nat) (h : i < xs.length) : cd xs i = xs[i].1 ∧ am xs i = xs[i].2 := by
  unfold cd am; rw [List.getD_eq_getElem?_getD, List.getElem?_eq_getElem h]; exact ⟨rfl, rfl⟩
def okL (x : Ln) : Prop := codeB x.1 = true ∧ -1000000000000 ≤ x.2 ∧ x.2 ≤ 1000000000000 ∧ x.2 ≠ 0
theorem amS_sum (xs : List Ln) (n : Nat) (h : n ≤ xs.length) : amS xs n = ((xs.take n).map (·.2)).sum := by
  induction n with
  | zero => simp [amS]
  | succ n ih =>
    rw [List.take_succ_eq_append_getElem (by omega), List.map_append, List.sum_append, ← ih (by omega)]
    show amS xs n + am xs n = _
    rw [(cd_at xs n (by omega)).2]; simp
theorem all_of {xs : List Ln} (h : ∀ k, k < xs.length → lnAt xs k = 0) : (∀ x ∈ xs, okL x) ∧ (xs.map (·.1)).Nodup := by
  constructor
  · intro x hx
    obtain ⟨i, hi, rfl⟩ := List.getElem_of_mem hx
    obtain ⟨a, b, c, d, _⟩ := lnAt_ok (h i hi)
    obtain ⟨e1, e2⟩ := cd_at xs i hi
    rw [e1] at a
    rw [e2] at b c d
    exact ⟨a, b, c, d⟩
  · unfold List.Nodup
    rw [List.pairwise_iff_getElem]
    intro i j hi hj hij
    simp only [List.length_map] at hi hj
    have ht := (lnAt_ok (h j hj)).2.2.2.2
    unfold twB at ht
    rw [List.any_eq_false] at ht
    have := ht i (List.mem_range.2 hij)
    rw [(cd_at xs i hi).1, (cd_at xs j hj).1] at this
    simpa using this
theorem of_all {xs : List Ln} (h1 : ∀ x ∈ xs, okL x) (h2 : (xs.map (·.1)).Nodup) : ∀ k, k < xs.length → lnAt xs k = 0 := by
  intro k hk
  obtain ⟨a, b, c, d⟩ := h1 _ (List.getElem_mem hk)
  obtain ⟨e1, e2⟩ := cd_at xs k hk
  rw [← e1] at a
  rw [← e2] at b c d
  have ht : twB xs k = false := by
    unfold twB
    rw [List.any_eq_false]
    intro j hj
    have hj' := List.mem_range.1 hj
    unfold List.Nodup at h2
    rw [List.pairwise_iff_getElem] at h2
    have := h2 j k (by simp; omega) (by simpa using hk) hj'
    rw [(cd_at xs j (by omega)).1, e1]
    simpa using this
  unfold lnAt
  rw [if_neg (by simp [a]), if_neg (by omega), if_neg (by simp [ht])]
theorem linec_iff {xs : List Ln} : linec xs = 0 ↔ xs.length ≤ 12 ∧ 2 ≤ xs.length ∧ (xs.map (·.2)).sum = 0 ∧ (∀ x ∈ xs, okL x) ∧ (xs.map (·.1)).Nodup := by
  constructor
  · intro h
    obtain ⟨a, b, c, d⟩ := linec_ok h
    obtain ⟨e, f⟩ := all_of d
    rw [amS_sum xs _ (Nat.le_refl _), List.take_of_length_le (Nat.le_refl _)] at c
    exact ⟨a, b, c, e, f⟩
  · rintro ⟨a, b, c, d, e⟩
    have hl := lnUp_all (of_all d e)
    unfold linec
    rw [if_neg (by omega), if_neg (by simp [hl]), if_neg]
    rw [amS_sum xs _ (Nat.le_refl _), List.take_of_length_le (Nat.le_refl _), c]
    simp; omega
end Go.Proofs.YtohpibjjlfpaaaaGreatDoor
