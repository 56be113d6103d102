/- The plain law of accounts' codes, entries' keys and lines. No program in sight. -/
import Derived.Test.YtjcckbkhbpoegaaDoorPLogByteZ1
import Derived.BigQuiet
import Derived.Deep.QuietTactic
import Derived.Handy
import Derived.Lib.Hide
import Derived.OpenShut
import Derived.Outline
import Derived.PlainAid
import Derived.ProofKit
import Derived.RegionTactic
import Derived.WalkKit
namespace Go.Proofs.YtjcckbkhbpoegaaDoor
open Go Go.PlainAid
set_option linter.unusedVariables false

/-- a digit? -/
def digB (c : Int) : Bool := decide (48 ≤ c) && decide (c ≤ 57)
/-- of a key? -/
def keyC (c : Int) : Bool := (decide (97 ≤ c) && decide (c ≤ 122)) || (decide (48 ≤ c) && decide (c ≤ 57)) || decide (c = 45)
/-- the first k bytes of s are such -/
def allB (p : Int → Bool) (s : ByteArray) (k : Nat) : Bool := (List.range k).all (fun i => p (bt s i))
theorem allB_succ (p : Int → Bool) (s : ByteArray) (k : Nat) : allB p s (k + 1) = (allB p s k && p (bt s k)) := by
  unfold allB; rw [List.range_succ, List.all_append]; simp
theorem allB_bad {p : Int → Bool} {s : ByteArray} {k n : Nat} (h : p (bt s k) = false) (hk : k < n) : allB p s n = false := by
  unfold allB
  rw [List.all_eq_false]
  exact ⟨k, List.mem_range.2 hk, by simp [h]⟩
/-- may an account be called so? -/
def codeB (s : ByteArray) : Bool := decide (1 ≤ s.size) && decide (s.size ≤ 8) && allB digB s s.size
/-- may an entry be called so? -/
def keyB (s : ByteArray) : Bool := decide (1 ≤ s.size) && decide (s.size ≤ 12) && allB keyC s s.size

abbrev Ln := ByteArray × Int
def cd (xs : List Ln) (i : Nat) : ByteArray := (xs.getD i (ByteArray.empty, 0)).1
def am (xs : List Ln) (i : Nat) : Int := (xs.getD i (ByteArray.empty, 0)).2
/-- stands the code of the line i ahead of it? -/
def twB (xs : List Ln) (i : Nat) : Bool := (List.range i).any (fun j => decide (cd xs j = cd xs i))
/-- what is wrong with the line i -/
def lnAt (xs : List Ln) (i : Nat) : Int :=
  if codeB (cd xs i) = false then 3 else if am xs i < -1000000000000 ∨ 1000000000000 < am xs i ∨ am xs i = 0 then 1 else if twB xs i = true then 5 else 0
def lnUp (xs : List Ln) : Nat → Int
  | 0 => 0
  | k + 1 => if lnUp xs k ≠ 0 then lnUp xs k else lnAt xs k
theorem lnUp_bad {xs : List Ln} {k n : Nat} (h : lnUp xs k = 0) (hb : lnAt xs k ≠ 0) (hk : k < n) : lnUp xs n = lnAt xs k := by
  induction n with
  | zero => omega
  | succ n ih =>
    unfold lnUp
    by_cases e : k = n
    · subst e; rw [if_neg (by simp [h])]
    · rw [ih (by omega), if_pos hb]
theorem lnUp_ok {xs : List Ln} {k : Nat} (h : lnUp xs k = 0) (hb : lnAt xs k = 0) : lnUp xs (k + 1) = 0 := by
  unfold lnUp; rw [if_neg (by simp [h]), hb]
theorem lnUp_at {xs : List Ln} {k n : Nat} (h : lnUp xs n = 0) (hk : k < n) : lnAt xs k = 0 := by
  induction n with
  | zero => omega
  | succ n ih =>
    unfold lnUp at h
    by_cases e : lnUp xs n = 0
    · rw [if_neg (by simp [e])] at h
      by_cases e2 : k = n
      · subst e2; exact h
      · exact ih e (by omega)
    · rw [if_pos e] at h; exact absurd h e
/-- the sum of the first k lines -/
def amS (xs : List Ln) : Nat → Int
  | 0 => 0
  | k + 1 => amS xs k + am xs k
/-- what is wrong with the lines -/
def linec (xs : List Ln) : Int :=
  if 12 < xs.length then 2 else if lnUp xs xs.length ≠ 0 then lnUp xs xs.length else if xs.length < 2 ∨ amS xs xs.length ≠ 0 then 7 else 0
theorem amS_bd {xs : List Ln} {n : Nat} (h : ∀ k, k < n → lnAt xs k = 0) : -(1000000000000 * n) ≤ amS xs n ∧ amS xs n ≤ 1000000000000 * n := by
  induction n with
  | zero => simp [amS]
  | succ n ih =>
    have h1 := ih fun k hk => h k (by omega)
    have h2 := h n (by omega)
    unfold lnAt at h2
    unfold amS
    split at h2
    · omega
    · split at h2
      · omega
      · omega
/-- what is wrong with an entry -/
def entc (key : ByteArray) (day : Int) (xs : List Ln) : Int := if keyB key = false then 3 else if day < 0 ∨ 292193 < day then 1 else linec xs
theorem lnAt_ok {xs : List Ln} {i : Nat} (h : lnAt xs i = 0) : codeB (cd xs i) = true ∧ -1000000000000 ≤ am xs i ∧ am xs i ≤ 1000000000000 ∧ am xs i ≠ 0 ∧ twB xs i = false := by
  unfold lnAt at h
  split at h
  · omega
  · rename_i h1
    split at h
    · omega
    · rename_i h2
      split at h
      · omega
      · rename_i h3
        exact ⟨by simpa using h1, by omega, by omega, by omega, by simpa using h3⟩
theorem linec_ok {xs : List Ln} (h : linec xs = 0) : xs.length ≤ 12 ∧ 2 ≤ xs.length ∧ amS xs xs.length = 0 ∧ ∀ k, k < xs.length → lnAt xs k = 0 := by
  unfold linec at h
  split at h
  · omega
  · split at h
    · rename_i h2; exact absurd h h2
    · rename_i h1 h2
      split at h
      · omega
      · rename_i h3
        have h4 : lnUp xs xs.length = 0 := by simpa using h2
        exact ⟨by omega, by omega, by omega, fun k hk => lnUp_at h4 hk⟩
theorem entc_ok {key : ByteArray} {day : Int} {xs : List Ln} (h : entc key day xs = 0) : keyB key = true ∧ 0 ≤ day ∧ day ≤ 292193 ∧ linec xs = 0 := by
  unfold entc at h
  split at h
  · omega
  · rename_i h1
    split at h
    · omega
    · exact ⟨by simpa using h1, by omega, by omega, h⟩
end Go.Proofs.YtjcckbkhbpoegaaDoor
