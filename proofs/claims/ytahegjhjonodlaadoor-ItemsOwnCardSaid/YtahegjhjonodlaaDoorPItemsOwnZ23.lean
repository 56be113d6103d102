/- The plain law of accounts' codes, entries' keys and lines. No program in sight. -/
import Derived.Test.YtahegjhjonodlaaDoorPItemsOwnZ1
import Derived.BigQuiet
import Derived.Deep.QuietTactic
import Derived.Handy
import Derived.Lib.Hide
import Derived.OpenShut
import Derived.Outline
import Derived.PlainAid
import Derived.ProofKit
import Derived.RegionTactic
import Derived.WalkKit
namespace Go.Proofs.YtahegjhjonodlaaDoor
open Go Go.PlainAid
set_option linter.unusedVariables false
set_option maxRecDepth 100000

/-- a digit? -/
def digB (c : Int) : Bool := decide (48 ≤ c) && decide (c ≤ 57)
/-- of a key? -/
def keyC (c : Int) : Bool := (decide (97 ≤ c) && decide (c ≤ 122)) || (decide (48 ≤ c) && decide (c ≤ 57)) || decide (c = 45)
/-- the first k bytes of s are such -/
def allB (p : Int → Bool) (s : ByteArray) (k : Nat) : Bool := (List.range k).all (fun i => p (bt s i))
theorem allB_succ (p : Int → Bool) (s : ByteArray) (k : Nat) : allB p s (k + 1) = (allB p s k && p (bt s k)) := by
  unfold allB; rw [List.range_succ, List.all_append]; simp
theorem allB_bad {p : Int → Bool} {s : ByteArray} {k n : Nat} (h : p (bt s k) = false) (hk : k < n) : allB p s n = false := by
  unfold allB
  rw [List.all_eq_false]
  exact ⟨k, List.mem_range.2 hk, by simp [h]⟩
/-- may an account be called so? -/
def codeB (s : ByteArray) : Bool := decide (1 ≤ s.size) && decide (s.size ≤ 8) && allB digB s s.size
/-- may an entry be called so? -/
def keyB (s : ByteArray) : Bool := decide (1 ≤ s.size) && decide (s.size ≤ 12) && allB keyC s s.size

abbrev Ln := ByteArray × Int
def cd (xs : List Ln) (i : Nat) : ByteArray := (xs.getD i (ByteArray.empty, 0)).1
def am (xs : List Ln) (i : Nat) : Int := (xs.getD i (ByteArray.empty, 0)).2
/-- stands the code of the line i ahead of it? -/
def twB (xs : List Ln) (i : Nat) : Bool := (List.range i).any (fun j => decide (cd xs j = cd xs i))
/-- what is wrong with the line i -/
def lnAt (xs : List Ln) (i : Nat) : Int :=
  if codeB (cd xs i) = false then 3 else if am xs i < -1000000000000 ∨ 1000000000000 < am xs i ∨ am xs i = 0 then 1 else if twB xs i = true then 5 else 0
def lnUp (xs : List Ln) : Nat → Int
  | 0 => 0
  | k + 1 => if lnUp xs k ≠ 0 then lnUp xs k else lnAt xs k
/-- the sum of the first k lines -/
def amS (xs : List Ln) : Nat → Int
  | 0 => 0
  | k + 1 => amS xs k + am xs k
/-- what is wrong with the lines -/
def linec (xs : List Ln) : Int :=
  if 12 < xs.length then 2 else if lnUp xs xs.length ≠ 0 then lnUp xs xs.length else if xs.length < 2 ∨ amS xs xs.length ≠ 0 then 7 else 0
/-- what is wrong with an entry -/
def entc (key : ByteArray) (day : Int) (xs : List Ln) : Int := if keyB key = false then 3 else if day < 0 ∨ 292193 < day then 1 else linec xs
end Go.Proofs.YtahegjhjonodlaaDoor
