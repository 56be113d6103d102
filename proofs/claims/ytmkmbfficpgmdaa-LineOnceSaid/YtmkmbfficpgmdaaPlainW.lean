/- Plain laws of declining-balance depreciation. No program in sight. -/
import Derived.Test.YtmkmbfficpgmdaaPlainF
namespace Go.Proofs.Ytmkmbfficpgmdaa
set_option linter.unusedVariables false

def dstep (left rest rate n : Int) : Int := min (max (rnd (left * rate) 1000000 2) (rnd (left - rest) n 1)) (left - rest)
/-- what is left after k periods of N -/
def fleft (cost rest rate N : Int) : Nat → Int
  | 0 => cost
  | k + 1 => fleft cost rest rate N k - dstep (fleft cost rest rate N k) rest rate (N - k)
def fdd (cost rest rate N : Int) (k : Nat) : Int := dstep (fleft cost rest rate N k) rest rate (N - k)
def flist (cost rest rate N : Int) (k : Nat) : List Int := (List.range k).map (fdd cost rest rate N)

theorem dstep_bd (left rest rate n : Int) (h1 : rest ≤ left) (h2 : 0 ≤ rest) (h3 : 0 ≤ rate) (hn : 1 ≤ n) : 0 ≤ dstep left rest rate n ∧ dstep left rest rate n ≤ left - rest := by
  have a := le_rnd (left - rest) n 1 0 hn (by omega)
  unfold dstep; omega
theorem fleft_bd (cost rest rate N : Int) (h1 : rest ≤ cost) (h2 : 0 ≤ rest) (h3 : 0 ≤ rate) (k : Nat) (hk : (k : Int) ≤ N) : rest ≤ fleft cost rest rate N k ∧ fleft cost rest rate N k ≤ cost := by
  induction k with
  | zero => exact ⟨h1, Int.le_refl _⟩
  | succ k ih =>
    have := ih (by omega)
    have := dstep_bd (fleft cost rest rate N k) rest rate (N - k) this.1 h2 h3 (by omega)
    simp only [fleft]; omega
theorem flist_succ (cost rest rate N : Int) (k : Nat) : flist cost rest rate N (k + 1) = flist cost rest rate N k ++ [fdd cost rest rate N k] := by
  simp [flist, List.range_succ]
theorem flist_len (cost rest rate N : Int) (k : Nat) : (flist cost rest rate N k).length = k := by simp [flist]
theorem fleft_succ (cost rest rate N : Int) (k : Nat) : fleft cost rest rate N (k + 1) = fleft cost rest rate N k - fdd cost rest rate N k := rfl

end Go.Proofs.Ytmkmbfficpgmdaa
