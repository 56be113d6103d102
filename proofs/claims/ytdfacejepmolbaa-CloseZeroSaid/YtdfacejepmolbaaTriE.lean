/- The walk of slices.BinarySearchFunc at accounts, and the closures that talkeep.TrialAdds hands it. -/
import Derived.Test.YtdfacejepmolbaaBookB
import Derived.Deep.RegionHeld3
import Derived.Deep.LoopGhost
import Derived.Shelf.Abstract
import Derived.BigQuiet
import Derived.Handy
namespace Go.Proofs.Ytdfacejepmolbaa
open Go.ChangeShapes Go.WideShapes Go.ChangeAt Go.RowKit Go.PlainAid
set_option linter.unusedVariables false

def cmpS (s t : ByteArray) : Int := Lib.compareBytes s.data.toList t.data.toList
theorem cmpS_lt (s t : ByteArray) : cmpS s t < 0 ↔ ltB s t = true := by
  unfold cmpS
  rw [ltB_iff, ByteArray.toList_eq, ByteArray.toList_eq, (cmpL_lt _ _).1]
theorem acs_mono {ac : List Ln} (hs : ac.Pairwise fun a b => ltB a.1 b.1 = true) {i j : Nat} (hij : i ≤ j) (hj : j < ac.length) {t : ByteArray} (h : ltB (cd ac j) t = true) : ltB (cd ac i) t = true := by
  by_cases e : i = j
  · subst e; exact h
  · rw [(cd_at ac j hj).1] at h
    rw [(cd_at ac i (by omega)).1]
    exact ltB_trans ((List.pairwise_iff_getElem.1 hs) i j (by omega) hj (by omega)) h

def BsAc (w : World) (ac : List Ln) (n : Nat) (t : ByteArray) (e : Ending) (w' : World) : Prop := ∃ (f : Bool) (k : Nat), e = .returned (.tuple #[.int .i64 k, .bool f]) ∧ (k ≤ n ∧ (∀ i, i < k → ltB (cd ac i) t = true) ∧ (∀ i, k ≤ i → i < n → ¬ ltB (cd ac i) t = true)) ∧ Mor w w'
end Go.Proofs.Ytdfacejepmolbaa
