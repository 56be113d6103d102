/- How an entry that came in reads: its key, its day, its lines. -/
import Derived.Test.YtohpibjjlfpaaaaGreatDoorPBookOwnZ1
import Derived.Test.YtohpibjjlfpaaaaGreatDoorPBookOwnZ2
import Derived.Test.YtohpibjjlfpaaaaGreatDoorPBookOwnZ3
import Derived.Test.YtohpibjjlfpaaaaGreatDoorPBookOwnZ4
import Derived.Test.YtohpibjjlfpaaaaGreatDoorRows
import Derived.BigQuiet
import Derived.DataElems
import Derived.Deep.LoopGhost
import Derived.Deep.QuietTactic
import Derived.Deep.SlicePairs
import Derived.Handy
import Derived.Lib.Hide
import Derived.OpenShut
import Derived.Outline
import Derived.PlainAid
import Derived.ProofKit
import Derived.RegionTactic
import Derived.Shelf.Abstract
import Derived.WalkKit
namespace Go.Proofs.YtohpibjjlfpaaaaGreatDoor
open Go.ChangeShapes Go.WideShapes Go.ChangeAt Go.RowKit Go.PlainAid
set_option linter.unusedVariables false
set_option maxRecDepth 100000

/-- what the walk is told of lines that came in -/
structure IsLn (w : World) (A : Option Addr) (len cap : Nat) (xs : List Ln) : Prop where
  si : Si w A xs
  length : xs.length = len
  le : len ≤ cap
  max : cap ≤ maxLen
  str : ∀ i, i < len → (cd xs i).size ≤ maxLen
  wf : ∀ i, i < len → (Lit.int .i64 (am xs i)).wf = true
  nil : A = none → len = 0
def strOf : Value → ByteArray
  | .string s => s
  | _ => ByteArray.empty
def numOf : Value → Int
  | .int _ n => n
  | _ => 0
theorem cells_line : Tryz.prog.cellsOf 34 = 2 := by kernel_rfl
theorem open_ln {H : Type} {enc : TypeId × Value → H} {w : World} {base : Nat} {spare : Nat → Bool} {held : Bool} {fuel : Nat} {c : Value} {x : DataW H × List MemPlace} (h : DataW.trod enc Tryz.prog w base spare held fuel 26 [c] = some x) :
    ∃ A len cap xs, c = .slice A len cap ∧ IsLn w A len cap xs := by
  rcases Deep.open_slice_pairs Tryz.underlying26 Tryz.underlying34 cells_line rfl rfl (by kernel_rfl) (by kernel_rfl) h with ⟨hc, _⟩ | ⟨a, len, cap, m, n, V0, V1, D0, D1, P0, P1, hc, _, hl, hm, hmm, _, hx⟩
  · simp at hc
    subst hc
    exact ⟨none, 0, 0, [], rfl, ⟨.inl rfl, rfl, Nat.le_refl _, by unfold maxLen; omega, fun i hi => absurd hi (Nat.not_lt_zero _), fun i hi => absurd hi (Nat.not_lt_zero _), fun _ => rfl⟩⟩
  · simp at hc
    subst hc
    have hlm : len ≤ m := by rw [hmm]; split <;> omega
    have hstr : ∀ i, i < len → V0 i = .string (strOf (V0 i)) ∧ (strOf (V0 i)).size ≤ maxLen := fun i hi => by
      obtain ⟨s, h1, _, h3⟩ := DataW.trod_string Tryz.underlying9 (hx i (by omega)).2.2.1
      simp at h1
      rw [h1]; exact ⟨rfl, h3⟩
    have hint : ∀ i, i < len → V1 i = .int .i64 (numOf (V1 i)) ∧ (Lit.int .i64 (numOf (V1 i))).wf = true := fun i hi => by
      obtain ⟨s, h1, _, h3⟩ := DataW.trod_int Tryz.underlying3 (hx i (by omega)).2.2.2
      simp at h1
      rw [h1]; exact ⟨rfl, h3⟩
    have hget : ∀ i, i < len → cd ((List.range len).map fun i => (strOf (V0 i), numOf (V1 i))) i = strOf (V0 i) ∧ am ((List.range len).map fun i => (strOf (V0 i), numOf (V1 i))) i = numOf (V1 i) := fun i hi => by
      unfold cd am
      rw [List.getD_eq_getElem?_getD, List.getElem?_map, List.getElem?_range hi]
      exact ⟨rfl, rfl⟩
    refine ⟨some a, len, cap, (List.range len).map fun i => (strOf (V0 i), numOf (V1 i)), rfl, ⟨?_, by simp, hl, hm, fun i hi => by rw [(hget i hi).1]; exact (hstr i hi).2, fun i hi => by rw [(hget i hi).2]; exact (hint i hi).2, fun h => by cases h⟩⟩
    by_cases h0 : len = 0
    · subst h0; exact .inl rfl
    · refine .inr ⟨a, rfl, ?_, fun i hi => ?_⟩
      · have := World.block_lt_of_cell? _ _ (hx 0 (by omega)).1
        rw [addb] at this; exact this
      · have hi' : i < len := by simpa using hi
        obtain ⟨e1, e2⟩ := hget i hi'
        rw [e1, e2]
        refine ⟨by rw [(hx i (by omega)).1, ← (hstr i hi').1], ?_⟩
        have := (hx i (by omega)).2.1
        rw [← Addr.add_add, Addr.add_succ' (a.add (i * 2)) 0] at this
        rw [← (hint i hi').1]
        exact this

end Go.Proofs.YtohpibjjlfpaaaaGreatDoor
