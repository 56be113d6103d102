/- Slices of pairs of integers: 'Pi w A xs'; how one that came in reads. -/
import Derived.Test.YtahegjhjonodlaaDoorPItemsOwnZ1
import Derived.Test.YtahegjhjonodlaaDoorPItemsOwnZ3
import Derived.Test.YtahegjhjonodlaaDoorRows
import Derived.BigQuiet
import Derived.DataElems
import Derived.Deep.QuietTactic
import Derived.Deep.SlicePairs
import Derived.Handy
import Derived.Lib.Hide
import Derived.OpenShut
import Derived.Outline
import Derived.ProofKit
import Derived.RegionTactic
import Derived.WalkKit
namespace Go.Proofs.YtahegjhjonodlaaDoor
open Go.ChangeShapes Go.WideShapes Go.ChangeAt Go.RowKit
set_option linter.unusedVariables false
set_option maxRecDepth 100000



/-- the slice at A reads the pairs xs -/
def Pi (w : World) (A : Option Addr) (xs : List Pr) : Prop :=
  xs = [] ∨ ∃ x, A = some x ∧ x.block < w.heap.size ∧ ∀ i, i < xs.length → w.cell? (x.add (i * 2)) = some (.int .i64 (px xs i)) ∧ w.cell? ⟨(x.add (i * 2)).block, (x.add (i * 2)).off + 1, none⟩ = some (.int .i64 (py xs i))
theorem Pi.mor {w w' : World} {A : Option Addr} {xs : List Pr} (h : Pi w A xs) (hm : Mor w w') : Pi w' A xs := by
  rcases h with h | ⟨x, e, hb, hc⟩
  · exact .inl h
  · have hB := hm.below
    exact .inr ⟨x, e, by have := hB.size; omega, fun i hi => ⟨(hB.cell (p := x.add (i * 2)) (by rw [addb]; exact hb)).trans (hc i hi).1, (hB.cell (p := ⟨(x.add (i * 2)).block, (x.add (i * 2)).off + 1, none⟩) (by rw [addb]; exact hb)).trans (hc i hi).2⟩⟩
theorem Pi.at_ {w : World} {A : Option Addr} {xs : List Pr} (h : Pi w A xs) (i : Nat) (hi : i < xs.length) :
    ∃ x, A = some x ∧ x.block < w.heap.size ∧ w.cell? (x.add (i * 2)) = some (.int .i64 (px xs i)) ∧ w.cell? ⟨(x.add (i * 2)).block, (x.add (i * 2)).off + 1, none⟩ = some (.int .i64 (py xs i)) := by
  rcases h with h | ⟨x, e, hb, hc⟩
  · subst h; simp at hi
  · exact ⟨x, e, hb, hc i hi⟩
/-- what the walk is told of pairs that came in -/
structure IsPr (w : World) (A : Option Addr) (len cap : Nat) (xs : List Pr) : Prop where
  pi : Pi w A xs
  length : xs.length = len
  le : len ≤ cap
  max : cap ≤ maxLen
  wf : ∀ i, i < len → (Lit.int .i64 (px xs i)).wf = true ∧ (Lit.int .i64 (py xs i)).wf = true
  nil : A = none → len = 0
def numOfP : Value → Int
  | .int _ n => n
  | _ => 0
theorem open_pr {H : Type} {enc : TypeId × Value → H} {P : Program} {T E : TypeId} {f0 f1 : Field} {w : World} {base : Nat} {spare : Nat → Bool} {held : Bool} {fuel : Nat} {c : Value} {x : DataW H × List MemPlace}
    (ht : P.underlying T = some (.slice E)) (he : P.underlying E = some (.struct #[f0, f1])) (ce : P.cellsOf E = 2) (o0 : f0.offset = 0) (o1 : f1.offset = 1) (c0 : P.cellsOf f0.type = 1) (c1 : P.cellsOf f1.type = 1)
    (t0 : P.underlying f0.type = some (.int .i64)) (t1 : P.underlying f1.type = some (.int .i64)) (h : DataW.trod enc P w base spare held fuel T [c] = some x) :
    ∃ A len cap xs, c = .slice A len cap ∧ IsPr w A len cap xs := by
  rcases Deep.open_slice_pairs ht he ce o0 o1 c0 c1 h with ⟨hc, _⟩ | ⟨a, len, cap, m, n, V0, V1, D0, D1, P0, P1, hc, _, hl, hm, hmm, _, hx⟩
  · simp at hc
    subst hc
    exact ⟨none, 0, 0, [], rfl, ⟨.inl rfl, rfl, Nat.le_refl _, by unfold maxLen; omega, fun i hi => absurd hi (Nat.not_lt_zero _), fun _ => rfl⟩⟩
  · simp at hc
    subst hc
    have hlm : len ≤ m := by rw [hmm]; split <;> omega
    have hin0 : ∀ i, i < len → V0 i = .int .i64 (numOfP (V0 i)) ∧ (Lit.int .i64 (numOfP (V0 i))).wf = true := fun i hi => by
      obtain ⟨s, h1, _, h3⟩ := DataW.trod_int t0 (hx i (by omega)).2.2.1
      simp at h1
      rw [h1]; exact ⟨rfl, h3⟩
    have hint : ∀ i, i < len → V1 i = .int .i64 (numOfP (V1 i)) ∧ (Lit.int .i64 (numOfP (V1 i))).wf = true := fun i hi => by
      obtain ⟨s, h1, _, h3⟩ := DataW.trod_int t1 (hx i (by omega)).2.2.2
      simp at h1
      rw [h1]; exact ⟨rfl, h3⟩
    have hget : ∀ i, i < len → px ((List.range len).map fun i => (numOfP (V0 i), numOfP (V1 i))) i = numOfP (V0 i) ∧ py ((List.range len).map fun i => (numOfP (V0 i), numOfP (V1 i))) i = numOfP (V1 i) := fun i hi => by
      unfold px py
      rw [List.getD_eq_getElem?_getD, List.getElem?_map, List.getElem?_range hi]
      exact ⟨rfl, rfl⟩
    refine ⟨some a, len, cap, (List.range len).map fun i => (numOfP (V0 i), numOfP (V1 i)), rfl, ⟨?_, by simp, hl, hm, fun i hi => by rw [(hget i hi).1, (hget i hi).2]; exact ⟨(hin0 i hi).2, (hint i hi).2⟩, fun h => by cases h⟩⟩
    by_cases h0 : len = 0
    · subst h0; exact .inl rfl
    · refine .inr ⟨a, rfl, ?_, fun i hi => ?_⟩
      · have := World.block_lt_of_cell? _ _ (hx 0 (by omega)).1
        rw [addb] at this; exact this
      · have hi' : i < len := by simpa using hi
        obtain ⟨e1, e2⟩ := hget i hi'
        rw [e1, e2]
        refine ⟨by rw [(hx i (by omega)).1, ← (hin0 i hi').1], ?_⟩
        have := (hx i (by omega)).2.1
        rw [← Addr.add_add, Addr.add_succ' (a.add (i * 2)) 0] at this
        rw [← (hint i hi').1]
        exact this

end Go.Proofs.YtahegjhjonodlaaDoor
