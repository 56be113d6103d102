/- The walks of entry.lines and entry.Check. -/
import Derived.Test.YtnahbblglalagaaEntA
import Derived.Shelf.Abstract
import Derived.Deep.LoopGhost
import Derived.DataElems
namespace Go.Proofs.Ytnahbblglalagaa
open Go.ChangeShapes Go.WideShapes Go.ChangeAt Go.RowKit Go.PlainAid
set_option linter.unusedVariables false

theorem Mor.trans' {w w1 w2 : World} (h : Mor w w1) (h' : Mor w1 w2) : Mor w w2 := by
  obtain ⟨bs, k, rfl⟩ := h'; exact h.more
/-- the slice at A reads the pairs xs -/
def Si (w : World) (A : Option Addr) (xs : List Ln) : Prop :=
  xs = [] ∨ ∃ x, A = some x ∧ x.block < w.heap.size ∧ ∀ i, i < xs.length → w.cell? (x.add (i * 2)) = some (.string (cd xs i)) ∧ w.cell? ⟨(x.add (i * 2)).block, (x.add (i * 2)).off + 1, none⟩ = some (.int .i64 (am xs i))
theorem addb (x : Addr) (i : Nat) : (x.add i).block = x.block := by unfold Addr.add; split <;> rfl
theorem Si.mor {w w' : World} {A : Option Addr} {xs : List Ln} (h : Si w A xs) (hm : Mor w w') : Si w' A xs := by
  rcases h with h | ⟨x, e, hb, hc⟩
  · exact .inl h
  · have hB := hm.below
    exact .inr ⟨x, e, by have := hB.size; omega, fun i hi => ⟨(hB.cell (p := x.add (i * 2)) (by rw [addb]; exact hb)).trans (hc i hi).1, (hB.cell (p := ⟨(x.add (i * 2)).block, (x.add (i * 2)).off + 1, none⟩) (by rw [addb]; exact hb)).trans (hc i hi).2⟩⟩
theorem Si.at_ {w : World} {A : Option Addr} {xs : List Ln} (h : Si w A xs) (i : Nat) (hi : i < xs.length) :
    ∃ x, A = some x ∧ x.block < w.heap.size ∧ w.cell? (x.add (i * 2)) = some (.string (cd xs i)) ∧ w.cell? ⟨(x.add (i * 2)).block, (x.add (i * 2)).off + 1, none⟩ = some (.int .i64 (am xs i)) := by
  rcases h with h | ⟨x, e, hb, hc⟩
  · subst h; simp at hi
  · exact ⟨x, e, hb, hc i hi⟩

/-- a closure that says p of the pairs of xs, and writes nothing of what was there -/
def SaysL (w : World) (g : Nat) (cb : Array Value) (xs : List Ln) (p : Nat → Bool) : Prop :=
  ∀ (i : Nat) (w1 : World), i < xs.length → Mor w w1 → Calls Try.prog g (#[.agg #[.string (cd xs i), .int .i64 (am xs i)]] ++ cb) w1 fun e w' => e = .returned (.bool (p i)) ∧ Mor w1 w'
def IndexPost (w : World) (n : Nat) (p : Nat → Bool) (e : Ending) (w' : World) : Prop :=
  (∃ j : Nat, j < n ∧ p j = true ∧ e = .returned (.int .i64 j) ∧ Mor w w') ∨ ((∀ j, j < n → p j = false) ∧ e = .returned (.int .i64 (-1)) ∧ Mor w w')

end Go.Proofs.Ytnahbblglalagaa
