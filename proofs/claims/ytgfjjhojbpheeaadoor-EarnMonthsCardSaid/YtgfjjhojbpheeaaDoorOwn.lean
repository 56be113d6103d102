/- A slice of integers that a call grows by append: from 'ownsRow' to 'Row'. -/
import Derived.Test.YtgfjjhojbpheeaaDoorIntRows
import Derived.OwnWalk
namespace Go.Proofs.YtgfjjhojbpheeaaDoor
open Go.ChangeShapes Go.WideShapes Go.ChangeAt Go.RowKit
set_option linter.unusedVariables false

theorem own_drewN {w : World} {B : Nat} {T : TypeId} {s : Nat} {v : Value} {n k : Nat} {xs : List Value} (h : w.ownsRow B T s v n xs) : (w.drewN k).ownsRow B T s v n xs := h

/-- what was appended to its own row turned nothing of what was there -/
theorem own_step {w wr w1 : World} {T : TypeId} {v : Value} {n m : Nat} {xs : List Value} {o : Obj} (hown : wr.ownsRow w.heap.size T 1 v n xs) (hnx : Below w.heap.size w wr)
    (hgrow : ((wr.alloc o).drewN m).grownBy w1 v.ownBlock) : Below w.heap.size w w1 := by
  have h1 : Below w.heap.size w ((wr.alloc o).drewN m) := bel_dN (hnx.alloc hnx.size o)
  refine h1.grown hgrow h1.size ?_
  intro k hk
  obtain ⟨_, h | ⟨g, cap, cur, rfl, hg, _⟩⟩ := hown
  · rw [h.1] at hk; simp [Value.ownBlock] at hk
  · simp [Value.ownBlock] at hk; omega

/-- an owned row of integers, read as a row -/
theorem own_row {w wr : World} {T : TypeId} {v : Value} {n : Nat} {xs : List Int} (hown : wr.ownsRow w.heap.size T 1 v n (xs.map (Value.int .i64))) (hn : 1 ≤ n) :
    ∃ b c, v = .slice (some ⟨b, 0, none⟩) n c ∧ w.heap.size ≤ b ∧ xs.length = n ∧ n ≤ c ∧ Row wr b 0 xs := by
  obtain ⟨hl, h | ⟨g, cap, cur, rfl, hg, hb, h1, h2, h3, h4⟩⟩ := hown
  · omega
  · have hlen : xs.length = n := by simpa using hl
    refine ⟨g, cap, rfl, hg, hlen, h1, ?_, fun i hi => ?_⟩
    · by_cases hs : g < wr.heap.size
      · exact hs
      · rw [Array.getElem?_eq_none (by omega)] at hb; simp at hb
    · have e : cur[i]? = some (Value.int .i64 (xs.getD i 0)) := by
        have := congrArg (fun l : List Value => l[i]?) h4
        simp only [List.getElem?_take, List.getElem?_map] at this
        rw [if_pos (by omega)] at this
        rw [← Array.getElem?_toList, this, List.getD_eq_getElem?_getD, List.getElem?_eq_getElem hi]
        rfl
      rw [Nat.zero_add]
      simp [World.cell?, hb, e]

end Go.Proofs.YtgfjjhojbpheeaaDoor
