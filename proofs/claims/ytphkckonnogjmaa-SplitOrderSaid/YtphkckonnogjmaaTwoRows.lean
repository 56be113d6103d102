/- Two slices that grow by append side by side: neither touches the other. -/
import Derived.Test.YtphkckonnogjmaaInts
import Derived.Maps.AppendAt
namespace Go.Proofs.Ytphkckonnogjmaa
open Go.ChangeShapes Go.WideShapes Go.ChangeAt Go.RowKit
set_option linter.unusedVariables false

/-- the two lie in different blocks -/
def Apart (v u : Value) : Prop := ∀ b, v.ownBlock = some b → u.ownBlock ≠ some b
theorem Apart.symm {v u : Value} (h : Apart v u) : Apart u v := fun b h1 h2 => h b h2 h1
theorem apart_nil : Apart (.slice none 0 0) (.slice none 0 0) := fun b h => by simp [Value.ownBlock] at h
theorem own_lt {w : World} {B : Nat} {T : TypeId} {s n : Nat} {v : Value} {xs : List Value} (h : w.ownsRow B T s v n xs) {b : Nat} (hb : v.ownBlock = some b) : b < w.heap.size := by
  obtain ⟨hl, ⟨rfl, rfl⟩ | ⟨g, cap, cur, rfl, hg, hk, h1, h2, h3, h4⟩⟩ := h
  · simp [Value.ownBlock] at hb
  · simp [Value.ownBlock] at hb
    subst hb
    rcases Nat.lt_or_ge g w.heap.size with hs | hs
    · exact hs
    · rw [Array.getElem?_eq_none (by omega)] at hk; simp at hk
theorem two_step {w w1 : World} {C : Nat} {U : TypeId} {r m : Nat} {v v' u : Value} {ys : List Value} {o : Obj} {k : Nat} (hu : w.ownsRow C U r u m ys) (hap : Apart v u)
    (hg : ((w.alloc o).drewN k).grownBy w1 v.ownBlock) (hor : v'.ownBlock = v.ownBlock ∨ v'.ownBlock = some (w.heap.size + 1)) : w1.ownsRow C U r u m ys ∧ Apart v' u := by
  have h1 : ((w.alloc o).drewN k).ownsRow C U r u m ys := own_drewN (hu.alloc o)
  refine ⟨h1.kept hg ?_, fun b hb hb2 => ?_⟩
  · cases e : u.ownBlock with
    | none => exact .inl rfl
    | some b => exact .inr fun e2 => hap b e2.symm e
  · rcases hor with e | e
    · exact hap b (e ▸ hb) hb2
    · rw [e] at hb
      injection hb with hb
      have := own_lt hu hb2
      omega

end Go.Proofs.Ytphkckonnogjmaa
